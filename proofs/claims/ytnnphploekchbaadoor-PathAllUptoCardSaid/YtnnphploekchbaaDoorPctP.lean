/- What pct.In, pct.Encode and pct.Decode compute, in plain Lean; what was written without a per cent sign in it is read as it was. -/
import Derived.Test.YtnnphploekchbaaDoorUtfP
namespace Go.Proofs.YtnnphploekchbaaDoor
set_option linter.all false
open Go.RowKit

def pLow (c : UInt8) : Bool := decide (c.toNat < 32 ∨ 126 < c.toNat)
def txt1 : List UInt8 := [32, 34, 60, 62, 96]
def txt2 : List UInt8 := [32, 34, 35, 60, 62]
def txt3 : List UInt8 := [32, 34, 35, 60, 62, 39]
def txt4 : List UInt8 := [32, 34, 35, 60, 62, 63, 94, 96, 123, 125]
def txt5 : List UInt8 := [32, 34, 35, 60, 62, 63, 94, 96, 123, 125, 47, 58, 59, 61, 64, 91, 92, 93, 124]
def txt6 : List UInt8 := [42, 45, 46, 95]
def alnum (c : UInt8) : Bool := decide ((97 ≤ c.toNat ∧ c.toNat ≤ 122) ∨ (65 ≤ c.toNat ∧ c.toNat ≤ 90) ∨ (48 ≤ c.toNat ∧ c.toNat ≤ 57))
def pForm (c : UInt8) : Bool := pLow c || (!alnum c && !txt6.contains c)
def pIn (s : Int) (c : UInt8) : Bool :=
  if s = 0 then pLow c
  else if s = 1 then pLow c || txt1.contains c
  else if s = 2 then pLow c || txt2.contains c
  else if s = 3 then pLow c || txt3.contains c
  else if s = 4 then pLow c || txt4.contains c
  else if s = 5 then pLow c || txt5.contains c
  else if s = 6 then pForm c
  else false

def hexU (n : Nat) : UInt8 := if n < 10 then UInt8.ofNat (48 + n) else UInt8.ofNat (55 + n)
def esc (c : UInt8) : List UInt8 := [37, hexU (c.toNat / 16), hexU (c.toNat % 16)]
def pEnc1 (s : Int) (c : UInt8) : List UInt8 := if s = 6 ∧ c = 32 then [43] else if pIn s c = true then esc c else [c]
def pEnc (s : Int) (l : List UInt8) : List UInt8 := l.flatMap (pEnc1 s)

def hexV (c : UInt8) : Int :=
  if 48 ≤ c.toNat ∧ c.toNat ≤ 57 then (c.toNat : Int) - 48
  else if 97 ≤ c.toNat ∧ c.toNat ≤ 102 then (c.toNat : Int) - 87
  else if 65 ≤ c.toNat ∧ c.toNat ≤ 70 then (c.toNat : Int) - 55
  else -1

theorem hexV_range (c : UInt8) : -1 ≤ hexV c ∧ hexV c < 16 := by unfold hexV; (repeat' split) <;> omega
theorem hexV_hexU : ∀ n, n < 16 → hexV (hexU n) = (n : Int) := by decide
theorem hexU_plain : ∀ n, n < 16 → (hexU n ≠ 43 ∧ hexU n ≠ 37) := by decide

def pStep (l : List UInt8) : UInt8 × Nat :=
  if 3 ≤ l.length ∧ l.getD 0 0 = 37 ∧ 0 ≤ hexV (l.getD 1 0) ∧ 0 ≤ hexV (l.getD 2 0) then (byteOf (hexV (l.getD 1 0) * 16 + hexV (l.getD 2 0)), 3) else (l.getD 0 0, 1)

theorem pStep_pos (l : List UInt8) : 1 ≤ (pStep l).2 ∧ (pStep l).2 ≤ 3 := by unfold pStep; split <;> simp
theorem pStep_len {l : List UInt8} (h : 0 < l.length) : (pStep l).2 ≤ l.length := by unfold pStep; split <;> simp only [] <;> omega

def pDecF : Nat → List UInt8 → List UInt8
  | 0, _ => []
  | _ + 1, [] => []
  | f + 1, a :: t => (pStep (a :: t)).1 :: pDecF f ((a :: t).drop (pStep (a :: t)).2)
def pDec (l : List UInt8) : List UInt8 := pDecF l.length l

theorem pDecF_more : ∀ (f g : Nat) (l : List UInt8), l.length ≤ f → l.length ≤ g → pDecF f l = pDecF g l := by
  intro f
  induction f with
  | zero =>
    intro g l h _
    have : l = [] := List.eq_nil_of_length_eq_zero (by omega)
    subst this
    cases g <;> rfl
  | succ f ih =>
    intro g l hf hg
    match l, g with
    | [], 0 => rfl
    | [], _ + 1 => rfl
    | a :: t, 0 => simp at hg
    | a :: t, g + 1 =>
      simp only [pDecF]
      refine congrArg (List.cons _) ?_
      have hp := pStep_pos (a :: t)
      have hl : ((a :: t).drop (pStep (a :: t)).2).length ≤ t.length := by rw [List.length_drop, List.length_cons]; omega
      simp only [List.length_cons] at hf hg
      exact ih g _ (by omega) (by omega)

theorem pDec_nil : pDec [] = [] := rfl
theorem pDec_step {l : List UInt8} (h : 0 < l.length) : pDec l = (pStep l).1 :: pDec (l.drop (pStep l).2) := by
  match l, h with
  | a :: t, _ =>
    unfold pDec
    rw [List.length_cons]
    simp only [pDecF]
    refine congrArg (List.cons _) ?_
    have hp := pStep_pos (a :: t)
    refine pDecF_more _ _ _ ?_ (Nat.le_refl _)
    rw [List.length_drop, List.length_cons]; omega

theorem pDec_len_le (l : List UInt8) : (pDec l).length ≤ l.length := by
  suffices h : ∀ (n : Nat) (l : List UInt8), l.length ≤ n → (pDec l).length ≤ l.length from h _ l (Nat.le_refl _)
  intro n
  induction n with
  | zero => intro l h; rw [List.eq_nil_of_length_eq_zero (by omega : l.length = 0)]; simp [pDec_nil]
  | succ n ih =>
    intro l hl
    rcases Nat.eq_zero_or_pos l.length with h0 | h0
    · rw [List.eq_nil_of_length_eq_zero h0]; simp [pDec_nil]
    · have hp := pStep_pos l
      rw [pDec_step h0, List.length_cons]
      have := ih (l.drop (pStep l).2) (by rw [List.length_drop]; omega)
      rw [List.length_drop] at this
      omega

theorem pDec_plain {c : UInt8} (h : c ≠ 37) (t : List UInt8) : pDec (c :: t) = c :: pDec t := by
  have e : pStep (c :: t) = (c, 1) := by
    unfold pStep
    rw [if_neg (by rintro ⟨_, h1, _⟩; exact h h1)]; rfl
  rw [pDec_step (by simp), e]; rfl

theorem pDec_esc (c : UInt8) (t : List UInt8) : pDec (esc c ++ t) = c :: pDec t := by
  have hc := byte_lt c
  have e : pStep (esc c ++ t) = (c, 3) := by
    have h1 : hexV ((esc c ++ t).getD 1 0) = ((c.toNat / 16 : Nat) : Int) := hexV_hexU _ (by omega)
    have h2 : hexV ((esc c ++ t).getD 2 0) = ((c.toNat % 16 : Nat) : Int) := hexV_hexU _ (by omega)
    unfold pStep
    rw [h1, h2, if_pos ⟨by simp [esc], rfl, by omega, by omega⟩]
    congr 1
    rw [show (((c.toNat / 16 : Nat) : Int) * 16 + ((c.toNat % 16 : Nat) : Int)) = (c.toNat : Int) from by omega, byteOf_self]
  rw [pDec_step (by simp [esc]), e]
  rfl

theorem pEnc_cons (s : Int) (c : UInt8) (l : List UInt8) : pEnc s (c :: l) = pEnc1 s c ++ pEnc s l := by simp [pEnc]
theorem pEnc_append (s : Int) (a b : List UInt8) : pEnc s (a ++ b) = pEnc s a ++ pEnc s b := by simp [pEnc]

theorem pEnc1_len (s : Int) (c : UInt8) : 1 ≤ (pEnc1 s c).length ∧ (pEnc1 s c).length ≤ 3 := by unfold pEnc1 esc; (repeat' split) <;> simp
theorem pEnc_le (s : Int) (l : List UInt8) : (pEnc s l).length ≤ 3 * l.length := by
  induction l with
  | nil => simp [pEnc]
  | cons c l ih => rw [pEnc_cons, List.length_append, List.length_cons]; have := (pEnc1_len s c).2; omega

/-- Of no set but Form. -/
theorem pDec_enc {s : Int} (hs : s ≠ 6) : ∀ (l : List UInt8), (∀ c ∈ l, c ≠ 37) → pDec (pEnc s l) = l := by
  intro l
  induction l with
  | nil => intro _; rfl
  | cons c l ih =>
    intro h
    have hc := h c (by simp)
    have ih := ih fun x hx => h x (by simp [hx])
    rw [pEnc_cons]
    unfold pEnc1
    rw [if_neg (by rintro ⟨h1, _⟩; exact hs h1)]
    split
    · rw [pDec_esc, ih]
    · rw [List.singleton_append, pDec_plain hc, ih]

def plus (c : UInt8) : UInt8 := if c = 43 then 32 else c
theorem pForm_signs : pForm 43 = true ∧ pForm 37 = true := by decide

theorem pDec_form : ∀ (l : List UInt8), pDec ((pEnc 6 l).map plus) = l := by
  intro l
  induction l with
  | nil => rfl
  | cons c l ih =>
    rw [pEnc_cons, List.map_append]
    unfold pEnc1
    have hc := byte_lt c
    by_cases h1 : c = 32
    · subst h1
      rw [if_pos ⟨rfl, rfl⟩]
      show pDec (32 :: List.map plus (pEnc 6 l)) = _
      rw [pDec_plain (by decide), ih]
    rw [if_neg (by rintro ⟨_, h2⟩; exact h1 h2)]
    have e : pIn 6 c = pForm c := rfl
    rw [e]
    by_cases h2 : pForm c = true
    · rw [if_pos h2]
      have e : (esc c).map plus = esc c := by
        have a := hexU_plain (c.toNat / 16) (by omega)
        have b := hexU_plain (c.toNat % 16) (by omega)
        simp [esc, plus, a.1, b.1]
      rw [e, pDec_esc, ih]
    · rw [if_neg h2]
      have n1 : c ≠ 43 := by rintro rfl; exact h2 pForm_signs.1
      have n2 : c ≠ 37 := by rintro rfl; exact h2 pForm_signs.2
      have e : [c].map plus = [c] := by simp [plus, n1]
      rw [e, List.singleton_append, pDec_plain n2, ih]

theorem pIn_stays : ∀ k : Nat, k < 6 → pIn k 37 = false ∧ ∀ n, n < 16 → pIn k (hexU n) = false := by decide

theorem pEnc_out {k : Nat} (hk : k < 6) : ∀ (l : List UInt8), ∀ c ∈ pEnc k l, pIn k c = false := by
  intro l c hc
  have hst := pIn_stays k hk
  unfold pEnc at hc
  rw [List.mem_flatMap] at hc
  obtain ⟨x, _, hc⟩ := hc
  have hx := byte_lt x
  unfold pEnc1 at hc
  rw [if_neg (by rintro ⟨h1, _⟩; omega)] at hc
  split at hc
  · unfold esc at hc
    simp only [List.mem_cons, List.not_mem_nil, or_false] at hc
    rcases hc with rfl | rfl | rfl
    · exact hst.1
    · exact hst.2 _ (by omega)
    · exact hst.2 _ (by omega)
  · simp only [List.mem_cons, List.not_mem_nil, or_false] at hc
    subst hc
    rename_i hno
    exact Bool.eq_false_iff.2 hno

theorem pEnc_id {k : Nat} (hk : k < 6) : ∀ (l : List UInt8), (∀ c ∈ l, pIn k c = false) → pEnc k l = l := by
  intro l
  induction l with
  | nil => intro _; rfl
  | cons c l ih =>
    intro h
    have e : pEnc1 k c = [c] := by
      unfold pEnc1
      rw [if_neg (by rintro ⟨h1, _⟩; omega), if_neg (by rw [h c (by simp)]; decide)]
    rw [pEnc_cons, e, ih fun x hx => h x (by simp [hx])]; rfl
end Go.Proofs.YtnnphploekchbaaDoor

