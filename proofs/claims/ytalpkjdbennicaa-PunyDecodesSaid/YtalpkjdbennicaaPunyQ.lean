/- puny.Decode in plain Lean; that it takes back what puny.Encode gives, and gives back what is encoded so. -/
import Derived.Test.YtalpkjdbennicaaPunyP
namespace Go.Proofs.Ytalpkjdbennicaa
set_option linter.all false
open Go.RowKit

def rdNum : List UInt8 → Int → Int → Int → Int → Option (Int × List UInt8)
  | [], _, _, _, _ => none
  | c :: s, k, bias, w, n =>
    if digitOf c < 0 then none
    else if digitOf c < edge k bias then some (n + digitOf c * w, s)
    else rdNum s (k + 36) bias (w * (36 - edge k bias)) (n + digitOf c * w)

theorem rdNum_shorter : ∀ (s : List UInt8) (k bias w n d : Int) (r : List UInt8), rdNum s k bias w n = some (d, r) → r.length < s.length := by
  intro s
  induction s with
  | nil => intro k bias w n d r h; simp [rdNum] at h
  | cons c s ih =>
    intro k bias w n d r h
    unfold rdNum at h
    split at h
    · cases h
    · split at h
      · injection h with h; injection h with _ h; subst h; simp
      · have := ih _ _ _ _ _ _ h; simp; omega

theorem rdNum_num (m : Nat) : ∀ (q k bias w n : Int) (t : List UInt8), 0 ≤ q → q < m → rdNum (num q k bias ++ t) k bias w n = some (n + q * w, t) := by
  induction m with
  | zero => intro q k bias w n t h0 h1; omega
  | succ m ih =>
    intro q k bias w n t h0 h1
    have he := edge_range k bias
    by_cases h : q < edge k bias
    · rw [num_end h, List.singleton_append]
      unfold rdNum
      rw [digit_letter h0 (by omega), if_neg (by omega), if_pos h]
    · have hle : edge k bias ≤ q := by omega
      have hl := num_less hle he.1 he.2
      have hm0 := Int.emod_nonneg (q - edge k bias) (b := 36 - edge k bias) (by omega)
      have hm1 := Int.emod_lt_of_pos (q - edge k bias) (b := 36 - edge k bias) (by omega)
      rw [num_step hle, List.cons_append]
      unfold rdNum
      rw [digit_letter (by omega) (by omega), if_neg (by omega), if_neg (by omega), ih _ _ _ _ _ _ hl.1 (by omega)]
      have e := Int.emod_add_mul_ediv (q - edge k bias) (36 - edge k bias)
      congr 2
      generalize hA : (q - edge k bias) % (36 - edge k bias) = A at *
      generalize hB : (q - edge k bias) / (36 - edge k bias) = B at *
      generalize edge k bias = E at *
      have : q = E + A + (36 - E) * B := by omega
      rw [this]
      grind

/-- A letter as it is written: none of the large ones. -/
def small (c : UInt8) : Bool := decide (c.toNat < 65 ∨ 90 < c.toNat)
theorem letter_digit {c : UInt8} (hs : small c = true) (h : 0 ≤ digitOf c) : letter (digitOf c) = c := by
  have hs := of_decide_eq_true hs
  apply byte_ext
  unfold digitOf at h ⊢
  by_cases h1 : 97 ≤ c.toNat ∧ c.toNat ≤ 122
  · rw [if_pos h1]
    unfold letter
    rw [if_pos (by omega), byteOf_toNat (by omega) (by omega)]; omega
  · rw [if_neg h1, if_neg (by omega)] at h ⊢
    by_cases h2 : 48 ≤ c.toNat ∧ c.toNat ≤ 57
    · rw [if_pos h2]
      unfold letter
      rw [if_neg (by omega), byteOf_toNat (by omega) (by omega)]; omega
    · rw [if_neg h2] at h; omega

/-- What is read as a number is how that number is written. -/
theorem num_rdNum : ∀ (s : List UInt8) (k bias w n d : Int) (r : List UInt8), (∀ c ∈ s, small c = true) → rdNum s k bias w n = some (d, r) →
    ∃ q, 0 ≤ q ∧ d = n + q * w ∧ s = num q k bias ++ r := by
  intro s
  induction s with
  | nil => intro k bias w n d r _ h; simp [rdNum] at h
  | cons c s ih =>
    intro k bias w n d r hs h
    have he := edge_range k bias
    have hd := digitOf_range c
    unfold rdNum at h
    by_cases h1 : digitOf c < 0
    · rw [if_pos h1] at h; cases h
    rw [if_neg h1] at h
    have hlet := letter_digit (hs c (by simp)) (by omega)
    by_cases h2 : digitOf c < edge k bias
    · rw [if_pos h2] at h
      injection h with h
      injection h with h3 h4
      subst h3; subst h4
      exact ⟨digitOf c, by omega, rfl, by rw [num_end h2, hlet]; rfl⟩
    · rw [if_neg h2] at h
      obtain ⟨q, hq, hdq, hsq⟩ := ih _ _ _ _ _ _ (fun x hx => hs x (by simp [hx])) h
      have hA : (digitOf c - edge k bias + (36 - edge k bias) * q) % (36 - edge k bias) = digitOf c - edge k bias := by
        rw [Int.add_mul_emod_self_left]
        exact Int.emod_eq_of_lt (by omega) (by omega)
      have hB : (digitOf c - edge k bias + (36 - edge k bias) * q) / (36 - edge k bias) = q := by
        rw [Int.add_mul_ediv_left _ _ (by omega), Int.ediv_eq_zero_of_lt (by omega) (by omega)]; omega
      have hp : 0 ≤ (36 - edge k bias) * q := Int.mul_nonneg (by omega) hq
      refine ⟨digitOf c + (36 - edge k bias) * q, by omega, ?_, ?_⟩
      · rw [hdq]; grind
      · rw [num_step (by omega), show digitOf c + (36 - edge k bias) * q - edge k bias = digitOf c - edge k bias + (36 - edge k bias) * q from by omega, hA, hB,
          show edge k bias + (digitOf c - edge k bias) = digitOf c from by omega, hlet, List.cons_append, ← hsq]

/-- Where the decoder stands. -/
structure DS where
  n : Int
  i : Int
  bias : Int
  first : Bool
  out : List Int

def dNext (σ : DS) (d : Int) : DS :=
  { n := σ.n + (σ.i + d) / (σ.out.length + 1), i := (σ.i + d) % (σ.out.length + 1) + 1, bias := pAdapt d (σ.out.length + 1) σ.first, first := false,
    out := σ.out.take ((σ.i + d) % (σ.out.length + 1)).toNat ++ (σ.n + (σ.i + d) / (σ.out.length + 1)) :: σ.out.drop ((σ.i + d) % (σ.out.length + 1)).toNat }
def dStep (σ : DS) (d : Int) : Option DS := if (dNext σ d).n ≤ 1114111 ∧ cpOk (dNext σ d).n = true then some (dNext σ d) else none

def decF : Nat → List UInt8 → DS → Option (List Int)
  | _, [], σ => some σ.out
  | 0, _ :: _, _ => none
  | f + 1, c :: s, σ => (rdNum (c :: s) 36 σ.bias 1 0).bind fun x => (dStep σ x.1).bind fun σ' => decF f x.2 σ'
theorem decF_succ (f : Nat) (c : UInt8) (s : List UInt8) (σ : DS) : decF (f + 1) (c :: s) σ = (rdNum (c :: s) 36 σ.bias 1 0).bind fun x => (dStep σ x.1).bind fun σ' => decF f x.2 σ' := rfl
theorem decF_more : ∀ (f g : Nat) (s : List UInt8) (σ : DS), s.length ≤ f → s.length ≤ g → decF f s σ = decF g s σ := by
  intro f
  induction f with
  | zero =>
    intro g s σ h _
    have : s = [] := List.eq_nil_of_length_eq_zero (by omega)
    subst this
    cases g <;> rfl
  | succ f ih =>
    intro g s σ hf hg
    match s, g with
    | [], 0 => rfl
    | [], _ + 1 => rfl
    | c :: s, 0 => simp at hg
    | c :: s, g + 1 =>
      unfold decF
      cases hr : rdNum (c :: s) 36 σ.bias 1 0 with
      | none => rfl
      | some x =>
        have hl := rdNum_shorter _ _ _ _ _ x.1 x.2 hr
        simp only [Option.bind_some]
        cases dStep σ x.1 with
        | none => rfl
        | some σ' =>
          simp only [Option.bind_some]
          exact ih g _ _ (by omega) (by omega)
def dec (s : List UInt8) (σ : DS) : Option (List Int) := decF s.length s σ
theorem dec_nil (σ : DS) : dec [] σ = some σ.out := rfl
theorem dec_step {s : List UInt8} (h : s ≠ []) (σ : DS) : dec s σ = (rdNum s 36 σ.bias 1 0).bind fun x => (dStep σ x.1).bind fun σ' => dec x.2 σ' := by
  match s, h with
  | c :: s, _ =>
    unfold dec
    rw [List.length_cons, decF_succ]
    cases hr : rdNum (c :: s) 36 σ.bias 1 0 with
    | none => rfl
    | some x =>
      have hl := rdNum_shorter _ _ _ _ _ x.1 x.2 hr
      simp only [Option.bind_some]
      cases dStep σ x.1 with
      | none => rfl
      | some σ' =>
        simp only [Option.bind_some]
        exact decF_more s.length x.2.length x.2 σ' (by rw [List.length_cons] at hl; omega) (Nat.le_refl _)

theorem num_ne_nil (q k bias : Int) : num q k bias ≠ [] := by
  unfold num; cases q.toNat <;> unfold numF
  · simp
  · split <;> simp

/-- The decoder reads one number that was written, and goes on. -/
theorem dec_num {q : Int} (hq : 0 ≤ q) (t : List UInt8) {σ σ' : DS} (h : dStep σ q = some σ') : dec (num q 36 σ.bias ++ t) σ = dec t σ' := by
  rw [dec_step (by simp [num_ne_nil])]
  rw [rdNum_num (q.toNat + 1) q 36 σ.bias 1 0 t hq (by omega)]
  simp only [Option.bind_some]
  rw [show (0 : Int) + q * 1 = q from by omega, h]; rfl

/-- The digits of a number are letters. -/
def isLet (c : UInt8) : Bool := decide ((97 ≤ c.toNat ∧ c.toNat ≤ 122) ∨ (48 ≤ c.toNat ∧ c.toNat ≤ 57))
theorem letter_is {n : Int} (h0 : 0 ≤ n) (h1 : n < 36) : isLet (letter n) = true := by
  unfold isLet letter
  refine decide_eq_true ?_
  split
  · have := byteOf_nat (n := 97 + n) (by omega) (by omega); omega
  · have := byteOf_nat (n := 22 + n) (by omega) (by omega); omega
theorem num_let (m : Nat) : ∀ (q k bias : Int), 0 ≤ q → q < m → ∀ c ∈ num q k bias, isLet c = true := by
  induction m with
  | zero => intro q k bias h0 h1; omega
  | succ m ih =>
    intro q k bias h0 h1 c hc
    have he := edge_range k bias
    by_cases h : q < edge k bias
    · rw [num_end h, List.mem_singleton] at hc
      subst hc
      exact letter_is h0 (by omega)
    · have hle : edge k bias ≤ q := by omega
      have hl := num_less hle he.1 he.2
      have hm0 := Int.emod_nonneg (q - edge k bias) (b := 36 - edge k bias) (by omega)
      have hm1 := Int.emod_lt_of_pos (q - edge k bias) (b := 36 - edge k bias) (by omega)
      rw [num_step hle, List.mem_cons] at hc
      rcases hc with rfl | hc
      · exact letter_is (by omega) (by omega)
      · exact ih _ _ _ hl.1 (by omega) c hc
end Go.Proofs.Ytalpkjdbennicaa
