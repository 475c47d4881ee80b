/- Ways: segments, dots, and where a text leads: plain. -/
import Derived.Test.YtnnphploekchbaaDoorRulP
namespace Go.Proofs.YtnnphploekchbaaDoor
set_option linter.all false

/-- Three bytes that stand for a full stop. -/
def dot3 (s : List UInt8) : Bool := decide (lows (s.take 3) = [37, 50, 101])
theorem dot3_len {s : List UInt8} (h : dot3 s = true) : 3 ≤ s.length := by
  have h := of_decide_eq_true h
  have e : (lows (s.take 3)).length = 3 := by rw [h]; rfl
  rw [lows_len, List.length_take] at e
  omega
def dotF : Nat → List UInt8 → Option Nat
  | _, [] => some 0
  | 0, _ => none
  | f + 1, c :: t => if c = 46 then (dotF f t).map (· + 1) else if dot3 (c :: t) = true then (dotF f ((c :: t).drop 3)).map (· + 1) else none
theorem dotF_more : ∀ (f g : Nat) (s : List UInt8), s.length ≤ f → s.length ≤ g → dotF f s = dotF g s := by
  intro f
  induction f with
  | zero =>
    intro g s hf hg
    have : s = [] := List.eq_nil_of_length_eq_zero (by omega)
    subst this
    cases g <;> rfl
  | succ f ih =>
    intro g s hf hg
    cases s with
    | nil => cases g <;> rfl
    | cons c t =>
      cases g with
      | zero => simp at hg
      | succ g =>
        simp only [List.length_cons] at hf hg
        unfold dotF
        rw [ih g t (by omega) (by omega), ih g ((c :: t).drop 3) (by simp; omega) (by simp; omega)]
/-- How many full stops a segment is; none: it is another one. -/
def dotN (s : List UInt8) : Option Nat := dotF s.length s
theorem dotN_nil : dotN [] = some 0 := rfl
theorem dotN_dot (t : List UInt8) : dotN (46 :: t) = (dotN t).map (· + 1) := by
  unfold dotN
  rw [List.length_cons, dotF, if_pos rfl]
theorem dotN_esc {s : List UInt8} (h : dot3 s = true) : dotN s = (dotN (s.drop 3)).map (· + 1) := by
  have hl := dot3_len h
  cases s with
  | nil => simp at hl
  | cons c t =>
    have hc : c ≠ 46 := by
      intro e
      subst e
      have := of_decide_eq_true h
      cases t with
      | nil => simp at hl
      | cons a t => simp [lows, lowB] at this
    unfold dotN
    rw [List.length_cons, dotF, if_neg hc, if_pos h, dotF_more t.length ((c :: t).drop 3).length _ (by simp) (Nat.le_refl _)]
theorem dotN_none {c : UInt8} {t : List UInt8} (hc : c ≠ 46) (h : dot3 (c :: t) = false) : dotN (c :: t) = none := by
  unfold dotN
  rw [List.length_cons, dotF, if_neg hc, if_neg (by rw [h]; decide)]
def pSingle (s : List UInt8) : Bool := decide (dotN s = some 1)
def pDouble (s : List UInt8) : Bool := decide (dotN s = some 2)
theorem dotN_zero {s : List UInt8} (h : dotN s = some 0) : s = [] := by
  cases s with
  | nil => rfl
  | cons c t =>
    exfalso
    by_cases hc : c = 46
    · subst hc; rw [dotN_dot] at h; cases hd : dotN t <;> rw [hd] at h <;> simp at h
    · cases h3 : dot3 (c :: t) with
      | true => rw [dotN_esc h3] at h; cases hd : dotN ((c :: t).drop 3) <;> rw [hd] at h <;> simp at h
      | false => rw [dotN_none hc h3] at h; cases h
theorem dotN_succ {s : List UInt8} {n : Nat} (h : dotN s = some (n + 1)) : (∃ t, s = 46 :: t ∧ dotN t = some n) ∨ (dot3 s = true ∧ dotN (s.drop 3) = some n) := by
  cases s with
  | nil => rw [dotN_nil] at h; simp at h
  | cons c t =>
    by_cases hc : c = 46
    · subst hc
      rw [dotN_dot] at h
      left
      cases hd : dotN t with
      | none => rw [hd] at h; cases h
      | some m => rw [hd] at h; simp at h; exact ⟨t, rfl, by rw [hd, h]⟩
    · cases h3 : dot3 (c :: t) with
      | true =>
        rw [dotN_esc h3] at h
        right
        cases hd : dotN ((c :: t).drop 3) with
        | none => rw [hd] at h; cases h
        | some m => rw [hd] at h; simp at h; exact ⟨rfl, by rw [← h]⟩
      | false => rw [dotN_none hc h3] at h; cases h

theorem lows_dot {c : UInt8} : lowB c = 46 ↔ c = 46 := by
  have h : ∀ n, n < 256 → (lowB (UInt8.ofNat n) = 46 ↔ UInt8.ofNat n = 46) := by decide +kernel
  have := h c.toNat (byte_lt c)
  rwa [UInt8.ofNat_toNat] at this
theorem three {s : List UInt8} (h : dot3 s = true) : ∃ a b c t, s = a :: b :: c :: t ∧ lowB a = 37 ∧ lowB b = 50 ∧ lowB c = 101 := by
  have hl := dot3_len h
  obtain ⟨a, b, c, t, rfl⟩ := ex3 hl
  have e := of_decide_eq_true h
  simp [lows] at e
  exact ⟨a, b, c, t, rfl, e.1, e.2.1, e.2.2⟩
/-- The document's words for one, and for two. -/
theorem single_iff (s : List UInt8) : pSingle s = (decide (s = [46]) || decide (lows s = [37, 50, 101])) := by
  rw [Bool.eq_iff_iff]
  unfold pSingle
  simp only [Bool.or_eq_true, decide_eq_true_eq]
  constructor
  · intro h
    rcases dotN_succ h with ⟨t, rfl, ht⟩ | ⟨h3, ht⟩
    · left; rw [dotN_zero ht]
    · right
      obtain ⟨a, b, c, t, rfl, ha, hb, hc⟩ := three h3
      have := dotN_zero ht
      simp at this
      subst this
      simp [lows, ha, hb, hc]
  · rintro (rfl | h)
    · rfl
    · have h3 : dot3 s = true := decide_eq_true (by rw [List.take_of_length_le (by have := lows_len s; rw [h] at this; simp at this; omega)]; exact h)
      rw [dotN_esc h3, List.drop_eq_nil_of_le (by have := lows_len s; rw [h] at this; simp at this; omega)]; rfl
theorem double_iff (s : List UInt8) : pDouble s = (decide (lows s = [46, 46]) || (decide (lows s = [46, 37, 50, 101]) || (decide (lows s = [37, 50, 101, 46]) || decide (lows s = [37, 50, 101, 37, 50, 101])))) := by
  rw [Bool.eq_iff_iff]
  unfold pDouble
  simp only [Bool.or_eq_true, decide_eq_true_eq]
  have one : ∀ t, dotN t = some 1 ↔ (t = [46] ∨ lows t = [37, 50, 101]) := by
    intro t
    have := single_iff t
    unfold pSingle at this
    rw [Bool.eq_iff_iff] at this
    simpa only [Bool.or_eq_true, decide_eq_true_eq] using this
  constructor
  · intro h
    rcases dotN_succ h with ⟨t, rfl, ht⟩ | ⟨h3, ht⟩
    · rcases (one t).1 ht with rfl | e
      · left; rfl
      · right; left
        show lowB 46 :: lows t = _
        rw [e]; rfl
    · obtain ⟨a, b, c, t, rfl, ha, hb, hc⟩ := three h3
      have ht : dotN t = some 1 := ht
      rcases (one t).1 ht with rfl | e
      · right; right; left
        simp [lows, ha, hb, hc]; rfl
      · right; right; right
        show lowB a :: lowB b :: lowB c :: lows t = _
        rw [e, ha, hb, hc]
  · intro h
    have dots : ∀ {t : List UInt8}, lows t = [46] → t = [46] := by
      intro t e
      cases t with
      | nil => cases e
      | cons c t =>
        simp [lows] at e
        rw [lows_dot.1 e.1, e.2]
    rcases h with h | h | h | h
    · cases s with
      | nil => cases h
      | cons c t =>
        have h1 : lowB c = 46 := by have := h; simp [lows] at this; exact this.1
        have h2 : lows t = [46] := by have := h; unfold lows at this ⊢; rw [List.map_cons] at this; injection this
        rw [lows_dot.1 h1, dotN_dot, (one t).2 (.inl (dots h2))]; rfl
    · cases s with
      | nil => cases h
      | cons c t =>
        have h1 : lowB c = 46 := by have := h; unfold lows at this; rw [List.map_cons] at this; injection this
        have h2 : lows t = [37, 50, 101] := by have := h; unfold lows at this ⊢; rw [List.map_cons] at this; injection this
        rw [lows_dot.1 h1, dotN_dot, (one t).2 (.inr h2)]; rfl
    · have hl : s.length = 4 := by rw [← lows_len s, h]; rfl
      obtain ⟨a, b, c, t, rfl⟩ := ex3 (l := s) (by omega)
      have e := h
      unfold lows at e
      simp only [List.map_cons] at e
      injection e with e1 e; injection e with e2 e; injection e with e3 e
      have h3 : dot3 (a :: b :: c :: t) = true := decide_eq_true (by simp [lows, e1, e2, e3])
      rw [dotN_esc h3, show (a :: b :: c :: t).drop 3 = t from rfl, (one t).2 (.inl (dots e))]; rfl
    · have hl : s.length = 6 := by rw [← lows_len s, h]; rfl
      obtain ⟨a, b, c, t, rfl⟩ := ex3 (l := s) (by omega)
      have e := h
      unfold lows at e
      simp only [List.map_cons] at e
      injection e with e1 e; injection e with e2 e; injection e with e3 e
      have h3 : dot3 (a :: b :: c :: t) = true := decide_eq_true (by simp [lows, e1, e2, e3])
      rw [dotN_esc h3, show (a :: b :: c :: t).drop 3 = t from rfl, (one t).2 (.inr e)]; rfl

/-- The segments of a text. -/
def slash (special : Bool) (s : List UInt8) : List UInt8 := if special = true then s.map (fun c => if c = 92 then 47 else c) else s
def pCut (special : Bool) (s : List UInt8) : List (List UInt8) := cuts 47 (slash special s)
def pNext (out : List (List UInt8)) (x : List UInt8) : List (List UInt8) :=
  if pDouble x = true then out.dropLast else if pSingle x = true then out else out ++ [pEnc 4 x]
def pLast (out : List (List UInt8)) (x : List UInt8) : List (List UInt8) :=
  if pDouble x = true then out.dropLast ++ [[]] else if pSingle x = true then out ++ [[]] else out ++ [pEnc 4 x]
def pGo : List (List UInt8) → List (List UInt8) → List (List UInt8)
  | out, [] => out
  | out, [x] => pLast out x
  | out, x :: y :: r => pGo (pNext out x) (y :: r)
def pParse (s : List UInt8) (special : Bool) (base : List (List UInt8)) : List (List UInt8) := pGo base (pCut special s)
def pShowP (l : List (List UInt8)) : List UInt8 := l.flatMap fun x => 47 :: x
theorem pGo_append (r : List (List UInt8)) (hr : r ≠ []) : ∀ (l out : List (List UInt8)), pGo out (l ++ r) = pGo (l.foldl pNext out) r := by
  intro l
  induction l with
  | nil => intro out; rfl
  | cons x l ih =>
    intro out
    rw [List.foldl_cons, ← ih]
    cases h : l ++ r with
    | nil => exact absurd (List.append_eq_nil_iff.1 h).2 hr
    | cons y t => rw [List.cons_append, h]; rfl
end Go.Proofs.YtnnphploekchbaaDoor

