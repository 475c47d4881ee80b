/- What fold.Map and fold.Text compute, in plain Lean, and that what was mapped stays. -/
import Derived.Test.YtalpkjdbennicaaPre
namespace Go.Proofs.Ytalpkjdbennicaa
set_option linter.all false
open Go.RowKit

def mKeep (r : Int) : Bool := decide (r ≠ 173 ∧ r ≠ 8203 ∧ r ≠ 8204 ∧ r ≠ 8205 ∧ r ≠ 8288 ∧ r ≠ 65279)
def mBase (r : Int) : Int :=
  if (65 ≤ r ∧ r ≤ 90) ∨ (192 ≤ r ∧ r ≤ 222 ∧ r ≠ 215) ∨ (913 ≤ r ∧ r ≤ 937 ∧ r ≠ 930) ∨ (1040 ≤ r ∧ r ≤ 1071) then r + 32
  else if 1024 ≤ r ∧ r ≤ 1039 then r + 80
  else if 256 ≤ r ∧ r ≤ 303 ∧ r % 2 = 0 then r + 1
  else r
def mOut (r : Int) : Int :=
  if r = 173 ∨ r = 8203 ∨ r = 8204 ∨ r = 8205 ∨ r = 8288 ∨ r = 65279 then 0
  else if r = 12290 ∨ r = 65377 then 46
  else if 65281 ≤ r ∧ r ≤ 65374 then mBase (r - 65248)
  else mBase r

theorem mOut_gone {r : Int} (h : mKeep r = false) : mOut r = 0 := by
  unfold mKeep at h; unfold mOut
  rw [if_pos (by have := of_decide_eq_false h; omega)]

theorem mBase_fix {r : Int} : mBase (mBase r) = mBase r := by
  unfold mBase
  repeat' split
  all_goals omega

theorem mOut_stay {x : Int} (h1 : ¬ (x = 173 ∨ x = 8203 ∨ x = 8204 ∨ x = 8205 ∨ x = 8288 ∨ x = 65279)) (h2 : ¬ (x = 12290 ∨ x = 65377)) (h3 : ¬ (65281 ≤ x ∧ x ≤ 65374)) (h4 : mBase x = x) : mKeep x = true ∧ mOut x = x := by
  constructor
  · exact decide_eq_true (by omega)
  · unfold mOut; rw [if_neg h1, if_neg h2, if_neg h3, h4]

theorem mBase_same {y : Int} : mBase y = y ∨ (97 ≤ mBase y ∧ mBase y ≤ 122) ∨ (224 ≤ mBase y ∧ mBase y ≤ 303) ∨ (945 ≤ mBase y ∧ mBase y ≤ 1119) := by
  unfold mBase
  repeat' split
  all_goals omega

theorem mOut_fix {r : Int} (h : mKeep r = true) : mKeep (mOut r) = true ∧ mOut (mOut r) = mOut r := by
  have h := of_decide_eq_true h
  by_cases h2 : r = 12290 ∨ r = 65377
  · have e : mOut r = 46 := by unfold mOut; rw [if_neg (by omega), if_pos h2]
    rw [e]; exact ⟨by decide, by decide⟩
  · by_cases h3 : 65281 ≤ r ∧ r ≤ 65374
    · have e : mOut r = mBase (r - 65248) := by unfold mOut; rw [if_neg (by omega), if_neg h2, if_pos h3]
      have m := @mBase_same (r - 65248)
      rw [e]
      exact mOut_stay (by omega) (by omega) (by omega) mBase_fix
    · have e : mOut r = mBase r := by unfold mOut; rw [if_neg (by omega), if_neg h2, if_neg h3]
      have m := @mBase_same r
      rw [e]
      exact mOut_stay (by omega) (by omega) (by omega) mBase_fix

def fText (l : List Int) : List Int := (l.filter mKeep).map mOut

theorem fText_le (l : List Int) : (fText l).length ≤ l.length := by
  unfold fText; rw [List.length_map]; exact List.length_filter_le _ _

theorem fText_append (a b : List Int) : fText (a ++ b) = fText a ++ fText b := by
  unfold fText; rw [List.filter_append, List.map_append]

theorem fText_yes {l : List Int} {k : Nat} {x : Int} (hx : l[k]? = some x) (h : mKeep x = true) : fText (l.take (k + 1)) = fText (l.take k) ++ [mOut x] := by
  obtain ⟨hk, hx⟩ := List.getElem?_eq_some_iff.1 hx
  rw [take_snoc' l k hk, fText_append, hx]
  simp [fText, h]

theorem fText_no {l : List Int} {k : Nat} {x : Int} (hx : l[k]? = some x) (h : mKeep x = false) : fText (l.take (k + 1)) = fText (l.take k) := by
  obtain ⟨hk, hx⟩ := List.getElem?_eq_some_iff.1 hx
  rw [take_snoc' l k hk, fText_append, hx]
  simp [fText, h]

theorem fText_fix (l : List Int) : fText (fText l) = fText l := by
  induction l with
  | nil => rfl
  | cons x l ih =>
    unfold fText at ih ⊢
    by_cases h : mKeep x = true
    · have ⟨h1, h2⟩ := mOut_fix h
      simp only [List.filter_cons, h, if_true, List.map_cons, h1, h2, ih]
    · simp only [List.filter_cons, h]
      exact ih

theorem bits_or1 : ∀ n : Nat, n < 48 → bits .or .i32 ((n : Int) + 256) 1 = if n % 2 = 0 then (n : Int) + 257 else (n : Int) + 256 := by
  decide

theorem or1 {r : Int} (h1 : 256 ≤ r) (h2 : r ≤ 303) : bits .or .i32 r 1 = if r % 2 = 0 then r + 1 else r := by
  obtain ⟨n, rfl⟩ : ∃ n : Nat, r = (n : Int) + 256 := ⟨(r - 256).toNat, by omega⟩
  rw [bits_or1 n (by omega)]
  split <;> split <;> omega
end Go.Proofs.Ytalpkjdbennicaa
