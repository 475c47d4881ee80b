/- The walks of pct.In and pct.Encode. -/
import Derived.Test.YtaglbcniomcfnaaDoorPctA
namespace Go.Proofs.YtaglbcniomcfnaaDoor
set_option linter.all false
open Go.RowKit


def pShow (s : Int) (c : UInt8) : List UInt8 := if s = 6 ∧ c = 32 then [43] else esc c
theorem pEnc1_in {s : Int} {c : UInt8} (h : pIn s c = true) : pEnc1 s c = pShow s c := by
  unfold pEnc1 pShow; split
  · rfl
  · first | rfl | exact if_pos h
theorem pEnc1_out {s : Int} {c : UInt8} (h : pIn s c = false) : pEnc1 s c = [c] := by
  unfold pEnc1
  rw [if_neg, if_neg (by rw [h]; decide)]
  rintro ⟨rfl, rfl⟩
  exact absurd h (by decide)
theorem pEnc_snoc {s : Int} {l : List UInt8} {j : Nat} {x : UInt8} (h : l[j]? = some x) : pEnc s (l.take (j + 1)) = pEnc s (l.take j) ++ pEnc1 s x := by
  obtain ⟨hj, hx⟩ := List.getElem?_eq_some_iff.1 h
  rw [take_snoc' l j hj, hx, pEnc_append]
  simp [pEnc]
theorem pShow_len (s : Int) (c : UInt8) : (pShow s c).length ≤ 3 := by unfold pShow esc; split <;> simp


theorem pShow_not {s : Int} (h : s ≠ 6) (x : UInt8) : pShow s x = esc x := if_neg fun e => h e.1
theorem pShow_form (x : UInt8) : pShow 6 x = (if x = 32 then [43] else esc x) := by
  unfold pShow; by_cases h : x = 32 <;> simp [h]

end Go.Proofs.YtaglbcniomcfnaaDoor

