/- The walks of pct's sets: which set a number is, which bytes lie in it, how a byte is shown. -/
import Derived.Test.YtaglbcniomcfnaaDoorPctP
import Derived.Test.YtaglbcniomcfnaaDoorBld
import Derived.Test.YtaglbcniomcfnaaDoorPart
import Derived.Test.YtaglbcniomcfnaaDoorUtfA
import Derived.Lib.IndexAny
namespace Go.Proofs.YtaglbcniomcfnaaDoor
set_option linter.all false
open Go.RowKit

theorem idx_mem (t : List UInt8) (c : UInt8) : decide (0 ≤ Lib.indexByte t c) = t.contains c := (Lib.contains_iff_indexByte t c).symm
theorem idx_out (t : List UInt8) (c : UInt8) : decide (Lib.indexByte t c < 0) = !t.contains c := by
  rw [← idx_mem, ← decide_not, decide_eq_decide]; omega

def hexDigits : ByteArray := ⟨#[48, 49, 50, 51, 52, 53, 54, 55, 56, 57, 65, 66, 67, 68, 69, 70]⟩
theorem hexdig_fin : ∀ k : Fin 16, hexDigits.data[k.val]? = some (hexU k.val) := by decide
theorem hexdig {m : Nat} (hm : m < 16) (h : m < (ByteArray.mk #[48, 49, 50, 51, 52, 53, 54, 55, 56, 57, 65, 66, 67, 68, 69, 70]).size) : (ByteArray.mk #[48, 49, 50, 51, 52, 53, 54, 55, 56, 57, 65, 66, 67, 68, 69, 70])[m]'h = hexU m := by
  have h1 := hexdig_fin ⟨m, hm⟩
  have h2 : hexDigits.data[m]? = some ((ByteArray.mk #[48, 49, 50, 51, 52, 53, 54, 55, 56, 57, 65, 66, 67, 68, 69, 70])[m]'h) := Array.getElem?_eq_getElem (xs := hexDigits.data) (i := m) h
  rw [h2] at h1
  exact Option.some.inj h1
theorem s_cases (s : Int) : s = 0 ∨ s = 1 ∨ s = 2 ∨ s = 3 ∨ s = 4 ∨ s = 5 ∨ s = 6 ∨ (s ≠ 0 ∧ s ≠ 1 ∧ s ≠ 2 ∧ s ≠ 3 ∧ s ≠ 4 ∧ s ≠ 5 ∧ s ≠ 6) := by omega

end Go.Proofs.YtaglbcniomcfnaaDoor

