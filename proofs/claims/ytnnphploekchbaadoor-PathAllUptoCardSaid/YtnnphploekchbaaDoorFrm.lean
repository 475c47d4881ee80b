/- What the frames of the statements share. -/
import Derived.Test.YtnnphploekchbaaDoorTxt
namespace Go.Proofs.YtnnphploekchbaaDoor
set_option linter.all false
open Go.RowKit

/-- A number of the kind uint8 is a byte. -/
theorem byte_of {n : Int} (h : (Lit.int .u8 n).wf = true) : ∃ c : UInt8, n = (c.toNat : Int) := by
  have h1 : 0 ≤ n ∧ n < 256 := by
    have := bounds_u8 h
    omega
  exact ⟨byteOf n, (byteOf_nat h1.1 h1.2).symm⟩

end Go.Proofs.YtnnphploekchbaaDoor

