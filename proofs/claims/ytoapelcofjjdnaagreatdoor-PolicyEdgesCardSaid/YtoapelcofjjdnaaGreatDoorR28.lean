/- A part of the proof. -/
import Derived.Test.YtoapelcofjjdnaaGreatDoorR27
import Derived.Test.YtoapelcofjjdnaaGreatDoorR17
import Derived.Stop.LaidErr
import Derived.MakeChecks
namespace Go.Proofs.YtoapelcofjjdnaaGreatDoor
set_option linter.all false
open Go.ChangeShapes Go.WideShapes Go.ChangeAt Go.RowKit Go.Deep
theorem u32_of {n : Int} (h : (Lit.int .u32 n).wf = true) : ∃ c : Nat, n = (c : Int) ∧ c < 4294967296 := by
 have h1 : 0 ≤ n ∧ n < 4294967296 := by
  simp [Lit.wf, IntKind.min, IntKind.max, IntKind.signed, IntKind.bits] at h
  omega
 exact ⟨n.toNat, by omega, by omega⟩
end Go.Proofs.YtoapelcofjjdnaaGreatDoor
