/- A part of the proof. -/
import Derived.Test.YtoapelcofjjdnaaGreatDoorR27
import Derived.Test.YtoapelcofjjdnaaGreatDoorR17
import Derived.Stop.LaidErr
import Derived.MakeChecks
namespace Go.Proofs.YtoapelcofjjdnaaGreatDoor
set_option linter.all false
open Go.ChangeShapes Go.WideShapes Go.ChangeAt Go.RowKit Go.Deep
theorem tb_of {W : World} {L : List (String × DataW Unit)} (hL : laidMetH Tryz.prog L W) (hp : (L.all fun x => x.2.handleName?.isNone) = true) {x y : String × DataW Unit} {r : List (String × DataW Unit)} (e : L = x :: y :: ("internal/strconv.uint64pow10", Lib.tabData .u64 Lib.pow10Tab) :: r) : TB W := by
 rw [MakeChecks.laidMetH_plain _ _ _ hp] at hL
 subst e
 exact Lib.tabIs_of_head (g := 1) (t := 209) (e := 32) (n := 20) (by kernel_rfl) (by kernel_rfl) (by kernel_rfl) (by kernel_rfl) (by kernel_rfl) (by kernel_rfl) hL.tail.tail
theorem u32_of {n : Int} (h : (Lit.int .u32 n).wf = true) : ∃ c : Nat, n = (c : Int) ∧ c < 4294967296 := by
 have h1 : 0 ≤ n ∧ n < 4294967296 := by
  simp [Lit.wf, IntKind.min, IntKind.max, IntKind.signed, IntKind.bits] at h
  omega
 exact ⟨n.toNat, by omega, by omega⟩
end Go.Proofs.YtoapelcofjjdnaaGreatDoor
