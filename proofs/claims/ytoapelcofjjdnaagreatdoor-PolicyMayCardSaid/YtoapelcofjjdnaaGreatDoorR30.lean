/- A part of the proof. -/
import Derived.Test.YtoapelcofjjdnaaGreatDoorR29
import Derived.Test.YtoapelcofjjdnaaGreatDoorR25
namespace Go.Proofs.YtoapelcofjjdnaaGreatDoor
set_option linter.all false
open Go.ChangeShapes Go.WideShapes Go.ChangeAt Go.RowKit Go.Deep
theorem lh_of {W : World} {L : List (String × DataW Unit)} (hm : ML W) (hL : laidMetH Tryz.prog L W) (hp : (L.all fun x => x.2.handleName?.isNone) = true) {x y : String × DataW Unit} {t1 t2 : List UInt8} {r : List (String × DataW Unit)}
  (e : L = x :: ("math/bits.deBruijn64tab", Lib.tabData .u8 lowTab) :: ("internal/strconv.uint64pow10", Lib.tabData .u64 Lib.pow10Tab) :: y :: ("strconv.ErrRange", .iface "*errors.errorString" (.ptr (.agg [.lit (.string t1)]))) :: ("strconv.ErrSyntax", .iface "*errors.errorString" (.ptr (.agg [.lit (.string t2)]))) :: r) : LH W := by
 have ht : TB W := tb_of hL hp (r := y :: ("strconv.ErrRange", .iface "*errors.errorString" (.ptr (.agg [.lit (.string t1)]))) :: ("strconv.ErrSyntax", .iface "*errors.errorString" (.ptr (.agg [.lit (.string t2)]))) :: r) e
 rw [MakeChecks.laidMetH_plain _ _ _ hp] at hL
 subst e
 have gR : Tryz.prog.globalNamed "strconv.ErrRange" = some 3 := by kernel_rfl
 have gS : Tryz.prog.globalNamed "strconv.ErrSyntax" = some 2 := by kernel_rfl
 have gD : Tryz.prog.globalNamed "math/bits.deBruijn64tab" = some 7 := by kernel_rfl
 obtain ⟨a, s, hv, _⟩ := laid_sentinel hL.tail.tail.tail.tail gR (by kernel_rfl) Tryz.underlying98 row_err Tryz.underlying229 Tryz.underlying231 rfl rfl Tryz.underlying9 (by kernel_rfl) (by kernel_rfl)
 obtain ⟨b, u, hv2, _⟩ := laid_sentinel hL.tail.tail.tail.tail.tail gS (by kernel_rfl) Tryz.underlying98 row_err Tryz.underlying229 Tryz.underlying231 rfl rfl Tryz.underlying9 (by kernel_rfl) (by kernel_rfl)
 have hd := Lib.tabIs_of_head (g := 7) (t := 228) (e := 5) (n := 64) (by kernel_rfl) (by kernel_rfl) (by kernel_rfl) (by kernel_rfl) (by kernel_rfl) (by kernel_rfl) hL.tail
 have c1 : W.cell? ⟨2, 0, none⟩ = some (.iface 229 (.pointer (some b))) := by
  have := World.var?_cell gS hv2 0
  simpa using this
 have c2 : W.cell? ⟨3, 0, none⟩ = some (.iface 229 (.pointer (some a))) := by
  have := World.var?_cell gR hv 0
  simpa using this
 have c3 : W.cell? ⟨7, 15, none⟩ = some (.int .u8 4) := by
  have := World.var?_cell gD hd 15
  simpa [lowTab] using this
 exact ⟨hm, ht, ⟨⟨_, c1, .inr ⟨_, _, rfl⟩⟩, ⟨_, c2, .inr ⟨_, _, rfl⟩⟩⟩, c3⟩
end Go.Proofs.YtoapelcofjjdnaaGreatDoor
