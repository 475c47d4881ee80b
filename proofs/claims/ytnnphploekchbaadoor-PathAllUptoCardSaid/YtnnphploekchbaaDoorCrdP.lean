/- What the cards of layer 10 ask besides: the library's table of ASCII's other letters as it was laid. -/
import Derived.Test.YtnnphploekchbaaDoorCrd
import Derived.Test.YtnnphploekchbaaDoorPathA
import Derived.Stop.LaidErr
import Derived.MakeChecks
namespace Go.Proofs.YtnnphploekchbaaDoor
set_option linter.all false
open Go.ChangeShapes Go.WideShapes Go.ChangeAt Go.RowKit Go.Deep

def foldTab : List Int := [0, 1, 2, 3, 4, 5, 6, 7, 8, 9, 10, 11, 12, 13, 14, 15, 16, 17, 18, 19, 20, 21, 22, 23, 24, 25, 26, 27, 28, 29, 30, 31, 32, 33, 34, 35, 36, 37, 38, 39, 40, 41, 42, 43, 44, 45, 46, 47, 48, 49, 50, 51, 52, 53, 54, 55, 56, 57, 58, 59, 60, 61, 62, 63, 64, 97, 98, 99, 100, 101, 102, 103, 104, 105, 106, 107, 108, 109, 110, 111, 112, 113, 114, 115, 116, 117, 118, 119, 120, 121, 122, 91, 92, 93, 94, 95, 96, 65, 66, 67, 68, 69, 70, 71, 72, 73, 74, 8490, 76, 77, 78, 79, 80, 81, 82, 383, 84, 85, 86, 87, 88, 89, 90, 123, 124, 125, 126, 127]
theorem af_of {W : World} {L : List (String × DataW Unit)} (hL : laidMetH Tryd.prog L W) (hp : (L.all fun x => x.2.handleName?.isNone) = true) {x : String × DataW Unit} {r : List (String × DataW Unit)} (e : L = x :: ("unicode.asciiFold", Lib.tabData .u16 foldTab) :: r) : AF W := by
  rw [MakeChecks.laidMetH_plain _ _ _ hp] at hL
  subst e
  have gF : Tryd.prog.globalNamed "unicode.asciiFold" = some 0 := by kernel_rfl
  have hd := Lib.tabIs_of_head (g := 0) (t := 121) (e := 120) (n := 128) (by kernel_rfl) (by kernel_rfl) (by kernel_rfl) (by kernel_rfl) (by kernel_rfl) (by kernel_rfl) hL.tail
  refine ⟨?_, ?_, ?_, ?_⟩
  · have := World.var?_cell gF hd 37
    simpa [foldTab] using this
  · have := World.var?_cell gF hd 50
    simpa [foldTab] using this
  · have := World.var?_cell gF hd 101
    simpa [foldTab] using this
  · have := World.var?_cell gF hd 69
    simpa [foldTab] using this
end Go.Proofs.YtnnphploekchbaaDoor

