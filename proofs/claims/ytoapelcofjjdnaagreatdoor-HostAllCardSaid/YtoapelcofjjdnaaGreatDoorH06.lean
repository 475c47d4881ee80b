/- A part of the proof. -/
import Derived.Test.YtoapelcofjjdnaaGreatDoorH05
import Derived.Lib.SlBytesConst
import Derived.Test.YtoapelcofjjdnaaGreatDoorH00
namespace Go.Proofs.YtoapelcofjjdnaaGreatDoor
set_option linter.all false
open Go.RowKit
theorem str_at {w : World} {B n : Nat} {A : Option Addr} {c : Nat} {l : List UInt8} (hr : Rd w B A (bytes l)) (hn : n = l.length) : (convert 58 9 (.slice A n c)).run Tryz.prog w = .ok (.string (str l)) w :=
 run_strN Tryz.underlying58 Tryz.underlying5 Tryz.underlying9 hr hn
end Go.Proofs.YtoapelcofjjdnaaGreatDoor
namespace Go.Proofs.YtoapelcofjjdnaaGreatDoor
set_option linter.all false
open Go.RowKit
def runeRow (w : World) (l : List Int) (t : TypeId) : Obj :=
 .cells ((runes l).toArray ++ Array.replicate (grownCap w l.length 0 t - l.length) (.int .i32 0)) t
theorem runes_at (w : World) {b : List UInt8} (h : b.length ≤ 1000000) :
  (convert 9 127 (.string (str b))).run Tryz.prog w =
   .ok (.slice (some ⟨w.heap.size, 0, none⟩) (uDec b).length (grownCap w (uDec b).length 0 21)) (w.drew.alloc (runeRow w (uDec b) 21)) := by
 have e : Conv.runesFrom (str b) (str b).size 0 #[] = (runes (uDec b)).toArray := by rw [runes_of_text, str_data]
 have hsz : (Conv.runesFrom (str b) (str b).size 0 #[]).size = (uDec b).length := by rw [e, List.size_toArray, runes_len]
 have hl := uDec_len_le b
 have := run_runes_of_string (P := Tryz.prog) w 9 127 21 (str b) Tryz.underlying9 Tryz.underlying127 Tryz.underlying21 (by rw [hsz]; omega)
 rw [hsz] at this
 rw [this, e]
 rfl
end Go.Proofs.YtoapelcofjjdnaaGreatDoor
