/- A part of the proof. -/
import Derived.Test.YtoapelcofjjdnaaGreatDoorR05
import Derived.Lib.SlBytesConst
import Derived.Test.YtoapelcofjjdnaaGreatDoorR00
namespace Go.Proofs.YtoapelcofjjdnaaGreatDoor
set_option linter.all false
open Go.RowKit
theorem str_at {w : World} {B n : Nat} {A : Option Addr} {c : Nat} {l : List UInt8} (hr : Rd w B A (bytes l)) (hn : n = l.length) : (convert 58 9 (.slice A n c)).run Tryz.prog w = .ok (.string (str l)) w :=
 run_strN Tryz.underlying58 Tryz.underlying5 Tryz.underlying9 hr hn
end Go.Proofs.YtoapelcofjjdnaaGreatDoor
namespace Go.Proofs.YtoapelcofjjdnaaGreatDoor
set_option linter.all false
open Go.RowKit
end Go.Proofs.YtoapelcofjjdnaaGreatDoor
