/- A part of the proof. -/
import Derived.Test.YtoapelcofjjdnaaGreatDoorRUrlF
import Derived.Test.YtoapelcofjjdnaaGreatDoorRUrlG
import Derived.Test.YtoapelcofjjdnaaGreatDoorRUrlH
import Derived.Test.YtoapelcofjjdnaaGreatDoorRUrlI
namespace Go.Proofs.YtoapelcofjjdnaaGreatDoor
set_option linter.all false
open Go.RowKit
theorem url_any (s : List UInt8) (w : World) :
  Calls Tryz.prog 28 #[.string (str s), .pointer none] w fun e w' => UrlV w' (uUrl s) e ∧ Below w.heap.size w w' := by
 by_cases h400 : 400 < s.length
 · exact url_long s w h400
 ·
  have hs : s.length ≤ 400 := by omega
  have CC := Lib.hid fun w => clean_any s w (by omega)
  have hcl := uClean_le s
  have HU : uUrl s = uRead (uClean s) := if_neg h400
  obtain ⟨c, hc⟩ : ∃ c, c = uClean s := ⟨_, rfl⟩
  rw [← hc] at CC hcl HU
  clear hc
  have CS := Lib.hid fun w => scheme_any c w (by omega)
  by_cases hn : uSch c = 0
  ·
   rw [hn] at CS
   exact url_none s c w hs (Lib.hid (HU.trans (if_pos hn))) hcl CC CS
  ·
   have hp : 0 < uSch c := by omega
   have hl := uSch_lt hp
   have HN : uUrl s = uOwn (uQuery (uFrag (uFirst (lows (tk c (uSch c)))) (dr c (uSch c + 1))) (ahead 35 (dr c (uSch c + 1)))) (ahead 63 (ahead 35 (dr c (uSch c + 1)))) := HU.trans (if_neg hn)
   cases hsp : uSp (lows (tk c (uSch c))) with
   | true => exact url_special s c (uSch c) w hs hcl hp hl _ _ rfl rfl _ _ _ _ (Lib.hid rfl) (Lib.hid rfl) (Lib.hid rfl) (Lib.hid rfl) (Lib.hid hsp.symm) (Lib.hid HN) CC CS
   | false =>
    rcases (show 2 ≤ uSls false (ahead 63 (ahead 35 (dr c (uSch c + 1)))) ∨ uSls false (ahead 63 (ahead 35 (dr c (uSch c + 1)))) = 1 ∨ uSls false (ahead 63 (ahead 35 (dr c (uSch c + 1)))) = 0 by omega) with h | h | h
    · exact url_two s c (uSch c) w hs hcl hp hl _ _ rfl rfl _ _ _ _ (Lib.hid rfl) (Lib.hid rfl) (Lib.hid rfl) (Lib.hid rfl) (Lib.hid hsp.symm) h (Lib.hid HN) CC CS
    · exact url_one s c (uSch c) w hs hcl hp hl _ _ rfl rfl _ _ _ _ (Lib.hid rfl) (Lib.hid rfl) (Lib.hid rfl) (Lib.hid rfl) (Lib.hid hsp.symm) h (Lib.hid HN) CC CS
    · exact url_zero s c (uSch c) w hs hcl hp hl _ _ rfl rfl _ _ _ _ (Lib.hid rfl) (Lib.hid rfl) (Lib.hid rfl) (Lib.hid rfl) (Lib.hid hsp.symm) h (Lib.hid HN) CC CS
end Go.Proofs.YtoapelcofjjdnaaGreatDoor
