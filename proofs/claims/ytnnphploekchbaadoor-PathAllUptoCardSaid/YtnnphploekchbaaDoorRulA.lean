/- The walks of rules.small, rules.Out, and the reference's low, Out. -/
import Derived.Test.YtnnphploekchbaaDoorLibB
import Derived.Test.YtnnphploekchbaaDoorRulP
import Derived.Test.YtnnphploekchbaaDoorQryR
import Derived.IntWalk
namespace Go.Proofs.YtnnphploekchbaaDoor
set_option linter.all false
open Go.RowKit

theorem lowB_nat {c : UInt8} (h1 : 65 ≤ c.toNat) (h2 : c.toNat ≤ 90) : (lowB c).toNat = c.toNat + 32 := by
  unfold lowB
  rw [if_pos ⟨h1, h2⟩, UInt8.toNat_add, show (32 : UInt8).toNat = 32 from rfl, Nat.mod_eq_of_lt (by omega)]
theorem lowB_same {c : UInt8} (h : ¬ (65 ≤ c.toNat ∧ c.toNat ≤ 90)) : lowB c = c := if_neg h

theorem str_atL {w : World} {B n : Nat} {A : Option Addr} {c : Nat} {l : List UInt8} (hr : Rd w B A (bytes l)) (hn : n = l.length) : (convert 42 9 (.slice A n c)).run Tryd.prog w = .ok (.string (str l)) w :=
  run_strM Tryd.underlying42 Tryd.underlying5 Tryd.underlying9 hr hn
set_option maxRecDepth 100000 in
set_option maxHeartbeats 4000000 in
theorem small_any (s : List UInt8) (w : World) (hs : s.length ≤ 1000000) :
    Calls Tryd.prog 59 #[.string (str s)] w fun e w' => e = .returned (.string (str (lows s))) ∧ Below w.heap.size w w' := by
  go_enter Tryd.func59, Tryd.ntmps59
  go_wp2_with (refine wpList_bytesL rfl _ _ _ _ rfl Tryd.underlying9 Tryd.underlying42 Tryd.underlying5 s rfl (by omega) ?_; intro c3 w3 hc3 hm3 hrow3 hr3 hb3 hz3)
  go_loopg [10] (s.length) (fun k s4 wr => ∃ j : Nat, k = s.length - j ∧ j ≤ s.length ∧ s4 = .int .i64 j ∧ Row wr w.heap.size (bytes (upd lowB s j)) ∧ Below w.heap.size w wr ∧ w.heap.size < wr.heap.size)
  case atStart => exact ⟨0, rfl, Nat.zero_le _, rfl, hrow3, hb3, hz3⟩
  case round =>
    clear hrow3 hr3 hb3 hz3
    obtain ⟨j, rfl, hj, rfl, hrow, hbel, hz⟩ := hrel
    by_cases hlt : j < s.length
    · have hlt1 : (j : Int) < (s.length : Int) := by omega
      have hj0 : (0 : Int) ≤ (j : Int) := by omega
      have hc := hrow.1 j _ (upd_at lowB hlt)
      have hf := hrow.2.1 j (by rw [bytes_len, upd_len _ _ hj]; exact hlt)
      have hcb := byte_lt (gb s j)
      by_cases h1 : (65 : Int) ≤ ((gb s j).toNat : Int)
      · by_cases h2 : ((gb s j).toNat : Int) ≤ 90
        · have HS := Lib.hid (Row.set hrow (j := j) (by rw [bytes_len, upd_len _ _ hj]; exact hlt) (.int .u8 ((lowB (gb s j)).toNat : Int)))
          rw [upd_set lowB hlt, show ((lowB (gb s j)).toNat : Int) = ((gb s j).toNat : Int) + 32 by rw [lowB_nat (by omega) (by omega)]; omega] at HS
          have q1 : IntKind.u8.wrap (((gb s j).toNat : Int) + 32) = ((gb s j).toNat : Int) + 32 := IntWalk.u8_in _ (by omega)
          have q2 : IntKind.u8.wrap (((gb s j).toNat : Int) + 97) = ((gb s j).toNat : Int) + 97 := IntWalk.u8_in _ (by omega)
          have q3 : IntKind.u8.wrap (((gb s j).toNat : Int) + 97 - 65) = ((gb s j).toNat : Int) + 32 := by rw [IntWalk.u8_in _ (by omega)]; omega
          go_wp2
          go_roundg (s.length - (j + 1))
          case measure => omega
          case rel => exact ⟨j + 1, rfl, by omega, by go_num, HS.out, Below.setCell hbel (p := ⟨w.heap.size, j, none⟩) (Nat.le_refl _) _, by simpa using hz⟩
        · have HS := Lib.hid (upd_same lowB hlt (lowB_same (by omega)))
          have h2' : (90 : Int) < ((gb s j).toNat : Int) := by omega
          clear h2
          go_wp2
          go_roundg (s.length - (j + 1))
          case measure => omega
          case rel => exact ⟨j + 1, rfl, by omega, by go_num, by rw [HS.out]; exact hrow, hbel, hz⟩
      · have HS := Lib.hid (upd_same lowB hlt (lowB_same (by omega)))
        have h1' : ((gb s j).toNat : Int) < 65 := by omega
        clear h1
        go_wp2
        go_roundg (s.length - (j + 1))
        case measure => omega
        case rel => exact ⟨j + 1, rfl, by omega, by go_num, by rw [HS.out]; exact hrow, hbel, hz⟩
    · obtain rfl : j = s.length := by omega
      rw [upd_end] at hrow
      have hst := str_atL (c := c3) (l := lows s) (hrow.rd hz) (lows_len s).symm
      go_wp2
      go_ret
      exact ⟨rfl, hbel⟩
set_option maxRecDepth 100000 in
set_option maxHeartbeats 4000000 in
theorem lowr_any (s : List UInt8) (w : World) (hs : s.length ≤ 1000000) :
    Calls Tryd.prog 46 #[.string (str s)] w fun e w' => e = .returned (.string (str (lows s))) ∧ Below w.heap.size w w' := by
  go_enter Tryd.func46, Tryd.ntmps46
  go_wp2_with (refine wpList_bytesL rfl _ _ _ _ rfl Tryd.underlying9 Tryd.underlying42 Tryd.underlying5 s rfl (by omega) ?_; intro c3 w3 hc3 hm3 hrow3 hr3 hb3 hz3)
  go_loopg [4] (s.length) (fun k s4 wr => ∃ j : Nat, k = s.length - j ∧ j ≤ s.length ∧ s4 = .int .i64 j ∧ Row wr w.heap.size (bytes (upd lowB s j)) ∧ Below w.heap.size w wr ∧ w.heap.size < wr.heap.size)
  case atStart => exact ⟨0, rfl, Nat.zero_le _, rfl, hrow3, hb3, hz3⟩
  case round =>
    clear hrow3 hr3 hb3 hz3
    obtain ⟨j, rfl, hj, rfl, hrow, hbel, hz⟩ := hrel
    by_cases hlt : j < s.length
    · have hlt1 : (j : Int) < (s.length : Int) := by omega
      have hj0 : (0 : Int) ≤ (j : Int) := by omega
      have hc := hrow.1 j _ (upd_at lowB hlt)
      have hf := hrow.2.1 j (by rw [bytes_len, upd_len _ _ hj]; exact hlt)
      have hcb := byte_lt (gb s j)
      by_cases h1 : (65 : Int) ≤ ((gb s j).toNat : Int)
      · by_cases h2 : ((gb s j).toNat : Int) ≤ 90
        · have HS := Lib.hid (Row.set hrow (j := j) (by rw [bytes_len, upd_len _ _ hj]; exact hlt) (.int .u8 ((lowB (gb s j)).toNat : Int)))
          rw [upd_set lowB hlt, show ((lowB (gb s j)).toNat : Int) = ((gb s j).toNat : Int) + 32 by rw [lowB_nat (by omega) (by omega)]; omega] at HS
          have q1 : IntKind.u8.wrap (((gb s j).toNat : Int) + 32) = ((gb s j).toNat : Int) + 32 := IntWalk.u8_in _ (by omega)
          have q2 : IntKind.u8.wrap (((gb s j).toNat : Int) + 97) = ((gb s j).toNat : Int) + 97 := IntWalk.u8_in _ (by omega)
          have q3 : IntKind.u8.wrap (((gb s j).toNat : Int) + 97 - 65) = ((gb s j).toNat : Int) + 32 := by rw [IntWalk.u8_in _ (by omega)]; omega
          go_wp2
          go_roundg (s.length - (j + 1))
          case measure => omega
          case rel => exact ⟨j + 1, rfl, by omega, by go_num, HS.out, Below.setCell hbel (p := ⟨w.heap.size, j, none⟩) (Nat.le_refl _) _, by simpa using hz⟩
        · have HS := Lib.hid (upd_same lowB hlt (lowB_same (by omega)))
          have h2' : (90 : Int) < ((gb s j).toNat : Int) := by omega
          clear h2
          go_wp2
          go_roundg (s.length - (j + 1))
          case measure => omega
          case rel => exact ⟨j + 1, rfl, by omega, by go_num, by rw [HS.out]; exact hrow, hbel, hz⟩
      · have HS := Lib.hid (upd_same lowB hlt (lowB_same (by omega)))
        have h1' : ((gb s j).toNat : Int) < 65 := by omega
        clear h1
        go_wp2
        go_roundg (s.length - (j + 1))
        case measure => omega
        case rel => exact ⟨j + 1, rfl, by omega, by go_num, by rw [HS.out]; exact hrow, hbel, hz⟩
    · obtain rfl : j = s.length := by omega
      rw [upd_end] at hrow
      have hst := str_atL (c := c3) (l := lows s) (hrow.rd hz) (lows_len s).symm
      go_wp2
      go_ret
      exact ⟨rfl, hbel⟩
end Go.Proofs.YtnnphploekchbaaDoor

