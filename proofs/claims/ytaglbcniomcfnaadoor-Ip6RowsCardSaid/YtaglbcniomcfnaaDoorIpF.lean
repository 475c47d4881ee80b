/- The walks of the reference's ten, Ten, Show4, Ends. -/
import Derived.Test.YtaglbcniomcfnaaDoorIpE
import Derived.Test.YtaglbcniomcfnaaDoorDigP
import Derived.Test.YtaglbcniomcfnaaDoorQryA
import Derived.Deep.RegionHeld3
namespace Go.Proofs.YtaglbcniomcfnaaDoor
set_option linter.all false
open Go.RowKit

theorem lit_str (w : World) (c : UInt8) : (convert 44 9 (.slice (some ⟨w.heap.size, 0, none⟩) 1 1)).run Tryd.prog (w.alloc (.cells #[.int .u8 (c.toNat : Int)] 5)) = .ok (.string (str [c])) (w.alloc (.cells #[.int .u8 (c.toNat : Int)] 5)) :=
  str_atN (B := w.heap.size + 1) (n := 1) (A := some ⟨w.heap.size, 0, none⟩) (c := 1) (l := [c]) (by have := @Rd.lit w #[.int .u8 (c.toNat : Int)] 5 (0, 0); simpa [bytes] using this) rfl
theorem dch_low {d : Nat} (h : d < 10) : ((dch d).toNat : Int) = 48 + (d : Int) := by
  unfold dch; rw [if_pos h, UInt8.toNat_ofNat', Nat.mod_eq_of_lt (by omega)]; omega

set_option maxRecDepth 100000 in
set_option maxHeartbeats 4000000 in
theorem ten6_any (n : Nat) (w : World) (hn : n < 18446744073709551616) : Calls Tryd.prog 35 #[.int .u64 (n : Int)] w fun e w' => e = .returned (.string (str (digs 10 n))) ∧ Below w.heap.size w w' := by
  have hlen := Lib.hid (digs_len (b := 10) (by decide) 20 n (by omega))
  go_enter Tryd.func35, Tryd.ntmps35
  go_wp2
  go_loopg [0, 3] n (fun k s0 s2 wr => ∃ (m : Nat) (T : List UInt8), k = m ∧ s0 = .int .u64 (m : Int) ∧ s2 = .string (str T) ∧ m ≤ n ∧ T.length ≤ 20 ∧ Hid (digs 10 n = digs 10 m ++ T) ∧ Below w.heap.size w wr)
  case atStart => exact ⟨n, [], rfl, rfl, rfl, Nat.le_refl _, by simp, (List.append_nil _).symm, Below.refl _ _⟩
  case round =>
    obtain ⟨_, T, rfl, rfl, rfl, hm, hT, hD, hbel⟩ := hrel
    have hq0 := hbel.size
    obtain ⟨d, hd⟩ : ∃ d : Nat, d = gk % 10 := ⟨_, rfl⟩
    obtain ⟨q, hq⟩ : ∃ q : Nat, q = gk / 10 := ⟨_, rfl⟩
    have hd10 : d < 10 := by omega
    have hrem : ((gk : Int)).tmod 10 = (d : Int) := by rw [hd]; exact (Int.ofNat_tmod gk 10).symm
    have hquo : ((gk : Int)).tdiv 10 = (q : Int) := by rw [hq]; exact (Int.ofNat_tdiv gk 10).symm
    have hdl := dch_low hd10
    have hv0 : IntKind.u64.wrap (d : Int) = (d : Int) := IntWalk.u64_in _ (by omega)
    have hv1 : IntKind.u64.wrap (48 + (d : Int)) = 48 + (d : Int) := IntWalk.u64_in _ (by omega)
    have hv2 : IntKind.u8.wrap (48 + (d : Int)) = ((dch d).toNat : Int) := by rw [IntWalk.u8_in _ (by omega), hdl]
    have hv3 : IntKind.u64.wrap (q : Int) = (q : Int) := IntWalk.u64_in _ (by omega)
    have e1 : str [dch d] ++ str T = str (dch d :: T) := str_app [dch d] T
    have y1 := str_size T
    have y2 : (str [dch d]).size = 1 := str_size [dch d]
    have k1 : (9223372036854775807 < 1 + T.length) = False := eq_false (by omega)
    have hcv := fun (w : World) => lit_str w (dch d)
    by_cases hq1 : q = 0
    · have HF := Lib.hid (show digs 10 n = dch d :: T by
        rw [hD.out, digs_small (show gk < 10 by omega), show d = gk by omega]; rfl)
      have hz : ((q : Int) == 0) = true := by rw [beq_iff_eq]; omega
      clear hd hq hdl
      go_wp2
      go_ret
      exact ⟨by rw [HF.out]; rfl, hbel.alloc hq0 _⟩
    · have HF := Lib.hid (show digs 10 n = digs 10 q ++ dch d :: T by
        rw [hD.out, digs_big (b := 10) (by decide) (show 10 ≤ gk by omega), ← hq, ← hd, List.append_assoc]; rfl)
      have hz : ((q : Int) == 0) = false := by rw [beq_eq_false_iff_ne]; omega
      have hqm : q < gk := by omega
      have HT := Lib.hid (show (dch d :: T).length ≤ 20 by
        have h1 := hlen.out
        rw [HF.out, List.length_append] at h1
        omega)
      clear hd hq hdl hq1
      go_wp2
      go_roundg q
      case measure => omega
      case rel => exact ⟨q, dch d :: T, rfl, by go_num, rfl, by omega, HT.out, HF.out, hbel.alloc hq0 _⟩

theorem ten6T_any (n : Nat) (w : World) (hn : n < 18446744073709551616) : Calls Tryd.prog 21 #[.int .u64 (n : Int)] w fun e w' => e = .returned (.string (str (digs 10 n))) ∧ Below w.heap.size w w' := by
  have C := Lib.hid fun w => ten6_any n w hn
  go_enter Tryd.func21, Tryd.ntmps21
  go_wp2_with (go_at_call 35; go_must (go_fit (C.out _)); rintro e w1 ⟨rfl, hb1⟩)
  go_ret
  exact ⟨rfl, hb1⟩
end Go.Proofs.YtaglbcniomcfnaaDoor

