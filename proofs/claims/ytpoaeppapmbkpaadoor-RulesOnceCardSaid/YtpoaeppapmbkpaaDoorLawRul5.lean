/- The walk of the statement RulesOnce. -/
import Derived.Test.YtpoaeppapmbkpaaDoorLawRul
import Derived.Test.YtpoaeppapmbkpaaDoorRulQ
import Derived.Deep.RegionHeld3
namespace Go.Proofs.YtpoaeppapmbkpaaDoor
set_option linter.all false
open Go.RowKit


set_option maxRecDepth 100000 in
set_option maxHeartbeats 16000000 in
theorem rulesOnce_walk (A : Option Addr) (kr : Nat) (rs : List Ru) (s : List UInt8) (c : UInt8) (w : World) (hm : ML w) (hr : Rd w w.heap.size A (rls rs)) (hcap : rs.length ≤ kr) (hkm : kr ≤ maxLen) (hrx : ∀ x ∈ rs, x.1.length ≤ maxLen) (hsm : s.length ≤ maxLen) :
    Calls Tryd.prog 14 #[.slice A rs.length kr, .string (str s), .int .u8 (c.toNat : Int)] w fun e w' => e = .returned (.bool true) ∧ Below w.heap.size w w' := by
  unfold maxLen at hsm hkm hrx
  have hsz := str_size s
  have CL := Lib.hid fun w (h : Rd w w.heap.size A (rls rs)) => light_any A kr rs w h (by omega) hrx
  cases hlb : lightB rs with
  | false =>
    rw [hlb] at CL
    clear hlb
    go_enter Tryd.func14, Tryd.ntmps14
    go_wp2_with (first
      | (go_at_call 34; go_must (go_fit (begun13_any w hm)); rintro e w1 ⟨rfl, hb1⟩)
      | (go_at_call 35; go_must (go_fit (CL.out w1 (hr.next hb1))); rintro e w2 ⟨rfl, rfl⟩))
    go_ret
    exact ⟨rfl, hb1⟩
  | true =>
    obtain ⟨hr10, hr30⟩ := light_short hlb
    rw [hlb] at CL
    clear hlb
    by_cases h6 : (rs.length : Int) ≤ 6
    · by_cases h100 : (s.length : Int) ≤ 100
      · obtain ⟨K, hK⟩ : ∃ K : Nat, K = c.toNat % (rs.length + 1) := ⟨_, rfl⟩
        have hKl : K ≤ rs.length := by have := Nat.mod_lt c.toNat (show 0 < rs.length + 1 by omega); omega
        have hrem : ((c.toNat : Int)).tmod ((rs.length : Int) + 1) = (K : Int) := by
          rw [hK]
          have := (Int.ofNat_tmod c.toNat (rs.length + 1)).symm
          simpa using this
        have hcb := byte_lt c
        have hw0 : IntKind.i64.wrap (c.toNat : Int) = (c.toNat : Int) := IntWalk.i64_in _ (by omega)
        have hw1 : IntKind.i64.wrap ((rs.length : Int) + 1) = (rs.length : Int) + 1 := IntWalk.i64_in _ (by omega)
        have hw2 : IntKind.i64.wrap (K : Int) = (K : Int) := IntWalk.i64_in _ (by omega)
        have hz : (((rs.length : Int) + 1) == 0) = false := by rw [beq_eq_false_iff_ne]; omega
        have hz2 : ¬ ((rs.length : Int) + 1 = 0) := by omega
        have hK0 : (0 : Int) ≤ (K : Int) := by omega
        have hK1 : (K : Int) ≤ (rs.length : Int) := by omega
        have hK2 : (K : Int) ≤ (kr : Int) := by omega
        have tl := rText_len s rs
        have tl2 := rText_len s (rs.take K)
        have hk1 : (rs.take K).length = K := by rw [List.length_take]; omega
        have hk2 : (rs.drop K).length = rs.length - K := List.length_drop ..
        have C1 := Lib.hid fun w (hm : ML w) (h : Rd w w.heap.size A (rls rs)) => rtext13_any s A kr rs w hm h (by omega) (by omega) (fun p hp => by have := hr30 p hp; omega)
        obtain ⟨T, hT⟩ : ∃ T, T = rText s rs := ⟨_, rfl⟩
        rw [← hT] at C1 tl
        have C2 := Lib.hid fun w (hm : ML w) (h : Rd w w.heap.size A (rls rs)) => rtext13_any T A kr rs w hm h (by omega) (by omega) (fun p hp => by have := hr30 p hp; omega)
        rw [show rText T rs = T by rw [hT]; exact rText_twice s rs] at C2
        have C3 := Lib.hid fun w (hm : ML w) (h : Rd w w.heap.size A (rls (rs.take K))) => rtext13_any s A kr (rs.take K) w hm h (by omega) (by omega) (fun p hp => by have := hr30 p (List.mem_of_mem_take hp); omega)
        rw [hk1] at C3
        obtain ⟨T2, hT2⟩ : ∃ T2, T2 = rText s (rs.take K) := ⟨_, rfl⟩
        rw [← hT2] at C3 tl2
        have C4 := Lib.hid fun B kk w (hm : ML w) (h : Rd w w.heap.size B (rls (rs.drop K))) => rtext13_any T2 B kk (rs.drop K) w hm h (by omega) (by omega) (fun p hp => by have := hr30 p (List.mem_of_mem_drop hp); omega)
        rw [hk2, show rText T2 (rs.drop K) = T by rw [hT2, hT, rText_text, List.take_append_drop]] at C4
        have C5 := Lib.hid fun w (hm : ML w) => rtext13_any s none 0 [] w hm (by intro h; simp [rls] at h) (by omega) (by decide) (by simp)
        rw [rText_nil] at C5
        have hq := qPairs_le s
        have hq2 := qPairs_len2 (s := s) (by omega)
        have C6 := Lib.hid fun w => rquery_any s w (by omega)
        have C7 := Lib.hid fun A c w (h : Rd w w.heap.size A (prs (qPairs s))) => rshow_any A c (qPairs s) w h (by omega) hq2
        have e1 : ((str T).toList == (str T).toList) = true := by simp
        have e2 : ((str (qShow (qPairs s))).toList == (str (qShow (qPairs s))).toList) = true := by simp
        have HD : ∀ w, Rd w w.heap.size A (rls rs) → Rd w w.heap.size (if kr = K then A else A.map (·.add (K * 2))) (rls (rs.drop K)) := fun w h => h.ruDrop hcap
        have HDD := Lib.hid HD
        clear HD hK hT hT2 hq2 hr30 hrx hk1 hk2
        go_enter Tryd.func14, Tryd.ntmps14
        go_wp2_with (first
          | (go_at_call 34; go_must (go_fit (begun13_any w hm)); rintro e w1 ⟨rfl, hb1⟩; have hm1 := hm.next hb1; have hr1 := hr.next hb1)
          | (go_at_call 35; go_must (go_fit (CL.out w1 hr1)); rintro e w2 ⟨rfl, rfl⟩)
          | (go_at_call 40; go_fit (C1.out w1 hm1 hr1); rintro e w2 ⟨rfl, hb2⟩; have hm2 := hm1.next hb2; have hr2 := hr1.next hb2))
        by_cases hkk : kr = K
        · have HDA := Lib.hid fun w (h : Rd w w.heap.size A (rls rs)) => show Rd w w.heap.size A (rls (rs.drop K)) by have := HDD.out w h; rw [if_pos hkk] at this; exact this
          have hkk2 := hkk.symm
          clear hkk
          subst hkk2
          rw [show rs.length - K = 0 by omega] at C4
          go_region_held3 (fun _ => True) (trivial) (first
            | (go_at_call 40; go_fit (C2.out w2.drew hm2 hr2); rintro e w3 ⟨rfl, hb3⟩; have d3 : Below w2.heap.size w2 w3 := bnext (Below.drew (Below.refl _ _)) hb3; have hm3 := hm2.next d3; have hr3 := hr2.next d3)
            | (go_at_call 40; go_fit (C3.out w3 hm3 (hr3.ruTake K)); rintro e w4 ⟨rfl, hb4⟩; have hm4 := hm3.next hb4; have hr4 := hr3.next hb4)
            | (go_at_call 40; go_fit (C4.out _ _ w4 hm4 (HDA.out w4 hr4)); rintro e w5 ⟨rfl, hb5⟩; have hm5 := hm4.next hb5)
            | (go_at_call 40; go_fit (C5.out w5 hm5); rintro e w6 ⟨rfl, hb6⟩)
            | (go_at_call 20; go_fit (C6.out w6); rintro e w7 ⟨v7, rfl, hown7, hb7⟩; obtain ⟨A7, c7, rfl, hc7, hm7, hx7⟩ := own_rdN hown7)
            | (go_at_call 22; go_fit (C7.out A7 c7 w7 hx7); rintro e w8 ⟨rfl, hb8⟩))
          all_goals go_wp2
          all_goals go_ret
          all_goals exact ⟨rfl, bnext (bnext (bnext (bnext (bnext (bnext (bnext hb1 hb2) d3) hb4) hb5) hb6) hb7) hb8⟩
        · have HDA := Lib.hid fun w (h : Rd w w.heap.size A (rls rs)) => show Rd w w.heap.size (A.map (·.add (K * 2))) (rls (rs.drop K)) by have := HDD.out w h; rw [if_neg hkk] at this; exact this
          go_region_held3 (fun _ => True) (trivial) (first
            | (go_at_call 40; go_fit (C2.out w2.drew hm2 hr2); rintro e w3 ⟨rfl, hb3⟩; have d3 : Below w2.heap.size w2 w3 := bnext (Below.drew (Below.refl _ _)) hb3; have hm3 := hm2.next d3; have hr3 := hr2.next d3)
            | (go_at_call 40; go_fit (C3.out w3 hm3 (hr3.ruTake K)); rintro e w4 ⟨rfl, hb4⟩; have hm4 := hm3.next hb4; have hr4 := hr3.next hb4)
            | (go_at_call 40; go_fit (C4.out _ _ w4 hm4 (HDA.out w4 hr4)); rintro e w5 ⟨rfl, hb5⟩; have hm5 := hm4.next hb5)
            | (go_at_call 40; go_fit (C5.out w5 hm5); rintro e w6 ⟨rfl, hb6⟩)
            | (go_at_call 20; go_fit (C6.out w6); rintro e w7 ⟨v7, rfl, hown7, hb7⟩; obtain ⟨A7, c7, rfl, hc7, hm7, hx7⟩ := own_rdN hown7)
            | (go_at_call 22; go_fit (C7.out A7 c7 w7 hx7); rintro e w8 ⟨rfl, hb8⟩))
          all_goals go_wp2
          all_goals go_ret
          all_goals exact ⟨rfl, bnext (bnext (bnext (bnext (bnext (bnext (bnext hb1 hb2) d3) hb4) hb5) hb6) hb7) hb8⟩
      · have h100' : 100 < (s.length : Int) := by omega
        clear h100
        go_enter Tryd.func14, Tryd.ntmps14
        go_wp2_with (first
          | (go_at_call 34; go_must (go_fit (begun13_any w hm)); rintro e w1 ⟨rfl, hb1⟩)
          | (go_at_call 35; go_must (go_fit (CL.out w1 (hr.next hb1))); rintro e w2 ⟨rfl, rfl⟩))
        go_ret
        exact ⟨rfl, hb1⟩
    · have h6' : 6 < (rs.length : Int) := by omega
      clear h6
      go_enter Tryd.func14, Tryd.ntmps14
      go_wp2_with (first
        | (go_at_call 34; go_must (go_fit (begun13_any w hm)); rintro e w1 ⟨rfl, hb1⟩)
        | (go_at_call 35; go_must (go_fit (CL.out w1 (hr.next hb1))); rintro e w2 ⟨rfl, rfl⟩))
      go_ret
      exact ⟨rfl, hb1⟩
end Go.Proofs.YtpoaeppapmbkpaaDoor

