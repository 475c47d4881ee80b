/- The walk of the statement RulesAll. -/
import Derived.Test.YtpoaeppapmbkpaaDoorLawRul
import Derived.Deep.RegionHeld3
namespace Go.Proofs.YtpoaeppapmbkpaaDoor
set_option linter.all false
open Go.RowKit


set_option maxRecDepth 100000 in
set_option maxHeartbeats 16000000 in
theorem rulesAll_walk (A Ar : Option Addr) (k kr : Nat) (l : List Pr) (rs : List Ru) (s : List UInt8) (w : World) (hm : ML w) (hr : Rd w w.heap.size A (prs l)) (hrr : Rd w w.heap.size Ar (rls rs)) (hlm : l.length ≤ maxLen) (hx : ∀ x ∈ l, x.1.length ≤ maxLen ∧ x.2.length ≤ maxLen) (hrm : rs.length ≤ maxLen) (hrx : ∀ x ∈ rs, x.1.length ≤ maxLen) (hsm : s.length ≤ maxLen) :
    Calls Tryd.prog 13 #[.slice A l.length k, .slice Ar rs.length kr, .string (str s)] w fun e w' => e = .returned (.bool true) ∧ Below w.heap.size w w' := by
  have HX := Lib.hid hx
  clear hx
  unfold maxLen at hlm hsm hrm hrx
  have hsz := str_size s
  have CL := Lib.hid fun w (h : Rd w w.heap.size Ar (rls rs)) => light_any Ar kr rs w h (by omega) hrx
  by_cases h10 : (l.length : Int) ≤ 10
  · cases hlb : lightB rs with
    | false =>
      rw [hlb] at CL
      clear hlb
      go_enter Tryd.func13, Tryd.ntmps13
      go_wp2_with (first
        | (go_at_call 34; go_must (go_fit (begun13_any w hm)); rintro e w1 ⟨rfl, hb1⟩)
        | (go_at_call 35; go_must (go_fit (CL.out w1 (hrr.next hb1))); rintro e w2 ⟨rfl, rfl⟩))
      go_ret
      exact ⟨rfl, hb1⟩
    | true =>
      obtain ⟨hr10, hr30⟩ := light_short hlb
      rw [hlb] at CL
      clear hlb
      by_cases h100 : (s.length : Int) ≤ 100
      · skip
        go_enter Tryd.func13, Tryd.ntmps13
        go_wp2_with (first
          | (go_at_call 34; go_must (go_fit (begun13_any w hm)); rintro e w1 ⟨rfl, hb1⟩; have hm1 := hm.next hb1; have hr1 := hr.next hb1; have hrr1 := hrr.next hb1)
          | (go_at_call 35; go_must (go_fit (CL.out w1 hrr1)); rintro e w2 ⟨rfl, rfl⟩))
        go_loopg [7] (l.length) (fun k i wr => ∃ j : Nat, k = l.length - j ∧ j ≤ l.length ∧ i = .int .i64 j ∧ Hid (∀ x ∈ l.take j, x.1.length ≤ 30 ∧ x.2.length ≤ 30) ∧ Below w1.heap.size w1 wr)
        case atStart => exact ⟨0, rfl, Nat.zero_le _, rfl, (fun x hx => by rw [List.take_zero] at hx; cases hx), Below.refl _ _⟩
        case round =>
          obtain ⟨j, rfl, hj, rfl, hall, hbel⟩ := hrel
          have hq1 := hbel.size
          by_cases hlt : j < l.length
          · obtain ⟨b, off, p, rfl, hb, hc1, hc2, hx⟩ := (hr1.below hbel).pair_at hlt
            have hlt1 : (j : Int) < (l.length : Int) := by omega
            have hj0 : (0 : Int) ≤ (j : Int) := by omega
            have hpm := HX.out p (List.mem_of_getElem? hx.out)
            unfold maxLen at hpm
            have z1 := str_size p.1
            have z2 := str_size p.2
            by_cases h1 : (p.1.length : Int) ≤ 30
            · by_cases h2 : (p.2.length : Int) ≤ 30
              · have HT := Lib.hid (takeAll hx.out hall.out (show p.1.length ≤ 30 ∧ p.2.length ≤ 30 from ⟨by omega, by omega⟩))
                have C1 := Lib.hid fun w (h : Rd w w.heap.size Ar (rls rs)) => out_any p Ar kr rs w h (by omega) (fun p hp => by have := hr30 p hp; omega) (by omega)
                have C2 := Lib.hid fun w (h : Rd w w.heap.size Ar (rls rs)) => rout_any p Ar kr rs w h (by omega) (fun p hp => by have := hr30 p hp; omega) (by omega)
                have hrrw := hrr1.next hbel
                have hne : (rOut p.1 rs != rOut p.1 rs) = false := by simp
                have hbw : b < wr.heap.size := by omega
                have k1 : decide ((30 : Int) < (p.1.length : Int)) = false := decide_eq_false (by omega)
                have k2 : decide ((30 : Int) < (p.2.length : Int)) = false := decide_eq_false (by omega)
                clear h1 h2
                go_wp2
                go_region_held3 (fun w' => w'.cell? ⟨b, off + j * 2, none⟩ = some (.string (str p.1)) ∧ w'.cell? ⟨b, off + j * 2 + 1, none⟩ = some (.string (str p.2))) (first | exact ⟨hc1, hc2⟩ | exact ⟨hcw, hcv⟩ | exact ⟨hcx, hcy⟩) (first
                  | (go_at_call 36; go_fit (C1.out wr.drew hrrw); rintro e w3 ⟨rfl, hb3⟩; have hb3' : Below wr.heap.size wr w3 := bnext (Below.drew (Below.refl _ _)) hb3; have hcw := cell_on hb3' hc1 hbw; have hcv := cell_on hb3' hc2 hbw; have hrr3 := hrrw.next hb3')
                  | (go_at_call 37; go_fit (C2.out w3 hrr3); rintro e w4 ⟨rfl, hb4⟩; have hbw4 := bnext hb3' hb4; have hcx := cell_on hbw4 hc1 hbw; have hcy := cell_on hbw4 hc2 hbw))
                all_goals go_wp2
                all_goals go_roundg (l.length - (j + 1))
                all_goals first
                  | (case measure => omega)
                  | (case rel => exact ⟨j + 1, rfl, by omega, by go_num, HT.out, hbel.trans (hbw4.mono hq1)⟩)
              · have k1 : decide ((30 : Int) < (p.1.length : Int)) = false := decide_eq_false (by omega)
                have k2 : decide ((30 : Int) < (p.2.length : Int)) = true := decide_eq_true (by omega)
                have h2' : 30 < (p.2.length : Int) := by omega
                clear h2
                go_wp2
                go_quiet (fail)
                all_goals go_wp2
                all_goals go_ret
                all_goals exact ⟨rfl, hb1.trans (Below.mono (by first | exact hbel | exact below_drewN hbel _) hb1.size)⟩
            · have k1 : decide ((30 : Int) < (p.1.length : Int)) = true := decide_eq_true (by omega)
              have h1' : 30 < (p.1.length : Int) := by omega
              clear h1
              go_wp2
              go_quiet (fail)
              all_goals go_wp2
              all_goals go_ret
              all_goals exact ⟨rfl, hb1.trans (Below.mono (by first | exact hbel | exact below_drewN hbel _) hb1.size)⟩
          · obtain rfl : j = l.length := by omega
            have hall' := hall.out
            rw [List.take_length] at hall'
            have hmr := hm1.next hbel
            have hrw := hr1.next hbel
            have hrrw := hrr1.next hbel
            have hsl := rStrip_len l rs
            have C1 := Lib.hid fun w (h : Rd w w.heap.size A (prs l)) (h' : Rd w w.heap.size Ar (rls rs)) => strip_any A Ar k kr l rs w h h' (by omega) (by omega) (fun p hp => by have := hr30 p hp; omega) (fun p hp => by have := hall' p hp; omega)
            have C2 := Lib.hid fun w (h : Rd w w.heap.size A (prs l)) (h' : Rd w w.heap.size Ar (rls rs)) => rstrip_any A Ar k kr l rs w h h' (by omega) (by omega) (fun p hp => by have := hr30 p hp; omega) (fun p hp => by have := hall' p hp; omega)
            have C3 := Lib.hid fun A B c d w (h : Rd w w.heap.size A (prs (rStrip l rs))) (h' : Rd w w.heap.size B (prs (rStrip l rs))) => sameP_any A B c d (rStrip l rs) (rStrip l rs) w h h' (by omega) (by omega)
            rw [sameP_self] at C3
            have C4 := Lib.hid fun w (hm : ML w) (h : Rd w w.heap.size Ar (rls rs)) => rtext13_any s Ar kr rs w hm h (by omega) (by omega) (fun p hp => by have := hr30 p hp; omega)
            have C5 := Lib.hid fun w (hm : ML w) (h : Rd w w.heap.size Ar (rls rs)) => rrtext_any s Ar kr rs w hm h (by omega) (by omega) (fun p hp => by have := hr30 p hp; omega)
            have hfin : ((str (rText s rs)).toList == (str (rText s rs)).toList) = true := by simp
            clear hall' hall hsl
            go_wp2_with (first
              | (go_at_call 38; go_must (go_fit (C1.out wr hrw hrrw)); rintro e w2 ⟨v2, rfl, hown2, hb2⟩; obtain ⟨A2, c2, rfl, hc2, hm2, hx2⟩ := own_rdN hown2; have hr2 := hrw.next hb2; have hrr2 := hrrw.next hb2; have hml2 := hmr.next hb2)
              | (go_at_call 39; go_must (go_fit (C2.out w2 hr2 hrr2)); rintro e w3 ⟨v3, rfl, hown3, hb3⟩; obtain ⟨A3, c3, rfl, hc3, hm3, hx3⟩ := own_rdN hown3; have hrr3 := hrr2.next hb3; have hml3 := hml2.next hb3; have hy2 := hx2.next hb3)
              | (go_at_call 18; go_must (go_fit (C3.out A2 A3 c2 c3 w3 hy2 hx3)); rintro e w4 ⟨rfl, hb4⟩; have hrr4 := hrr3.next hb4; have hml4 := hml3.next hb4)
              | (go_at_call 40; go_must (go_fit (C4.out w4 hml4 hrr4)); rintro e w5 ⟨rfl, hb5⟩; have hrr5 := hrr4.next hb5; have hml5 := hml4.next hb5)
              | (go_at_call 41; go_must (go_fit (C5.out w5 hml5 hrr5)); rintro e w6 ⟨rfl, hb6⟩))
            go_ret
            exact ⟨rfl, hb1.trans ((bnext (bnext (bnext (bnext (bnext hbel hb2) hb3) hb4) hb5) hb6).mono hb1.size)⟩
      · have h100' : 100 < (s.length : Int) := by omega
        clear h100
        go_enter Tryd.func13, Tryd.ntmps13
        go_wp2_with (first
          | (go_at_call 34; go_must (go_fit (begun13_any w hm)); rintro e w1 ⟨rfl, hb1⟩)
          | (go_at_call 35; go_must (go_fit (CL.out w1 (hrr.next hb1))); rintro e w2 ⟨rfl, rfl⟩))
        go_ret
        exact ⟨rfl, hb1⟩
  · have h10' : 10 < (l.length : Int) := by omega
    clear h10
    go_enter Tryd.func13, Tryd.ntmps13
    go_wp2_with (go_at_call 34; go_must (go_fit (begun13_any w hm)); rintro e w1 ⟨rfl, hb1⟩)
    go_ret
    exact ⟨rfl, hb1⟩
end Go.Proofs.YtpoaeppapmbkpaaDoor

