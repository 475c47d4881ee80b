/- The walk of the statement RulesStay. -/
import Derived.Test.YtpoaeppapmbkpaaDoorLawRul
import Derived.Deep.RegionHeld3
namespace Go.Proofs.YtpoaeppapmbkpaaDoor
set_option linter.all false
open Go.RowKit

theorem rOut_one (n : List UInt8) (r : Ru) : rOut n [r] = rHit (lows n) r := by unfold rOut; simp
theorem any_next {α : Type} {P : α → Bool} {l : List α} {j : Nat} {x : α} (h : l[j]? = some x) : (l.take (j + 1)).any P = ((l.take j).any P || P x) := by
  obtain ⟨hj, e⟩ := List.getElem?_eq_some_iff.1 h
  rw [take_snoc' l j hj, e, List.any_append]; simp

set_option maxRecDepth 100000 in
set_option maxHeartbeats 16000000 in
theorem rulesStay_walk (A Ar : Option Addr) (k kr : Nat) (l : List Pr) (rs : List Ru) (w : World) (hm : ML w) (hr : Rd w w.heap.size A (prs l)) (hrr : Rd w w.heap.size Ar (rls rs)) (hlm : l.length ≤ maxLen) (hx : ∀ x ∈ l, x.1.length ≤ maxLen ∧ x.2.length ≤ maxLen) (hrm : rs.length ≤ maxLen) (hrx : ∀ x ∈ rs, x.1.length ≤ maxLen) :
    Calls Tryd.prog 16 #[.slice A l.length k, .slice Ar rs.length kr] w fun e w' => e = .returned (.bool true) ∧ Below w.heap.size w w' := by
  have HX := Lib.hid hx
  clear hx
  unfold maxLen at hlm hrm hrx
  have CL := Lib.hid fun w (h : Rd w w.heap.size Ar (rls rs)) => light_any Ar kr rs w h (by omega) hrx
  by_cases h10 : (l.length : Int) ≤ 10
  · by_cases h6 : (rs.length : Int) ≤ 6
    · cases hlb : lightB rs with
      | false =>
        rw [hlb] at CL
        clear hlb
        go_enter Tryd.func16, Tryd.ntmps16
        go_wp2_with (first
          | (go_at_call 34; go_must (go_fit (begun13_any w hm)); rintro e w1 ⟨rfl, hb1⟩)
          | (go_at_call 35; go_must (go_fit (CL.out w1 (hrr.next hb1))); rintro e w2 ⟨rfl, rfl⟩))
        go_ret
        exact ⟨rfl, hb1⟩
      | true =>
        obtain ⟨hr10, hr30⟩ := light_short hlb
        rw [hlb] at CL
        clear hlb
        have HR30 := Lib.hid hr30
        clear hr30 hrx
        go_enter Tryd.func16, Tryd.ntmps16
        go_wp2_with (first
          | (go_at_call 34; go_must (go_fit (begun13_any w hm)); rintro e w1 ⟨rfl, hb1⟩; have hm1 := hm.next hb1; have hr1 := hr.next hb1; have hrr1 := hrr.next hb1)
          | (go_at_call 35; go_must (go_fit (CL.out w1 hrr1)); rintro e w2 ⟨rfl, rfl⟩))
        go_loopg [5, 6] (l.length) (fun k s5 s6 wr => ∃ j : Nat, k = l.length - j ∧ j ≤ l.length ∧ s6 = .int .i64 j ∧ Hid (∀ x ∈ l.take j, x.1.length ≤ 30 ∧ x.2.length ≤ 30) ∧ wr.ownsRow w1.heap.size 25 2 s5 ((l.take j).filter (keeps rs)).length (prs ((l.take j).filter (keeps rs))) ∧ Below w1.heap.size w1 wr)
        case atStart => exact ⟨0, rfl, Nat.zero_le _, rfl, (fun x hx => by rw [List.take_zero] at hx; cases hx), World.ownsRow_nil _ _ _ _, Below.refl _ _⟩
        case round =>
          obtain ⟨j, rfl, hj, rfl, hall, hown, hbel⟩ := hrel
          obtain ⟨A3, c3, rfl, hc3, hm3⟩ := own_shape hown
          have hq1 := hbel.size
          have hfl : ((l.take j).filter (keeps rs)).length ≤ 10 := by
            have := List.length_filter_le (keeps rs) (l.take j)
            rw [List.length_take] at this; omega
          by_cases hlt : j < l.length
          · obtain ⟨b, off, p, rfl, hb, hc1, hc2, hx⟩ := (hr1.below hbel).pair_at hlt
            have hlt1 : (j : Int) < (l.length : Int) := by omega
            have hj0 : (0 : Int) ≤ (j : Int) := by omega
            have hpm := HX.out p (List.mem_of_getElem? hx.out)
            unfold maxLen at hpm
            have z1 := str_size p.1
            have z2 := str_size p.2
            by_cases h1 : (p.1.length : Int) ≤ 30
            · by_cases h2 : (p.2.length : Int) ≤ 30
              · have HT := Lib.hid (takeAll hx.out hall.out (show p.1.length ≤ 30 ∧ p.2.length ≤ 30 from ⟨by omega, by omega⟩))
                have HN := Lib.hid (piece_take (f := keeps rs) hx.out)
                go_wp2
                obtain ⟨wo, hwo⟩ : ∃ wo : World, wo = wr := ⟨_, rfl⟩
                subst hwo
                have hbo : b < wo.heap.size := by omega
                have hrrw := hrr1.next hbel
                go_loopg [7, 8] (rs.length) (fun k s7 s8 wr => ∃ i : Nat, k = rs.length - i ∧ i ≤ rs.length ∧ s8 = .int .i64 i ∧ s7 = .bool ((rs.take i).any (rHit (lows p.1))) ∧ Below wo.heap.size wo wr)
                case atStart => exact ⟨0, rfl, Nat.zero_le _, rfl, rfl, Below.refl _ _⟩
                case round =>
                  obtain ⟨i, rfl, hi, rfl, rfl, hbi⟩ := hrel
                  have hqi := hbi.size
                  have hd1 := cell_on hbi hc1 hbo
                  have hd2 := cell_on hbi hc2 hbo
                  by_cases hlti : i < rs.length
                  · obtain ⟨br, offr, r, hAr, hbr, he1, he2, hxr⟩ := (hrrw.below hbi).rule_at hlti
                    subst hAr
                    have hlti1 : (i : Int) < (rs.length : Int) := by omega
                    have hi0 : (0 : Int) ≤ (i : Int) := by omega
                    have hrl := HR30.out r (List.mem_of_getElem? hxr.out)
                    have HA := Lib.hid (any_next (P := rHit (lows p.1)) hxr.out)
                    obtain ⟨S, hS⟩ : ∃ S, S = (rs.take i).any (rHit (lows p.1)) := ⟨_, rfl⟩
                    rw [← hS] at HA ⊢
                    clear hS
                    cases S with
                    | true =>
                      go_wp2
                      go_quiet (fail)
                      all_goals go_wp2
                      all_goals go_roundg (rs.length - (i + 1))
                      all_goals first
                        | (case measure => omega)
                        | (case rel => exact ⟨i + 1, rfl, by omega, by go_num, by rw [HA.out]; rfl, by first | exact hbi | exact below_drewN hbi _⟩)
                    | false =>
                      have C1 := Lib.hid fun A w (h : Rd w w.heap.size A (rls [r])) => out_any p A 1 [r] w h (by simp) (fun p hp => by rw [List.mem_singleton.1 hp]; omega) (by omega)
                      rw [rOut_one] at C1
                      have hbrw : br < wr.heap.size := by omega
                      have hlit : Rd (wr.alloc (.cells #[.string (str r.1), .bool r.2] 52)).drew (wr.alloc (.cells #[.string (str r.1), .bool r.2] 52)).drew.heap.size (some ⟨wr.heap.size, 0, none⟩) (rls [r]) := by
                        have h := @Rd.lit wr #[.string (str r.1), .bool r.2] 52 (0, 0)
                        exact h
                      have HL := Lib.hid hlit
                      clear hlit
                      have f1 : (wr.alloc (.cells #[.string (str r.1), .bool r.2] 52)).drew.cell? ⟨b, off + j * 2, none⟩ = some (.string (str p.1)) := (World.cell?_alloc_lt wr _ _ (by simp; omega)).trans hd1
                      have f2 : (wr.alloc (.cells #[.string (str r.1), .bool r.2] 52)).drew.cell? ⟨b, off + j * 2 + 1, none⟩ = some (.string (str p.2)) := (World.cell?_alloc_lt wr _ _ (by simp; omega)).trans hd2
                      have f3 : (wr.alloc (.cells #[.string (str r.1), .bool r.2] 52)).drew.cell? ⟨br, offr + i * 2, none⟩ = some (.string (str r.1)) := (World.cell?_alloc_lt wr _ _ (by simp; omega)).trans he1
                      have f4 : (wr.alloc (.cells #[.string (str r.1), .bool r.2] 52)).drew.cell? ⟨br, offr + i * 2 + 1, none⟩ = some (.bool r.2) := (World.cell?_alloc_lt wr _ _ (by simp; omega)).trans he2
                      go_wp2
                      go_region_held3 (fun w' => w'.cell? ⟨b, off + j * 2, none⟩ = some (.string (str p.1)) ∧ w'.cell? ⟨b, off + j * 2 + 1, none⟩ = some (.string (str p.2)) ∧ w'.cell? ⟨br, offr + i * 2, none⟩ = some (.string (str r.1)) ∧ w'.cell? ⟨br, offr + i * 2 + 1, none⟩ = some (.bool r.2)) (first | exact ⟨hd1, hd2, he1, he2⟩ | exact ⟨f1, f2, f3, f4⟩ | exact ⟨g1, g2, g3, g4⟩) (first
                        | (go_at_call 36; go_fit (C1.out _ _ HL.out); rintro e w4 ⟨rfl, hb4⟩; have hb4' : Below wr.heap.size wr w4 := (Below.drew (bnew (Below.refl _ _) _)).trans (hb4.mono (by simp)); have g1 := cell_on hb4' hd1 (by omega); have g2 := cell_on hb4' hd2 (by omega); have g3 := cell_on hb4' he1 hbrw; have g4 := cell_on hb4' he2 hbrw))
                      all_goals go_wp2
                      all_goals go_roundg (rs.length - (i + 1))
                      all_goals first
                        | (case measure => omega)
                        | (case rel => exact ⟨i + 1, rfl, by omega, by go_num, by rw [HA.out, Bool.false_or], hbi.trans (hb4'.mono hqi)⟩)
                  · obtain rfl : i = rs.length := by omega
                    rw [List.take_length]
                    have hownr := own_below hown hbi (Nat.le_refl _)
                    have hrrr := hrrw.next hbi
                    have C := Lib.hid (out_any p Ar kr rs wr hrrr (by omega) (fun p hp => by have := HR30.out p hp; omega) (by omega))
                    rw [show rOut p.1 rs = rs.any (rHit (lows p.1)) from rfl] at C
                    have HK := Lib.hid (show keeps rs p = !(rs.any (rHit (lows p.1))) from rfl)
                    obtain ⟨S, hS⟩ : ∃ S, S = rs.any (rHit (lows p.1)) := ⟨_, rfl⟩
                    rw [← hS] at C HK ⊢
                    clear hS
                    have hbr := hbel.trans (hbi.mono hq1)
                    cases S with
                    | true =>
                      rw [HK.out, if_neg (by decide), List.append_nil] at HN
                      go_wp2_with (go_at_call 36; go_must (go_fit C.out); rintro e w4 ⟨rfl, hb4⟩)
                      go_roundg (l.length - (j + 1))
                      case measure => omega
                      case rel => exact ⟨j + 1, rfl, by omega, by go_num, HT.out, by rw [HN.out]; exact own_below hownr hb4 (Nat.le_refl _), hbr.trans (hb4.mono hbr.size)⟩
                    | false =>
                      rw [HK.out, if_pos (by rfl)] at HN
                      have hqr := hbr.size
                      go_wp2_with (first
                        | (go_at_call 36; go_must (go_fit C.out); rintro e w4 ⟨rfl, hb4⟩; have hf1 := cell_on hb4 hd1 (by omega); have hf2 := cell_on hb4 hd2 (by omega); have hown4 := own_below hownr hb4 (Nat.le_refl _); have hq4 := hb4.size)
                        | (at_builtin; refine wpList_append_lit rfl _ _ _ rfl w1.heap.size _ _ 2 32 Tryd.underlying22 info_pair rfl (by decide) _ _ _ rfl hown4 _ 1 1 _ rfl rfl (by simp [Value.oneCell']) (by omega) (by decide) (by omega) ?_; intro A5 c5 w5 hc5 hm5 hown5 hb5 hg5))
                      go_roundg (l.length - (j + 1))
                      case measure => omega
                      case rel => exact ⟨j + 1, rfl, by omega, by go_num, HT.out, own_as hown5 (by rw [HN.out, List.length_append]; rfl) (by rw [HN.out, prs_append]; rfl), (hbr.trans (hb4.mono hbr.size)).trans hb5⟩
              · have h2' : 30 < (p.2.length : Int) := by omega
                clear h2
                go_wp2
                go_ret
                exact ⟨rfl, hb1.trans (hbel.mono hb1.size)⟩
            · have h1' : 30 < (p.1.length : Int) := by omega
              clear h1
              go_wp2
              go_ret
              exact ⟨rfl, hb1.trans (hbel.mono hb1.size)⟩
          · obtain rfl : j = l.length := by omega
            have hall' := hall.out
            rw [List.take_length] at hall'
            have hrw := hr1.next hbel
            have hrrw := hrr1.next hbel
            have hsl := rStrip_len l rs
            rw [List.take_length] at hown hc3 hfl ⊢
            obtain ⟨A9, c9, e9, _, _, hx9⟩ := own_rdN hown
            injection e9 with e9 _ e8
            subst e9 e8
            have hM : rStrip l rs = l.filter (keeps rs) := rfl
            have C1 := Lib.hid fun w (h : Rd w w.heap.size A (prs l)) (h' : Rd w w.heap.size Ar (rls rs)) => strip_any A Ar k kr l rs w h h' (by omega) (by omega) (fun p hp => by have := HR30.out p hp; omega) (fun p hp => by have := hall' p hp; omega)
            have C2 := Lib.hid fun A k w (h : Rd w w.heap.size A (prs (rStrip l rs))) (h' : Rd w w.heap.size Ar (rls rs)) => strip_any A Ar k kr (rStrip l rs) rs w h h' (by omega) (by omega) (fun p hp => by have := HR30.out p hp; omega) (fun p hp => by have := hall' p ((List.mem_filter.1 hp).1); omega)
            rw [rStrip_twice] at C2
            rw [hM] at C1 C2 hsl
            obtain ⟨M, hMM⟩ : ∃ M, M = l.filter (keeps rs) := ⟨_, rfl⟩
            rw [← hMM] at C1 C2 hx9 hsl hc3 ⊢
            have C3 := Lib.hid fun A B c d w (h : Rd w w.heap.size A (prs M)) (h' : Rd w w.heap.size B (prs M)) => sameP_any A B c d M M w h h' (by omega) (by omega)
            rw [sameP_self] at C3
            clear hall' hall hM hMM hown hfl
            go_wp2_with (first
              | (go_at_call 38; go_fit (C1.out wr hrw hrrw); rintro e w2 ⟨v2, rfl, hown2, hb2⟩; obtain ⟨A2, c2, rfl, hc2, hm2, hx2⟩ := own_rdN hown2; have hrr2 := hrrw.next hb2; have hx92 := hx9.next hb2)
              | (go_at_call 18; go_fit (C3.out A2 A3 c2 c3 w2 hx2 hx92); rintro e w4 ⟨rfl, hb4⟩; have hx24 := hx2.next hb4; have hrr4 := hrr2.next hb4; have hx94 := hx92.next hb4)
              | (go_at_call 38; go_fit (C2.out A2 c2 w4 hx24 hrr4); rintro e w5 ⟨v5, rfl, hown5, hb5⟩; obtain ⟨A5, c5, rfl, hc5, hm5, hx5⟩ := own_rdN hown5; have hx95 := hx94.next hb5)
              | (go_at_call 18; go_fit (C3.out A5 A3 c5 c3 w5 hx5 hx95); rintro e w6 ⟨rfl, hb6⟩))
            go_ret
            exact ⟨rfl, hb1.trans ((bnext (bnext (bnext (bnext hbel hb2) hb4) hb5) hb6).mono hb1.size)⟩
    · have h6' : 6 < (rs.length : Int) := by omega
      clear h6
      go_enter Tryd.func16, Tryd.ntmps16
      go_wp2_with (go_at_call 34; go_must (go_fit (begun13_any w hm)); rintro e w1 ⟨rfl, hb1⟩)
      go_ret
      exact ⟨rfl, hb1⟩
  · have h10' : 10 < (l.length : Int) := by omega
    clear h10
    go_enter Tryd.func16, Tryd.ntmps16
    go_wp2_with (go_at_call 34; go_must (go_fit (begun13_any w hm)); rintro e w1 ⟨rfl, hb1⟩)
    go_ret
    exact ⟨rfl, hb1⟩
end Go.Proofs.YtpoaeppapmbkpaaDoor

