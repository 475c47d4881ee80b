/- The walks of the statements of layer 11, query: begun, QueryAll, QueryParts. -/
import Derived.Test.YtpoaeppapmbkpaaDoorQryS
import Derived.Test.YtpoaeppapmbkpaaDoorQryT
import Derived.Test.YtpoaeppapmbkpaaDoorQryU
import Derived.Test.YtpoaeppapmbkpaaDoorAppN
namespace Go.Proofs.YtpoaeppapmbkpaaDoor
set_option linter.all false
open Go.RowKit

set_option maxRecDepth 100000 in
set_option maxHeartbeats 4000000 in
theorem begun11_any (w : World) (hm : ML w) : Calls Tryd.prog 17 #[] w fun e w' => e = .returned (.bool true) ∧ Below w.heap.size w w' := by
  have p1 : qPairs [97, 61, 98, 43, 99, 38, 100] = [([97], [98, 32, 99]), ([100], [])] := by decide +kernel
  have p2 : qShow [([97], [98, 32, 99]), ([100], [])] = [97, 61, 98, 43, 99, 38, 100, 61] := by decide +kernel
  have C1 := Lib.hid (qparse_any [97, 61, 98, 43, 99, 38, 100] w hm (by decide))
  have C2 := Lib.hid fun A c w (h : Rd w w.heap.size A (prs [([97], [98, 32, 99]), ([100], [])])) => qshow_any A c [([97], [98, 32, 99]), ([100], [])] w h (by decide) (by decide)
  rw [p1] at C1
  rw [p2] at C2
  clear p1 p2
  have t1 : (str [97, 61, 98, 43, 99, 38, 100, 61]).toList = [97, 61, 98, 43, 99, 38, 100, 61] := str_toL _
  have t2 : (str [98, 32, 99]).toList = [98, 32, 99] := str_toL _
  have t3 : (str [100]).toList = [100] := str_toL _
  go_enter Tryd.func17, Tryd.ntmps17
  go_wp2_with (first
    | (go_at_call 19; go_must (go_fit C1.out); rintro e w1 ⟨v1, rfl, hown1, hb1⟩; obtain ⟨A1, c1, rfl, hc1, hm1, hx1⟩ := own_rdN hown1; obtain ⟨g1, o1, rfl, hg1, hce1⟩ := hx1 (by decide); have hcz := hce1 1 (.string (str [98, 32, 99])) rfl; have hcy := hce1 2 (.string (str [100])) rfl; clear hce1)
    | (go_at_call 21; go_must (go_fit (C2.out _ c1 w1 hx1)); rintro e w2 ⟨rfl, hb2⟩))
  go_ret
  exact ⟨rfl, bnext hb1 hb2⟩


set_option maxRecDepth 100000 in
set_option maxHeartbeats 8000000 in
theorem queryAll_walk (s : List UInt8) (A : Option Addr) (k : Nat) (l : List Pr) (w : World) (hm : ML w) (hr : Rd w w.heap.size A (prs l)) (hlm : l.length ≤ maxLen) (hx : ∀ x ∈ l, x.1.length ≤ maxLen ∧ x.2.length ≤ maxLen) (hsm : s.length ≤ maxLen) :
    Calls Tryd.prog 3 #[.string (str s), .slice A l.length k] w fun e w' => e = .returned (.bool true) ∧ Below w.heap.size w w' := by
  have HX := Lib.hid hx
  clear hx
  unfold maxLen at hlm hsm
  have hsz := str_size s
  by_cases h200 : (s.length : Int) ≤ 200
  · by_cases h10 : (l.length : Int) ≤ 10
    · skip
      go_enter Tryd.func3, Tryd.ntmps3
      go_wp2_with (go_at_call 17; go_must (go_fit (begun11_any w hm)); rintro e w1 ⟨rfl, hb1⟩; have hm1 := hm.next hb1; have hr1 := hr.next hb1)
      go_loopg [5] (l.length) (fun k i wr => ∃ j : Nat, k = l.length - j ∧ j ≤ l.length ∧ i = .int .i64 j ∧ Hid (∀ x ∈ l.take j, x.1.length ≤ 30 ∧ x.2.length ≤ 30) ∧ w1 = wr)
      case atStart => exact ⟨0, rfl, Nat.zero_le _, rfl, (fun x hx => by rw [List.take_zero] at hx; cases hx), rfl⟩
      case round =>
        obtain ⟨j, rfl, hj, rfl, hall, rfl⟩ := hrel
        by_cases hlt : j < l.length
        · obtain ⟨b, off, p, rfl, hb, hc1, hc2, hx⟩ := hr1.pair_at hlt
          have hlt1 : (j : Int) < (l.length : Int) := by omega
          have hj0 : (0 : Int) ≤ (j : Int) := by omega
          have hpm := HX.out p (List.mem_of_getElem? hx.out)
          unfold maxLen at hpm
          have z1 := str_size p.1
          have z2 := str_size p.2
          by_cases h1 : (p.1.length : Int) ≤ 30
          · by_cases h2 : (p.2.length : Int) ≤ 30
            · have HT := Lib.hid (takeAll hx.out hall.out (show p.1.length ≤ 30 ∧ p.2.length ≤ 30 from ⟨by omega, by omega⟩))
              go_wp2
              go_roundg (l.length - (j + 1))
              case measure => omega
              case rel => exact ⟨j + 1, rfl, by omega, by go_num, HT.out, rfl⟩
            · have h2' : 30 < (p.2.length : Int) := by omega
              clear h2
              go_wp2
              go_ret
              exact ⟨rfl, hb1⟩
          · have h1' : 30 < (p.1.length : Int) := by omega
            clear h1
            go_wp2
            go_ret
            exact ⟨rfl, hb1⟩
        · obtain rfl : j = l.length := by omega
          have hall' := hall.out
          rw [List.take_length] at hall'
          have C1 := Lib.hid (qparse_any s w1 hm1 (by omega))
          have C2 := Lib.hid fun w => rquery_any s w (by omega)
          have C3 := Lib.hid fun A B c d w (h : Rd w w.heap.size A (prs (qPairs s))) (h' : Rd w w.heap.size B (prs (qPairs s))) => sameP_any A B c d (qPairs s) (qPairs s) w h h' (by have := qPairs_len s; omega) (by have := qPairs_len s; omega)
          rw [sameP_self] at C3
          have C4 := Lib.hid fun w (h : Rd w w.heap.size A (prs l)) => qshow_any A k l w h (by omega) (fun p hp => by have := hall' p hp; omega)
          have C5 := Lib.hid fun w (h : Rd w w.heap.size A (prs l)) => rshow_any A k l w h (by omega) (fun p hp => by have := hall' p hp; omega)
          have hfin : ((str (qShow l)).toList == (str (qShow l)).toList) = true := by simp
          clear hall' hall
          go_wp2_with (first
            | (go_at_call 19; go_must (go_fit C1.out); rintro e w2 ⟨v2, rfl, hown2, hb2⟩; obtain ⟨A2, c2, rfl, hc2, hm2, hx2⟩ := own_rdN hown2; have hr2 := hr1.next hb2)
            | (go_at_call 20; go_must (go_fit (C2.out w2)); rintro e w3 ⟨v3, rfl, hown3, hb3⟩; obtain ⟨A3, c3, rfl, hc3, hm3, hx3⟩ := own_rdN hown3; have hr3 := hr2.next hb3; have hy2 := hx2.next hb3)
            | (go_at_call 18; go_must (go_fit (C3.out A2 A3 c2 c3 w3 hy2 hx3)); rintro e w4 ⟨rfl, hb4⟩; have hr4 := hr3.next hb4)
            | (go_at_call 21; go_must (go_fit (C4.out w4 hr4)); rintro e w5 ⟨rfl, hb5⟩; have hr5 := hr4.next hb5)
            | (go_at_call 22; go_must (go_fit (C5.out w5 hr5)); rintro e w6 ⟨rfl, hb6⟩))
          go_ret
          exact ⟨rfl, bnext (bnext (bnext (bnext (bnext hb1 hb2) hb3) hb4) hb5) hb6⟩
    · have h10' : 10 < (l.length : Int) := by omega
      clear h10
      go_enter Tryd.func3, Tryd.ntmps3
      go_wp2_with (go_at_call 17; go_must (go_fit (begun11_any w hm)); rintro e w1 ⟨rfl, hb1⟩)
      go_ret
      exact ⟨rfl, hb1⟩
  · have h200' : 200 < (s.length : Int) := by omega
    clear h200
    go_enter Tryd.func3, Tryd.ntmps3
    go_wp2_with (go_at_call 17; go_must (go_fit (begun11_any w hm)); rintro e w1 ⟨rfl, hb1⟩)
    go_ret
    exact ⟨rfl, hb1⟩

set_option maxRecDepth 100000 in
set_option maxHeartbeats 8000000 in
theorem queryParts_walk (a b : List UInt8) (w : World) (hm : ML w) (ham : a.length ≤ maxLen) (hbm : b.length ≤ maxLen) :
    Calls Tryd.prog 5 #[.string (str a), .string (str b)] w fun e w' => e = .returned (.bool true) ∧ Below w.heap.size w w' := by
  unfold maxLen at ham hbm
  have hsa := str_size a
  have hsb := str_size b
  by_cases h1 : (a.length : Int) ≤ 60
  · by_cases h2 : (b.length : Int) ≤ 60
    · have C1 := Lib.hid fun w (h : ML w) => qparse_any a w h (by omega)
      have C2 := Lib.hid fun w (h : ML w) => qparse_any b w h (by omega)
      have la : (qPairs a).length ≤ 40 := by rw [qPairs_len]; omega
      have lb : (qPairs b).length ≤ 40 := by rw [qPairs_len]; omega
      obtain ⟨X, hX⟩ : ∃ X, X = qPairs a := ⟨_, rfl⟩
      obtain ⟨Y, hY⟩ : ∃ Y, Y = qPairs b := ⟨_, rfl⟩
      rw [← hX] at C1 la
      rw [← hY] at C2 lb
      by_cases h40 : (X.length : Int) + (Y.length : Int) ≤ 40
      · have e1 : str a ++ { data := #[38] } = str (a ++ [38]) := str_app a [38]
        obtain ⟨T, hT⟩ : ∃ T, T = a ++ [38] := ⟨_, rfl⟩
        rw [← hT] at e1
        have e2 := str_app T b
        have hsT := str_size T
        have hTl : T.length = a.length + 1 := by rw [hT, List.length_append]; rfl
        obtain ⟨U, hU⟩ : ∃ U, U = T ++ b := ⟨_, rfl⟩
        rw [← hU] at e2
        have hUl : U.length ≤ 200 := by rw [hU, List.length_append]; omega
        have hk1 : (9223372036854775807 < a.length + 1) = False := eq_false (by omega)
        have hk2 : (9223372036854775807 < T.length + b.length) = False := eq_false (by omega)
        have C3 := Lib.hid fun w (h : ML w) => qparse_any U w h (by omega)
        rw [show qPairs U = X ++ Y by rw [hU, hT, show (a ++ [38]) ++ b = a ++ 38 :: b from by simp, hX, hY]; exact qPairs_side (by rw [← hX, ← hY]; omega)] at C3
        have C4 := Lib.hid fun A B c d w (h : Rd w w.heap.size A (prs (X ++ Y))) (h' : Rd w w.heap.size B (prs (X ++ Y))) => sameP_any A B c d (X ++ Y) (X ++ Y) w h h' (by rw [List.length_append]; omega) (by rw [List.length_append]; omega)
        rw [sameP_self, List.length_append] at C4
        rw [List.length_append, prs_append] at C3
        rw [prs_append] at C4
        have hpx := prs_len X
        have hpy := prs_len Y
        have HO1 := Lib.hid (prs_one X)
        have HO2 := Lib.hid (prs_one Y)
        clear hX hY hT hU
        go_enter Tryd.func5, Tryd.ntmps5
        go_wp2_with (first
          | (go_at_call 17; go_must (go_fit (begun11_any w hm)); rintro e w1 ⟨rfl, hb1⟩; have hm1 := hm.next hb1)
          | (go_at_call 19; go_fit (C1.out w1 hm1); rintro e w2 ⟨v2, rfl, hown2, hb2⟩; obtain ⟨A2, c2, rfl, hc2, hq2, hx2⟩ := own_rdN hown2; have hm2 := hm1.next hb2)
          | (go_at_call 19; go_fit (C2.out w2 hm2); rintro e w3 ⟨v3, rfl, hown3, hb3⟩; obtain ⟨A3, c3, rfl, hc3, hq3, hx3⟩ := own_rdN hown3; have hm3 := hm2.next hb3; have hx23 := hx2.next hb3)
          | (go_at_call 19; go_fit (C3.out w3 hm3); rintro e w4 ⟨v4, rfl, hown4, hb4⟩; obtain ⟨A4, c4, rfl, hc4, hq4, hx4⟩ := own_rdN hown4; have hx24 := hx23.next hb4; have hx34 := hx3.next hb4)
          | (at_builtin; go_loud (refine wpList_append_rdN rfl _ _ _ rfl w4.heap.size _ _ 2 32 Tryd.underlying22 info_pair rfl (by decide) _ 0 [] rfl (show (w4.alloc (.cells #[] 25)).ownsRow w4.heap.size 25 2 (.slice (some ⟨w4.heap.size, 0, none⟩) 0 0) 0 [] from World.ownsRow_made w4 #[] 0 (Nat.le_refl _) (Nat.zero_le _) rfl) _ A2 X.length c2 (prs X) rfl hpx (hx24.new _) HO1.out (by omega) (by decide) (by simp) ?_; intro A5 c5 w5 hc5 hq5 hown5 hb5 hg5; simp only [Nat.zero_add, List.nil_append] at hown5 hc5; have hb5' : Below w4.heap.size w4 w5 := (bnew (Below.refl _ _) _).trans hb5; have hx35 := hx34.next hb5'; have hx45 := hx4.next hb5'))
          | (at_builtin; refine wpList_append_rdN rfl _ _ _ rfl w4.heap.size _ _ 2 32 Tryd.underlying22 info_pair rfl (by decide) _ _ _ rfl hown5 _ A3 Y.length c3 (prs Y) rfl hpy hx35 HO2.out (by omega) (by decide) hb5'.size ?_; intro A6 c6 w6 hc6 hq6 hown6 hb6 hg6; have hb6' : Below w4.heap.size w4 w6 := hb5'.trans hb6; have hx46 := hx4.next hb6'; obtain ⟨A7, c7, e7, _, _, hx6⟩ := own_rdN hown6; injection e7 with e7 _ e8; subst e7 e8)
          | (go_at_call 18; go_must (go_fit (C4.out A4 A6 c4 c6 w6 hx46 hx6)); rintro e w7 ⟨rfl, hb7⟩))
        go_ret
        exact ⟨rfl, bnext (bnext (bnext (bnext (bnext hb1 hb2) hb3) hb4) hb6') hb7⟩
      · have h40' : 40 < (X.length : Int) + (Y.length : Int) := by omega
        clear h40 hX hY
        go_enter Tryd.func5, Tryd.ntmps5
        go_wp2_with (first
          | (go_at_call 17; go_must (go_fit (begun11_any w hm)); rintro e w1 ⟨rfl, hb1⟩; have hm1 := hm.next hb1)
          | (go_at_call 19; go_fit (C1.out w1 hm1); rintro e w2 ⟨v2, rfl, hown2, hb2⟩; obtain ⟨A2, c2, rfl, hc2, hq2, hx2⟩ := own_rdN hown2; have hm2 := hm1.next hb2)
          | (go_at_call 19; go_fit (C2.out w2 hm2); rintro e w3 ⟨v3, rfl, hown3, hb3⟩; obtain ⟨A3, c3, rfl, hc3, hq3, hx3⟩ := own_rdN hown3))
        go_ret
        exact ⟨rfl, bnext (bnext hb1 hb2) hb3⟩
    · have h2' : 60 < (b.length : Int) := by omega
      clear h2
      go_enter Tryd.func5, Tryd.ntmps5
      go_wp2_with (go_at_call 17; go_must (go_fit (begun11_any w hm)); rintro e w1 ⟨rfl, hb1⟩)
      go_ret
      exact ⟨rfl, hb1⟩
  · have h1' : 60 < (a.length : Int) := by omega
    clear h1
    go_enter Tryd.func5, Tryd.ntmps5
    go_wp2_with (go_at_call 17; go_must (go_fit (begun11_any w hm)); rintro e w1 ⟨rfl, hb1⟩)
    go_ret
    exact ⟨rfl, hb1⟩
end Go.Proofs.YtpoaeppapmbkpaaDoor

