/- The walks of rules.Strip, rules.Text, and the reference's Out, Strip, Text. -/
import Derived.Test.YtpoaeppapmbkpaaDoorRulC
import Derived.Test.YtpoaeppapmbkpaaDoorQryS
import Derived.Test.YtpoaeppapmbkpaaDoorQryU
namespace Go.Proofs.YtpoaeppapmbkpaaDoor
set_option linter.all false
open Go.RowKit

set_option maxRecDepth 100000 in
set_option maxHeartbeats 4000000 in
theorem strip_any (A Ar : Option Addr) (c cr : Nat) (l : List Pr) (rs : List Ru) (w : World) (hr : Rd w w.heap.size A (prs l)) (hrr : Rd w w.heap.size Ar (rls rs)) (hl : l.length ≤ 100000) (hrl : rs.length ≤ 1000000) (hrp : ∀ p ∈ rs, p.1.length ≤ 1000000) (hp : ∀ p ∈ l, p.1.length ≤ 1000000) :
    Calls Tryd.prog 38 #[.slice A l.length c, .slice Ar rs.length cr] w fun e w' => ∃ v', e = .returned v' ∧ w'.ownsRow w.heap.size 25 2 v' (rStrip l rs).length (prs (rStrip l rs)) ∧ Below w.heap.size w w' := by
  have HP := Lib.hid hp
  have HR := Lib.hid hrp
  clear hp hrp
  have hx : (w.alloc (.cells #[.slice Ar rs.length cr] 44)).cell? ⟨w.heap.size, 0, none⟩ = some (.slice Ar rs.length cr) := by rw [cell_of_row _ _ 0 _ _ _ (heap_alloc_new w _)]; rfl
  have C1 := Lib.hid (cloneP_any A c l (w.alloc (.cells #[.slice Ar rs.length cr] 44)) (hr.new _) (by omega))
  have hr1 : Rd (w.alloc (.cells #[.slice Ar rs.length cr] 44)) (w.heap.size + 1) Ar (rls rs) := by
    have := hrr.new (.cells #[.slice Ar rs.length cr] 44); simpa using this
  have hs : (w.alloc (.cells #[.slice Ar rs.length cr] 44)).heap.size = w.heap.size + 1 := by simp
  rw [hs] at C1
  have HS := Lib.hid hs
  clear hs
  go_enter Tryd.func38, Tryd.ntmps38
  go_wp2_with (first
    | (go_at_call 64; go_must (go_fit C1.out); rintro e w1 ⟨v1, rfl, hown1, hb1⟩; have hx1 := cell_on hb1 hx (by omega); have hr2 := hr1.below hb1; have hq1 := hb1.size; rw [HS.out] at hq1)
    | (go_at_call 63; go_must (go_fit (del_any w.heap.size (w.heap.size + 1) Ar cr rs v1 l w1 hown1 hx1 (by omega) hr2 hq1 hl hrl HR.out HP.out)); rintro e w2 ⟨v2, rfl, hown2, hb2⟩))
  go_ret
  exact ⟨_, rfl, own_base hown2 (by omega), ((bnew (Below.refl _ _) _).trans (hb1.mono (by omega))).trans (hb2.mono (by omega))⟩

theorem isPre (x n : List UInt8) : x.isPrefixOf n = decide (x.length ≤ n.length ∧ tk n x.length = x) := by
  rw [Bool.eq_iff_iff, List.isPrefixOf_iff_prefix, decide_eq_true_iff]
  constructor
  · intro h
    exact ⟨h.length_le, (List.prefix_iff_eq_take.1 h).symm⟩
  · intro h
    exact List.prefix_iff_eq_take.2 h.2.symm

set_option maxRecDepth 100000 in
set_option maxHeartbeats 8000000 in
theorem rout_any (p : Pr) (A : Option Addr) (c : Nat) (l : List Ru) (w : World) (hr : Rd w w.heap.size A (rls l)) (hl : l.length ≤ 1000000) (hp : ∀ p ∈ l, p.1.length ≤ 1000000) (hpn : p.1.length ≤ 1000000) :
    Calls Tryd.prog 37 #[.agg #[.string (str p.1), .string (str p.2)], .slice A l.length c] w fun e w' => e = .returned (.bool (rOut p.1 l)) ∧ Below w.heap.size w w' := by
  have C1 := Lib.hid fun w => lowr_any p.1 w hpn
  have HP := Lib.hid hp
  have hnl : (lows p.1).length ≤ 1000000 := by rw [lows_len]; exact hpn
  obtain ⟨n, hn0⟩ : ∃ n, n = lows p.1 := ⟨_, rfl⟩
  have HU := Lib.hid (show rOut p.1 l = l.any (rHit n) by rw [hn0]; rfl)
  rw [← hn0] at C1 hnl
  clear hn0 hp
  have hr0 : Rd (w.alloc (.cells #[.string (str p.1), .string (str p.2)] 25)) (w.alloc (.cells #[.string (str p.1), .string (str p.2)] 25)).heap.size A (rls l) := hr.new _
  have hbw : Below w.heap.size w (w.alloc (.cells #[.string (str p.1), .string (str p.2)] 25)) := bnew (Below.refl _ _) _
  have hszn := str_size n
  go_enter Tryd.func37, Tryd.ntmps37
  go_wp2_with (go_at_call 56; go_must (go_fit (C1.out _)); rintro e w1 ⟨rfl, hb1⟩; have hr1 := hr0.next hb1; have hbw1 := bnext hbw hb1)
  clear hb1
  go_loopg [6] (l.length) (fun k i wr => ∃ j : Nat, k = l.length - j ∧ j ≤ l.length ∧ i = .int .i64 j ∧ Hid ((l.take j).any (rHit n) = false) ∧ Below w1.heap.size w1 wr)
  case atStart => exact ⟨0, rfl, Nat.zero_le _, rfl, rfl, Below.refl _ _⟩
  case round =>
    obtain ⟨j, rfl, hj, rfl, hn, hbel⟩ := hrel
    have hq0 := hbel.size
    by_cases hlt : j < l.length
    · obtain ⟨b, off, r, rfl, hb, hc1, hc2, hx⟩ := (hr1.below hbel).rule_at hlt
      have hlt1 : (j : Int) < (l.length : Int) := by omega
      have hj0 : (0 : Int) ≤ (j : Int) := by omega
      have hrl := HP.out r (List.mem_of_getElem? hx.out)
      have C2 := Lib.hid fun w => lowr_any r.1 w hrl
      have hxl : (lows r.1).length ≤ 1000000 := by rw [lows_len]; exact hrl
      obtain ⟨x, hx0⟩ : ∃ x, x = lows r.1 := ⟨_, rfl⟩
      have HH := Lib.hid (show rHit n r = (full x && (decide (x = n) || (r.2 && x.isPrefixOf n))) by rw [hx0]; rfl)
      rw [← hx0] at C2 hxl
      clear hx0
      have hszx := str_size x
      have qn := str_eqB n x
      by_cases h0 : x = []
      · have HQ := Lib.hid (show rHit n r = false by rw [HH.out, h0]; rfl)
        subst h0
        have q : (str []).toList = [] := str_toL _
        clear qn hszx
        go_wp2_with (go_at_call 56; go_must (go_fit (C2.out _)); rintro e w2 ⟨rfl, hb2⟩; have hd1 := cell_on hb2 hc1 (by omega); have hd2 := cell_on hb2 hc2 (by omega))
        go_roundg (l.length - (j + 1))
        case measure => omega
        case rel => exact ⟨j + 1, rfl, by omega, by go_num, any_takeG hx.out hn.out HQ.out, bnext hbel hb2⟩
      · have q : (str x).toList.isEmpty = false := by rw [str_toL]; simpa using h0
        have hf : full x = true := by unfold full; simpa using h0
        by_cases hnx : n = x
        · rw [decide_eq_true hnx] at qn
          have HQ := Lib.hid (show rHit n r = true by rw [HH.out, hf, decide_eq_true hnx.symm]; rfl)
          clear h0 hnx hf
          go_wp2_with (go_at_call 56; go_must (go_fit (C2.out _)); rintro e w2 ⟨rfl, hb2⟩; have hd1 := cell_on hb2 hc1 (by omega); have hd2 := cell_on hb2 hc2 (by omega))
          go_ret
          exact ⟨by rw [HU.out, any_hereG hx.out HQ.out]; rfl, bnext (bnext hbw1 hbel) hb2⟩
        · rw [decide_eq_false hnx] at qn
          have HF := Lib.hid (show rHit n r = (r.2 && decide (x.length ≤ n.length ∧ tk n x.length = x)) by rw [HH.out, hf, decide_eq_false (fun e => hnx e.symm), isPre]; rfl)
          clear h0 hnx hf
          obtain ⟨r1, r2⟩ := r
          simp only at hc1 hc2 hrl C2 HH HF hx
          cases r2
          · have HQ := Lib.hid (show rHit n (r1, false) = false by rw [HF.out]; rfl)
            go_wp2_with (go_at_call 56; go_must (go_fit (C2.out _)); rintro e w2 ⟨rfl, hb2⟩; have hd1 := cell_on hb2 hc1 (by omega); have hd2 := cell_on hb2 hc2 (by omega))
            go_roundg (l.length - (j + 1))
            case measure => omega
            case rel => exact ⟨j + 1, rfl, by omega, by go_num, any_takeG hx.out hn.out HQ.out, bnext hbel hb2⟩
          · by_cases hle : (x.length : Int) ≤ (n.length : Int)
            · have hfr : (str n).extract 0 x.length = str (tk n x.length) := str_front n x.length
              have hx00 : (0 : Int) ≤ (x.length : Int) := by omega
              have qt := str_eqB (tk n x.length) x
              by_cases ht : tk n x.length = x
              · rw [decide_eq_true ht] at qt
                have HQ := Lib.hid (show rHit n (r1, true) = true by rw [HF.out, decide_eq_true ⟨by omega, ht⟩]; rfl)
                clear ht
                go_wp2_with (go_at_call 56; go_must (go_fit (C2.out _)); rintro e w2 ⟨rfl, hb2⟩; have hd1 := cell_on hb2 hc1 (by omega); have hd2 := cell_on hb2 hc2 (by omega))
                go_ret
                exact ⟨by rw [HU.out, any_hereG hx.out HQ.out]; rfl, bnext (bnext hbw1 hbel) hb2⟩
              · rw [decide_eq_false ht] at qt
                have HQ := Lib.hid (show rHit n (r1, true) = false by rw [HF.out, decide_eq_false (fun e => ht e.2)]; rfl)
                clear ht
                go_wp2_with (go_at_call 56; go_must (go_fit (C2.out _)); rintro e w2 ⟨rfl, hb2⟩; have hd1 := cell_on hb2 hc1 (by omega); have hd2 := cell_on hb2 hc2 (by omega))
                go_roundg (l.length - (j + 1))
                case measure => omega
                case rel => exact ⟨j + 1, rfl, by omega, by go_num, any_takeG hx.out hn.out HQ.out, bnext hbel hb2⟩
            · have hle' : (n.length : Int) < (x.length : Int) := by omega
              have HQ := Lib.hid (show rHit n (r1, true) = false by rw [HF.out, decide_eq_false (fun e => by omega)]; rfl)
              clear hle
              go_wp2_with (go_at_call 56; go_must (go_fit (C2.out _)); rintro e w2 ⟨rfl, hb2⟩; have hd1 := cell_on hb2 hc1 (by omega); have hd2 := cell_on hb2 hc2 (by omega))
              go_roundg (l.length - (j + 1))
              case measure => omega
              case rel => exact ⟨j + 1, rfl, by omega, by go_num, any_takeG hx.out hn.out HQ.out, bnext hbel hb2⟩
    · obtain rfl : j = l.length := by omega
      go_wp2
      go_ret
      have h := hn.out
      rw [List.take_length] at h
      exact ⟨by rw [HU.out, h]; rfl, bnext hbw1 hbel⟩

set_option maxRecDepth 100000 in
set_option maxHeartbeats 8000000 in
theorem rstrip_any (A Ar : Option Addr) (c cr : Nat) (l : List Pr) (rs : List Ru) (w : World) (hr : Rd w w.heap.size A (prs l)) (hrr : Rd w w.heap.size Ar (rls rs)) (hl : l.length ≤ 100000) (hrl : rs.length ≤ 1000000) (hrp : ∀ p ∈ rs, p.1.length ≤ 1000000) (hp : ∀ p ∈ l, p.1.length ≤ 1000000) :
    Calls Tryd.prog 39 #[.slice A l.length c, .slice Ar rs.length cr] w fun e w' => ∃ v', e = .returned v' ∧ w'.ownsRow w.heap.size 25 2 v' (rStrip l rs).length (prs (rStrip l rs)) ∧ Below w.heap.size w w' := by
  have HP := Lib.hid hp
  have HR := Lib.hid hrp
  clear hp hrp
  go_enter Tryd.func39, Tryd.ntmps39
  go_wp2
  go_loopg [5, 6] (l.length) (fun k s5 s6 wr => ∃ j : Nat, k = l.length - j ∧ j ≤ l.length ∧ s6 = .int .i64 j ∧ wr.ownsRow w.heap.size 25 2 s5 ((l.take j).filter (keeps rs)).length (prs ((l.take j).filter (keeps rs))) ∧ Below w.heap.size w wr)
  case atStart => exact ⟨0, rfl, Nat.zero_le _, rfl, World.ownsRow_nil _ _ _ _, Below.refl _ _⟩
  case round =>
    obtain ⟨j, rfl, hj, rfl, hown, hbel⟩ := hrel
    obtain ⟨A3, c3, rfl, hc3, hm3⟩ := own_shape hown
    have hq0 := hbel.size
    have hfl : ((l.take j).filter (keeps rs)).length ≤ 100000 := by
      have := List.length_filter_le (keeps rs) (l.take j)
      rw [List.length_take] at this; omega
    by_cases hlt : j < l.length
    · obtain ⟨b, off, p, rfl, hb, hc1, hc2, hx⟩ := (hr.below hbel).pair_at hlt
      have hlt1 : (j : Int) < (l.length : Int) := by omega
      have hj0 : (0 : Int) ≤ (j : Int) := by omega
      have C := Lib.hid (rout_any p Ar cr rs wr (hrr.next hbel) hrl HR.out (HP.out p (List.mem_of_getElem? hx.out)))
      have HN := Lib.hid (piece_take (f := keeps rs) hx.out)
      by_cases hk : rOut p.1 rs = true
      · have HK2 := Lib.hid (show keeps rs p = false by unfold keeps drops; rw [hk]; rfl)
        rw [hk] at C
        rw [HK2.out, if_neg (by decide), List.append_nil] at HN
        clear hk
        go_wp2_with (go_at_call 37; go_must (go_fit C.out); rintro e w4 ⟨rfl, hb4⟩)
        go_roundg (l.length - (j + 1))
        case measure => omega
        case rel => exact ⟨j + 1, rfl, by omega, by go_num, by rw [HN.out]; exact own_below hown hb4 (Nat.le_refl _), hbel.trans (hb4.mono hq0)⟩
      · have hk := Bool.eq_false_iff.2 hk
        have HK2 := Lib.hid (show keeps rs p = true by unfold keeps drops; rw [hk]; rfl)
        rw [hk] at C
        rw [HK2.out, if_pos rfl] at HN
        clear hk
        go_wp2_with (first
          | (go_at_call 37; go_must (go_fit C.out); rintro e w4 ⟨rfl, hb4⟩; have hd1 := cell_on hb4 hc1 (by omega); have hd2 := cell_on hb4 hc2 (by omega); have hown4 := own_below hown hb4 (Nat.le_refl _); have hq4 := hb4.size)
          | (at_builtin; refine wpList_append_lit rfl _ _ _ rfl w.heap.size _ _ 2 32 Tryd.underlying22 info_pair rfl (by decide) _ _ _ rfl hown4 _ 1 1 _ rfl rfl (by simp [Value.oneCell']) (by omega) (by decide) (by omega) ?_; intro A5 c5 w5 hc5 hm5 hown5 hb5 hg5))
        go_roundg (l.length - (j + 1))
        case measure => omega
        case rel => exact ⟨j + 1, rfl, by omega, by go_num, own_as hown5 (by rw [HN.out, List.length_append]; rfl) (by rw [HN.out, prs_append]; rfl), (hbel.trans (hb4.mono hq0)).trans hb5⟩
    · obtain rfl : j = l.length := by omega
      go_wp2
      go_ret
      rw [List.take_length] at hown
      exact ⟨_, rfl, by rw [List.take_length]; exact hown, hbel⟩
theorem qPairs_len2 {s : List UInt8} (hs : s.length ≤ 2000) : ∀ p ∈ qPairs s, p.1.length ≤ 10000 ∧ p.2.length ≤ 10000 := by
  intro p hp
  obtain ⟨q, hq, rfl⟩ := List.mem_map.1 hp
  have hq1 := List.mem_of_mem_take hq
  have hq2 := cuts_sum 38 s q (List.mem_filter.1 hq1).1
  have h1 := behind_le 61 q
  have h2 := qText_len (ahead 61 q)
  have h3 := qText_len (behind 61 q)
  show (qText (ahead 61 q)).length ≤ 10000 ∧ (qText (behind 61 q)).length ≤ 10000
  omega

set_option maxRecDepth 100000 in
set_option maxHeartbeats 4000000 in
theorem rtext13_any (s : List UInt8) (Ar : Option Addr) (cr : Nat) (rs : List Ru) (w : World) (hm : ML w) (hrr : Rd w w.heap.size Ar (rls rs)) (hs : s.length ≤ 2000) (hrl : rs.length ≤ 1000000) (hrp : ∀ p ∈ rs, p.1.length ≤ 1000000) :
    Calls Tryd.prog 40 #[.string (str s), .slice Ar rs.length cr] w fun e w' => e = .returned (.string (str (rText s rs))) ∧ Below w.heap.size w w' := by
  have hq := qPairs_le s
  have hq2 := rStrip_len (qPairs s) rs
  have hp2 := qPairs_len2 hs
  have HT := Lib.hid (show rText s rs = qShow (rStrip (qPairs s) rs) from rfl)
  have C1 := Lib.hid (qparse_any s w hm (by omega))
  obtain ⟨L, hL⟩ : ∃ L, L = qPairs s := ⟨_, rfl⟩
  rw [← hL] at C1 hq hq2 hp2 HT
  have C2 := Lib.hid fun A c w (h : Rd w w.heap.size A (prs L)) (h' : Rd w w.heap.size Ar (rls rs)) => strip_any A Ar c cr L rs w h h' (by omega) hrl hrp (fun p hp => by have := hp2 p hp; omega)
  obtain ⟨M, hM⟩ : ∃ M, M = rStrip L rs := ⟨_, rfl⟩
  have C3 := Lib.hid fun A c w (h : Rd w w.heap.size A (prs M)) => qshow_any A c M w h (by rw [hM]; omega) (fun p hp => hp2 p (by rw [hM] at hp; exact (List.mem_filter.1 hp).1))
  rw [← hM] at C2 HT
  clear hL hM hq hq2 hp2
  go_enter Tryd.func40, Tryd.ntmps40
  go_wp2_with (first
    | (go_at_call 19; go_must (go_fit C1.out); rintro e w1 ⟨v1, rfl, hown1, hb1⟩; obtain ⟨A1, c1, rfl, hc1, hm1, hx1⟩ := own_rdN hown1; have hr1 := hrr.next hb1)
    | (go_at_call 38; go_must (go_fit (C2.out A1 c1 w1 hx1 hr1)); rintro e w2 ⟨v2, rfl, hown2, hb2⟩; obtain ⟨A2, c2, rfl, hc2, hm2, hx2⟩ := own_rdN hown2)
    | (go_at_call 21; go_must (go_fit (C3.out A2 c2 w2 hx2)); rintro e w3 ⟨rfl, hb3⟩))
  go_ret
  exact ⟨by rw [HT.out]; rfl, bnext (bnext hb1 hb2) hb3⟩
set_option maxRecDepth 100000 in
set_option maxHeartbeats 4000000 in
theorem rrtext_any (s : List UInt8) (Ar : Option Addr) (cr : Nat) (rs : List Ru) (w : World) (hm : ML w) (hrr : Rd w w.heap.size Ar (rls rs)) (hs : s.length ≤ 2000) (hrl : rs.length ≤ 1000000) (hrp : ∀ p ∈ rs, p.1.length ≤ 1000000) :
    Calls Tryd.prog 41 #[.string (str s), .slice Ar rs.length cr] w fun e w' => e = .returned (.string (str (rText s rs))) ∧ Below w.heap.size w w' := by
  have hq := qPairs_le s
  have hq2 := rStrip_len (qPairs s) rs
  have hp2 := qPairs_len2 hs
  have HT := Lib.hid (show rText s rs = qShow (rStrip (qPairs s) rs) from rfl)
  have C1 := Lib.hid (rquery_any s w (by omega))
  obtain ⟨L, hL⟩ : ∃ L, L = qPairs s := ⟨_, rfl⟩
  rw [← hL] at C1 hq hq2 hp2 HT
  have C2 := Lib.hid fun A c w (h : Rd w w.heap.size A (prs L)) (h' : Rd w w.heap.size Ar (rls rs)) => rstrip_any A Ar c cr L rs w h h' (by omega) hrl hrp (fun p hp => by have := hp2 p hp; omega)
  obtain ⟨M, hM⟩ : ∃ M, M = rStrip L rs := ⟨_, rfl⟩
  have C3 := Lib.hid fun A c w (h : Rd w w.heap.size A (prs M)) => rshow_any A c M w h (by rw [hM]; omega) (fun p hp => hp2 p (by rw [hM] at hp; exact (List.mem_filter.1 hp).1))
  rw [← hM] at C2 HT
  clear hL hM hq hq2 hp2
  go_enter Tryd.func41, Tryd.ntmps41
  go_wp2_with (first
    | (go_at_call 20; go_must (go_fit C1.out); rintro e w1 ⟨v1, rfl, hown1, hb1⟩; obtain ⟨A1, c1, rfl, hc1, hm1, hx1⟩ := own_rdN hown1; have hr1 := hrr.next hb1)
    | (go_at_call 39; go_must (go_fit (C2.out A1 c1 w1 hx1 hr1)); rintro e w2 ⟨v2, rfl, hown2, hb2⟩; obtain ⟨A2, c2, rfl, hc2, hm2, hx2⟩ := own_rdN hown2)
    | (go_at_call 22; go_must (go_fit (C3.out A2 c2 w2 hx2)); rintro e w3 ⟨rfl, hb3⟩))
  go_ret
  exact ⟨by rw [HT.out]; rfl, bnext (bnext hb1 hb2) hb3⟩
end Go.Proofs.YtpoaeppapmbkpaaDoor

