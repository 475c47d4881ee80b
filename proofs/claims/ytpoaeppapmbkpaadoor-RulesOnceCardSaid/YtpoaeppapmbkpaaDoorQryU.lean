/- The walk of the reference's Query. -/
import Derived.Test.YtpoaeppapmbkpaaDoorQryR
namespace Go.Proofs.YtpoaeppapmbkpaaDoor
set_option linter.all false
open Go.RowKit

theorem ahead_tk (c : UInt8) (s : List UInt8) : tk s (ahead c s).length = ahead c s ∧ dr s (min ((ahead c s).length + 1) s.length) = behind c s ∧ (ahead c s).length ≤ s.length := by
  by_cases h : c ∈ s
  · obtain ⟨a, t, rfl, hn⟩ := first_parts h
    rw [(ahead_at t hn).1, (ahead_at t hn).2]
    refine ⟨List.take_left .., ?_, by simp⟩
    unfold dr
    rw [show min (a.length + 1) (a ++ c :: t).length = a.length + 1 from by simp, ← List.drop_drop, List.drop_left]; rfl
  · rw [(ahead_whole h).1, (ahead_whole h).2]
    refine ⟨List.take_length, ?_, Nat.le_refl _⟩
    unfold dr
    exact List.drop_eq_nil_of_le (by omega)

set_option maxRecDepth 100000 in
set_option maxHeartbeats 16000000 in
theorem rquery_any (s : List UInt8) (w : World) (hs : s.length ≤ 10000) :
    Calls Tryd.prog 20 #[.string (str s)] w fun e w' => ∃ v, e = .returned v ∧ w'.ownsRow w.heap.size 25 2 v (qPairs s).length (prs (qPairs s)) ∧ Below w.heap.size w w' := by
  have hle := cuts_le 38 s
  have C1 := Lib.hid (cut6_any s 38 w (by omega))
  have HP := Lib.hid (cuts_sum 38 s)
  obtain ⟨L, hL⟩ : ∃ L, L = cuts 38 s := ⟨_, rfl⟩
  have HF := Lib.hid (fun j (h : ((L.take j).filter full).length = 40) => show ((L.take j).filter full).map qPair = qPairs s by rw [hL] at h ⊢; exact pieces_full h)
  have HA := Lib.hid (fun (h : ((L.take L.length).filter full).length ≤ 40) => show ((L.take L.length).filter full).map qPair = qPairs s by rw [hL] at h ⊢; exact pieces_all h)
  rw [← hL] at C1 hle HP
  clear hL
  go_enter Tryd.func20, Tryd.ntmps20
  go_wp2_with (go_at_call 45; go_must (go_fit (C1.out)); rintro e w1 ⟨v1, rfl, hown1, hb1⟩; obtain ⟨A1, c1, rfl, hc1, hm1, hrl⟩ := own_rdN hown1)
  clear hown1
  go_loopg [3, 5] (L.length) (fun k s3 s5 wr => ∃ j : Nat, k = L.length - j ∧ j ≤ L.length ∧ s5 = .int .i64 j ∧ ((L.take j).filter full).length ≤ 40 ∧ wr.ownsRow w1.heap.size 25 2 s3 ((L.take j).filter full).length (prs (((L.take j).filter full).map qPair)) ∧ Below w1.heap.size w1 wr)
  case atStart => exact ⟨0, rfl, Nat.zero_le _, rfl, by simp, World.ownsRow_nil _ _ _ _, Below.refl _ _⟩
  case round =>
    obtain ⟨j, rfl, hj, rfl, h40, hown, hbel⟩ := hrel
    obtain ⟨A3, c3, rfl, hc3, hm3⟩ := own_shape hown
    by_cases hlt : j < L.length
    · have hlt1 : (j : Int) < (L.length : Int) := by omega
      have hj0 : (0 : Int) ≤ (j : Int) := by omega
      by_cases hfull : (((L.take j).filter full).length : Int) = 40
      · have HR := Lib.hid (HF.out j (by omega))
        go_wp2
        go_ret
        exact ⟨_, rfl, own_as (own_base hown hb1.size) (by rw [← HR.out, List.length_map]) (by rw [HR.out]), hb1.trans (hbel.mono hb1.size)⟩
      · have hq : ((L.take j).filter full).length + 1 ≤ 40 := by omega
        have hfull' : (((L.take j).filter full).length : Int) < 40 := by omega
        clear hfull h40
        obtain ⟨b, off, x, rfl, hb, hc, hx⟩ := (hrl.below hbel).str_at hlt
        have hxl := HP.out x (List.mem_of_getElem? hx.out)
        have HN := Lib.hid (piece_take (f := full) hx.out)
        have hsx := str_size x
        by_cases hx0 : x = []
        · subst hx0
          have hst : (str []).toList = [] := str_toL _
          rw [if_neg (by decide), List.append_nil] at HN
          go_wp2
          go_roundg (L.length - (j + 1))
          case measure => omega
          case rel => exact ⟨j + 1, rfl, by omega, by go_num, by rw [HN.out]; omega, by rw [HN.out]; exact hown, hbel⟩
        · have hst : ((str x).toList == []) = false := by rw [str_toL]; simpa using hx0
          rw [if_pos (show full x = true by unfold full; simpa using hx0)] at HN
          have hxx := behind_le 61 x
          obtain ⟨t1, t2, t3⟩ := ahead_tk 61 x
          have C2 := Lib.hid fun w => first_any x 61 w (by omega)
          obtain ⟨K, hK⟩ : ∃ K, K = (ahead 61 x).length := ⟨_, rfl⟩
          obtain ⟨x1, h1⟩ : ∃ y, y = ahead 61 x := ⟨_, rfl⟩
          obtain ⟨x2, h2⟩ : ∃ y, y = behind 61 x := ⟨_, rfl⟩
          obtain ⟨M, hM⟩ : ∃ M, M = min (K + 1) x.length := ⟨_, rfl⟩
          have HX := Lib.hid (show qPair x = (qText x1, qText x2) by rw [h1, h2]; rfl)
          rw [← hK] at C2 t1 t2 t3
          rw [← hM] at t2
          rw [← h1] at t1 hxx
          rw [← h2] at t2 hxx
          have C3 := Lib.hid fun w => plainq_any x1 w (by omega)
          have C4 := Lib.hid fun w => plainq_any x2 w (by omega)
          have e1 : (str x).extract 0 K = str x1 := by rw [str_front, t1]
          have e2 : (str x).extract M x.length = str x2 := by rw [str_end, t2]
          have m1 : min ((K : Int) + 1) (x.length : Int) = (M : Int) := by omega
          have m2 : (M : Int) ≤ (x.length : Int) := by omega
          have m3 : (0 : Int) ≤ (M : Int) := by omega
          have m4 : (0 : Int) ≤ (K : Int) := by omega
          have m5 : (K : Int) ≤ (x.length : Int) := by omega
          have m6 : IntKind.i64.wrap ((K : Int) + 1) = (K : Int) + 1 := IntWalk.i64_in _ (by omega)
          have hq1 := hbel.size
          clear h1 h2 hx0 hK hM t1 t2 hj
          go_wp2_with (go_at_call 46; go_must (go_fit (C2.out wr)); rintro e w2 ⟨rfl, rfl⟩)
          go_region_law (first
            | (go_simp; go_at_call 47; go_fit (C3.out wr.drew); rintro e w3 ⟨rfl, hb3⟩; have hb3' : Below wr.heap.size wr w3 := bnext (Below.drew (Below.refl _ _)) hb3; have hcw := cell_on hb3' hc (by omega))
            | (go_simp; go_at_call 47; go_fit (C4.out w3); rintro e w4 ⟨rfl, hb4⟩; have hb24 := bnext hb3' hb4; have hq4 := hb24.size; have hown4 := own_below hown hb24 (Nat.le_refl _); have hbel4 := hbel.trans (hb24.mono hbel.size); have hq0 := hbel4.size)
            | (refine step_append_cells rfl _ _ _ rfl w1.heap.size _ _ 2 32 Tryd.underlying22 info_pair rfl (by decide) _ _ _ rfl (hown4.alloc _) w4.heap.size _ 1 1 25 (0, 0) rfl (heap_alloc_new w4 _) rfl (by simp [Value.oneCell']) (by omega) (by decide) (by simp; omega) ?_; intro A5 c5 w5 hc5 hm5 hown5 hb5' hg5; have hb5 : Below w1.heap.size w1 w5 := hbel4.trans (((Below.refl _ _).alloc (by omega) _).trans hb5')))
          all_goals go_wp2
          all_goals go_roundg (L.length - (j + 1))
          all_goals first
            | (case measure => omega)
            | (case rel => exact ⟨j + 1, rfl, by omega, by go_num, by rw [HN.out, List.length_append]; exact hq, own_as hown5 (by rw [HN.out, List.length_append]; rfl) (by rw [HN.out, List.map_append, prs_append, List.map_singleton, HX.out]; rfl), hb5⟩)
    · obtain rfl : j = L.length := by omega
      have HR := Lib.hid (HA.out h40)
      go_wp2
      go_ret
      exact ⟨_, rfl, own_as (own_base hown hb1.size) (by rw [← HR.out, List.length_map]) (by rw [HR.out]), hb1.trans (hbel.mono hb1.size)⟩
end Go.Proofs.YtpoaeppapmbkpaaDoor

