/- The walks of query.text, query.Parse. -/
import Derived.Test.YtnnphploekchbaaDoorLibB
namespace Go.Proofs.YtnnphploekchbaaDoor
set_option linter.all false
open Go.RowKit

theorem str_atN {w : World} {B n : Nat} {A : Option Addr} {c : Nat} {l : List UInt8} (hr : Rd w B A (bytes l)) (hn : n = l.length) : (convert 42 9 (.slice A n c)).run Tryd.prog w = .ok (.string (str l)) w :=
  run_strM Tryd.underlying42 Tryd.underlying5 Tryd.underlying9 hr hn

set_option maxRecDepth 100000 in
set_option maxHeartbeats 2000000 in
theorem qtext_any (s : List UInt8) (w : World) (hm : ML w) (hs : s.length ≤ 10000) :
    Calls Tryd.prog 53 #[.string (str s)] w fun e w' => e = .returned (.string (str (qText s))) ∧ Below w.heap.size w w' := by
  obtain ⟨a1, h1⟩ : ∃ a, a = s.map plus := ⟨_, rfl⟩
  obtain ⟨a2, h2⟩ : ∃ a, a = pDec a1 := ⟨_, rfl⟩
  obtain ⟨a3, h3⟩ : ∃ a, a = uDec a2 := ⟨_, rfl⟩
  obtain ⟨a4, h4⟩ : ∃ a, a = uEnc a3 := ⟨_, rfl⟩
  have l1 : a1.length = s.length := by rw [h1, List.length_map]
  have l2 : a2.length ≤ a1.length := by rw [h2]; exact pDec_len_le _
  have l3 : a3.length ≤ a2.length := by rw [h3]; exact uDec_len_le _
  have HQ := Lib.hid (show qText s = a4 by unfold qText; rw [h4, h3, h2, h1])
  have C1 := Lib.hid (replace_any 43 32 s w hm (by omega) (by decide))
  rw [show (s.map fun c => if c = 43 then (32 : UInt8) else c) = a1 from h1.symm] at C1
  have C2 := Lib.hid fun w => decode_pct a1 w (by omega)
  rw [← h2] at C2
  have C3 := Lib.hid fun A c w (hr : Rd w w.heap.size A (bytes a2)) (hc : a2.length ≤ c) (hcm : c ≤ maxLen) => decode_any A c a2 w hr hc hcm (by omega)
  rw [← h3] at C3
  have C4 := Lib.hid fun A c w (hr : Rd w w.heap.size A (runes a3)) (hc : a3.length ≤ c) (hcm : c ≤ maxLen) => encode_any A c a3 w hr hc hcm (by omega)
  rw [← h4] at C4
  clear h1 h2 h3 h4 hm
  go_enter Tryd.func53, Tryd.ntmps53
  go_wp2_with (first
    | (go_at_call 66; go_must (go_fit (C1.out)); rintro e w1 ⟨rfl, hb1⟩)
    | (go_at_call 76; go_must (go_fit (C2.out w1)); rintro e w2 ⟨v2, rfl, hown2, hb2⟩; rw [bytes_len] at hown2; obtain ⟨A2, c2, rfl, hc2, hm2, hx2⟩ := own_rd hown2)
    | (go_at_call 75; go_must (go_fit (C3.out A2 c2 w2 hx2 hc2 hm2)); rintro e w3 ⟨v3, rfl, hown3, hb3⟩; rw [runes_len] at hown3; obtain ⟨A3, c3, rfl, hc3, hm3, hx3⟩ := own_rd hown3)
    | (go_at_call 74; go_must (go_fit (C4.out A3 c3 w3 hx3 hc3 hm3)); rintro e w4 ⟨v4, rfl, hown4, hb4⟩; rw [bytes_len] at hown4; obtain ⟨A4, c4, rfl, hc4, hm4, hx4⟩ := own_rd hown4; have hs4 := str_atN (c := c4) hx4 rfl))
  go_ret
  exact ⟨by rw [HQ.out]; rfl, bnext (bnext (bnext hb1 hb2) hb3) hb4⟩

theorem piece_take {α : Type} {f : α → Bool} {l : List α} {j : Nat} {x : α} (h : l[j]? = some x) : (l.take (j + 1)).filter f = (l.take j).filter f ++ if f x = true then [x] else [] := by
  obtain ⟨hj, e⟩ := List.getElem?_eq_some_iff.1 h
  rw [take_snoc' l j hj, e, List.filter_append]
  congr 1
  by_cases hx : f x = true
  · rw [if_pos hx, List.filter_cons_of_pos hx, List.filter_nil]
  · rw [if_neg hx, List.filter_cons_of_neg hx, List.filter_nil]
theorem pieces_full {s : List UInt8} {j : Nat} (h : (((cuts 38 s).take j).filter full).length = 40) : (((cuts 38 s).take j).filter full).map qPair = qPairs s := by
  unfold qPairs qPieces
  have e := List.take_append_drop j (cuts 38 s)
  conv => rhs; rw [← e, List.filter_append, List.take_append_of_le_length (by omega), List.take_of_length_le (by omega)]
theorem pieces_all {s : List UInt8} (h : (((cuts 38 s).take (cuts 38 s).length).filter full).length ≤ 40) : (((cuts 38 s).take (cuts 38 s).length).filter full).map qPair = qPairs s := by
  unfold qPairs qPieces
  rw [List.take_length] at h ⊢
  rw [List.take_of_length_le h]

theorem behind_le (c : UInt8) (p : List UInt8) : (ahead c p).length ≤ p.length ∧ (behind c p).length ≤ p.length := by
  refine ⟨(List.takeWhile_prefix _).length_le, ?_⟩
  unfold behind
  rw [List.length_drop]
  have := (List.dropWhile_suffix (p := (· ≠ c)) (l := p)).length_le
  omega

set_option maxRecDepth 100000 in
set_option maxHeartbeats 8000000 in
theorem qparse_any (s : List UInt8) (w : World) (hm : ML w) (hs : s.length ≤ 10000) :
    Calls Tryd.prog 29 #[.string (str s)] w fun e w' => ∃ v, e = .returned v ∧ w'.ownsRow w.heap.size 34 2 v (qPairs s).length (prs (qPairs s)) ∧ Below w.heap.size w w' := by
  have hle := cuts_le 38 s
  have C1 := Lib.hid (split_any 38 s w hm (by omega))
  have HP := Lib.hid (cuts_sum 38 s)
  obtain ⟨L, hL⟩ : ∃ L, L = cuts 38 s := ⟨_, rfl⟩
  have HF := Lib.hid (fun j (h : ((L.take j).filter full).length = 40) => show ((L.take j).filter full).map qPair = qPairs s by rw [hL] at h ⊢; exact pieces_full h)
  have HA := Lib.hid (fun (h : ((L.take L.length).filter full).length ≤ 40) => show ((L.take L.length).filter full).map qPair = qPairs s by rw [hL] at h ⊢; exact pieces_all h)
  rw [← hL] at C1 hle HP
  clear hL
  go_enter Tryd.func29, Tryd.ntmps29
  go_wp2_with (go_at_call 51; go_must (go_fit (C1.out)); rintro e w1 ⟨rfl, hrl, hb1⟩)
  have hml := hm.next hb1
  go_loopg [3, 12] (L.length) (fun k s3 s12 wr => ∃ j : Nat, k = L.length - j ∧ j ≤ L.length ∧ s12 = .int .i64 j ∧ ((L.take j).filter full).length ≤ 40 ∧ wr.ownsRow w1.heap.size 34 2 s3 ((L.take j).filter full).length (prs (((L.take j).filter full).map qPair)) ∧ Below w1.heap.size w1 wr)
  case atStart => exact ⟨0, rfl, Nat.zero_le _, rfl, by simp, World.ownsRow_nil _ _ _ _, Below.refl _ _⟩
  case round =>
    obtain ⟨j, rfl, hj, rfl, h40, hown, hbel⟩ := hrel
    obtain ⟨A3, c3, rfl, hc3, hm3⟩ := own_shape hown
    by_cases hlt : j < L.length
    · obtain ⟨b, off, x, hA, hb, hc, hx⟩ := (hrl.below hbel).str_at hlt
      injection hA with hA; injection hA with hA1 hA2; subst hA1; subst hA2
      rw [Nat.zero_add] at hc
      have hlt1 : (j : Int) < (L.length : Int) := by omega
      have hj0 : (0 : Int) ≤ (j : Int) := by omega
      have hxl := HP.out x (List.mem_of_getElem? hx.out)
      have HN := Lib.hid (piece_take (f := full) hx.out)
      by_cases hfull : (((L.take j).filter full).length : Int) = 40
      · have HR := Lib.hid (HF.out j (by omega))
        go_wp2
        go_ret
        exact ⟨_, rfl, own_as (own_base hown hb1.size) (by rw [← HR.out, List.length_map]) (by rw [HR.out]), hb1.trans (hbel.mono hb1.size)⟩
      · have hq : ((L.take j).filter full).length + 1 ≤ 40 := by omega
        have hfull' : ((((L.take j).filter full).length : Int) == 40) = false := by rw [beq_eq_false_iff_ne]; exact hfull
        clear hfull h40
        by_cases hx0 : x = []
        · subst hx0
          have hst : (str []).toList = [] := str_toL _
          rw [if_neg (by decide), List.append_nil] at HN
          go_wp2
          go_roundg (L.length - (j + 1))
          case measure => omega
          case rel => exact ⟨j + 1, rfl, by omega, by go_num, by rw [HN.out]; omega, by rw [HN.out]; exact hown, hbel⟩
        · have hst : ((str x).toList == []) = false := by rw [str_toL]; simpa using hx0
          rw [if_pos (show full x = true by unfold full; simpa using hx0)] at HN
          have hxx := behind_le 61 x
          obtain ⟨x1, h1⟩ : ∃ y, y = ahead 61 x := ⟨_, rfl⟩
          obtain ⟨x2, h2⟩ : ∃ y, y = behind 61 x := ⟨_, rfl⟩
          have HX := Lib.hid (show qPair x = (qText x1, qText x2) by rw [h1, h2]; rfl)
          have C2 := Lib.hid fun w (h : ML w) => cut_any 61 x w h (by omega)
          rw [← h1, ← h2] at C2 hxx
          have C3 := Lib.hid fun w (h : ML w) => qtext_any x1 w h (by omega)
          have C4 := Lib.hid fun w (h : ML w) => qtext_any x2 w h (by omega)
          have hmr := hml.next hbel
          clear h1 h2 hx0
          go_wp2_with (first
            | (go_at_call 52; go_must (go_fit (C2.out wr hmr)); rintro e w2 ⟨⟨b2, rfl⟩, hb2⟩; have hm2 := hmr.next hb2)
            | (go_at_call 53; go_fit (C3.out w2 hm2); rintro e w3 ⟨rfl, hb3⟩; have hm3 := hm2.next hb3)
            | (go_at_call 53; go_fit (C4.out w3 hm3); rintro e w4 ⟨rfl, hb4⟩; have hb24 := bnext (bnext hb2 hb3) hb4; have hq4 := hb24.size; have hown4 := own_below hown hb24 (Nat.le_refl _); have hbel4 := hbel.trans (hb24.mono hbel.size); have hq0 := hbel4.size)
            | (at_builtin; refine wpList_append_lit rfl _ _ _ rfl w1.heap.size _ _ 2 32 Tryd.underlying32 info_pair rfl (by decide) _ _ _ rfl hown4 _ 1 1 _ rfl rfl (by simp [Value.oneCell']) (by omega) (by decide) (by omega) ?_; intro A5 c5 w5 hc5 hm5 hown5 hb5 hg5))
          go_roundg (L.length - (j + 1))
          case measure => omega
          case rel => exact ⟨j + 1, rfl, by omega, by go_num, by rw [HN.out, List.length_append]; exact hq, own_as hown5 (by rw [HN.out, List.length_append]; rfl) (by rw [HN.out, List.map_append, prs_append, List.map_singleton, HX.out]; rfl), hbel4.trans hb5⟩
    · obtain rfl : j = L.length := by omega
      have HR := Lib.hid (HA.out h40)
      go_wp2
      go_ret
      exact ⟨_, rfl, own_as (own_base hown hb1.size) (by rw [← HR.out, List.length_map]) (by rw [HR.out]), hb1.trans (hbel.mono hb1.size)⟩
end Go.Proofs.YtnnphploekchbaaDoor

