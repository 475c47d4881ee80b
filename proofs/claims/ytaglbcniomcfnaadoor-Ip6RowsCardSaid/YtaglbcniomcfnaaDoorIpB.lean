/- The walks of ip4's split and Ends, of the reference's parts, number and Ends. -/
import Derived.Test.YtaglbcniomcfnaaDoorIpA
import Derived.Test.YtaglbcniomcfnaaDoorLibB
namespace Go.Proofs.YtaglbcniomcfnaaDoor
set_option linter.all false
open Go.RowKit

theorem Rd.front {w : World} {B : Nat} {A : Option Addr} {xs ys : List Value} (h : Rd w B A (xs ++ ys)) : Rd w B A xs := by
  intro hp
  obtain ⟨b, off, e, hb, hc⟩ := h (by rw [List.length_append]; omega)
  refine ⟨b, off, e, hb, fun j u hu => hc j u ?_⟩
  rw [List.getElem?_append_left (by
    rcases Nat.lt_or_ge j xs.length with h1 | h1
    · exact h1
    · rw [List.getElem?_eq_none h1] at hu; cases hu)]
  exact hu
theorem last_is {α : Type} {L : List α} {n : Nat} {x : α} (hn : L.length = n + 1) (hx : L[n]? = some x) : L = L.dropLast ++ [x] ∧ L.getLast? = some x := by
  have h1 : L.getLast? = some x := by rw [List.getLast?_eq_getElem?, hn]; exact hx
  obtain ⟨l', e⟩ := List.getLast?_eq_some_iff.1 h1
  exact ⟨by rw [e, List.dropLast_concat], h1⟩
theorem pParts_cut {s : List UInt8} {n : Nat} (hn : (cuts 46 s).length = n + 1) (h0 : 0 < n) (hx : (cuts 46 s)[n]? = some []) : (pParts s).length = n ∧ cuts 46 s = pParts s ++ [[]] := by
  obtain ⟨h1, h2⟩ := last_is hn hx
  have e : pParts s = (cuts 46 s).dropLast := by unfold pParts; rw [if_pos ⟨by omega, h2⟩]
  exact ⟨by rw [e, List.length_dropLast, hn]; omega, by rw [e]; exact h1⟩
theorem pParts_all {s : List UInt8} {n : Nat} {x : List UInt8} (hn : (cuts 46 s).length = n + 1) (hx : (cuts 46 s)[n]? = some x) (h : n = 0 ∨ x ≠ []) : pParts s = cuts 46 s := by
  obtain ⟨_, h2⟩ := last_is hn hx
  unfold pParts
  rw [if_neg]
  rintro ⟨h3, h4⟩
  rw [h2] at h4
  injection h4 with h4
  rcases h with h | h
  · omega
  · exact h h4

theorem Rd.text {w : World} {B b off : Nat} {L : List (List UInt8)} (h : Rd w B (some ⟨b, off, none⟩) (strs L)) {k : Nat} {x : List UInt8} (hx : L[k]? = some x) : w.cell? ⟨b, off + k, none⟩ = some (.string (str x)) ∧ b < B := by
  obtain ⟨hk, e⟩ := List.getElem?_eq_some_iff.1 hx
  obtain ⟨b', off', y, e', hb, hc, hy⟩ := h.str_at hk
  injection e' with e'
  injection e' with e1 e2
  subst e1 e2
  rw [show L[k]? = some y from hy] at hx
  injection hx with hx
  rw [← hx]; exact ⟨hc, hb⟩

set_option maxRecDepth 100000 in
set_option maxHeartbeats 2000000 in
theorem split4_any (s : List UInt8) (w : World) (hm : ML w) (hs : s.length ≤ 100000) : Calls Tryd.prog 28 #[.string (str s)] w fun e w' => ∃ A c, e = .returned (.slice A (pParts s).length c) ∧ (pParts s).length ≤ c ∧ Rd w' w'.heap.size A (strs (pParts s)) ∧ Below w.heap.size w w' := by
  have hle := cuts_le 46 s
  have hpos := cuts_pos 46 s
  have C1 := Lib.hid (split_any 46 s w hm (by omega))
  obtain ⟨n, hn⟩ : ∃ n, (cuts 46 s).length = n + 1 := ⟨(cuts 46 s).length - 1, by omega⟩
  obtain ⟨x, hx⟩ : ∃ x, (cuts 46 s)[n]? = some x := ⟨_, List.getElem?_eq_getElem (by omega)⟩
  have HC := Lib.hid fun (h : 0 < n) (e : x = []) => pParts_cut hn h (by rw [hx, e])
  have HA := Lib.hid (pParts_all hn hx)
  have HX := Lib.hid hx
  have HN := Lib.hid hn
  rw [hn] at hle C1
  clear hn hx hpos
  have hL := str_toL
  rcases Nat.eq_zero_or_pos n with h0 | h0
  · subst h0
    have e := HA.out (.inl rfl)
    rw [e, HN.out]
    clear e
    go_enter Tryd.func28, Tryd.ntmps28
    go_wp2_with (go_at_call 41; go_must (go_fit (C1.out)); rintro e w1 ⟨rfl, hrl, hb1⟩; have hcell := (hrl.text HX.out).1; rw [Nat.zero_add] at hcell)
    all_goals go_ret
    all_goals exact ⟨_, _, rfl, Nat.le_refl _, hrl, hb1⟩
  · by_cases hxe : x = []
    · obtain ⟨e1, e2⟩ := HC.out h0 hxe
      subst hxe
      rw [e1]
      have E2 := Lib.hid e2
      clear e1 e2
      go_enter Tryd.func28, Tryd.ntmps28
      go_wp2_with (go_at_call 41; go_must (go_fit (C1.out)); rintro e w1 ⟨rfl, hrl, hb1⟩; have hcell := (hrl.text HX.out).1; rw [Nat.zero_add] at hcell)
      all_goals go_ret
      all_goals
        rw [E2.out, strs_append] at hrl
        exact ⟨_, _, rfl, by omega, hrl.front, hb1⟩
    · have e := HA.out (.inr hxe)
      rw [e, HN.out]
      clear e
      have hxe' : x.isEmpty = false := by cases x with | nil => exact absurd rfl hxe | cons _ _ => rfl
      clear hxe
      go_enter Tryd.func28, Tryd.ntmps28
      go_wp2_with (go_at_call 41; go_must (go_fit (C1.out)); rintro e w1 ⟨rfl, hrl, hb1⟩; have hcell := (hrl.text HX.out).1; rw [Nat.zero_add] at hcell)
      all_goals go_ret
      all_goals exact ⟨_, _, rfl, Nat.le_refl _, hrl, hb1⟩

set_option maxRecDepth 100000 in
set_option maxHeartbeats 2000000 in
theorem parts6_any (s : List UInt8) (w : World) (hs : s.length ≤ 100000) : Calls Tryd.prog 30 #[.string (str s)] w fun e w' => ∃ A c, e = .returned (.slice A (pParts s).length c) ∧ (pParts s).length ≤ c ∧ Rd w' w'.heap.size A (strs (pParts s)) ∧ Below w.heap.size w w' := by
  have hle := cuts_le 46 s
  have hpos := cuts_pos 46 s
  have C1 := Lib.hid (cut6_any s 46 w (by omega))
  obtain ⟨n, hn⟩ : ∃ n, (cuts 46 s).length = n + 1 := ⟨(cuts 46 s).length - 1, by omega⟩
  obtain ⟨x, hx⟩ : ∃ x, (cuts 46 s)[n]? = some x := ⟨_, List.getElem?_eq_getElem (by omega)⟩
  have HC := Lib.hid fun (h : 0 < n) (e : x = []) => pParts_cut hn h (by rw [hx, e])
  have HA := Lib.hid (pParts_all hn hx)
  have HX := Lib.hid hx
  have HN := Lib.hid hn
  rw [hn] at hle
  clear hn hx hpos
  have hL := str_toL
  rcases Nat.eq_zero_or_pos n with h0 | h0
  · subst h0
    have e := HA.out (.inl rfl)
    rw [e, HN.out]
    clear e
    go_enter Tryd.func30, Tryd.ntmps30
    go_wp2_with (go_at_call 42; go_must (go_fit (C1.out)); rintro e w1 ⟨v1, rfl, hown1, hb1⟩; obtain ⟨g1, cap1, rfl, hg11, hg12⟩ := (own_as hown1 HN.out rfl).form (by omega); obtain ⟨A1, c1, e1, hc1, hm1, hrl⟩ := own_rdN (own_as hown1 HN.out rfl); injection e1 with e1 _ e3; subst e1 e3; have hcell := (hrl.text HX.out).1; rw [Nat.zero_add] at hcell)
    all_goals go_ret
    all_goals exact ⟨_, _, rfl, hc1, hrl, hb1⟩
  · by_cases hxe : x = []
    · obtain ⟨e1, e2⟩ := HC.out h0 hxe
      subst hxe
      rw [e1]
      have E2 := Lib.hid e2
      clear e1 e2
      go_enter Tryd.func30, Tryd.ntmps30
      go_wp2_with (go_at_call 42; go_must (go_fit (C1.out)); rintro e w1 ⟨v1, rfl, hown1, hb1⟩; obtain ⟨g1, cap1, rfl, hg11, hg12⟩ := (own_as hown1 HN.out rfl).form (by omega); obtain ⟨A1, c1, e1, hc1, hm1, hrl⟩ := own_rdN (own_as hown1 HN.out rfl); injection e1 with e1 _ e3; subst e1 e3; have hcell := (hrl.text HX.out).1; rw [Nat.zero_add] at hcell)
      all_goals go_ret
      all_goals
        rw [E2.out, strs_append] at hrl
        exact ⟨_, _, rfl, by omega, hrl.front, hb1⟩
    · have e := HA.out (.inr hxe)
      rw [e, HN.out]
      clear e
      have hxe' : x.isEmpty = false := by cases x with | nil => exact absurd rfl hxe | cons _ _ => rfl
      clear hxe
      go_enter Tryd.func30, Tryd.ntmps30
      go_wp2_with (go_at_call 42; go_must (go_fit (C1.out)); rintro e w1 ⟨v1, rfl, hown1, hb1⟩; obtain ⟨g1, cap1, rfl, hg11, hg12⟩ := (own_as hown1 HN.out rfl).form (by omega); obtain ⟨A1, c1, e1, hc1, hm1, hrl⟩ := own_rdN (own_as hown1 HN.out rfl); injection e1 with e1 _ e3; subst e1 e3; have hcell := (hrl.text HX.out).1; rw [Nat.zero_add] at hcell)
      all_goals go_ret
      all_goals exact ⟨_, _, rfl, hc1, hrl, hb1⟩
end Go.Proofs.YtaglbcniomcfnaaDoor

