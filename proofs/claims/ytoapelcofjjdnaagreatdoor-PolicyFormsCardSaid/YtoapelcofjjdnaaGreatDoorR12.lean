/- A part of the proof. -/
import Derived.Test.YtoapelcofjjdnaaGreatDoorRShelf
import Derived.Test.YtoapelcofjjdnaaGreatDoorR03
import Derived.Test.YtoapelcofjjdnaaGreatDoorR01
import Derived.IntWalk
import Derived.Test.YtoapelcofjjdnaaGreatDoorR02
namespace Go.Proofs.YtoapelcofjjdnaaGreatDoor
set_option linter.all false
open Go.RowKit
def ML (w : World) : Prop := ∃ m, w.cell? ⟨0, 0, none⟩ = some (.int .i64 m)
theorem ML.next {w w' : World} (h : ML w) (hb : Below w.heap.size w w') : ML w' := by
 obtain ⟨m, hm⟩ := h
 exact ⟨m, (hb.cell (p := ⟨_, 0, none⟩) (World.block_lt_of_cell? _ _ hm)).trans hm⟩
theorem ML.drew {w : World} (h : ML w) : ML w.drew := h
theorem ML.new {w : World} (h : ML w) (o : Obj) : ML (w.alloc o) := h.next (Below.alloc (Below.refl _ _) (Nat.le_refl _) o)
theorem strs_split (c : UInt8) (s : List UInt8) : (Lib.splitB (str [c]) 0 (Lib.countB (str s) (str [c])) (str s)).map Value.string = strs (cuts c s) := by
 have h := Lib.splitB_data (str [c]) 0 (Lib.countB (str s) (str [c])) (str s)
 have hc : Lib.countB (str s) (str [c]) = s.count c := by
  show Lib.count (str s).data.toList (str [c]).data.toList = _
  rw [str_data, str_data, Lib.count_one]
 rw [str_data, str_data, hc, splitK_cuts c _ s rfl] at h
 rw [hc]
 unfold strs
 rw [← h, List.map_map]
 exact List.map_congr_left fun b _ => by show Value.string b = Value.string (str b.data.toList); rw [str_of]
theorem count_split (c : UInt8) (s : List UInt8) : Lib.countB (str s) (str [c]) + 1 = (cuts c s).length := by
 have hc : Lib.countB (str s) (str [c]) = s.count c := by
  show Lib.count (str s).data.toList (str [c]).data.toList = _
  rw [str_data, str_data, Lib.count_one]
 rw [hc, cuts_len]
theorem split_any (c : UInt8) (s : List UInt8) (w : World) (hm : ML w) (hs : s.length ≤ 1000000) :
  Calls Tryz.prog 122 #[.string (str s), .string (str [c])] w fun e w' =>
   e = .returned (.slice (some ⟨w.heap.size, 0, none⟩) (cuts c s).length (cuts c s).length) ∧ Rd w' w'.heap.size (some ⟨w.heap.size, 0, none⟩) (strs (cuts c s)) ∧ Below w.heap.size w w' := by
 obtain ⟨m, hm⟩ := hm
 refine (Tryz.strings_Split (str s) (str [c]) m w (by rw [str_size]; omega) hm (by rw [str_size]; simp)).mono fun e w' ⟨he, hw⟩ => ?_
 rw [count_split] at he
 rw [strs_split] at hw
 refine ⟨he, ?_, by rw [hw]; exact bnew (Below.refl _ _) _⟩
 rw [hw]
 have := @Rd.lit w (strs (cuts c s)).toArray 9 (0, 0)
 simpa using this
theorem join_any (c : UInt8) (A : Option Addr) (k : Nat) (l : List (List UInt8)) (w : World) (hr : Rd w w.heap.size A (strs l)) (hk : l.length ≤ k) (hl : l.length ≤ 1000000) (hj : (Lib.join l [c]).length ≤ 100000000) :
  Calls Tryz.prog 87 #[.slice A l.length k, .string (str [c])] w fun e w' => e = .returned (.string (str (Lib.join l [c]))) ∧ Below w.heap.size w w' := by
 by_cases h0 : l = []
 ·
  subst h0
  refine (Tryz.strings_Join_none A k (str [c]) w).mono fun e w' ⟨he, hw⟩ => ?_
  exact ⟨he, hw ▸ Below.refl _ _⟩
 ·
  obtain ⟨b, off, rfl, hb, hc⟩ := hr (by rw [strs_len]; exact List.length_pos_iff.2 h0)
  have hx : (l.map str).map (fun b => b.data.toList) = l := by
   rw [List.map_map]
   conv => rhs; rw [← List.map_id l]
   exact List.map_congr_left fun x _ => str_data x
  have h := Tryz.strings_Join b off k (l.map str) (str [c]) w (fun j x hj => hc j _ (by
   rw [List.getElem?_map] at hj
   unfold strs
   rw [List.getElem?_map]
   cases hl : l[j]? with
   | none => rw [hl] at hj; cases hj
   | some y => rw [hl] at hj; injection hj with hj; subst hj; rfl)) hb (by rw [List.length_map]; omega) (by rw [List.length_map]; exact hk) (by rw [hx, str_data]; omega)
  rw [List.length_map, hx, str_data] at h
  exact h
end Go.Proofs.YtoapelcofjjdnaaGreatDoor
namespace Go.Proofs.YtoapelcofjjdnaaGreatDoor
set_option linter.all false
open Go.RowKit
theorem info_strU : (Tryz.prog.info? 9).map (fun i => (i.zero, i.size, i.bytes)) = some (some (.string ByteArray.empty), 1, 16) := by kernel_rfl
theorem tk_next {s : List UInt8} {j : Nat} (h : j < s.length) : tk s (j + 1) = tk s j ++ [gb s j] := by
 obtain ⟨hj, e⟩ := List.getElem?_eq_some_iff.1 (gb_some h)
 unfold tk
 rw [take_snoc' s j hj, e]
theorem mid_one {s : List UInt8} {j : Nat} (h : j < s.length) : mid s j (j + 1) = [gb s j] := by
 unfold mid
 rw [show s.take (j + 1) = tk s (j + 1) from rfl, tk_next h, List.drop_append_of_le_length (by rw [tk_len]; omega), List.drop_eq_nil_of_le (by rw [tk_len]; omega)]
 rfl
theorem strs_set {q : List (List UInt8)} {l x : List UInt8} : (strs (q ++ [l])).set q.length (.string (str x)) = strs (q ++ [x]) := by
 rw [strs_append, strs_append, List.set_append_right _ _ (by rw [strs_len]; exact Nat.le_refl _), strs_len, Nat.sub_self]; rfl
set_option maxRecDepth 100000 in
set_option maxHeartbeats 4000000 in
theorem cut6_any (s : List UInt8) (c : UInt8) (w : World) (hs : s.length ≤ 100000) :
  Calls Tryz.prog 100 #[.string (str s), .int .u8 (c.toNat : Int)] w fun e w' => ∃ v, e = .returned v ∧ w'.ownsRow w.heap.size 9 1 v (cuts c s).length (strs (cuts c s)) ∧ Below w.heap.size w w' := by
 have hsz := str_size s
 have hgt := str_get s
 have hmd := str_mid s
 go_enter Tryz.func100, Tryz.ntmps100
 go_wp2
 go_loopg [5, 6] (s.length) (fun k s5 s6 wr => ∃ (j : Nat) (g cap : Nat), k = s.length - j ∧ j ≤ s.length ∧ s6 = .int .i64 j ∧ s5 = .slice (some ⟨g, 0, none⟩) (cuts c (tk s j)).length cap ∧ w.heap.size ≤ g ∧ g < wr.heap.size ∧ wr.ownsRow w.heap.size 9 1 (.slice (some ⟨g, 0, none⟩) (cuts c (tk s j)).length cap) (cuts c (tk s j)).length (strs (cuts c (tk s j))) ∧ Below w.heap.size w wr)
 case atStart =>
  refine ⟨0, w.heap.size, 1, rfl, Nat.zero_le _, rfl, rfl, Nat.le_refl _, by simp, ?_, bnew (Below.refl _ _) _⟩
  exact World.ownsRow_lit w #[.string (str [])] 1 (Nat.le_refl _) (by decide) rfl
 case round =>
  obtain ⟨j, g, cap, rfl, hj, rfl, rfl, hg0, hg1, hown, hbel⟩ := hrel
  have hq0 := hbel.size
  have hcl := cuts_le c (tk s j)
  have htl := tk_len s j
  have hpos := cuts_pos c (tk s j)
  obtain ⟨n, hn⟩ : ∃ n, n = (cuts c (tk s j)).length := ⟨_, rfl⟩
  by_cases hlt : j < s.length
  ·
   have hlt1 : (j : Int) < (s.length : Int) := by omega
   have hj0 : (0 : Int) ≤ (j : Int) := by omega
   have HT := Lib.hid (tk_next hlt)
   by_cases hb : (gb s j).toNat = c.toNat
   ·
    have hb' : ((gb s j).toNat : Int) = (c.toNat : Int) := by omega
    rw [byte_ext hb] at HT
    clear hb
    rw [← hn] at hown hcl hpos ⊢
    have HNN := Lib.hid hn
    clear hn
    go_wp2_with (at_builtin; refine wpList_append_lit rfl _ _ _ rfl w.heap.size _ _ 1 16 Tryz.underlying38 info_strU rfl (by decide) _ _ _ rfl hown _ 1 1 _ rfl rfl (by simp [Value.oneCell']) (by omega) (by decide) (by omega) ?_; intro A5 c5 w5 hc5 hm5 hown5 hb5 hg5)
    obtain ⟨g5, cap5, e5, hg50, hg51⟩ := hown5.form (by omega)
    injection e5 with e5 _ e6
    subst e5 e6
    go_roundg (s.length - (j + 1))
    case measure => omega
    case rel =>
     have hc2 : cuts c (tk s (j + 1)) = cuts c (tk s j) ++ [[]] := by rw [HT.out]; exact cuts_snoc_hit c _
     have hl2 : (cuts c (tk s (j + 1))).length = n + 1 := by rw [hc2, List.length_append, ← HNN.out]; rfl
     refine ⟨j + 1, g5, c5, rfl, by omega, by go_num, by rw [hl2], hg50, hg51, ?_, hbel.trans hb5⟩
     rw [hl2, hc2, strs_append]
     exact hown5
   ·
    have hb' : (((gb s j).toNat : Int) == (c.toNat : Int)) = false := by rw [beq_eq_false_iff_ne]; omega
    have hne : gb s j ≠ c := fun e => hb (by rw [e])
    obtain ⟨q, l, hq1, hq2⟩ := cuts_snoc hne (tk s j)
    have hql : q.length + 1 = n := by rw [hn, hq1, List.length_append]; rfl
    have hll : l.length ≤ s.length := by have := cuts_sum c (tk s j) l (by rw [hq1]; simp); omega
    have hcell := hown.cellAt q.length (by rw [← hn]; omega)
    rw [hq1, strs_append, List.getElem?_append_right (by rw [strs_len]; exact Nat.le_refl _), strs_len, Nat.sub_self] at hcell
    have hcell' : wr.cell? ⟨g, q.length, none⟩ = some (.string (str l)) := hcell
    have hfrz := hown.frozenAt q.length
    have hlen1 : (cuts c (tk s j)).length = q.length + 1 := by rw [hq1, List.length_append]; rfl
    have hqb : q.length ≤ 100000 := by omega
    have hown1 := hown
    rw [hlen1] at hown1
    have hst := hown1.stored q.length (.string (str (l ++ [gb s j])))
    rw [hq1, strs_set, ← hq2, ← HT.out] at hst
    have HS := Lib.hid hst
    have hlen2 : (cuts c (tk s (j + 1))).length = q.length + 1 := by rw [HT.out, hq2, List.length_append]; rfl
    have HL2 := Lib.hid hlen2
    have hm1 := mid_one hlt
    have hap : str l ++ str [gb s j] = str (l ++ [gb s j]) := str_app l _
    have hz1 := str_size l
    have hz2 := str_size [gb s j]
    have hk1 : (9223372036854775807 < l.length + 1) = False := eq_false (by omega)
    clear hcell hst hown1 hq1 hq2 hown hlen2 hb hne hn hql hpos hcl
    rw [hlen1]
    clear hlen1
    have hw1 : IntKind.i64.wrap (q.length : Int) = (q.length : Int) := IntWalk.i64_in _ (by omega)
    have hw2 : (0 : Int) ≤ (q.length : Int) := by omega
    have hw3 : (q.length : Int) < (q.length : Int) + 1 := by omega
    have hw4 : IntKind.i64.wrap ((j : Int) + 1) = (j : Int) + 1 := IntWalk.i64_in _ (by omega)
    have hw5 : (j : Int) + 1 ≤ (s.length : Int) := by omega
    have hw6 : (0 : Int) ≤ (j : Int) + 1 := by omega
    have hw7 : (j : Int) ≤ (j : Int) + 1 := by omega
    go_wp2
    go_region
    all_goals go_wp2
    all_goals go_roundg (s.length - (j + 1))
    all_goals first
     | (case measure => omega)
     | (case rel => exact ⟨j + 1, g, cap, rfl, by omega, by go_num, by rw [HL2.out], hg0, by simpa using hg1, by rw [HL2.out]; exact HS.out.1, (Below.setCell hbel (p := ⟨g, q.length, none⟩) hg0 _).drew⟩)
  ·
   obtain rfl : j = s.length := by omega
   go_wp2
   go_ret
   have e : tk s s.length = s := List.take_length
   rw [e] at hown
   exact ⟨_, rfl, by rw [e]; exact hown, hbel⟩
set_option maxRecDepth 100000 in
set_option maxHeartbeats 2000000 in
theorem first_any (s : List UInt8) (c : UInt8) (w : World) (hs : s.length ≤ 100000) :
  Calls Tryz.prog 58 #[.string (str s), .int .u8 (c.toNat : Int)] w fun e w' => e = .returned (.int .i64 (ahead c s).length) ∧ w = w' := by
 have hsz := str_size s
 have hgt := str_get s
 go_enter Tryz.func58, Tryz.ntmps58
 go_wp2
 go_loopg [5] (s.length) (fun k s5 wr => ∃ j : Nat, k = s.length - j ∧ j ≤ s.length ∧ s5 = .int .i64 j ∧ Hid (c ∉ tk s j) ∧ w = wr)
 case atStart => exact ⟨0, rfl, Nat.zero_le _, rfl, (fun h => by cases h), rfl⟩
 case round =>
  obtain ⟨j, rfl, hj, rfl, hno, rfl⟩ := hrel
  by_cases hlt : j < s.length
  ·
   have hlt1 : (j : Int) < (s.length : Int) := by omega
   have hj0 : (0 : Int) ≤ (j : Int) := by omega
   by_cases hb : (gb s j).toNat = c.toNat
   ·
    have hb' : ((gb s j).toNat : Int) = (c.toNat : Int) := by omega
    have HA := Lib.hid (show (ahead c s).length = j by
     have e1 : s = tk s j ++ c :: dr s (j + 1) := by
      have h1 := List.take_append_drop j s
      obtain ⟨hjj, e⟩ := List.getElem?_eq_some_iff.1 (gb_some hlt)
      rw [List.drop_eq_getElem_cons hjj, e, byte_ext hb] at h1
      exact h1.symm
     rw [e1, (ahead_at _ hno.out).1, tk_len]; omega)
    clear hb
    go_wp2
    go_ret
    exact ⟨ret_int (by rw [HA.out]), rfl⟩
   ·
    have hb' : (((gb s j).toNat : Int) == (c.toNat : Int)) = false := by rw [beq_eq_false_iff_ne]; omega
    have HN := Lib.hid (show c ∉ tk s (j + 1) by
     rw [tk_next hlt]; intro h
     rcases List.mem_append.1 h with h | h
     · exact hno.out h
     · exact hb (by rw [List.mem_singleton.1 h]))
    clear hb
    go_wp2
    go_roundg (s.length - (j + 1))
    case measure => omega
    case rel => exact ⟨j + 1, rfl, by omega, by go_num, HN.out, rfl⟩
  ·
   obtain rfl : j = s.length := by omega
   have HA := Lib.hid (show (ahead c s).length = s.length by
    rw [(ahead_whole (c := c) (s := s) (by have h := hno.out; rw [show tk s s.length = s from List.take_length] at h; exact h)).1])
   go_wp2
   go_ret
   exact ⟨ret_int (by rw [HA.out]), rfl⟩
end Go.Proofs.YtoapelcofjjdnaaGreatDoor
namespace Go.Proofs.YtoapelcofjjdnaaGreatDoor
set_option linter.all false
open Go.RowKit
set_option maxRecDepth 100000 in
set_option maxHeartbeats 1000000 in
theorem value4_any (c : UInt8) (w : World) : Calls Tryz.prog 145 #[.int .u8 (c.toNat : Int)] w fun e w' => e = .returned (.int .i64 (hexV c)) ∧ w = w' := by
 go_enter Tryz.func145, Tryz.ntmps145
 go_wp2
 all_goals go_ret
 all_goals exact ⟨ret_int (by unfold hexV; (repeat' split) <;> omega), rfl⟩
set_option maxRecDepth 100000 in
set_option maxHeartbeats 1000000 in
theorem hex6_any (c : UInt8) (w : World) : Calls Tryz.prog 109 #[.int .u8 (c.toNat : Int)] w fun e w' => e = .returned (.int .i64 (hexV c)) ∧ w = w' := by
 go_enter Tryz.func109, Tryz.ntmps109
 go_wp2
 all_goals go_ret
 all_goals exact ⟨ret_int (by unfold hexV; (repeat' split) <;> omega), rfl⟩
theorem cnt_at {b n j : Nat} {s : List UInt8} {o : Option Nat} (h : o = cntGo b n (s.drop j)) (hj : j < s.length) (hd : 0 ≤ hexV (gb s j) ∧ hexV (gb s j) < (b : Int)) : o = cntGo b (min (n * b + (hexV (gb s j)).toNat) hugeN) (s.drop (j + 1)) := by
 obtain ⟨hj', e⟩ := List.getElem?_eq_some_iff.1 (gb_some hj)
 rw [h, List.drop_eq_getElem_cons hj', e, cntGo, if_pos hd]
theorem cnt_no {b n j : Nat} {s : List UInt8} {o : Option Nat} (h : o = cntGo b n (s.drop j)) (hj : j < s.length) (hd : ¬ (0 ≤ hexV (gb s j) ∧ hexV (gb s j) < (b : Int))) : o = none := by
 obtain ⟨hj', e⟩ := List.getElem?_eq_some_iff.1 (gb_some hj)
 rw [h, List.drop_eq_getElem_cons hj', e, cntGo, if_neg hd]
theorem cnt_end {b n : Nat} {s : List UInt8} {o : Option Nat} (h : o = cntGo b n (s.drop s.length)) : o = some n := by
 rw [h, List.drop_length]; rfl
set_option maxRecDepth 100000 in
set_option maxHeartbeats 2000000 in
theorem count4_any (s : List UInt8) (b : Nat) (hb : b ≤ 16) (w : World) (hs : s.length ≤ 1000000) : Calls Tryz.prog 119 #[.string (str s), .int .i64 (b : Int)] w fun e w' => e = .returned (.tuple #[.int .i64 (((cntGo b 0 s).getD 0 : Nat) : Int), .bool (cntGo b 0 s).isSome]) ∧ w = w' := by
 have hsz := str_size s
 have hgt := str_get s
 obtain ⟨o, ho⟩ : ∃ o, o = cntGo b 0 s := ⟨_, rfl⟩
 rw [← ho]
 have HO := Lib.hid ho
 clear ho
 go_enter Tryz.func119, Tryz.ntmps119
 go_wp2
 go_loopg [6, 11] (s.length) (fun k s6 s11 wr => ∃ j n : Nat, k = s.length - j ∧ j ≤ s.length ∧ s11 = .int .i64 j ∧ s6 = .int .i64 n ∧ n ≤ hugeN ∧ Hid (o = cntGo b n (s.drop j)) ∧ w = wr)
 case atStart => exact ⟨0, 0, rfl, Nat.zero_le _, rfl, rfl, Nat.zero_le _, HO, rfl⟩
 case round =>
  obtain ⟨j, n, rfl, hj, rfl, rfl, hn, ho, rfl⟩ := hrel
  unfold hugeN at hn
  by_cases hlt : j < s.length
  ·
   have hr := hexV_range (gb s j)
   have hv : n * b ≤ 1099511627776 * 16 := Nat.mul_le_mul hn hb
   obtain ⟨q, hq⟩ : ∃ q, q = n * b := ⟨_, rfl⟩
   have hqi : (n : Int) * (b : Int) = (q : Int) := by rw [hq]; push_cast; rfl
   rw [← hq] at hv
   have HQ := Lib.hid hq
   clear hq
   by_cases hd : 0 ≤ hexV (gb s j) ∧ hexV (gb s j) < (b : Int)
   ·
    have HN := Lib.hid (cnt_at ho hlt hd)
    obtain ⟨d, hd1⟩ : ∃ d : Nat, hexV (gb s j) = (d : Int) := ⟨(hexV (gb s j)).toNat, by omega⟩
    have HD := Lib.hid hd1
    obtain ⟨hd2, hd3⟩ := hd
    go_wp2_with (go_at_call 145; go_must (go_fit (value4_any _ _)); rintro e w1 ⟨rfl, rfl⟩)
    all_goals go_roundg (s.length - (j + 1))
    all_goals first
     | (case measure => omega)
     | (case rel => exact ⟨j + 1, min (q + d) hugeN, rfl, by omega, by go_num, (by unfold hugeN; go_num), Nat.min_le_right _ _, (by have h := HN.out; rw [HD.out, ← HQ.out] at h; exact h), rfl⟩)
   ·
    have HN := cnt_no ho hlt hd
    subst HN
    go_wp2_with (go_at_call 145; go_must (go_fit (value4_any _ _)); rintro e w1 ⟨rfl, rfl⟩)
    all_goals go_ret2
    all_goals exact ⟨rfl, rfl⟩
  ·
   obtain rfl : j = s.length := by omega
   have := cnt_end ho
   subst this
   go_wp2
   go_ret2
   exact ⟨rfl, rfl⟩
theorem hexFront_is (s : List UInt8) : hexFront s = decide (2 ≤ s.length ∧ (gb s 0).toNat = 48 ∧ ((gb s 1).toNat = 120 ∨ (gb s 1).toNat = 88)) := by
 match s with
 | [] => rfl
 | [a] => unfold hexFront; simp
 | a :: c :: t =>
  rw [show gb (a :: c :: t) 0 = a from rfl, show gb (a :: c :: t) 1 = c from rfl]
  by_cases ha : a.toNat = 48
  ·
   obtain rfl : a = 48 := byte_ext ha
   show (c == 120 || c == 88) = _
   rw [Bool.eq_iff_iff, Bool.or_eq_true, beq_iff_eq, beq_iff_eq, decide_eq_true_iff]
   constructor
   ·
    rintro (rfl | rfl)
    · exact ⟨by simp, rfl, .inl rfl⟩
    · exact ⟨by simp, rfl, .inr rfl⟩
   ·
    rintro ⟨_, _, h | h⟩
    · exact .inl (byte_ext h)
    · exact .inr (byte_ext h)
  ·
   rw [decide_eq_false (fun h => ha h.2.1)]
   unfold hexFront
   split
   · next e => injection e with e _; subst e; exact absurd rfl ha
   · rfl
theorem octFront_is (s : List UInt8) : octFront s = decide (2 ≤ s.length ∧ (gb s 0).toNat = 48) := by
 match s with
 | [] => rfl
 | [a] => unfold octFront; simp
 | a :: c :: t =>
  rw [show gb (a :: c :: t) 0 = a from rfl]
  by_cases ha : a.toNat = 48
  ·
   obtain rfl : a = 48 := byte_ext ha
   exact (decide_eq_true ⟨by simp, rfl⟩).symm
  ·
   rw [decide_eq_false (fun h => ha h.2)]
   unfold octFront
   split
   · next e => injection e with e _; subst e; exact absurd rfl ha
   · rfl
theorem pNum_nil {s : List UInt8} (h : s.length = 0) : pNum s = none := by rw [List.eq_nil_of_length_eq_zero h]; rfl
theorem pNum_hex {s : List UInt8} (h : 2 ≤ s.length ∧ (gb s 0).toNat = 48 ∧ ((gb s 1).toNat = 120 ∨ (gb s 1).toNat = 88)) : pNum s = cntGo 16 0 (dr s 2) := by
 unfold pNum
 rw [if_neg (fun e => by rw [e] at h; exact absurd h.1 (by decide)), hexFront_is, if_pos (decide_eq_true h)]; rfl
theorem pNum_oct {s : List UInt8} (h : ¬ (2 ≤ s.length ∧ (gb s 0).toNat = 48 ∧ ((gb s 1).toNat = 120 ∨ (gb s 1).toNat = 88))) (h2 : 2 ≤ s.length ∧ (gb s 0).toNat = 48) : pNum s = cntGo 8 0 s := by
 unfold pNum
 rw [if_neg (fun e => by rw [e] at h2; exact absurd h2.1 (by decide)), hexFront_is, if_neg (by simpa using h), octFront_is, if_pos (decide_eq_true h2)]
theorem pNum_ten {s : List UInt8} (h0 : s.length ≠ 0) (h2 : ¬ (2 ≤ s.length ∧ (gb s 0).toNat = 48)) : pNum s = cntGo 10 0 s := by
 unfold pNum
 rw [if_neg (fun e => h0 (by rw [e]; rfl)), hexFront_is, if_neg (by simp only [decide_eq_true_eq]; exact fun h => h2 ⟨h.1, h.2.1⟩), octFront_is, if_neg (by simpa using h2)]
set_option maxRecDepth 100000 in
set_option maxHeartbeats 2000000 in
theorem number4_any (s : List UInt8) (w : World) (hs : s.length ≤ 1000000) : Calls Tryz.prog 85 #[.string (str s)] w fun e w' => e = .returned (.tuple #[.int .i64 (((pNum s).getD 0 : Nat) : Int), .bool (pNum s).isSome]) ∧ w = w' := by
 have hsz := str_size s
 have hgt := str_get s
 have hen := str_end s
 have hL := str_toL s
 have h0 : (s = []) = (s.length = 0) := by rw [List.length_eq_zero_iff]
 have C16 := Lib.hid fun w => count4_any (dr s 2) 16 (by decide) w (by rw [dr_len]; omega)
 have C8 := Lib.hid fun w => count4_any s 8 (by decide) w hs
 have C10 := Lib.hid fun w => count4_any s 10 (by decide) w hs
 by_cases h1 : s.length = 0
 ·
  rw [pNum_nil h1]
  have h1' : s = [] := List.eq_nil_of_length_eq_zero h1
  subst h1'
  go_enter Tryz.func85, Tryz.ntmps85
  go_wp2
  all_goals go_ret2
  all_goals exact ⟨rfl, rfl⟩
 ·
  have h1' : s.isEmpty = false := by cases s with | nil => exact absurd rfl h1 | cons _ _ => rfl
  by_cases hx : 2 ≤ s.length ∧ (gb s 0).toNat = 48 ∧ ((gb s 1).toNat = 120 ∨ (gb s 1).toNat = 88)
  ·
   rw [pNum_hex hx]
   obtain ⟨hx1, hx2, hx3⟩ := hx
   have hx2' : ((gb s 0).toNat : Int) = 48 := by omega
   clear h1 hx2
   rcases hx3 with hx3 | hx3
   all_goals
    have hx3' : ((gb s 1).toNat : Int) = _ := congrArg Nat.cast hx3
    clear hx3
    go_enter Tryz.func85, Tryz.ntmps85
    go_wp2_with (go_at_call 119; go_must (go_fit (C16.out _)); rintro e w1 ⟨rfl, rfl⟩)
    all_goals go_ret2
    all_goals exact ⟨rfl, rfl⟩
  ·
   by_cases ho : 2 ≤ s.length ∧ (gb s 0).toNat = 48
   ·
    rw [pNum_oct hx ho]
    obtain ⟨ho1, ho2⟩ := ho
    have hx3 : (((gb s 1).toNat : Int) == 120) = false := by rw [beq_eq_false_iff_ne]; exact fun e => hx ⟨ho1, ho2, .inl (by omega)⟩
    have hx4 : (((gb s 1).toNat : Int) == 88) = false := by rw [beq_eq_false_iff_ne]; exact fun e => hx ⟨ho1, ho2, .inr (by omega)⟩
    have ho2' : ((gb s 0).toNat : Int) = 48 := by omega
    clear h1 hx ho2
    go_enter Tryz.func85, Tryz.ntmps85
    go_wp2_with (go_at_call 119; go_must (go_fit (C8.out _)); rintro e w1 ⟨rfl, rfl⟩)
    all_goals go_ret2
    all_goals exact ⟨rfl, rfl⟩
   ·
    rw [pNum_ten h1 ho]
    by_cases hl : 2 ≤ s.length
    ·
     have ho2 : (((gb s 0).toNat : Int) == 48) = false := by rw [beq_eq_false_iff_ne]; exact fun e => ho ⟨hl, by omega⟩
     clear h1 hx ho
     go_enter Tryz.func85, Tryz.ntmps85
     go_wp2_with (go_at_call 119; go_must (go_fit (C10.out _)); rintro e w1 ⟨rfl, rfl⟩)
     all_goals go_ret2
     all_goals exact ⟨rfl, rfl⟩
    ·
     clear h1 hx ho
     go_enter Tryz.func85, Tryz.ntmps85
     go_wp2_with (go_at_call 119; go_must (go_fit (C10.out _)); rintro e w1 ⟨rfl, rfl⟩)
     all_goals go_ret2
     all_goals exact ⟨rfl, rfl⟩
end Go.Proofs.YtoapelcofjjdnaaGreatDoor
namespace Go.Proofs.YtoapelcofjjdnaaGreatDoor
set_option linter.all false
open Go.RowKit
theorem beq_byte6 {a b : UInt8} (h : a = b) : ((a.toNat : Int) == (b.toNat : Int)) = true := by rw [h]; simp
theorem beq_byte_no6 {a b : UInt8} (h : a ≠ b) : ((a.toNat : Int) == (b.toNat : Int)) = false := by
 rw [beq_eq_false_iff_ne]; intro e; exact h (byte_ext (by omega))
theorem mem_of_gb6 {t : List UInt8} {j : Nat} (h : j < t.length) {c : UInt8} (e : gb t j = c) : t.contains c = true := by
 have := gb_some h
 rw [e] at this
 have hm := List.mem_of_getElem? this
 simpa using hm
theorem not_mem_gb6 {t : List UInt8} {c : UInt8} (h : ∀ k, k < t.length → gb t k ≠ c) : t.contains c = false := by
 rw [Bool.eq_false_iff]
 intro hc
 have hm : c ∈ t := by simpa using hc
 obtain ⟨k, hk⟩ := List.getElem?_of_mem hm
 have hl : k < t.length := (List.getElem?_eq_some_iff.1 hk).1
 exact h k hl (gb_of hk)
set_option maxRecDepth 100000 in
set_option maxHeartbeats 1000000 in
theorem has6_any (t : List UInt8) (c : UInt8) (w : World) (ht : t.length ≤ 100000) : Calls Tryz.prog 68 #[.string (str t), .int .u8 (c.toNat : Int)] w fun e w' => e = .returned (.bool (t.contains c)) ∧ w = w' := by
 have hsz := str_size t
 have hg := str_get t
 go_enter Tryz.func68, Tryz.ntmps68
 go_wp2
 go_loopg [5] (t.length) (fun k i wr => ∃ j : Nat, k = t.length - j ∧ j ≤ t.length ∧ i = .int .i64 j ∧ Hid (∀ k, k < j → gb t k ≠ c) ∧ w = wr)
 case atStart => exact ⟨0, rfl, Nat.zero_le _, rfl, (fun k hk => by omega), rfl⟩
 case round =>
  obtain ⟨j, rfl, hj, rfl, hn, rfl⟩ := hrel
  by_cases hlt : j < t.length
  ·
   have hlt1 : (j : Int) < (t.length : Int) := by omega
   have hj0 : (0 : Int) ≤ (j : Int) := by omega
   by_cases he : gb t j = c
   ·
    have hb := beq_byte6 he
    have HE := Lib.hid he
    clear he
    go_wp2
    go_ret
    exact ⟨ret_bool (mem_of_gb6 hlt HE.out).symm, rfl⟩
   ·
    have hb := beq_byte_no6 he
    have HE := Lib.hid he
    clear he
    go_wp2
    go_roundg (t.length - (j + 1))
    case measure => omega
    case rel =>
     refine ⟨j + 1, rfl, by omega, by go_num, fun k hk => ?_, rfl⟩
     by_cases e : k = j
     · rw [e]; exact HE.out
     · exact hn.out k (by omega)
  ·
   obtain rfl : j = t.length := by omega
   go_wp2
   go_ret
   exact ⟨ret_bool (not_mem_gb6 hn.out).symm, rfl⟩
end Go.Proofs.YtoapelcofjjdnaaGreatDoor
namespace Go.Proofs.YtoapelcofjjdnaaGreatDoor
set_option linter.all false
open Go.RowKit
end Go.Proofs.YtoapelcofjjdnaaGreatDoor
