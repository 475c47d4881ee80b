/- The walks of the reference's Cut, first. -/
import Derived.Test.YtnnphploekchbaaDoorLibA
import Derived.IntWalk
namespace Go.Proofs.YtnnphploekchbaaDoor
set_option linter.all false
open Go.RowKit

theorem info_strU : (Tryd.prog.info? 9).map (fun i => (i.zero, i.size, i.bytes)) = some (some (.string ByteArray.empty), 1, 16) := by kernel_rfl
theorem tk_next {s : List UInt8} {j : Nat} (h : j < s.length) : tk s (j + 1) = tk s j ++ [gb s j] := by
  obtain ⟨hj, e⟩ := List.getElem?_eq_some_iff.1 (gb_some h)
  unfold tk
  rw [take_snoc' s j hj, e]
theorem mid_one {s : List UInt8} {j : Nat} (h : j < s.length) : mid s j (j + 1) = [gb s j] := by
  unfold mid
  rw [show s.take (j + 1) = tk s (j + 1) from rfl, tk_next h, List.drop_append_of_le_length (by rw [tk_len]; omega), List.drop_eq_nil_of_le (by rw [tk_len]; omega)]
  rfl
theorem strs_set {q : List (List UInt8)} {l x : List UInt8} : (strs (q ++ [l])).set q.length (.string (str x)) = strs (q ++ [x]) := by
  rw [strs_append, strs_append, List.set_append_right _ _ (by rw [strs_len]; exact Nat.le_refl _), strs_len, Nat.sub_self]; rfl

set_option maxRecDepth 100000 in
set_option maxHeartbeats 4000000 in
theorem cut6_any (s : List UInt8) (c : UInt8) (w : World) (hs : s.length ≤ 100000) :
    Calls Tryd.prog 47 #[.string (str s), .int .u8 (c.toNat : Int)] w fun e w' => ∃ v, e = .returned v ∧ w'.ownsRow w.heap.size 9 1 v (cuts c s).length (strs (cuts c s)) ∧ Below w.heap.size w w' := by
  have hsz := str_size s
  have hgt := str_get s
  have hmd := str_mid s
  go_enter Tryd.func47, Tryd.ntmps47
  go_wp2
  go_loopg [5, 6] (s.length) (fun k s5 s6 wr => ∃ (j : Nat) (g cap : Nat), k = s.length - j ∧ j ≤ s.length ∧ s6 = .int .i64 j ∧ s5 = .slice (some ⟨g, 0, none⟩) (cuts c (tk s j)).length cap ∧ w.heap.size ≤ g ∧ g < wr.heap.size ∧ wr.ownsRow w.heap.size 9 1 (.slice (some ⟨g, 0, none⟩) (cuts c (tk s j)).length cap) (cuts c (tk s j)).length (strs (cuts c (tk s j))) ∧ Below w.heap.size w wr)
  case atStart =>
    refine ⟨0, w.heap.size, 1, rfl, Nat.zero_le _, rfl, rfl, Nat.le_refl _, by simp, ?_, bnew (Below.refl _ _) _⟩
    exact World.ownsRow_lit w #[.string (str [])] 1 (Nat.le_refl _) (by decide) rfl
  case round =>
    obtain ⟨j, g, cap, rfl, hj, rfl, rfl, hg0, hg1, hown, hbel⟩ := hrel
    have hq0 := hbel.size
    have hcl := cuts_le c (tk s j)
    have htl := tk_len s j
    have hpos := cuts_pos c (tk s j)
    obtain ⟨n, hn⟩ : ∃ n, n = (cuts c (tk s j)).length := ⟨_, rfl⟩
    by_cases hlt : j < s.length
    · have hlt1 : (j : Int) < (s.length : Int) := by omega
      have hj0 : (0 : Int) ≤ (j : Int) := by omega
      have HT := Lib.hid (tk_next hlt)
      by_cases hb : (gb s j).toNat = c.toNat
      · have hb' : ((gb s j).toNat : Int) = (c.toNat : Int) := by omega
        rw [byte_ext hb] at HT
        clear hb
        rw [← hn] at hown hcl hpos ⊢
        have HNN := Lib.hid hn
        clear hn
        go_wp2_with (at_builtin; refine wpList_append_lit rfl _ _ _ rfl w.heap.size _ _ 1 16 Tryd.underlying22 info_strU rfl (by decide) _ _ _ rfl hown _ 1 1 _ rfl rfl (by simp [Value.oneCell']) (by omega) (by decide) (by omega) ?_; intro A5 c5 w5 hc5 hm5 hown5 hb5 hg5)
        obtain ⟨g5, cap5, e5, hg50, hg51⟩ := hown5.form (by omega)
        injection e5 with e5 _ e6
        subst e5 e6
        go_roundg (s.length - (j + 1))
        case measure => omega
        case rel =>
          have hc2 : cuts c (tk s (j + 1)) = cuts c (tk s j) ++ [[]] := by rw [HT.out]; exact cuts_snoc_hit c _
          have hl2 : (cuts c (tk s (j + 1))).length = n + 1 := by rw [hc2, List.length_append, ← HNN.out]; rfl
          refine ⟨j + 1, g5, c5, rfl, by omega, by go_num, by rw [hl2], hg50, hg51, ?_, hbel.trans hb5⟩
          rw [hl2, hc2, strs_append]
          exact hown5
      · have hb' : (((gb s j).toNat : Int) == (c.toNat : Int)) = false := by rw [beq_eq_false_iff_ne]; omega
        have hne : gb s j ≠ c := fun e => hb (by rw [e])
        obtain ⟨q, l, hq1, hq2⟩ := cuts_snoc hne (tk s j)
        have hql : q.length + 1 = n := by rw [hn, hq1, List.length_append]; rfl
        have hll : l.length ≤ s.length := by have := cuts_sum c (tk s j) l (by rw [hq1]; simp); omega
        have hcell := hown.cellAt q.length (by rw [← hn]; omega)
        rw [hq1, strs_append, List.getElem?_append_right (by rw [strs_len]; exact Nat.le_refl _), strs_len, Nat.sub_self] at hcell
        have hcell' : wr.cell? ⟨g, q.length, none⟩ = some (.string (str l)) := hcell
        have hfrz := hown.frozenAt q.length
        have hlen1 : (cuts c (tk s j)).length = q.length + 1 := by rw [hq1, List.length_append]; rfl
        have hqb : q.length ≤ 100000 := by omega
        have hown1 := hown
        rw [hlen1] at hown1
        have hst := hown1.stored q.length (.string (str (l ++ [gb s j])))
        rw [hq1, strs_set, ← hq2, ← HT.out] at hst
        have HS := Lib.hid hst
        have hlen2 : (cuts c (tk s (j + 1))).length = q.length + 1 := by rw [HT.out, hq2, List.length_append]; rfl
        have HL2 := Lib.hid hlen2
        have hm1 := mid_one hlt
        have hap : str l ++ str [gb s j] = str (l ++ [gb s j]) := str_app l _
        have hz1 := str_size l
        have hz2 := str_size [gb s j]
        have hk1 : (9223372036854775807 < l.length + 1) = False := eq_false (by omega)
        clear hcell hst hown1 hq1 hq2 hown hlen2 hb hne hn hql hpos hcl
        rw [hlen1]
        clear hlen1
        have hw1 : IntKind.i64.wrap (q.length : Int) = (q.length : Int) := IntWalk.i64_in _ (by omega)
        have hw2 : (0 : Int) ≤ (q.length : Int) := by omega
        have hw3 : (q.length : Int) < (q.length : Int) + 1 := by omega
        have hw4 : IntKind.i64.wrap ((j : Int) + 1) = (j : Int) + 1 := IntWalk.i64_in _ (by omega)
        have hw5 : (j : Int) + 1 ≤ (s.length : Int) := by omega
        have hw6 : (0 : Int) ≤ (j : Int) + 1 := by omega
        have hw7 : (j : Int) ≤ (j : Int) + 1 := by omega
        go_wp2
        go_region
        all_goals go_wp2
        all_goals go_roundg (s.length - (j + 1))
        all_goals first
          | (case measure => omega)
          | (case rel => exact ⟨j + 1, g, cap, rfl, by omega, by go_num, by rw [HL2.out], hg0, by simpa using hg1, by rw [HL2.out]; exact HS.out.1, (Below.setCell hbel (p := ⟨g, q.length, none⟩) hg0 _).drew⟩)
    · obtain rfl : j = s.length := by omega
      go_wp2
      go_ret
      have e : tk s s.length = s := List.take_length
      rw [e] at hown
      exact ⟨_, rfl, by rw [e]; exact hown, hbel⟩

set_option maxRecDepth 100000 in
set_option maxHeartbeats 2000000 in
theorem first_any (s : List UInt8) (c : UInt8) (w : World) (hs : s.length ≤ 100000) :
    Calls Tryd.prog 54 #[.string (str s), .int .u8 (c.toNat : Int)] w fun e w' => e = .returned (.int .i64 (ahead c s).length) ∧ w = w' := by
  have hsz := str_size s
  have hgt := str_get s
  go_enter Tryd.func54, Tryd.ntmps54
  go_wp2
  go_loopg [5] (s.length) (fun k s5 wr => ∃ j : Nat, k = s.length - j ∧ j ≤ s.length ∧ s5 = .int .i64 j ∧ Hid (c ∉ tk s j) ∧ w = wr)
  case atStart => exact ⟨0, rfl, Nat.zero_le _, rfl, (fun h => by cases h), rfl⟩
  case round =>
    obtain ⟨j, rfl, hj, rfl, hno, rfl⟩ := hrel
    by_cases hlt : j < s.length
    · have hlt1 : (j : Int) < (s.length : Int) := by omega
      have hj0 : (0 : Int) ≤ (j : Int) := by omega
      by_cases hb : (gb s j).toNat = c.toNat
      · have hb' : ((gb s j).toNat : Int) = (c.toNat : Int) := by omega
        have HA := Lib.hid (show (ahead c s).length = j by
          have e1 : s = tk s j ++ c :: dr s (j + 1) := by
            have h1 := List.take_append_drop j s
            obtain ⟨hjj, e⟩ := List.getElem?_eq_some_iff.1 (gb_some hlt)
            rw [List.drop_eq_getElem_cons hjj, e, byte_ext hb] at h1
            exact h1.symm
          rw [e1, (ahead_at _ hno.out).1, tk_len]; omega)
        clear hb
        go_wp2
        go_ret
        exact ⟨ret_int (by rw [HA.out]), rfl⟩
      · have hb' : (((gb s j).toNat : Int) == (c.toNat : Int)) = false := by rw [beq_eq_false_iff_ne]; omega
        have HN := Lib.hid (show c ∉ tk s (j + 1) by
          rw [tk_next hlt]; intro h
          rcases List.mem_append.1 h with h | h
          · exact hno.out h
          · exact hb (by rw [List.mem_singleton.1 h]))
        clear hb
        go_wp2
        go_roundg (s.length - (j + 1))
        case measure => omega
        case rel => exact ⟨j + 1, rfl, by omega, by go_num, HN.out, rfl⟩
    · obtain rfl : j = s.length := by omega
      have HA := Lib.hid (show (ahead c s).length = s.length by
        rw [(ahead_whole (c := c) (s := s) (by have h := hno.out; rw [show tk s s.length = s from List.take_length] at h; exact h)).1])
      go_wp2
      go_ret
      exact ⟨ret_int (by rw [HA.out]), rfl⟩
end Go.Proofs.YtnnphploekchbaaDoor

