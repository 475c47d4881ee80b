/- The library's functions on texts, in this proof's words: Split, Cut, ReplaceAll, Join at one byte. -/
import Derived.Test.YtfandijagdiggaaDoorShelf
import Derived.Test.YtfandijagdiggaaDoorK02
import Derived.Test.YtfandijagdiggaaDoorK01
import Derived.IntWalk
namespace Go.Proofs.YtfandijagdiggaaDoor
set_option linter.all false
open Go.RowKit

/-- The library's variable internal/bytealg.MaxLen holds some number. -/
def ML (w : World) : Prop := ∃ m, w.cell? ⟨0, 0, none⟩ = some (.int .i64 m)
theorem ML.next {w w' : World} (h : ML w) (hb : Below w.heap.size w w') : ML w' := by
  obtain ⟨m, hm⟩ := h
  exact ⟨m, (hb.cell (p := ⟨_, 0, none⟩) (World.block_lt_of_cell? _ _ hm)).trans hm⟩
theorem ML.drew {w : World} (h : ML w) : ML w.drew := h
theorem ML.new {w : World} (h : ML w) (o : Obj) : ML (w.alloc o) := h.next (Below.alloc (Below.refl _ _) (Nat.le_refl _) o)

theorem strs_split (c : UInt8) (s : List UInt8) : (Lib.splitB (str [c]) 0 (Lib.countB (str s) (str [c])) (str s)).map Value.string = strs (cuts c s) := by
  have h := Lib.splitB_data (str [c]) 0 (Lib.countB (str s) (str [c])) (str s)
  have hc : Lib.countB (str s) (str [c]) = s.count c := by
    show Lib.count (str s).data.toList (str [c]).data.toList = _
    rw [str_data, str_data, Lib.count_one]
  rw [str_data, str_data, hc, splitK_cuts c _ s rfl] at h
  rw [hc]
  unfold strs
  rw [← h, List.map_map]
  exact List.map_congr_left fun b _ => by show Value.string b = Value.string (str b.data.toList); rw [str_of]
theorem count_split (c : UInt8) (s : List UInt8) : Lib.countB (str s) (str [c]) + 1 = (cuts c s).length := by
  have hc : Lib.countB (str s) (str [c]) = s.count c := by
    show Lib.count (str s).data.toList (str [c]).data.toList = _
    rw [str_data, str_data, Lib.count_one]
  rw [hc, cuts_len]
theorem split_any (c : UInt8) (s : List UInt8) (w : World) (hm : ML w) (hs : s.length ≤ 1000000) :
    Calls Tryd.prog 26 #[.string (str s), .string (str [c])] w fun e w' =>
      e = .returned (.slice (some ⟨w.heap.size, 0, none⟩) (cuts c s).length (cuts c s).length) ∧ Rd w' w'.heap.size (some ⟨w.heap.size, 0, none⟩) (strs (cuts c s)) ∧ Below w.heap.size w w' := by
  obtain ⟨m, hm⟩ := hm
  refine (Tryd.strings_Split (str s) (str [c]) m w (by rw [str_size]; omega) hm (by rw [str_size]; simp)).mono fun e w' ⟨he, hw⟩ => ?_
  rw [count_split] at he
  rw [strs_split] at hw
  refine ⟨he, ?_, by rw [hw]; exact bnew (Below.refl _ _) _⟩
  rw [hw]
  have := @Rd.lit w (strs (cuts c s)).toArray 9 (0, 0)
  simpa using this
theorem join_any (c : UInt8) (A : Option Addr) (k : Nat) (l : List (List UInt8)) (w : World) (hr : Rd w w.heap.size A (strs l)) (hk : l.length ≤ k) (hl : l.length ≤ 1000000) (hj : (Lib.join l [c]).length ≤ 100000000) :
    Calls Tryd.prog 18 #[.slice A l.length k, .string (str [c])] w fun e w' => e = .returned (.string (str (Lib.join l [c]))) ∧ Below w.heap.size w w' := by
  by_cases h0 : l = []
  · subst h0
    refine (Tryd.strings_Join_none A k (str [c]) w).mono fun e w' ⟨he, hw⟩ => ?_
    exact ⟨he, hw ▸ Below.refl _ _⟩
  · obtain ⟨b, off, rfl, hb, hc⟩ := hr (by rw [strs_len]; exact List.length_pos_iff.2 h0)
    have hx : (l.map str).map (fun b => b.data.toList) = l := by
      rw [List.map_map]
      conv => rhs; rw [← List.map_id l]
      exact List.map_congr_left fun x _ => str_data x
    have h := Tryd.strings_Join b off k (l.map str) (str [c]) w (fun j x hj => hc j _ (by
      rw [List.getElem?_map] at hj
      unfold strs
      rw [List.getElem?_map]
      cases hl : l[j]? with
      | none => rw [hl] at hj; cases hj
      | some y => rw [hl] at hj; injection hj with hj; subst hj; rfl)) hb (by rw [List.length_map]; omega) (by rw [List.length_map]; exact hk) (by rw [hx, str_data]; omega)
    rw [List.length_map, hx, str_data] at h
    exact h
end Go.Proofs.YtfandijagdiggaaDoor

namespace Go.Proofs.YtfandijagdiggaaDoor
set_option linter.all false
open Go.RowKit

theorem info_strU : (Tryd.prog.info? 9).map (fun i => (i.zero, i.size, i.bytes)) = some (some (.string ByteArray.empty), 1, 16) := by kernel_rfl
theorem tk_next {s : List UInt8} {j : Nat} (h : j < s.length) : tk s (j + 1) = tk s j ++ [gb s j] := by
  obtain ⟨hj, e⟩ := List.getElem?_eq_some_iff.1 (gb_some h)
  unfold tk
  rw [take_snoc' s j hj, e]
theorem mid_one {s : List UInt8} {j : Nat} (h : j < s.length) : mid s j (j + 1) = [gb s j] := by
  unfold mid
  rw [show s.take (j + 1) = tk s (j + 1) from rfl, tk_next h, List.drop_append_of_le_length (by rw [tk_len]; omega), List.drop_eq_nil_of_le (by rw [tk_len]; omega)]
  rfl
theorem strs_set {q : List (List UInt8)} {l x : List UInt8} : (strs (q ++ [l])).set q.length (.string (str x)) = strs (q ++ [x]) := by
  rw [strs_append, strs_append, List.set_append_right _ _ (by rw [strs_len]; exact Nat.le_refl _), strs_len, Nat.sub_self]; rfl

set_option maxRecDepth 100000 in
set_option maxHeartbeats 4000000 in
theorem cut6_any (s : List UInt8) (c : UInt8) (w : World) (hs : s.length ≤ 100000) :
    Calls Tryd.prog 27 #[.string (str s), .int .u8 (c.toNat : Int)] w fun e w' => ∃ v, e = .returned v ∧ w'.ownsRow w.heap.size 9 1 v (cuts c s).length (strs (cuts c s)) ∧ Below w.heap.size w w' := by
  have hsz := str_size s
  have hgt := str_get s
  have hmd := str_mid s
  go_enter Tryd.func27, Tryd.ntmps27
  go_wp2
  go_loopg [5, 6] (s.length) (fun k s5 s6 wr => ∃ (j : Nat) (g cap : Nat), k = s.length - j ∧ j ≤ s.length ∧ s6 = .int .i64 j ∧ s5 = .slice (some ⟨g, 0, none⟩) (cuts c (tk s j)).length cap ∧ w.heap.size ≤ g ∧ g < wr.heap.size ∧ wr.ownsRow w.heap.size 9 1 (.slice (some ⟨g, 0, none⟩) (cuts c (tk s j)).length cap) (cuts c (tk s j)).length (strs (cuts c (tk s j))) ∧ Below w.heap.size w wr)
  case atStart =>
    refine ⟨0, w.heap.size, 1, rfl, Nat.zero_le _, rfl, rfl, Nat.le_refl _, by simp, ?_, bnew (Below.refl _ _) _⟩
    exact World.ownsRow_lit w #[.string (str [])] 1 (Nat.le_refl _) (by decide) rfl
  case round =>
    obtain ⟨j, g, cap, rfl, hj, rfl, rfl, hg0, hg1, hown, hbel⟩ := hrel
    have hq0 := hbel.size
    have hcl := cuts_le c (tk s j)
    have htl := tk_len s j
    have hpos := cuts_pos c (tk s j)
    obtain ⟨n, hn⟩ : ∃ n, n = (cuts c (tk s j)).length := ⟨_, rfl⟩
    by_cases hlt : j < s.length
    · have hlt1 : (j : Int) < (s.length : Int) := by omega
      have hj0 : (0 : Int) ≤ (j : Int) := by omega
      have HT := Lib.hid (tk_next hlt)
      by_cases hb : (gb s j).toNat = c.toNat
      · have hb' : ((gb s j).toNat : Int) = (c.toNat : Int) := by omega
        rw [byte_ext hb] at HT
        clear hb
        rw [← hn] at hown hcl hpos ⊢
        have HNN := Lib.hid hn
        clear hn
        go_wp2_with (at_builtin; refine wpList_append_lit rfl _ _ _ rfl w.heap.size _ _ 1 16 Tryd.underlying28 info_strU rfl (by decide) _ _ _ rfl hown _ 1 1 _ rfl rfl (by simp [Value.oneCell']) (by omega) (by decide) (by omega) ?_; intro A5 c5 w5 hc5 hm5 hown5 hb5 hg5)
        obtain ⟨g5, cap5, e5, hg50, hg51⟩ := hown5.form (by omega)
        injection e5 with e5 _ e6
        subst e5 e6
        go_roundg (s.length - (j + 1))
        case measure => omega
        case rel =>
          have hc2 : cuts c (tk s (j + 1)) = cuts c (tk s j) ++ [[]] := by rw [HT.out]; exact cuts_snoc_hit c _
          have hl2 : (cuts c (tk s (j + 1))).length = n + 1 := by rw [hc2, List.length_append, ← HNN.out]; rfl
          refine ⟨j + 1, g5, c5, rfl, by omega, by go_num, by rw [hl2], hg50, hg51, ?_, hbel.trans hb5⟩
          rw [hl2, hc2, strs_append]
          exact hown5
      · have hb' : (((gb s j).toNat : Int) == (c.toNat : Int)) = false := by rw [beq_eq_false_iff_ne]; omega
        have hne : gb s j ≠ c := fun e => hb (by rw [e])
        obtain ⟨q, l, hq1, hq2⟩ := cuts_snoc hne (tk s j)
        have hql : q.length + 1 = n := by rw [hn, hq1, List.length_append]; rfl
        have hll : l.length ≤ s.length := by have := cuts_sum c (tk s j) l (by rw [hq1]; simp); omega
        have hcell := hown.cellAt q.length (by rw [← hn]; omega)
        rw [hq1, strs_append, List.getElem?_append_right (by rw [strs_len]; exact Nat.le_refl _), strs_len, Nat.sub_self] at hcell
        have hcell' : wr.cell? ⟨g, q.length, none⟩ = some (.string (str l)) := hcell
        have hfrz := hown.frozenAt q.length
        have hlen1 : (cuts c (tk s j)).length = q.length + 1 := by rw [hq1, List.length_append]; rfl
        have hqb : q.length ≤ 100000 := by omega
        have hown1 := hown
        rw [hlen1] at hown1
        have hst := hown1.stored q.length (.string (str (l ++ [gb s j])))
        rw [hq1, strs_set, ← hq2, ← HT.out] at hst
        have HS := Lib.hid hst
        have hlen2 : (cuts c (tk s (j + 1))).length = q.length + 1 := by rw [HT.out, hq2, List.length_append]; rfl
        have HL2 := Lib.hid hlen2
        have hm1 := mid_one hlt
        have hap : str l ++ str [gb s j] = str (l ++ [gb s j]) := str_app l _
        have hz1 := str_size l
        have hz2 := str_size [gb s j]
        have hk1 : (9223372036854775807 < l.length + 1) = False := eq_false (by omega)
        clear hcell hst hown1 hq1 hq2 hown hlen2 hb hne hn hql hpos hcl
        rw [hlen1]
        clear hlen1
        have hw1 : IntKind.i64.wrap (q.length : Int) = (q.length : Int) := IntWalk.i64_in _ (by omega)
        have hw2 : (0 : Int) ≤ (q.length : Int) := by omega
        have hw3 : (q.length : Int) < (q.length : Int) + 1 := by omega
        have hw4 : IntKind.i64.wrap ((j : Int) + 1) = (j : Int) + 1 := IntWalk.i64_in _ (by omega)
        have hw5 : (j : Int) + 1 ≤ (s.length : Int) := by omega
        have hw6 : (0 : Int) ≤ (j : Int) + 1 := by omega
        have hw7 : (j : Int) ≤ (j : Int) + 1 := by omega
        go_wp2
        go_region
        all_goals go_wp2
        all_goals go_roundg (s.length - (j + 1))
        all_goals first
          | (case measure => omega)
          | (case rel => exact ⟨j + 1, g, cap, rfl, by omega, by go_num, by rw [HL2.out], hg0, by simpa using hg1, by rw [HL2.out]; exact HS.out.1, (Below.setCell hbel (p := ⟨g, q.length, none⟩) hg0 _).drew⟩)
    · obtain rfl : j = s.length := by omega
      go_wp2
      go_ret
      have e : tk s s.length = s := List.take_length
      rw [e] at hown
      exact ⟨_, rfl, by rw [e]; exact hown, hbel⟩

end Go.Proofs.YtfandijagdiggaaDoor

namespace Go.Proofs.YtfandijagdiggaaDoor
set_option linter.all false
open Go.RowKit

theorem beq_byte6 {a b : UInt8} (h : a = b) : ((a.toNat : Int) == (b.toNat : Int)) = true := by rw [h]; simp
theorem beq_byte_no6 {a b : UInt8} (h : a ≠ b) : ((a.toNat : Int) == (b.toNat : Int)) = false := by
  rw [beq_eq_false_iff_ne]; intro e; exact h (byte_ext (by omega))
theorem mem_of_gb6 {t : List UInt8} {j : Nat} (h : j < t.length) {c : UInt8} (e : gb t j = c) : t.contains c = true := by
  have := gb_some h
  rw [e] at this
  have hm := List.mem_of_getElem? this
  simpa using hm
theorem not_mem_gb6 {t : List UInt8} {c : UInt8} (h : ∀ k, k < t.length → gb t k ≠ c) : t.contains c = false := by
  rw [Bool.eq_false_iff]
  intro hc
  have hm : c ∈ t := by simpa using hc
  obtain ⟨k, hk⟩ := List.getElem?_of_mem hm
  have hl : k < t.length := (List.getElem?_eq_some_iff.1 hk).1
  exact h k hl (gb_of hk)
set_option maxRecDepth 100000 in
set_option maxHeartbeats 1000000 in
theorem has6_any (t : List UInt8) (c : UInt8) (w : World) (ht : t.length ≤ 100000) : Calls Tryd.prog 25 #[.string (str t), .int .u8 (c.toNat : Int)] w fun e w' => e = .returned (.bool (t.contains c)) ∧ w = w' := by
  have hsz := str_size t
  have hg := str_get t
  go_enter Tryd.func25, Tryd.ntmps25
  go_wp2
  go_loopg [5] (t.length) (fun k i wr => ∃ j : Nat, k = t.length - j ∧ j ≤ t.length ∧ i = .int .i64 j ∧ Hid (∀ k, k < j → gb t k ≠ c) ∧ w = wr)
  case atStart => exact ⟨0, rfl, Nat.zero_le _, rfl, (fun k hk => by omega), rfl⟩
  case round =>
    obtain ⟨j, rfl, hj, rfl, hn, rfl⟩ := hrel
    by_cases hlt : j < t.length
    · have hlt1 : (j : Int) < (t.length : Int) := by omega
      have hj0 : (0 : Int) ≤ (j : Int) := by omega
      by_cases he : gb t j = c
      · have hb := beq_byte6 he
        have HE := Lib.hid he
        clear he
        go_wp2
        go_ret
        exact ⟨ret_bool (mem_of_gb6 hlt HE.out).symm, rfl⟩
      · have hb := beq_byte_no6 he
        have HE := Lib.hid he
        clear he
        go_wp2
        go_roundg (t.length - (j + 1))
        case measure => omega
        case rel =>
          refine ⟨j + 1, rfl, by omega, by go_num, fun k hk => ?_, rfl⟩
          by_cases e : k = j
          · rw [e]; exact HE.out
          · exact hn.out k (by omega)
    · obtain rfl : j = t.length := by omega
      go_wp2
      go_ret
      exact ⟨ret_bool (not_mem_gb6 hn.out).symm, rfl⟩
end Go.Proofs.YtfandijagdiggaaDoor

namespace Go.Proofs.YtfandijagdiggaaDoor
set_option linter.all false
open Go.RowKit

theorem takeP {α : Type} [DecidableEq α] {l m : List α} {k : Nat} {x y : α} (h : l.take k = m.take k) (hx : l[k]? = some x) (hy : m[k]? = some y) : (x = y → l.take (k + 1) = m.take (k + 1)) ∧ (x ≠ y → l ≠ m) := by
  obtain ⟨h1, e1⟩ := List.getElem?_eq_some_iff.1 hx
  obtain ⟨h2, e2⟩ := List.getElem?_eq_some_iff.1 hy
  refine ⟨fun e => ?_, fun ne e => ?_⟩
  · rw [take_snoc' l k h1, take_snoc' m k h2, h, e1, e2, e]
  · subst e
    rw [hx] at hy
    injection hy with hy
    exact ne hy

def sameT (l m : List (List UInt8)) : Bool := decide (l = m)
theorem sameT_self (l : List (List UInt8)) : sameT l l = true := decide_eq_true rfl
set_option maxRecDepth 100000 in
set_option maxHeartbeats 4000000 in
theorem sameT_any (A A2 : Option Addr) (c c2 : Nat) (l m : List (List UInt8)) (w : World) (hr : Rd w w.heap.size A (strs l)) (hr2 : Rd w w.heap.size A2 (strs m)) (hl : l.length ≤ 1000000) (hm : m.length ≤ 1000000) :
    Calls Tryd.prog 11 #[.slice A l.length c, .slice A2 m.length c2] w fun e w' => e = .returned (.bool (sameT l m)) ∧ Below w.heap.size w w' := by
  by_cases hlen : l.length = m.length
  · have hlb : ((l.length : Int) != (m.length : Int)) = false := by simp [hlen]
    have HL := Lib.hid hlen
    clear hlen
    go_enter Tryd.func11, Tryd.ntmps11
    go_wp2
    clear hlb
    go_loopg [5] (l.length) (fun k i wr => ∃ j : Nat, k = l.length - j ∧ j ≤ l.length ∧ i = .int .i64 j ∧ Hid (l.take j = m.take j) ∧ Below w.heap.size w wr)
    case atStart => exact ⟨0, rfl, Nat.zero_le _, rfl, rfl, Below.refl _ _⟩
    case round =>
      obtain ⟨j, rfl, hj, rfl, hs, hbel⟩ := hrel
      by_cases hlt : j < l.length
      · obtain ⟨b, off, x, rfl, hb, hc1, hx⟩ := (hr.below hbel).str_at hlt
        obtain ⟨b2, off2, y, rfl, hb2, hd1, hy⟩ := (hr2.below hbel).str_at (k := j) (by have := HL.out; omega)
        have hlt2 : (j : Int) < (m.length : Int) := by have := HL.out; omega
        have hlt1 : (j : Int) < (l.length : Int) := by omega
        have hj0 : (0 : Int) ≤ (j : Int) := by omega
        have HT := Lib.hid (takeP hs.out hx.out hy.out)
        have q1 := str_eqB x y
        by_cases h1 : x = y
        · rw [decide_eq_true h1] at q1
          have HE := Lib.hid (HT.out.1 h1)
          clear h1
          go_wp2
          go_quiet (fail)
          go_wp2
          go_roundg (l.length - (j + 1))
          case measure => omega
          case rel => exact ⟨j + 1, rfl, by omega, by go_num, HE.out, below_drewN hbel _⟩
        · rw [decide_eq_false h1] at q1
          have HE := Lib.hid (HT.out.2 h1)
          clear h1
          go_wp2
          go_quiet (fail)
          go_wp2
          go_ret
          exact ⟨ret_bool (by unfold sameT; rw [decide_eq_false HE.out]), below_drewN hbel _⟩
      · obtain rfl : j = l.length := by omega
        have HE := Lib.hid (show sameT l m = true by
          have h := hs.out
          rw [List.take_length, HL.out, List.take_length] at h
          exact decide_eq_true h)
        go_wp2
        go_ret
        exact ⟨ret_bool HE.out.symm, hbel⟩
  · have hlb : ((l.length : Int) != (m.length : Int)) = true := by simp; omega
    have HE := Lib.hid (show sameT l m = false from decide_eq_false fun e => hlen (by rw [e]))
    clear hlen
    go_enter Tryd.func11, Tryd.ntmps11
    go_wp2
    go_ret
    exact ⟨ret_bool HE.out.symm, Below.refl _ _⟩
end Go.Proofs.YtfandijagdiggaaDoor
