/- The walks of the statements of layer 8, ip6: begun, Ip6Back. -/
import Derived.Test.YtaglbcniomcfnaaDoorSixH
import Derived.Laws.StructEq
import Derived.Laws.Tables
import Derived.Laws.Cover2
namespace Go.Proofs.YtaglbcniomcfnaaDoor
set_option linter.all false
open Go.RowKit

section
variable {a0 a1 a2 a3 a4 a5 a6 a7 : Nat}
theorem parse6_some (s : List UInt8) (h : pParse6 s = some [a0, a1, a2, a3, a4, a5, a6, a7]) (w : World) (hev : EV w) (hs : s.length ≤ 1000) :
    Calls Tryd.prog 24 #[.string (str s)] w fun e w' => e = .returned (.tuple #[.agg #[.int .u16 (a0 : Int), .int .u16 (a1 : Int), .int .u16 (a2 : Int), .int .u16 (a3 : Int), .int .u16 (a4 : Int), .int .u16 (a5 : Int), .int .u16 (a6 : Int), .int .u16 (a7 : Int)], .int .i64 0]) ∧ Below w.heap.size w w' :=
  (parse6_any s w hev hs).mono fun e w' ⟨he, hb⟩ => ⟨by rw [he, h]; rfl, hb⟩
end
theorem parse6_none (s : List UInt8) (h : pParse6 s = none) (w : World) (hev : EV w) (hs : s.length ≤ 1000) :
    Calls Tryd.prog 24 #[.string (str s)] w fun e w' => e = .returned (.tuple #[.agg #[.int .u16 0, .int .u16 0, .int .u16 0, .int .u16 0, .int .u16 0, .int .u16 0, .int .u16 0, .int .u16 0], .int .i64 5]) ∧ Below w.heap.size w w' :=
  (parse6_any s w hev hs).mono fun e w' ⟨he, hb⟩ => ⟨by rw [he, h, ret6_none], hb⟩
theorem Row.far {w : World} {g : Nat} {xs : List Value} (h : Row w g xs) (o : Obj) : Row (w.alloc o) g xs := h.below ((Below.refl w.heap.size w).alloc (Nat.le_refl _) o) h.2.2
set_option maxRecDepth 100000 in
set_option maxHeartbeats 2000000 in
theorem eqA8 (a0 a1 a2 a3 a4 a5 a6 a7 : Int) (w : World) : (Op.equalIn 10000 39 (.agg #[.int .u16 a0, .int .u16 a1, .int .u16 a2, .int .u16 a3, .int .u16 a4, .int .u16 a5, .int .u16 a6, .int .u16 a7]) (.agg #[.int .u16 a0, .int .u16 a1, .int .u16 a2, .int .u16 a3, .int .u16 a4, .int .u16 a5, .int .u16 a6, .int .u16 a7])).run Tryd.prog w = .ok true w := by
  have u16 := Tryd.underlying38
  have a16 := Tryd.isAgg38
  have z16 := Tryd.sizeOf38
  rw [show (10000 : Nat) = 9999 + 1 from rfl, Op.equalIn]
  simp only [Sem.run_bind, run_underlying Tryd.underlying39, Result.andThen_ok]
  simp only [Std.Legacy.Range.forIn_eq_forIn_range', Std.Legacy.Range.size, Nat.sub_zero, Nat.add_sub_cancel, Nat.div_one, List.range'_succ, List.range'_zero, List.forIn_cons, List.forIn_nil]
  go_simp
def L8 (w : World) : Prop := EV w ∧ DB w
theorem L8.next {w w' : World} (h : L8 w) (hb : Below w.heap.size w w') : L8 w' := ⟨h.1.next hb, h.2.next hb⟩

set_option maxRecDepth 100000 in
set_option maxHeartbeats 4000000 in
theorem begun8_any (w : World) (hq : L8 w) : Calls Tryd.prog 23 #[] w fun e w' => e = .returned (.bool true) ∧ Below w.heap.size w w' := by
  have p1 : pParse6 [49, 58, 58, 50] = some [1, 0, 0, 0, 0, 0, 0, 2] := by decide +kernel
  have p2 : pParse6 [49] = none := by decide +kernel
  have p3 : pShow6 [1, 0, 0, 0, 0, 0, 0, 2] = [49, 58, 58, 50] := by decide +kernel
  have C1 := Lib.hid fun w hm => parse6_some _ p1 w hm (by decide)
  have C2 := Lib.hid fun w hm => parse6_none _ p2 w hm (by decide)
  have C3 := Lib.hid fun w hm => show6_any [1, 0, 0, 0, 0, 0, 0, 2] 1 0 0 0 0 0 0 2 rfl (by decide) w hm
  rw [p3] at C3
  clear p1 p2 p3
  have t1 : (str [49, 58, 58, 50]).toList = [49, 58, 58, 50] := str_toL _
  go_enter Tryd.func23, Tryd.ntmps23
  go_wp2_with (first
    | (go_at_call 24; go_fit (C1.out _ hq.1); rintro e w1 ⟨rfl, hb1⟩; have hq1 := L8.next hq hb1; have hR1 := Row.made w1 #[.int .u16 1, .int .u16 0, .int .u16 0, .int .u16 0, .int .u16 0, .int .u16 0, .int .u16 0, .int .u16 2] 39; have hbA := bnew hb1 (.cells #[.int .u16 1, .int .u16 0, .int .u16 0, .int .u16 0, .int .u16 0, .int .u16 0, .int .u16 0, .int .u16 2] 39); have hqA := L8.next hq hbA)
    | (go_at_call 24; go_fit (C2.out _ hqA.1); rintro e w2 ⟨rfl, hb2⟩; have hR2 := Row.below hR1 hb2 hR1.2.2; have x0 : ∀ o, (w2.alloc o).cell? ⟨w1.heap.size, 0, none⟩ = some (.int .u16 1) := fun o => (Row.far hR2 o).1 0 _ rfl; have x1 : ∀ o, (w2.alloc o).cell? ⟨w1.heap.size, 1, none⟩ = some (.int .u16 0) := fun o => (Row.far hR2 o).1 1 _ rfl; have x2 : ∀ o, (w2.alloc o).cell? ⟨w1.heap.size, 2, none⟩ = some (.int .u16 0) := fun o => (Row.far hR2 o).1 2 _ rfl; have x3 : ∀ o, (w2.alloc o).cell? ⟨w1.heap.size, 3, none⟩ = some (.int .u16 0) := fun o => (Row.far hR2 o).1 3 _ rfl; have x4 : ∀ o, (w2.alloc o).cell? ⟨w1.heap.size, 4, none⟩ = some (.int .u16 0) := fun o => (Row.far hR2 o).1 4 _ rfl; have x5 : ∀ o, (w2.alloc o).cell? ⟨w1.heap.size, 5, none⟩ = some (.int .u16 0) := fun o => (Row.far hR2 o).1 5 _ rfl; have x6 : ∀ o, (w2.alloc o).cell? ⟨w1.heap.size, 6, none⟩ = some (.int .u16 0) := fun o => (Row.far hR2 o).1 6 _ rfl; have x7 : ∀ o, (w2.alloc o).cell? ⟨w1.heap.size, 7, none⟩ = some (.int .u16 2) := fun o => (Row.far hR2 o).1 7 _ rfl; have hbB := bnew (bnext hbA hb2) (.cells #[.int .u16 0, .int .u16 0, .int .u16 0, .int .u16 0, .int .u16 0, .int .u16 0, .int .u16 0, .int .u16 0] 39); have hqB := L8.next hq hbB)
    | (go_at_call 26; go_must (go_fit (C3.out _ hqB.2)); rintro e w3 ⟨rfl, hb3⟩))
  go_ret
  exact ⟨rfl, bnext hbB hb3⟩
def updH (f : UInt8 → UInt8) (s : List UInt8) (j : Nat) : List UInt8 := (tk s j).map f ++ dr s j
theorem updH_len (f : UInt8 → UInt8) (s : List UInt8) {j : Nat} (h : j ≤ s.length) : (updH f s j).length = s.length := by
  unfold updH; rw [List.length_append, List.length_map, tk_len, dr_len]; omega
theorem updH_zero (f : UInt8 → UInt8) (s : List UInt8) : updH f s 0 = s := rfl
theorem updH_end (f : UInt8 → UInt8) (s : List UInt8) : updH f s s.length = s.map f := by
  unfold updH tk dr; rw [List.take_length, List.drop_length, List.append_nil]
theorem dr_next {s : List UInt8} {j : Nat} (h : j < s.length) : dr s j = gb s j :: dr s (j + 1) := by
  obtain ⟨hj, e⟩ := List.getElem?_eq_some_iff.1 (gb_some h)
  unfold dr
  rw [List.drop_eq_getElem_cons hj, e]
theorem updH_next (f : UInt8 → UInt8) {s : List UInt8} {j : Nat} (h : j < s.length) : updH f s (j + 1) = (tk s j).map f ++ f (gb s j) :: dr s (j + 1) := by
  unfold updH; rw [tk_next h, List.map_append, List.append_assoc]; rfl
theorem updH_at (f : UInt8 → UInt8) {s : List UInt8} {j : Nat} (h : j < s.length) : (bytes (updH f s j))[j]? = some (.int .u8 ((gb s j).toNat : Int)) := by
  unfold updH bytes
  rw [dr_next h, List.map_append, List.getElem?_append_right (by simp [tk_len]; omega)]
  have : j - (List.map (fun c : UInt8 => Value.int .u8 (c.toNat : Int)) ((tk s j).map f)).length = 0 := by simp [tk_len]; omega
  rw [this]; rfl
theorem updH_set (f : UInt8 → UInt8) {s : List UInt8} {j : Nat} (h : j < s.length) : (bytes (updH f s j)).set j (.int .u8 ((f (gb s j)).toNat : Int)) = bytes (updH f s (j + 1)) := by
  rw [updH_next f h]
  unfold updH bytes
  rw [dr_next h, List.map_append, List.map_append, List.set_append_right _ _ (by simp [tk_len]; omega)]
  have : j - (List.map (fun c : UInt8 => Value.int .u8 (c.toNat : Int)) ((tk s j).map f)).length = 0 := by simp [tk_len]; omega
  rw [this]; rfl
theorem updH_same (f : UInt8 → UInt8) {s : List UInt8} {j : Nat} (h : j < s.length) (e : f (gb s j) = gb s j) : updH f s (j + 1) = updH f s j := by
  rw [updH_next f h, e]; unfold updH; rw [dr_next h]


theorem show6_len {a : List Nat} (h : ∀ x ∈ a, x < 65536) (h8 : a.length = 8) : (pShow6 a).length ≤ 100 := by
  have h1 := hexs_len a h
  have h2 := hexs_len (a.take (rowI a 8).1) (fun x hx => h x (List.mem_of_mem_take hx))
  have h3 := hexs_len (a.drop ((rowI a 8).1 + (rowI a 8).2)) (fun x hx => h x (List.mem_of_mem_drop hx))
  rw [List.length_take] at h2
  rw [List.length_drop] at h3
  unfold pShow6 pShowD
  split
  · omega
  · rw [List.length_append, List.length_cons, List.length_cons]; omega
theorem upB_nat {c : UInt8} (h1 : 97 ≤ c.toNat) (h2 : c.toNat ≤ 102) : (upB c).toNat = c.toNat - 32 := by
  unfold upB
  rw [if_pos ⟨h1, h2⟩, UInt8.toNat_sub_of_le _ _ (by show (32 : UInt8).toNat ≤ _; simp; omega)]; rfl
theorem upB_same {c : UInt8} (h : ¬ (97 ≤ c.toNat ∧ c.toNat ≤ 102)) : upB c = c := if_neg h
set_option maxRecDepth 100000 in
set_option maxHeartbeats 16000000 in
theorem ip6Back_walk (a : List Nat) (a0 a1 a2 a3 a4 a5 a6 a7 : Nat) (ha : a = [a0, a1, a2, a3, a4, a5, a6, a7]) (h16 : ∀ x ∈ a, x < 65536) (w : World) (hq : L8 w) :
    Calls Tryd.prog 9 #[.agg #[.int .u16 (a0 : Int), .int .u16 (a1 : Int), .int .u16 (a2 : Int), .int .u16 (a3 : Int), .int .u16 (a4 : Int), .int .u16 (a5 : Int), .int .u16 (a6 : Int), .int .u16 (a7 : Int)]] w fun e w' => e = .returned (.bool true) ∧ Below w.heap.size w w' := by
  have hl8 : a.length = 8 := by rw [ha]; rfl
  have p1 : pParse6 (pShow6 a) = some a := by rw [parse6_eq]; exact show6_back spell_digs h16 hl8
  have p2 : pParse6 ((pShow6 a).map upB) = some a := by rw [parse6_eq, show6_up]; exact show6_back spell_up h16 hl8
  have hT := show6_len h16 hl8
  have C0 := Lib.hid fun w hd => show6_any a a0 a1 a2 a3 a4 a5 a6 a7 ha h16 w hd
  obtain ⟨T, hTe⟩ : ∃ T, T = pShow6 a := ⟨_, rfl⟩
  rw [← hTe] at p1 p2 hT C0
  rw [ha] at p1 p2
  have C1 := Lib.hid fun w hev => parse6_some T p1 w hev (by omega)
  have C2 := Lib.hid fun w hev => parse6_some (T.map upB) p2 w hev (by rw [List.length_map]; omega)
  clear p1 p2 hTe ha h16 hl8
  have hb0 : Below w.heap.size w (w.alloc (.cells #[.int .u16 (a0 : Int), .int .u16 (a1 : Int), .int .u16 (a2 : Int), .int .u16 (a3 : Int), .int .u16 (a4 : Int), .int .u16 (a5 : Int), .int .u16 (a6 : Int), .int .u16 (a7 : Int)] 39)) := (Below.refl _ _).alloc (Nat.le_refl _) _
  have hR0 := Row.made w #[.int .u16 (a0 : Int), .int .u16 (a1 : Int), .int .u16 (a2 : Int), .int .u16 (a3 : Int), .int .u16 (a4 : Int), .int .u16 (a5 : Int), .int .u16 (a6 : Int), .int .u16 (a7 : Int)] 39
  have hsz := str_size T
  go_enter Tryd.func9, Tryd.ntmps9
  go_wp2_with (first
    | (go_at_call 23; go_must (go_fit (begun8_any _ (hq.next hb0))); rintro e w1 ⟨rfl, hb1⟩; have hbA := bnext hb0 hb1; have hqA := hq.next hbA; have hR1 := Row.below hR0 hb1 hR0.2.2; have x0 : w1.cell? ⟨w.heap.size, 0, none⟩ = some (.int .u16 (a0 : Int)) := (hR1).1 0 _ rfl; have x1 : w1.cell? ⟨w.heap.size, 1, none⟩ = some (.int .u16 (a1 : Int)) := (hR1).1 1 _ rfl; have x2 : w1.cell? ⟨w.heap.size, 2, none⟩ = some (.int .u16 (a2 : Int)) := (hR1).1 2 _ rfl; have x3 : w1.cell? ⟨w.heap.size, 3, none⟩ = some (.int .u16 (a3 : Int)) := (hR1).1 3 _ rfl; have x4 : w1.cell? ⟨w.heap.size, 4, none⟩ = some (.int .u16 (a4 : Int)) := (hR1).1 4 _ rfl; have x5 : w1.cell? ⟨w.heap.size, 5, none⟩ = some (.int .u16 (a5 : Int)) := (hR1).1 5 _ rfl; have x6 : w1.cell? ⟨w.heap.size, 6, none⟩ = some (.int .u16 (a6 : Int)) := (hR1).1 6 _ rfl; have x7 : w1.cell? ⟨w.heap.size, 7, none⟩ = some (.int .u16 (a7 : Int)) := (hR1).1 7 _ rfl)
    | (go_at_call 26; go_must (go_fit (C0.out _ hqA.2)); rintro e w2 ⟨rfl, hb2⟩; have hbB := bnext hbA hb2; have hR2 := Row.below hR1 hb2 hR1.2.2)
    | (refine wpList_bytesL rfl _ _ _ _ rfl Tryd.underlying9 Tryd.underlying44 Tryd.underlying5 T rfl (by omega) ?_; intro c3 w3 hc3 hm3 hrow3 hr3 hb3 hz3))
  go_loopg [5] (T.length) (fun k s5 wr => ∃ j : Nat, k = T.length - j ∧ j ≤ T.length ∧ s5 = .int .i64 j ∧ Row wr w2.heap.size (bytes (updH upB T j)) ∧ Row wr w.heap.size #[.int .u16 (a0 : Int), .int .u16 (a1 : Int), .int .u16 (a2 : Int), .int .u16 (a3 : Int), .int .u16 (a4 : Int), .int .u16 (a5 : Int), .int .u16 (a6 : Int), .int .u16 (a7 : Int)].toList ∧ Below w.heap.size w wr ∧ w2.heap.size < wr.heap.size)
  case atStart => exact ⟨0, rfl, Nat.zero_le _, rfl, hrow3, Row.below hR2 hb3 hR2.2.2, bnext hbB hb3, hz3⟩
  case round =>
    have hww : w.heap.size < w2.heap.size := hR2.2.2
    clear hrow3 hr3 hb3 hz3 hR0 hR1 hR2 x0 x1 x2 x3 x4 x5 x6 x7
    obtain ⟨j, rfl, hj, rfl, hrow, hRw, hbel, hz⟩ := hrel
    by_cases hlt : j < T.length
    · have hlt1 : (j : Int) < (T.length : Int) := by omega
      have hj0 : (0 : Int) ≤ (j : Int) := by omega
      have hc := hrow.1 j _ (updH_at upB hlt)
      have hf := hrow.2.1 j (by rw [bytes_len, updH_len _ _ hj]; exact hlt)
      have hcb := byte_lt (gb T j)
      by_cases h1 : (97 : Int) ≤ ((gb T j).toNat : Int)
      · by_cases h2 : ((gb T j).toNat : Int) ≤ 102
        · have HS := Lib.hid (Row.set hrow (j := j) (by rw [bytes_len, updH_len _ _ hj]; exact hlt) (.int .u8 ((upB (gb T j)).toNat : Int)))
          rw [updH_set upB hlt, show ((upB (gb T j)).toNat : Int) = ((gb T j).toNat : Int) - 32 by rw [upB_nat (by omega) (by omega)]; omega] at HS
          have q1 : IntKind.u8.wrap (((gb T j).toNat : Int) - 32) = ((gb T j).toNat : Int) - 32 := IntWalk.u8_in _ (by omega)
          go_wp2
          go_roundg (T.length - (j + 1))
          case measure => omega
          case rel => exact ⟨j + 1, rfl, by omega, by go_num, HS.out, Row.grown hRw (set_gb _ _ _ _) (fun e => by injection e with e; omega), Below.setCell hbel (p := ⟨w2.heap.size, j, none⟩) (Nat.le_of_lt hww) _, by simpa using hz⟩
        · have HS := Lib.hid (updH_same upB hlt (upB_same (by omega)))
          have h2' : (102 : Int) < ((gb T j).toNat : Int) := by omega
          clear h2
          go_wp2
          go_roundg (T.length - (j + 1))
          case measure => omega
          case rel => exact ⟨j + 1, rfl, by omega, by go_num, by rw [HS.out]; exact hrow, hRw, hbel, hz⟩
      · have HS := Lib.hid (updH_same upB hlt (upB_same (by omega)))
        have h1' : ((gb T j).toNat : Int) < 97 := by omega
        clear h1
        go_wp2
        go_roundg (T.length - (j + 1))
        case measure => omega
        case rel => exact ⟨j + 1, rfl, by omega, by go_num, by rw [HS.out]; exact hrow, hRw, hbel, hz⟩
    · obtain rfl : j = T.length := by omega
      rw [updH_end] at hrow
      have hqr := hq.next hbel
      have heq := eqA8 (a0 : Int) a1 a2 a3 a4 a5 a6 a7
      go_wp2_with (first
        | (go_at_call 24; go_fit (C1.out wr hqr.1); rintro e w4 ⟨rfl, hb4⟩; have hrow4 := hrow.below hb4 hz; have hRw4 := hRw.below hb4 hRw.2.2; have hst := fun o => str_atN (c := c3) ((Row.far hrow4 o).rd (Nat.lt_succ_self _)) (List.length_map ..).symm; have hbC := bnew (bnext hbel hb4) (.cells #[.int .u16 (a0 : Int), .int .u16 (a1 : Int), .int .u16 (a2 : Int), .int .u16 (a3 : Int), .int .u16 (a4 : Int), .int .u16 (a5 : Int), .int .u16 (a6 : Int), .int .u16 (a7 : Int)] 39); have hqC := hq.next hbC; have hR4 := Row.made w4 #[.int .u16 (a0 : Int), .int .u16 (a1 : Int), .int .u16 (a2 : Int), .int .u16 (a3 : Int), .int .u16 (a4 : Int), .int .u16 (a5 : Int), .int .u16 (a6 : Int), .int .u16 (a7 : Int)] 39)
        | (go_at_call 24; go_fit (C2.out _ hqC.1); rintro e w6 ⟨rfl, hb6⟩; have hRw6 := (hRw4.far _).below hb6 (hRw4.far (.cells #[.int .u16 (a0 : Int), .int .u16 (a1 : Int), .int .u16 (a2 : Int), .int .u16 (a3 : Int), .int .u16 (a4 : Int), .int .u16 (a5 : Int), .int .u16 (a6 : Int), .int .u16 (a7 : Int)] 39)).2.2; have hR46 := hR4.below hb6 hR4.2.2; have hR6 := Row.made w6 #[.int .u16 (a0 : Int), .int .u16 (a1 : Int), .int .u16 (a2 : Int), .int .u16 (a3 : Int), .int .u16 (a4 : Int), .int .u16 (a5 : Int), .int .u16 (a6 : Int), .int .u16 (a7 : Int)] 39; have x0 : ∀ o, (w6.alloc o).cell? ⟨w.heap.size, 0, none⟩ = some (.int .u16 (a0 : Int)) := fun o => (Row.far hRw6 o).1 0 _ rfl; have x1 : ∀ o, (w6.alloc o).cell? ⟨w.heap.size, 1, none⟩ = some (.int .u16 (a1 : Int)) := fun o => (Row.far hRw6 o).1 1 _ rfl; have x2 : ∀ o, (w6.alloc o).cell? ⟨w.heap.size, 2, none⟩ = some (.int .u16 (a2 : Int)) := fun o => (Row.far hRw6 o).1 2 _ rfl; have x3 : ∀ o, (w6.alloc o).cell? ⟨w.heap.size, 3, none⟩ = some (.int .u16 (a3 : Int)) := fun o => (Row.far hRw6 o).1 3 _ rfl; have x4 : ∀ o, (w6.alloc o).cell? ⟨w.heap.size, 4, none⟩ = some (.int .u16 (a4 : Int)) := fun o => (Row.far hRw6 o).1 4 _ rfl; have x5 : ∀ o, (w6.alloc o).cell? ⟨w.heap.size, 5, none⟩ = some (.int .u16 (a5 : Int)) := fun o => (Row.far hRw6 o).1 5 _ rfl; have x6 : ∀ o, (w6.alloc o).cell? ⟨w.heap.size, 6, none⟩ = some (.int .u16 (a6 : Int)) := fun o => (Row.far hRw6 o).1 6 _ rfl; have x7 : ∀ o, (w6.alloc o).cell? ⟨w.heap.size, 7, none⟩ = some (.int .u16 (a7 : Int)) := fun o => (Row.far hRw6 o).1 7 _ rfl; have y0 : ∀ o, (w6.alloc o).cell? ⟨w4.heap.size, 0, none⟩ = some (.int .u16 (a0 : Int)) := fun o => (Row.far hR46 o).1 0 _ rfl; have y1 : ∀ o, (w6.alloc o).cell? ⟨w4.heap.size, 1, none⟩ = some (.int .u16 (a1 : Int)) := fun o => (Row.far hR46 o).1 1 _ rfl; have y2 : ∀ o, (w6.alloc o).cell? ⟨w4.heap.size, 2, none⟩ = some (.int .u16 (a2 : Int)) := fun o => (Row.far hR46 o).1 2 _ rfl; have y3 : ∀ o, (w6.alloc o).cell? ⟨w4.heap.size, 3, none⟩ = some (.int .u16 (a3 : Int)) := fun o => (Row.far hR46 o).1 3 _ rfl; have y4 : ∀ o, (w6.alloc o).cell? ⟨w4.heap.size, 4, none⟩ = some (.int .u16 (a4 : Int)) := fun o => (Row.far hR46 o).1 4 _ rfl; have y5 : ∀ o, (w6.alloc o).cell? ⟨w4.heap.size, 5, none⟩ = some (.int .u16 (a5 : Int)) := fun o => (Row.far hR46 o).1 5 _ rfl; have y6 : ∀ o, (w6.alloc o).cell? ⟨w4.heap.size, 6, none⟩ = some (.int .u16 (a6 : Int)) := fun o => (Row.far hR46 o).1 6 _ rfl; have y7 : ∀ o, (w6.alloc o).cell? ⟨w4.heap.size, 7, none⟩ = some (.int .u16 (a7 : Int)) := fun o => (Row.far hR46 o).1 7 _ rfl; have z0 : (w6.alloc (.cells #[.int .u16 (a0 : Int), .int .u16 (a1 : Int), .int .u16 (a2 : Int), .int .u16 (a3 : Int), .int .u16 (a4 : Int), .int .u16 (a5 : Int), .int .u16 (a6 : Int), .int .u16 (a7 : Int)] 39)).cell? ⟨w6.heap.size, 0, none⟩ = some (.int .u16 (a0 : Int)) := hR6.1 0 _ rfl; have z1 : (w6.alloc (.cells #[.int .u16 (a0 : Int), .int .u16 (a1 : Int), .int .u16 (a2 : Int), .int .u16 (a3 : Int), .int .u16 (a4 : Int), .int .u16 (a5 : Int), .int .u16 (a6 : Int), .int .u16 (a7 : Int)] 39)).cell? ⟨w6.heap.size, 1, none⟩ = some (.int .u16 (a1 : Int)) := hR6.1 1 _ rfl; have z2 : (w6.alloc (.cells #[.int .u16 (a0 : Int), .int .u16 (a1 : Int), .int .u16 (a2 : Int), .int .u16 (a3 : Int), .int .u16 (a4 : Int), .int .u16 (a5 : Int), .int .u16 (a6 : Int), .int .u16 (a7 : Int)] 39)).cell? ⟨w6.heap.size, 2, none⟩ = some (.int .u16 (a2 : Int)) := hR6.1 2 _ rfl; have z3 : (w6.alloc (.cells #[.int .u16 (a0 : Int), .int .u16 (a1 : Int), .int .u16 (a2 : Int), .int .u16 (a3 : Int), .int .u16 (a4 : Int), .int .u16 (a5 : Int), .int .u16 (a6 : Int), .int .u16 (a7 : Int)] 39)).cell? ⟨w6.heap.size, 3, none⟩ = some (.int .u16 (a3 : Int)) := hR6.1 3 _ rfl; have z4 : (w6.alloc (.cells #[.int .u16 (a0 : Int), .int .u16 (a1 : Int), .int .u16 (a2 : Int), .int .u16 (a3 : Int), .int .u16 (a4 : Int), .int .u16 (a5 : Int), .int .u16 (a6 : Int), .int .u16 (a7 : Int)] 39)).cell? ⟨w6.heap.size, 4, none⟩ = some (.int .u16 (a4 : Int)) := hR6.1 4 _ rfl; have z5 : (w6.alloc (.cells #[.int .u16 (a0 : Int), .int .u16 (a1 : Int), .int .u16 (a2 : Int), .int .u16 (a3 : Int), .int .u16 (a4 : Int), .int .u16 (a5 : Int), .int .u16 (a6 : Int), .int .u16 (a7 : Int)] 39)).cell? ⟨w6.heap.size, 5, none⟩ = some (.int .u16 (a5 : Int)) := hR6.1 5 _ rfl; have z6 : (w6.alloc (.cells #[.int .u16 (a0 : Int), .int .u16 (a1 : Int), .int .u16 (a2 : Int), .int .u16 (a3 : Int), .int .u16 (a4 : Int), .int .u16 (a5 : Int), .int .u16 (a6 : Int), .int .u16 (a7 : Int)] 39)).cell? ⟨w6.heap.size, 6, none⟩ = some (.int .u16 (a6 : Int)) := hR6.1 6 _ rfl; have z7 : (w6.alloc (.cells #[.int .u16 (a0 : Int), .int .u16 (a1 : Int), .int .u16 (a2 : Int), .int .u16 (a3 : Int), .int .u16 (a4 : Int), .int .u16 (a5 : Int), .int .u16 (a6 : Int), .int .u16 (a7 : Int)] 39)).cell? ⟨w6.heap.size, 7, none⟩ = some (.int .u16 (a7 : Int)) := hR6.1 7 _ rfl))
      go_ret
      exact ⟨rfl, bnew (bnext hbC hb6) _⟩
end Go.Proofs.YtaglbcniomcfnaaDoor

