/- ip6.Parse, a text that is an address. -/
import Derived.Test.YtaglbcniomcfnaaDoorSixF
namespace Go.Proofs.YtaglbcniomcfnaaDoor
set_option linter.all false
open Go.RowKit

set_option maxRecDepth 100000 in
set_option maxHeartbeats 8000000 in
theorem parse6_good (s : List UInt8) (M0 : List Nat) (hON : pParse6 s = some M0) (w : World) (hev : EV w) (hs : s.length ≤ 1000) :
    Calls Tryd.prog 24 #[.string (str s)] w fun e w' => e = ret6 (pParse6 s) ∧ Below w.heap.size w w' := by
  have hev2 := (hev.next ((Below.refl w.heap.size w).alloc (Nat.le_refl _) (.cells #[.int .u16 0, .int .u16 0, .int .u16 0, .int .u16 0, .int .u16 0, .int .u16 0, .int .u16 0, .int .u16 0] 39)))
  have hlow : Low (w.heap.size + 1) := by
    obtain ⟨⟨e1, h1, _⟩, e2, h2, _⟩ := hev
    have := World.block_lt_of_cell? _ _ h1
    have := World.block_lt_of_cell? _ _ h2
    exact ⟨by simp only at *; omega, by simp only at *; omega⟩
  obtain ⟨wA, hwA⟩ : ∃ wA, wA = w.alloc (.cells #[.int .u16 0, .int .u16 0, .int .u16 0, .int .u16 0, .int .u16 0, .int .u16 0, .int .u16 0, .int .u16 0] 39) := ⟨_, rfl⟩
  have hR0 : Row wA w.heap.size #[.int .u16 0, .int .u16 0, .int .u16 0, .int .u16 0, .int .u16 0, .int .u16 0, .int .u16 0, .int .u16 0].toList := by rw [hwA]; exact Row.made _ _ _
  have hbA : Below w.heap.size w wA := by rw [hwA]; exact (Below.refl _ _).alloc (Nat.le_refl _) _
  rw [← hwA] at hev2
  have hzA : wA.heap.size = w.heap.size + 1 := by rw [hwA]; simp
  have HB := Lib.hid (show RD (wA.alloc (.cells #[.string (str s), .bool true, .slice none 0 0, .int .i64 (-1)] 61)) (w.heap.size + 1) s true [] (-1) from ⟨.slice none 0 0, by have := heap_alloc_new wA (.cells #[.string (str s), .bool true, .slice none 0 0, .int .i64 (-1)] 61); rw [hzA] at this; exact this, World.ownsRow_nil _ _ _ _⟩)
  have CA := all6_any (w.heap.size + 1) s _ HB.out (hev2.next ((Below.refl wA.heap.size wA).alloc (Nat.le_refl _) _)) hlow hs
  rw [hwA] at CA
  have HP := Lib.hid (show pParse6 s = (sAll s).bind sEnd from rfl)
  obtain ⟨T, hT⟩ : ∃ T, T = sAll s := ⟨_, rfl⟩
  obtain ⟨O, hO⟩ : ∃ O, O = pParse6 s := ⟨_, rfl⟩
  rw [← hT] at CA HP
  rw [← hO] at HP hON ⊢
  clear hT hO
  go_enter Tryd.func24, Tryd.ntmps24
  go_wp2_with (go_at_call 36; go_must (go_fit CA); rintro e w1 ⟨rfl, hA⟩; revert hA)
  intro hA
  rw [← hwA] at hA
  unfold AllPost at hA
  obtain ⟨r, ok, l, gap, h1, hl16, hl20, hg0, hg1, hAI, hb1⟩ := hA
  have c0 := h1.c0
  have c1 := h1.c1
  have c3 := h1.c3
  obtain ⟨A, cc, c2, hcc, hmm⟩ := h1.c2
  have htl := str_toL r
  have hR1 : Row w1 w.heap.size #[.int .u16 0, .int .u16 0, .int .u16 0, .int .u16 0, .int .u16 0, .int .u16 0, .int .u16 0, .int .u16 0].toList := (hR0.below ((Below.refl wA.heap.size wA).alloc (Nat.le_refl _) _) (by rw [hzA]; omega)).below hb1 (Nat.lt_succ_self _)
  have hbw : Below w.heap.size w w1 := (hbA.trans ((Below.refl wA.heap.size wA).alloc (Nat.le_refl _) (.cells #[.string (str s), .bool true, .slice none 0 0, .int .i64 (-1)] 61) |>.mono (by rw [hzA]; omega))).trans (hb1.mono (Nat.le_succ _))
  rcases hAI with ⟨m, go, hT, rfl, rfl, rfl, rfl, hgk⟩ | ⟨hT, hbad⟩
  · have e0 := HP.out
    rw [hT] at e0
    replace e0 : O = sEnd (l, go) := e0
    have hre : ([] : List UInt8).isEmpty = true := rfl
    cases go with
    | none =>
      have hgi : gapI none = -1 := rfl
      rw [hgi] at c3
      by_cases h8 : l.length = 8
      · have q1 : (8 : Int) - (l.length : Int) = 0 := by omega
        have hz1 : (w1.setCell ⟨w.heap.size + 1, 3, none⟩ (.int .i64 0)).heap.size = w1.heap.size := by simp
        have hX0 : Row ((w1.setCell ⟨w.heap.size + 1, 3, none⟩ (.int .i64 0)).alloc (.cells #[.int .u16 0, .int .u16 0, .int .u16 0, .int .u16 0, .int .u16 0, .int .u16 0, .int .u16 0, .int .u16 0] 39)) w1.heap.size (u16s (noughts 8)) := by rw [← hz1]; exact Row.made _ #[.int .u16 0, .int .u16 0, .int .u16 0, .int .u16 0, .int .u16 0, .int .u16 0, .int .u16 0, .int .u16 0] 39
        have d2a := fun o => (h1.next ((Below.refl w1.heap.size w1).alloc (Nat.le_refl _) o)).c3
        have d3a := fun o => (h1.next ((Below.refl w1.heap.size w1).alloc (Nat.le_refl _) o)).fr 3
        rw [hgi] at d2a
        replace e0 := e0.trans (if_pos h8)
        obtain ⟨M, hM⟩ : ∃ M, M = l := ⟨_, rfl⟩
        have HM := Lib.hid (show M = l.take 0 ++ noughts (8 - l.length) ++ l.drop 0 by rw [hM, h8]; simp [noughts])
        rw [← hM] at e0
        clear hM
        subst e0
        have hlt1 := h1.lt
        obtain ⟨v, hr1, ho1⟩ := id h1
        obtain rfl : v = .slice A l.length cc := by
          have := hr1.c2
          rw [c2] at this
          injection this with this
          exact this.symm
        have hvX : (Value.slice A l.length cc).ownBlock ≠ some w1.heap.size := by
          intro e
          have := (ho1.lt _ e).2
          omega
        have al : Below w1.heap.size (w1.setCell ⟨w.heap.size + 1, 3, none⟩ (.int .i64 0)) ((w1.setCell ⟨w.heap.size + 1, 3, none⟩ (.int .i64 0)).alloc (.cells #[.int .u16 0, .int .u16 0, .int .u16 0, .int .u16 0, .int .u16 0, .int .u16 0, .int .u16 0, .int .u16 0] 39)) := (Below.refl w1.heap.size (w1.setCell ⟨w.heap.size + 1, 3, none⟩ (.int .i64 0))).alloc (by rw [hz1]; exact Nat.le_refl _) _
        have hrW := hr1.s3 0
        have hoW := own_setU (j := 3) (z := .int .i64 0) ho1
        have hs1 : Rd (w1.setCell ⟨w.heap.size + 1, 3, none⟩ (.int .i64 0)) w1.heap.size A (u16s l) := by
          obtain ⟨A', c', e1, _, _, _, hr⟩ := Rd.of_own hoW
          injection e1 with e1
          rw [e1, ← hz1]; exact hr
        have hrY := hrW.next (by rw [hz1]; exact al)
        have hoY := hoW.alloc (.cells #[.int .u16 0, .int .u16 0, .int .u16 0, .int .u16 0, .int .u16 0, .int .u16 0, .int .u16 0, .int .u16 0] 39)
        have hsY := hs1.below al
        have hRY := (Row.grown hR1 (set_gb w1 (w.heap.size + 1) 3 (.int .i64 0)) (fun e => by injection e with e; omega)).below al (by omega)
        have hbY := (hbw.setCell (p := ⟨w.heap.size + 1, 3, none⟩) (by simp) (.int .i64 0)).trans (al.mono (by omega))
        obtain ⟨b, rfl⟩ : ∃ b, A = some ⟨b, 0, none⟩ := by
          rcases ho1.2 with ⟨e1, e2⟩ | ⟨b, cap, cur, e1, _⟩
          · injection e1 with e1 e2 e3
            omega
          · injection e1 with e1
            exact ⟨b, e1⟩
        clear hs1 hr1 ho1 al hrW hoW hz1
        have h8e : l.length ≤ 8 := by omega
        have hkl : 0 ≤ l.length := by omega
        have hc1 : (cc = 0) = False := eq_false (by omega)
        have hc2 : (0 = cc) = False := eq_false (by omega)
        have hc3 : (0 : Int) ≤ (cc : Int) := by omega
        have hw0 : IntKind.i64.wrap 0 = 0 := by decide
        have hws : wrap64 (8 - (l.length : Int)) = 0 := by rw [IntWalk.wrap64_in _ (by omega)]; omega
        have HOO := Lib.hid (show 0 = 0 + (8 - l.length) by omega)
        have HDL := Lib.hid (show l.length ≤ 8 - 0 ∧ 0 + l.length ≤ 8 from ⟨by omega, by omega⟩)
        clear h8
        clear hON
        have hgX : w.heap.size + 1 ≠ w1.heap.size := by have := h1.lt; omega
        have hRX : w.heap.size ≠ w1.heap.size := by have := h1.lt; omega
        clear hwA hR0 hbA hzA HB CA hev hev2 hlow HP hg0 hg1 hT hR1 hbw h1
        go_wp2
        generalize (w1.setCell ⟨w.heap.size + 1, 3, none⟩ (.int .i64 0)).alloc (.cells #[.int .u16 0, .int .u16 0, .int .u16 0, .int .u16 0, .int .u16 0, .int .u16 0, .int .u16 0, .int .u16 0] 39) = wY at *
        clear c0 c1 c2 c3
        have d2 := (Rdr.keep (w' := wY.drew) hrY rfl).c2
        have d3 := (Rdr.keep (w' := wY.drew) hrY rfl).c3
        generalize w1.heap.size = X at *
        refine wp_region_still_tail 10 (by kernel_rfl) (by kernel_rfl) ?_
        change wpStill _ _ wY.drew _ _ _
        simp only [List.take_succ_cons, List.take_zero, List.drop_succ_cons, List.drop_zero]
        repeat still_step
        refine wpStill_nil ?_
        change wpList _ _ _ _ _ wY.drew
        clear d2 d3
        refine wpList_copy_row rfl _ _ 47 47 rfl 38 Tryd.underlying47 info_u16s _ 8 8 rfl _ _ _ rfl X 0 (u16s (noughts 8)) (show Row wY.drew X _ from hX0) X (u16s (l.take 0)) (by rw [← u16s_take]; exact hsY.take 0) (by rw [u16s_len, List.length_take]; try omega) (fun _ => rfl) (by omega) (by rw [u16s_len]; simp [noughts]; try omega) (u16s_one _) ?_
        intro w5 hX5 hg5
        replace hg5 : wY.grownBy w5 (some X) := ⟨hg5.os, hg5.tape, hg5.output, hg5.size, hg5.block⟩
        have hr5 := Rdr.keep hrY (hg5.block _ hrY.lt (fun e => hgX (by injection e)))
        have ho5 := own_farU hoY hg5 hvX
        have hs5 := hsY.keep (fun p hp => hg5.cell_far p (by have := hX0.2.2; omega) (fun e => by injection e with e; omega))
        have hR5 := Row.grown hRY hg5 (fun e => hRX (by injection e))
        have hb5 := hbY.grown hg5 (by have := hX0.2.2; have := hrY.lt; omega) (fun j e => by injection e with e; omega)
        have hz5 := hX5.2.2
        rw [u16s_lay] at hX5
        generalize hL5 : lay (noughts 8) 0 (l.take 0) = L5 at *
        have hL58 : L5.length = 8 := by rw [← hL5, lay_len (by simp [noughts]; try omega)]; rfl
        go_wp2
        have d2 := (Rdr.keep (w' := w5.drew) hr5 rfl).c2
        have d3 := (Rdr.keep (w' := w5.drew) hr5 rfl).c3
        refine wp_region_still_tail 16 (by kernel_rfl) (by kernel_rfl) ?_
        change wpStill _ _ w5.drew _ _ _
        simp only [List.take_succ_cons, List.take_zero, List.drop_succ_cons, List.drop_zero]
        repeat still_step
        refine wpStill_nil ?_
        change wpList _ _ _ _ _ w5.drew
        clear d2 d3
        refine wpList_copy_row rfl _ _ 47 47 rfl 38 Tryd.underlying47 info_u16s _ _ _ rfl _ _ _ rfl X 0 (u16s L5) (show Row w5.drew X _ from hX5) X (u16s (l.drop 0)) (show Rd w5 X _ _ from hs5) (by rw [u16s_len, List.length_drop]; try rfl) (fun _ => rfl) (by first | exact HDL.out.1 | omega) (by rw [u16s_len, hL58]; exact HDL.out.2) (u16s_one _) ?_
        intro w6 hX6 hg6
        replace hg6 : w5.grownBy w6 (some X) := ⟨hg6.os, hg6.tape, hg6.output, hg6.size, hg6.block⟩
        have hR6 := Row.grown hR5 hg6 (fun e => hRX (by injection e))
        have hb6 := hb5.grown hg6 (by omega) (fun j e => by injection e with e; omega)
        have hE := lay_two hkl h8e
        rw [← HOO.out] at hE
        rw [u16s_lay, ← hL5, hE] at hX6
        rw [← HM.out] at hX6
        have hM8 : M.length = 8 := by rw [HM.out]; simp [noughts]; omega
        obtain ⟨a0, a1, a2, a3, a4, a5, a6, a7, rfl⟩ := eight hM8
        have x0 : w6.cell? ⟨X, 0, none⟩ = some (.int .u16 (a0 : Int)) := hX6.1 0 _ rfl
        have x1 : w6.cell? ⟨X, 1, none⟩ = some (.int .u16 (a1 : Int)) := hX6.1 1 _ rfl
        have x2 : w6.cell? ⟨X, 2, none⟩ = some (.int .u16 (a2 : Int)) := hX6.1 2 _ rfl
        have x3 : w6.cell? ⟨X, 3, none⟩ = some (.int .u16 (a3 : Int)) := hX6.1 3 _ rfl
        have x4 : w6.cell? ⟨X, 4, none⟩ = some (.int .u16 (a4 : Int)) := hX6.1 4 _ rfl
        have x5 : w6.cell? ⟨X, 5, none⟩ = some (.int .u16 (a5 : Int)) := hX6.1 5 _ rfl
        have x6 : w6.cell? ⟨X, 6, none⟩ = some (.int .u16 (a6 : Int)) := hX6.1 6 _ rfl
        have x7 : w6.cell? ⟨X, 7, none⟩ = some (.int .u16 (a7 : Int)) := hX6.1 7 _ rfl
        have z0 : w6.cell? ⟨w.heap.size, 0, none⟩ = some (.int .u16 0) := hR6.1 0 _ rfl
        have y0 : w6.frozen? ⟨w.heap.size, 0, none⟩ = false := hR6.2.1 0 (by decide)
        have z1 : w6.cell? ⟨w.heap.size, 1, none⟩ = some (.int .u16 0) := hR6.1 1 _ rfl
        have y1 : w6.frozen? ⟨w.heap.size, 1, none⟩ = false := hR6.2.1 1 (by decide)
        have z2 : w6.cell? ⟨w.heap.size, 2, none⟩ = some (.int .u16 0) := hR6.1 2 _ rfl
        have y2 : w6.frozen? ⟨w.heap.size, 2, none⟩ = false := hR6.2.1 2 (by decide)
        have z3 : w6.cell? ⟨w.heap.size, 3, none⟩ = some (.int .u16 0) := hR6.1 3 _ rfl
        have y3 : w6.frozen? ⟨w.heap.size, 3, none⟩ = false := hR6.2.1 3 (by decide)
        have z4 : w6.cell? ⟨w.heap.size, 4, none⟩ = some (.int .u16 0) := hR6.1 4 _ rfl
        have y4 : w6.frozen? ⟨w.heap.size, 4, none⟩ = false := hR6.2.1 4 (by decide)
        have z5 : w6.cell? ⟨w.heap.size, 5, none⟩ = some (.int .u16 0) := hR6.1 5 _ rfl
        have y5 : w6.frozen? ⟨w.heap.size, 5, none⟩ = false := hR6.2.1 5 (by decide)
        have z6 : w6.cell? ⟨w.heap.size, 6, none⟩ = some (.int .u16 0) := hR6.1 6 _ rfl
        have y6 : w6.frozen? ⟨w.heap.size, 6, none⟩ = false := hR6.2.1 6 (by decide)
        have z7 : w6.cell? ⟨w.heap.size, 7, none⟩ = some (.int .u16 0) := hR6.1 7 _ rfl
        have y7 : w6.frozen? ⟨w.heap.size, 7, none⟩ = false := hR6.2.1 7 (by decide)
        clear hM8 hE hL5 hL58 hX0 hX5 hRY hR5 hsY hs5 hoY ho5 hrY hr5 hg5 hg6 hbY hb5 hvX
        go_wp2
        (try simp only [Exit.inBlock, Exit.then])
        refine bodyPost_ret (results_row (R := w.heap.size) (us := #[.int .u16 (a0 : Int), .int .u16 (a1 : Int), .int .u16 (a2 : Int), .int .u16 (a3 : Int), .int .u16 (a4 : Int), .int .u16 (a5 : Int), .int .u16 (a6 : Int), .int .u16 (a7 : Int)].toList) (d := .array 8 38) rfl rfl (by exact (Row.set (Row.set (Row.set (Row.set (Row.set (Row.set (Row.set (Row.set hR6 (j := 0) (by simp) (.int .u16 (a0 : Int))) (j := 1) (by simp) (.int .u16 (a1 : Int))) (j := 2) (by simp) (.int .u16 (a2 : Int))) (j := 3) (by simp) (.int .u16 (a3 : Int))) (j := 4) (by simp) (.int .u16 (a4 : Int))) (j := 5) (by simp) (.int .u16 (a5 : Int))) (j := 6) (by simp) (.int .u16 (a6 : Int))) (j := 7) (by simp) (.int .u16 (a7 : Int)))) Tryd.underlying39 rfl info_arr8) rfl ?_
        exact ⟨rfl, (Below.setCell (Below.setCell (Below.setCell (Below.setCell (Below.setCell (Below.setCell (Below.setCell (Below.setCell hb6 (p := ⟨w.heap.size, 0, none⟩) (Nat.le_refl _) (.int .u16 (a0 : Int))) (p := ⟨w.heap.size, 1, none⟩) (Nat.le_refl _) (.int .u16 (a1 : Int))) (p := ⟨w.heap.size, 2, none⟩) (Nat.le_refl _) (.int .u16 (a2 : Int))) (p := ⟨w.heap.size, 3, none⟩) (Nat.le_refl _) (.int .u16 (a3 : Int))) (p := ⟨w.heap.size, 4, none⟩) (Nat.le_refl _) (.int .u16 (a4 : Int))) (p := ⟨w.heap.size, 5, none⟩) (Nat.le_refl _) (.int .u16 (a5 : Int))) (p := ⟨w.heap.size, 6, none⟩) (Nat.le_refl _) (.int .u16 (a6 : Int))) (p := ⟨w.heap.size, 7, none⟩) (Nat.le_refl _) (.int .u16 (a7 : Int)))⟩
      · replace e0 := e0.trans (end_no (.inl ⟨rfl, h8⟩))
        subst e0
        rcases Nat.lt_or_gt_of_ne h8 with h8 | h8
        · have q1 : (0 : Int) < 8 - (l.length : Int) := by omega
          have q2 : ¬ (8 : Int) - (l.length : Int) < 0 := by omega
          cases hON
        · have q2 : (8 : Int) - (l.length : Int) < 0 := by omega
          cases hON
    | some k =>
      have hgi : gapI (some k) = (k : Int) := rfl
      rw [hgi] at c3
      have hkl := hgk k rfl
      by_cases h8 : l.length ≤ 7
      · obtain ⟨oo, hoo⟩ : ∃ oo, oo = k + (8 - l.length) := ⟨_, rfl⟩
        have q1 : (0 : Int) < 8 - (l.length : Int) := by omega
        have q2 : ¬ (8 : Int) - (l.length : Int) < 0 := by omega
        have q3 : (0 : Int) ≤ (k : Int) := by omega
        have q4 : ¬ (k : Int) < 0 := by omega
        have q5 : (l.length : Int) < 8 := by omega
        have hX0 : Row (w1.alloc (.cells #[.int .u16 0, .int .u16 0, .int .u16 0, .int .u16 0, .int .u16 0, .int .u16 0, .int .u16 0, .int .u16 0] 39)) w1.heap.size (u16s (noughts 8)) := Row.made w1 #[.int .u16 0, .int .u16 0, .int .u16 0, .int .u16 0, .int .u16 0, .int .u16 0, .int .u16 0, .int .u16 0] 39
        have d2a := fun o => (h1.next ((Below.refl w1.heap.size w1).alloc (Nat.le_refl _) o)).c3
        rw [hgi] at d2a
        replace e0 := e0.trans (if_pos h8)
        obtain ⟨M, hM⟩ : ∃ M, M = l.take k ++ noughts (8 - l.length) ++ l.drop k := ⟨_, rfl⟩
        rw [← hM] at e0
        have HM := Lib.hid hM
        clear hM
        subst e0
        have hlt1 := h1.lt
        obtain ⟨v, hr1, ho1⟩ := id h1
        obtain rfl : v = .slice A l.length cc := by
          have := hr1.c2
          rw [c2] at this
          injection this with this
          exact this.symm
        have hvX : (Value.slice A l.length cc).ownBlock ≠ some w1.heap.size := by
          intro e
          have := (ho1.lt _ e).2
          omega
        have al := (Below.refl w1.heap.size w1).alloc (Nat.le_refl _) (.cells #[.int .u16 0, .int .u16 0, .int .u16 0, .int .u16 0, .int .u16 0, .int .u16 0, .int .u16 0, .int .u16 0] 39)
        have hs1 : Rd w1 w1.heap.size A (u16s l) := by
          obtain ⟨A', c', e1, _, _, _, hr⟩ := Rd.of_own ho1
          injection e1 with e1
          rw [e1]; exact hr
        have hrY := hr1.next al
        rw [hgi] at hrY
        have hoY := ho1.alloc (.cells #[.int .u16 0, .int .u16 0, .int .u16 0, .int .u16 0, .int .u16 0, .int .u16 0, .int .u16 0, .int .u16 0] 39)
        have hsY := hs1.below al
        have hRY := hR1.below al (by omega)
        have hbY := hbw.trans (al.mono (by omega))
        have hA' : (A = none ∧ l.length = 0 ∧ cc = 0) ∨ ∃ b, A = some ⟨b, 0, none⟩ := by
          rcases ho1.2 with ⟨e1, e2⟩ | ⟨b, cap, cur, e1, _⟩
          · injection e1 with e1 e2 e3
            exact .inl ⟨e1, e2, e3⟩
          · injection e1 with e1
            exact .inr ⟨b, e1⟩
        clear hs1 hr1 ho1 al
        have h8e : l.length ≤ 8 := by omega
        have hkc : k ≤ cc := by omega
        have hoi : (oo : Int) ≤ 8 := by omega
        have hoi0 : (0 : Int) ≤ (oo : Int) := by omega
        have hoi8 : oo ≤ 8 := by omega
        have hklI : (k : Int) ≤ (l.length : Int) := by omega
        have hkcI : (k : Int) ≤ (cc : Int) := by omega
        have hws : wrap64 (8 - (l.length : Int)) = 8 - (l.length : Int) := IntWalk.wrap64_in _ (by omega)
        have hwo1 : wrap64 ((k : Int) + (8 - (l.length : Int))) = (oo : Int) := by rw [IntWalk.wrap64_in _ (by omega)]; omega
        have hwo2 : IntKind.i64.wrap ((k : Int) + (8 - (l.length : Int))) = (oo : Int) := by rw [IntWalk.i64_in _ (by omega)]; omega
        have HOO := Lib.hid hoo
        have HDL := Lib.hid (show l.length - k ≤ 8 - oo ∧ oo + (l.length - k) ≤ 8 from ⟨by omega, by omega⟩)
        by_cases hck : cc = k
        · have hkl2 : k = l.length := by omega
          have hc1 : (cc = k) = True := eq_true hck
          have hc2 : (k = cc) = True := eq_true hck.symm
          have ho1 : (oo = 8) = True := eq_true (by omega)
          have ho2 : (8 = oo) = True := eq_true (by omega)
          have HNL := Lib.hid (show l.length - k = 0 by omega)
          have HSR := Lib.hid fun (w5 : World) (A : Option Addr) => (show Rd w5 w1.heap.size A (u16s (l.drop k)) by rw [List.drop_eq_nil_of_le (by omega)]; exact Rd.nil)
          clear hoo hck hkl2 hA'
          clear hON
          have hgX : w.heap.size + 1 ≠ w1.heap.size := by have := h1.lt; omega
          have hRX : w.heap.size ≠ w1.heap.size := by have := h1.lt; omega
          clear hwA hR0 hbA hzA HB CA hev hev2 hlow HP hg0 hg1 hT hR1 hbw h1
          go_wp2
          generalize w1.alloc (.cells #[.int .u16 0, .int .u16 0, .int .u16 0, .int .u16 0, .int .u16 0, .int .u16 0, .int .u16 0, .int .u16 0] 39) = wY at *
          clear c0 c1 c2 c3
          have d2 := (Rdr.keep (w' := wY.drew) hrY rfl).c2
          have d3 := (Rdr.keep (w' := wY.drew) hrY rfl).c3
          generalize w1.heap.size = X at *
          refine wp_region_still_tail 10 (by kernel_rfl) (by kernel_rfl) ?_
          change wpStill _ _ wY.drew _ _ _
          simp only [List.take_succ_cons, List.take_zero, List.drop_succ_cons, List.drop_zero]
          repeat still_step
          refine wpStill_nil ?_
          change wpList _ _ _ _ _ wY.drew
          clear d2 d3
          refine wpList_copy_row rfl _ _ 47 47 rfl 38 Tryd.underlying47 info_u16s _ 8 8 rfl _ _ _ rfl X 0 (u16s (noughts 8)) (show Row wY.drew X _ from hX0) X (u16s (l.take k)) (by rw [← u16s_take]; exact hsY.take k) (by rw [u16s_len, List.length_take]; try omega) (fun _ => rfl) (by omega) (by rw [u16s_len]; simp [noughts]; try omega) (u16s_one _) ?_
          intro w5 hX5 hg5
          replace hg5 : wY.grownBy w5 (some X) := ⟨hg5.os, hg5.tape, hg5.output, hg5.size, hg5.block⟩
          have hr5 := Rdr.keep hrY (hg5.block _ hrY.lt (fun e => hgX (by injection e)))
          have ho5 := own_farU hoY hg5 hvX
          have hs5 := hsY.keep (fun p hp => hg5.cell_far p (by have := hX0.2.2; omega) (fun e => by injection e with e; omega))
          have hR5 := Row.grown hRY hg5 (fun e => hRX (by injection e))
          have hb5 := hbY.grown hg5 (by have := hX0.2.2; have := hrY.lt; omega) (fun j e => by injection e with e; omega)
          have hz5 := hX5.2.2
          rw [u16s_lay] at hX5
          generalize hL5 : lay (noughts 8) 0 (l.take k) = L5 at *
          have hL58 : L5.length = 8 := by rw [← hL5, lay_len (by simp [noughts]; try omega)]; rfl
          go_wp2
          have d2 := (Rdr.keep (w' := w5.drew) hr5 rfl).c2
          have d3 := (Rdr.keep (w' := w5.drew) hr5 rfl).c3
          refine wp_region_still_tail 16 (by kernel_rfl) (by kernel_rfl) ?_
          change wpStill _ _ w5.drew _ _ _
          simp only [List.take_succ_cons, List.take_zero, List.drop_succ_cons, List.drop_zero]
          repeat still_step
          refine wpStill_nil ?_
          change wpList _ _ _ _ _ w5.drew
          clear d2 d3
          refine wpList_copy_row rfl _ _ 47 47 rfl 38 Tryd.underlying47 info_u16s _ _ _ rfl _ _ _ rfl X oo (u16s L5) (show Row w5.drew X _ from hX5) X (u16s (l.drop k)) (HSR.out _ _) (by rw [u16s_len, List.length_drop]; try rfl) (fun h => absurd h (by have := HNL.out; omega)) (by first | exact HDL.out.1 | omega) (by rw [u16s_len, hL58]; exact HDL.out.2) (u16s_one _) ?_
          intro w6 hX6 hg6
          replace hg6 : w5.grownBy w6 (some X) := ⟨hg6.os, hg6.tape, hg6.output, hg6.size, hg6.block⟩
          have hR6 := Row.grown hR5 hg6 (fun e => hRX (by injection e))
          have hb6 := hb5.grown hg6 (by omega) (fun j e => by injection e with e; omega)
          have hE := lay_two hkl h8e
          rw [← HOO.out] at hE
          rw [u16s_lay, ← hL5, hE] at hX6
          rw [← HM.out] at hX6
          have hM8 : M.length = 8 := by rw [HM.out]; simp [noughts]; omega
          obtain ⟨a0, a1, a2, a3, a4, a5, a6, a7, rfl⟩ := eight hM8
          have x0 : w6.cell? ⟨X, 0, none⟩ = some (.int .u16 (a0 : Int)) := hX6.1 0 _ rfl
          have x1 : w6.cell? ⟨X, 1, none⟩ = some (.int .u16 (a1 : Int)) := hX6.1 1 _ rfl
          have x2 : w6.cell? ⟨X, 2, none⟩ = some (.int .u16 (a2 : Int)) := hX6.1 2 _ rfl
          have x3 : w6.cell? ⟨X, 3, none⟩ = some (.int .u16 (a3 : Int)) := hX6.1 3 _ rfl
          have x4 : w6.cell? ⟨X, 4, none⟩ = some (.int .u16 (a4 : Int)) := hX6.1 4 _ rfl
          have x5 : w6.cell? ⟨X, 5, none⟩ = some (.int .u16 (a5 : Int)) := hX6.1 5 _ rfl
          have x6 : w6.cell? ⟨X, 6, none⟩ = some (.int .u16 (a6 : Int)) := hX6.1 6 _ rfl
          have x7 : w6.cell? ⟨X, 7, none⟩ = some (.int .u16 (a7 : Int)) := hX6.1 7 _ rfl
          have z0 : w6.cell? ⟨w.heap.size, 0, none⟩ = some (.int .u16 0) := hR6.1 0 _ rfl
          have y0 : w6.frozen? ⟨w.heap.size, 0, none⟩ = false := hR6.2.1 0 (by decide)
          have z1 : w6.cell? ⟨w.heap.size, 1, none⟩ = some (.int .u16 0) := hR6.1 1 _ rfl
          have y1 : w6.frozen? ⟨w.heap.size, 1, none⟩ = false := hR6.2.1 1 (by decide)
          have z2 : w6.cell? ⟨w.heap.size, 2, none⟩ = some (.int .u16 0) := hR6.1 2 _ rfl
          have y2 : w6.frozen? ⟨w.heap.size, 2, none⟩ = false := hR6.2.1 2 (by decide)
          have z3 : w6.cell? ⟨w.heap.size, 3, none⟩ = some (.int .u16 0) := hR6.1 3 _ rfl
          have y3 : w6.frozen? ⟨w.heap.size, 3, none⟩ = false := hR6.2.1 3 (by decide)
          have z4 : w6.cell? ⟨w.heap.size, 4, none⟩ = some (.int .u16 0) := hR6.1 4 _ rfl
          have y4 : w6.frozen? ⟨w.heap.size, 4, none⟩ = false := hR6.2.1 4 (by decide)
          have z5 : w6.cell? ⟨w.heap.size, 5, none⟩ = some (.int .u16 0) := hR6.1 5 _ rfl
          have y5 : w6.frozen? ⟨w.heap.size, 5, none⟩ = false := hR6.2.1 5 (by decide)
          have z6 : w6.cell? ⟨w.heap.size, 6, none⟩ = some (.int .u16 0) := hR6.1 6 _ rfl
          have y6 : w6.frozen? ⟨w.heap.size, 6, none⟩ = false := hR6.2.1 6 (by decide)
          have z7 : w6.cell? ⟨w.heap.size, 7, none⟩ = some (.int .u16 0) := hR6.1 7 _ rfl
          have y7 : w6.frozen? ⟨w.heap.size, 7, none⟩ = false := hR6.2.1 7 (by decide)
          clear hM8 hE hL5 hL58 hX0 hX5 hRY hR5 hsY hs5 hoY ho5 hrY hr5 hg5 hg6 hbY hb5 hvX
          go_wp2
          (try simp only [Exit.inBlock, Exit.then])
          refine bodyPost_ret (results_row (R := w.heap.size) (us := #[.int .u16 (a0 : Int), .int .u16 (a1 : Int), .int .u16 (a2 : Int), .int .u16 (a3 : Int), .int .u16 (a4 : Int), .int .u16 (a5 : Int), .int .u16 (a6 : Int), .int .u16 (a7 : Int)].toList) (d := .array 8 38) rfl rfl (by exact (Row.set (Row.set (Row.set (Row.set (Row.set (Row.set (Row.set (Row.set hR6 (j := 0) (by simp) (.int .u16 (a0 : Int))) (j := 1) (by simp) (.int .u16 (a1 : Int))) (j := 2) (by simp) (.int .u16 (a2 : Int))) (j := 3) (by simp) (.int .u16 (a3 : Int))) (j := 4) (by simp) (.int .u16 (a4 : Int))) (j := 5) (by simp) (.int .u16 (a5 : Int))) (j := 6) (by simp) (.int .u16 (a6 : Int))) (j := 7) (by simp) (.int .u16 (a7 : Int)))) Tryd.underlying39 rfl info_arr8) rfl ?_
          exact ⟨rfl, (Below.setCell (Below.setCell (Below.setCell (Below.setCell (Below.setCell (Below.setCell (Below.setCell (Below.setCell hb6 (p := ⟨w.heap.size, 0, none⟩) (Nat.le_refl _) (.int .u16 (a0 : Int))) (p := ⟨w.heap.size, 1, none⟩) (Nat.le_refl _) (.int .u16 (a1 : Int))) (p := ⟨w.heap.size, 2, none⟩) (Nat.le_refl _) (.int .u16 (a2 : Int))) (p := ⟨w.heap.size, 3, none⟩) (Nat.le_refl _) (.int .u16 (a3 : Int))) (p := ⟨w.heap.size, 4, none⟩) (Nat.le_refl _) (.int .u16 (a4 : Int))) (p := ⟨w.heap.size, 5, none⟩) (Nat.le_refl _) (.int .u16 (a5 : Int))) (p := ⟨w.heap.size, 6, none⟩) (Nat.le_refl _) (.int .u16 (a6 : Int))) (p := ⟨w.heap.size, 7, none⟩) (Nat.le_refl _) (.int .u16 (a7 : Int)))⟩
        · rcases hA' with ⟨hA', hl0⟩ | ⟨b, rfl⟩
          · exact absurd (by omega) hck
          · have hc1 : (cc = k) = False := eq_false hck
            have hc2 : (k = cc) = False := eq_false (fun e => hck e.symm)
            by_cases hkl2 : k = l.length
            · have ho1 : (oo = 8) = True := eq_true (by omega)
              have ho2 : (8 = oo) = True := eq_true (by omega)
              have HNL := Lib.hid (show l.length - k = 0 by omega)
              have HSR := Lib.hid fun (w5 : World) (A : Option Addr) => (show Rd w5 w1.heap.size A (u16s (l.drop k)) by rw [List.drop_eq_nil_of_le (by omega)]; exact Rd.nil)
              clear hoo hck hkl2
              clear hON
              have hgX : w.heap.size + 1 ≠ w1.heap.size := by have := h1.lt; omega
              have hRX : w.heap.size ≠ w1.heap.size := by have := h1.lt; omega
              clear hwA hR0 hbA hzA HB CA hev hev2 hlow HP hg0 hg1 hT hR1 hbw h1
              go_wp2
              generalize w1.alloc (.cells #[.int .u16 0, .int .u16 0, .int .u16 0, .int .u16 0, .int .u16 0, .int .u16 0, .int .u16 0, .int .u16 0] 39) = wY at *
              clear c0 c1 c2 c3
              have d2 := (Rdr.keep (w' := wY.drew) hrY rfl).c2
              have d3 := (Rdr.keep (w' := wY.drew) hrY rfl).c3
              generalize w1.heap.size = X at *
              refine wp_region_still_tail 10 (by kernel_rfl) (by kernel_rfl) ?_
              change wpStill _ _ wY.drew _ _ _
              simp only [List.take_succ_cons, List.take_zero, List.drop_succ_cons, List.drop_zero]
              repeat still_step
              refine wpStill_nil ?_
              change wpList _ _ _ _ _ wY.drew
              clear d2 d3
              refine wpList_copy_row rfl _ _ 47 47 rfl 38 Tryd.underlying47 info_u16s _ 8 8 rfl _ _ _ rfl X 0 (u16s (noughts 8)) (show Row wY.drew X _ from hX0) X (u16s (l.take k)) (by rw [← u16s_take]; exact hsY.take k) (by rw [u16s_len, List.length_take]; try omega) (fun _ => rfl) (by omega) (by rw [u16s_len]; simp [noughts]; try omega) (u16s_one _) ?_
              intro w5 hX5 hg5
              replace hg5 : wY.grownBy w5 (some X) := ⟨hg5.os, hg5.tape, hg5.output, hg5.size, hg5.block⟩
              have hr5 := Rdr.keep hrY (hg5.block _ hrY.lt (fun e => hgX (by injection e)))
              have ho5 := own_farU hoY hg5 hvX
              have hs5 := hsY.keep (fun p hp => hg5.cell_far p (by have := hX0.2.2; omega) (fun e => by injection e with e; omega))
              have hR5 := Row.grown hRY hg5 (fun e => hRX (by injection e))
              have hb5 := hbY.grown hg5 (by have := hX0.2.2; have := hrY.lt; omega) (fun j e => by injection e with e; omega)
              have hz5 := hX5.2.2
              rw [u16s_lay] at hX5
              generalize hL5 : lay (noughts 8) 0 (l.take k) = L5 at *
              have hL58 : L5.length = 8 := by rw [← hL5, lay_len (by simp [noughts]; try omega)]; rfl
              go_wp2
              have d2 := (Rdr.keep (w' := w5.drew) hr5 rfl).c2
              have d3 := (Rdr.keep (w' := w5.drew) hr5 rfl).c3
              refine wp_region_still_tail 16 (by kernel_rfl) (by kernel_rfl) ?_
              change wpStill _ _ w5.drew _ _ _
              simp only [List.take_succ_cons, List.take_zero, List.drop_succ_cons, List.drop_zero]
              repeat still_step
              refine wpStill_nil ?_
              change wpList _ _ _ _ _ w5.drew
              clear d2 d3
              refine wpList_copy_row rfl _ _ 47 47 rfl 38 Tryd.underlying47 info_u16s _ _ _ rfl _ _ _ rfl X oo (u16s L5) (show Row w5.drew X _ from hX5) X (u16s (l.drop k)) (HSR.out _ _) (by rw [u16s_len, List.length_drop]; try rfl) (fun h => absurd h (by have := HNL.out; omega)) (by first | exact HDL.out.1 | omega) (by rw [u16s_len, hL58]; exact HDL.out.2) (u16s_one _) ?_
              intro w6 hX6 hg6
              replace hg6 : w5.grownBy w6 (some X) := ⟨hg6.os, hg6.tape, hg6.output, hg6.size, hg6.block⟩
              have hR6 := Row.grown hR5 hg6 (fun e => hRX (by injection e))
              have hb6 := hb5.grown hg6 (by omega) (fun j e => by injection e with e; omega)
              have hE := lay_two hkl h8e
              rw [← HOO.out] at hE
              rw [u16s_lay, ← hL5, hE] at hX6
              rw [← HM.out] at hX6
              have hM8 : M.length = 8 := by rw [HM.out]; simp [noughts]; omega
              obtain ⟨a0, a1, a2, a3, a4, a5, a6, a7, rfl⟩ := eight hM8
              have x0 : w6.cell? ⟨X, 0, none⟩ = some (.int .u16 (a0 : Int)) := hX6.1 0 _ rfl
              have x1 : w6.cell? ⟨X, 1, none⟩ = some (.int .u16 (a1 : Int)) := hX6.1 1 _ rfl
              have x2 : w6.cell? ⟨X, 2, none⟩ = some (.int .u16 (a2 : Int)) := hX6.1 2 _ rfl
              have x3 : w6.cell? ⟨X, 3, none⟩ = some (.int .u16 (a3 : Int)) := hX6.1 3 _ rfl
              have x4 : w6.cell? ⟨X, 4, none⟩ = some (.int .u16 (a4 : Int)) := hX6.1 4 _ rfl
              have x5 : w6.cell? ⟨X, 5, none⟩ = some (.int .u16 (a5 : Int)) := hX6.1 5 _ rfl
              have x6 : w6.cell? ⟨X, 6, none⟩ = some (.int .u16 (a6 : Int)) := hX6.1 6 _ rfl
              have x7 : w6.cell? ⟨X, 7, none⟩ = some (.int .u16 (a7 : Int)) := hX6.1 7 _ rfl
              have z0 : w6.cell? ⟨w.heap.size, 0, none⟩ = some (.int .u16 0) := hR6.1 0 _ rfl
              have y0 : w6.frozen? ⟨w.heap.size, 0, none⟩ = false := hR6.2.1 0 (by decide)
              have z1 : w6.cell? ⟨w.heap.size, 1, none⟩ = some (.int .u16 0) := hR6.1 1 _ rfl
              have y1 : w6.frozen? ⟨w.heap.size, 1, none⟩ = false := hR6.2.1 1 (by decide)
              have z2 : w6.cell? ⟨w.heap.size, 2, none⟩ = some (.int .u16 0) := hR6.1 2 _ rfl
              have y2 : w6.frozen? ⟨w.heap.size, 2, none⟩ = false := hR6.2.1 2 (by decide)
              have z3 : w6.cell? ⟨w.heap.size, 3, none⟩ = some (.int .u16 0) := hR6.1 3 _ rfl
              have y3 : w6.frozen? ⟨w.heap.size, 3, none⟩ = false := hR6.2.1 3 (by decide)
              have z4 : w6.cell? ⟨w.heap.size, 4, none⟩ = some (.int .u16 0) := hR6.1 4 _ rfl
              have y4 : w6.frozen? ⟨w.heap.size, 4, none⟩ = false := hR6.2.1 4 (by decide)
              have z5 : w6.cell? ⟨w.heap.size, 5, none⟩ = some (.int .u16 0) := hR6.1 5 _ rfl
              have y5 : w6.frozen? ⟨w.heap.size, 5, none⟩ = false := hR6.2.1 5 (by decide)
              have z6 : w6.cell? ⟨w.heap.size, 6, none⟩ = some (.int .u16 0) := hR6.1 6 _ rfl
              have y6 : w6.frozen? ⟨w.heap.size, 6, none⟩ = false := hR6.2.1 6 (by decide)
              have z7 : w6.cell? ⟨w.heap.size, 7, none⟩ = some (.int .u16 0) := hR6.1 7 _ rfl
              have y7 : w6.frozen? ⟨w.heap.size, 7, none⟩ = false := hR6.2.1 7 (by decide)
              clear hM8 hE hL5 hL58 hX0 hX5 hRY hR5 hsY hs5 hoY ho5 hrY hr5 hg5 hg6 hbY hb5 hvX
              go_wp2
              (try simp only [Exit.inBlock, Exit.then])
              refine bodyPost_ret (results_row (R := w.heap.size) (us := #[.int .u16 (a0 : Int), .int .u16 (a1 : Int), .int .u16 (a2 : Int), .int .u16 (a3 : Int), .int .u16 (a4 : Int), .int .u16 (a5 : Int), .int .u16 (a6 : Int), .int .u16 (a7 : Int)].toList) (d := .array 8 38) rfl rfl (by exact (Row.set (Row.set (Row.set (Row.set (Row.set (Row.set (Row.set (Row.set hR6 (j := 0) (by simp) (.int .u16 (a0 : Int))) (j := 1) (by simp) (.int .u16 (a1 : Int))) (j := 2) (by simp) (.int .u16 (a2 : Int))) (j := 3) (by simp) (.int .u16 (a3 : Int))) (j := 4) (by simp) (.int .u16 (a4 : Int))) (j := 5) (by simp) (.int .u16 (a5 : Int))) (j := 6) (by simp) (.int .u16 (a6 : Int))) (j := 7) (by simp) (.int .u16 (a7 : Int)))) Tryd.underlying39 rfl info_arr8) rfl ?_
              exact ⟨rfl, (Below.setCell (Below.setCell (Below.setCell (Below.setCell (Below.setCell (Below.setCell (Below.setCell (Below.setCell hb6 (p := ⟨w.heap.size, 0, none⟩) (Nat.le_refl _) (.int .u16 (a0 : Int))) (p := ⟨w.heap.size, 1, none⟩) (Nat.le_refl _) (.int .u16 (a1 : Int))) (p := ⟨w.heap.size, 2, none⟩) (Nat.le_refl _) (.int .u16 (a2 : Int))) (p := ⟨w.heap.size, 3, none⟩) (Nat.le_refl _) (.int .u16 (a3 : Int))) (p := ⟨w.heap.size, 4, none⟩) (Nat.le_refl _) (.int .u16 (a4 : Int))) (p := ⟨w.heap.size, 5, none⟩) (Nat.le_refl _) (.int .u16 (a5 : Int))) (p := ⟨w.heap.size, 6, none⟩) (Nat.le_refl _) (.int .u16 (a6 : Int))) (p := ⟨w.heap.size, 7, none⟩) (Nat.le_refl _) (.int .u16 (a7 : Int)))⟩
            · have ho1 : (oo = 8) = False := eq_false (by omega)
              have ho2 : (8 = oo) = False := eq_false (by omega)
              clear hoo hck hkl2
              clear hON
              have hgX : w.heap.size + 1 ≠ w1.heap.size := by have := h1.lt; omega
              have hRX : w.heap.size ≠ w1.heap.size := by have := h1.lt; omega
              clear hwA hR0 hbA hzA HB CA hev hev2 hlow HP hg0 hg1 hT hR1 hbw h1
              go_wp2
              generalize w1.alloc (.cells #[.int .u16 0, .int .u16 0, .int .u16 0, .int .u16 0, .int .u16 0, .int .u16 0, .int .u16 0, .int .u16 0] 39) = wY at *
              clear c0 c1 c2 c3
              have d2 := (Rdr.keep (w' := wY.drew) hrY rfl).c2
              have d3 := (Rdr.keep (w' := wY.drew) hrY rfl).c3
              generalize w1.heap.size = X at *
              refine wp_region_still_tail 10 (by kernel_rfl) (by kernel_rfl) ?_
              change wpStill _ _ wY.drew _ _ _
              simp only [List.take_succ_cons, List.take_zero, List.drop_succ_cons, List.drop_zero]
              repeat still_step
              refine wpStill_nil ?_
              change wpList _ _ _ _ _ wY.drew
              clear d2 d3
              refine wpList_copy_row rfl _ _ 47 47 rfl 38 Tryd.underlying47 info_u16s _ 8 8 rfl _ _ _ rfl X 0 (u16s (noughts 8)) (show Row wY.drew X _ from hX0) X (u16s (l.take k)) (by rw [← u16s_take]; exact hsY.take k) (by rw [u16s_len, List.length_take]; try omega) (fun _ => rfl) (by omega) (by rw [u16s_len]; simp [noughts]; try omega) (u16s_one _) ?_
              intro w5 hX5 hg5
              replace hg5 : wY.grownBy w5 (some X) := ⟨hg5.os, hg5.tape, hg5.output, hg5.size, hg5.block⟩
              have hr5 := Rdr.keep hrY (hg5.block _ hrY.lt (fun e => hgX (by injection e)))
              have ho5 := own_farU hoY hg5 hvX
              have hs5 := hsY.keep (fun p hp => hg5.cell_far p (by have := hX0.2.2; omega) (fun e => by injection e with e; omega))
              have hR5 := Row.grown hRY hg5 (fun e => hRX (by injection e))
              have hb5 := hbY.grown hg5 (by have := hX0.2.2; have := hrY.lt; omega) (fun j e => by injection e with e; omega)
              have hz5 := hX5.2.2
              rw [u16s_lay] at hX5
              generalize hL5 : lay (noughts 8) 0 (l.take k) = L5 at *
              have hL58 : L5.length = 8 := by rw [← hL5, lay_len (by simp [noughts]; try omega)]; rfl
              go_wp2
              have d2 := (Rdr.keep (w' := w5.drew) hr5 rfl).c2
              have d3 := (Rdr.keep (w' := w5.drew) hr5 rfl).c3
              refine wp_region_still_tail 16 (by kernel_rfl) (by kernel_rfl) ?_
              change wpStill _ _ w5.drew _ _ _
              simp only [List.take_succ_cons, List.take_zero, List.drop_succ_cons, List.drop_zero]
              repeat still_step
              refine wpStill_nil ?_
              change wpList _ _ _ _ _ w5.drew
              clear d2 d3
              refine wpList_copy_row rfl _ _ 47 47 rfl 38 Tryd.underlying47 info_u16s _ _ _ rfl _ _ _ rfl X oo (u16s L5) (show Row w5.drew X _ from hX5) X (u16s (l.drop k)) (by rw [← u16s_drop]; have := hs5.dropAt k; rw [Nat.zero_add] at this; exact this) (by rw [u16s_len, List.length_drop]; try rfl) (fun _ => rfl) (by first | exact HDL.out.1 | omega) (by rw [u16s_len, hL58]; exact HDL.out.2) (u16s_one _) ?_
              intro w6 hX6 hg6
              replace hg6 : w5.grownBy w6 (some X) := ⟨hg6.os, hg6.tape, hg6.output, hg6.size, hg6.block⟩
              have hR6 := Row.grown hR5 hg6 (fun e => hRX (by injection e))
              have hb6 := hb5.grown hg6 (by omega) (fun j e => by injection e with e; omega)
              have hE := lay_two hkl h8e
              rw [← HOO.out] at hE
              rw [u16s_lay, ← hL5, hE] at hX6
              rw [← HM.out] at hX6
              have hM8 : M.length = 8 := by rw [HM.out]; simp [noughts]; omega
              obtain ⟨a0, a1, a2, a3, a4, a5, a6, a7, rfl⟩ := eight hM8
              have x0 : w6.cell? ⟨X, 0, none⟩ = some (.int .u16 (a0 : Int)) := hX6.1 0 _ rfl
              have x1 : w6.cell? ⟨X, 1, none⟩ = some (.int .u16 (a1 : Int)) := hX6.1 1 _ rfl
              have x2 : w6.cell? ⟨X, 2, none⟩ = some (.int .u16 (a2 : Int)) := hX6.1 2 _ rfl
              have x3 : w6.cell? ⟨X, 3, none⟩ = some (.int .u16 (a3 : Int)) := hX6.1 3 _ rfl
              have x4 : w6.cell? ⟨X, 4, none⟩ = some (.int .u16 (a4 : Int)) := hX6.1 4 _ rfl
              have x5 : w6.cell? ⟨X, 5, none⟩ = some (.int .u16 (a5 : Int)) := hX6.1 5 _ rfl
              have x6 : w6.cell? ⟨X, 6, none⟩ = some (.int .u16 (a6 : Int)) := hX6.1 6 _ rfl
              have x7 : w6.cell? ⟨X, 7, none⟩ = some (.int .u16 (a7 : Int)) := hX6.1 7 _ rfl
              have z0 : w6.cell? ⟨w.heap.size, 0, none⟩ = some (.int .u16 0) := hR6.1 0 _ rfl
              have y0 : w6.frozen? ⟨w.heap.size, 0, none⟩ = false := hR6.2.1 0 (by decide)
              have z1 : w6.cell? ⟨w.heap.size, 1, none⟩ = some (.int .u16 0) := hR6.1 1 _ rfl
              have y1 : w6.frozen? ⟨w.heap.size, 1, none⟩ = false := hR6.2.1 1 (by decide)
              have z2 : w6.cell? ⟨w.heap.size, 2, none⟩ = some (.int .u16 0) := hR6.1 2 _ rfl
              have y2 : w6.frozen? ⟨w.heap.size, 2, none⟩ = false := hR6.2.1 2 (by decide)
              have z3 : w6.cell? ⟨w.heap.size, 3, none⟩ = some (.int .u16 0) := hR6.1 3 _ rfl
              have y3 : w6.frozen? ⟨w.heap.size, 3, none⟩ = false := hR6.2.1 3 (by decide)
              have z4 : w6.cell? ⟨w.heap.size, 4, none⟩ = some (.int .u16 0) := hR6.1 4 _ rfl
              have y4 : w6.frozen? ⟨w.heap.size, 4, none⟩ = false := hR6.2.1 4 (by decide)
              have z5 : w6.cell? ⟨w.heap.size, 5, none⟩ = some (.int .u16 0) := hR6.1 5 _ rfl
              have y5 : w6.frozen? ⟨w.heap.size, 5, none⟩ = false := hR6.2.1 5 (by decide)
              have z6 : w6.cell? ⟨w.heap.size, 6, none⟩ = some (.int .u16 0) := hR6.1 6 _ rfl
              have y6 : w6.frozen? ⟨w.heap.size, 6, none⟩ = false := hR6.2.1 6 (by decide)
              have z7 : w6.cell? ⟨w.heap.size, 7, none⟩ = some (.int .u16 0) := hR6.1 7 _ rfl
              have y7 : w6.frozen? ⟨w.heap.size, 7, none⟩ = false := hR6.2.1 7 (by decide)
              clear hM8 hE hL5 hL58 hX0 hX5 hRY hR5 hsY hs5 hoY ho5 hrY hr5 hg5 hg6 hbY hb5 hvX
              go_wp2
              (try simp only [Exit.inBlock, Exit.then])
              refine bodyPost_ret (results_row (R := w.heap.size) (us := #[.int .u16 (a0 : Int), .int .u16 (a1 : Int), .int .u16 (a2 : Int), .int .u16 (a3 : Int), .int .u16 (a4 : Int), .int .u16 (a5 : Int), .int .u16 (a6 : Int), .int .u16 (a7 : Int)].toList) (d := .array 8 38) rfl rfl (by exact (Row.set (Row.set (Row.set (Row.set (Row.set (Row.set (Row.set (Row.set hR6 (j := 0) (by simp) (.int .u16 (a0 : Int))) (j := 1) (by simp) (.int .u16 (a1 : Int))) (j := 2) (by simp) (.int .u16 (a2 : Int))) (j := 3) (by simp) (.int .u16 (a3 : Int))) (j := 4) (by simp) (.int .u16 (a4 : Int))) (j := 5) (by simp) (.int .u16 (a5 : Int))) (j := 6) (by simp) (.int .u16 (a6 : Int))) (j := 7) (by simp) (.int .u16 (a7 : Int)))) Tryd.underlying39 rfl info_arr8) rfl ?_
              exact ⟨rfl, (Below.setCell (Below.setCell (Below.setCell (Below.setCell (Below.setCell (Below.setCell (Below.setCell (Below.setCell hb6 (p := ⟨w.heap.size, 0, none⟩) (Nat.le_refl _) (.int .u16 (a0 : Int))) (p := ⟨w.heap.size, 1, none⟩) (Nat.le_refl _) (.int .u16 (a1 : Int))) (p := ⟨w.heap.size, 2, none⟩) (Nat.le_refl _) (.int .u16 (a2 : Int))) (p := ⟨w.heap.size, 3, none⟩) (Nat.le_refl _) (.int .u16 (a3 : Int))) (p := ⟨w.heap.size, 4, none⟩) (Nat.le_refl _) (.int .u16 (a4 : Int))) (p := ⟨w.heap.size, 5, none⟩) (Nat.le_refl _) (.int .u16 (a5 : Int))) (p := ⟨w.heap.size, 6, none⟩) (Nat.le_refl _) (.int .u16 (a6 : Int))) (p := ⟨w.heap.size, 7, none⟩) (Nat.le_refl _) (.int .u16 (a7 : Int)))⟩
      · replace e0 := e0.trans (end_no (.inr ⟨by simp, by omega⟩))
        subst e0
        have hk0 : (0 : Int) ≤ (k : Int) := by omega
        by_cases h9 : l.length = 8
        · have q1 : (8 : Int) - (l.length : Int) = 0 := by omega
          clear h9 h8
          cases hON
        · have q2 : (8 : Int) - (l.length : Int) < 0 := by omega
          cases hON
  · have e := HP.out
    rw [hT] at e
    have e : O = none := e
    subst e
    clear e
    rcases hbad with rfl | hr | h8
    · skip
      cases hON
    · have hre : r.isEmpty = false := by cases r with | nil => exact absurd rfl hr | cons _ _ => rfl
      clear hr
      cases ok with
      | true =>
        cases hON
      | false =>
        cases hON
    · have h8' : (8 : Int) - (l.length : Int) < 0 := by omega
      cases ok with
      | true =>
        cases hre : r.isEmpty with
        | true =>
          cases hON
        | false =>
          cases hON
      | false =>
        cases hON
theorem parse6_any (s : List UInt8) (w : World) (hev : EV w) (hs : s.length ≤ 1000) :
    Calls Tryd.prog 24 #[.string (str s)] w fun e w' => e = ret6 (pParse6 s) ∧ Below w.heap.size w w' := by
  cases h : pParse6 s with
  | none => rw [← h]; exact parse6_bad s h w hev hs
  | some M => rw [← h]; exact parse6_good s M h w hev hs
end Go.Proofs.YtaglbcniomcfnaaDoor

