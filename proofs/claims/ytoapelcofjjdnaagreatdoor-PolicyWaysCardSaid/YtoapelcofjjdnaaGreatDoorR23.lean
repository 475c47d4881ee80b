/- A part of the proof. -/
import Derived.Test.YtoapelcofjjdnaaGreatDoorR19
import Derived.Laws.IdiomCopy
import Derived.Deep.MidRow
import Derived.StillTailTactics
import Derived.Shelf.Spec.SlicesInsert
import Derived.Laws.StructEq
import Derived.Laws.Tables
import Derived.Laws.Cover2
import Derived.Test.YtoapelcofjjdnaaGreatDoorR02
import Derived.Test.YtoapelcofjjdnaaGreatDoorR12
import Derived.Deep.RegionHeld3
namespace Go.Proofs.YtoapelcofjjdnaaGreatDoor
set_option linter.all false
open Go.RowKit
def lay {α : Type} (xs : List α) (o : Nat) (vs : List α) : List α := xs.take o ++ vs ++ xs.drop (o + vs.length)
theorem lay_nil {α : Type} (xs : List α) (o : Nat) : lay xs o [] = xs := by simp [lay]
theorem lay_cons {α : Type} {xs : List α} {o : Nat} (v : α) (r : List α) (h : o < xs.length) : lay (xs.set o v) (o + 1) r = lay xs o (v :: r) := by
 unfold lay
 rw [take_snoc' _ o (by rw [List.length_set]; exact h), List.take_set, List.set_eq_of_length_le (by rw [List.length_take]; omega), List.drop_set, if_pos (by omega), List.length_cons, show o + 1 + r.length = o + (r.length + 1) by omega]
 simp
theorem lay_len {α : Type} {xs vs : List α} {o : Nat} (h : o + vs.length ≤ xs.length) : (lay xs o vs).length = xs.length := by
 unfold lay; simp; omega
theorem Row.sets {g : Nat} : ∀ (vs : List Value) (o : Nat) (xs : List Value) (w : World), Row w g xs → o + vs.length ≤ xs.length → Row (w.setCells g o vs) g (lay xs o vs) := by
 intro vs
 induction vs with
 | nil => intro o xs w h _; rw [lay_nil]; exact h
 | cons v r ih =>
  intro o xs w h hl
  simp only [List.length_cons] at hl
  rw [← lay_cons v r (by omega)]
  exact ih _ _ _ (h.set (by omega) v) (by rw [List.length_set]; omega)
theorem sets_gb {g : Nat} : ∀ (vs : List Value) (o : Nat) (w : World), w.grownBy (w.setCells g o vs) (some g) := by
 intro vs
 induction vs with
 | nil => intro o w; exact World.grownBy.refl _ _
 | cons v r ih => intro o w; exact (set_gb w g o v).trans (ih _ _)
section
variable {P : Program} {w : World} {ops : Array Oper} {rest : List Oper} {o : Oper} {a : Act} {Q : Exit → Act → World → Prop}
theorem wpList_copy_row (hgd : o.guard = none) (d s : Operand) (dT sT : TypeId)
  (ho : o.op = .call { callee := .builtin .copy, args := #[d, s], argTypes := #[dT, sT] }) (elem : TypeId) (hu : P.underlying dT = some (.slice elem)) (hsz : (P.info? elem).map (·.size) = some 1)
  (dp : Option Addr) (dLen dCap : Nat) (hd : a.eval d = .slice dp dLen dCap) (A : Option Addr) (m c : Nat) (hs : a.eval s = .slice A m c)
  (X off : Nat) (xs : List Value) (hr : Row w X xs) (B : Nat) (cs : List Value) (hcs : Rd w B A cs) (hm : cs.length = m) (hdp : 0 < m → dp = some ⟨X, off, none⟩) (hle : m ≤ dLen) (hfit : off + m ≤ xs.length) (h1 : ∀ v ∈ cs, v.oneCell' = true)
  (h : ∀ w', Row w' X (lay xs off cs) → w.grownBy w' (some X) → wpList P ops Q rest (a.put o.dst (.int .i64 (m : Int))) w') : wpList P ops Q (o :: rest) a w := by
 subst hm
 rcases Nat.eq_zero_or_pos cs.length with h0 | h0
 ·
  have e : cs = [] := List.eq_nil_of_length_eq_zero h0
  subst e
  have hrun := run_copy_none (P := P) w dT sT o.type elem dp A dLen dCap 0 c hu hsz (by simp)
  exact wpList_copy_runI w hgd d s dT sT ho _ _ hd hs hrun (h w (by rw [lay_nil]; exact hr) (World.grownBy.refl _ _))
 ·
  obtain rfl := hdp h0
  obtain ⟨b, o2, rfl, hb, hc⟩ := hcs h0
  have hrun := run_copy_cells (P := P) w dT sT o.type elem X off dLen dCap ⟨b, o2, none⟩ cs.length c cs hu hsz (by simp [Nat.min_def]; omega) (fun j v hv => by rw [Addr.add_lit]; exact hc j v hv)
   (fun j hj => by rw [hr.1 (off + j) _ (List.getElem?_eq_getElem (by omega))]; rfl) (fun j hj => hr.2.1 _ (by omega)) h1
  exact wpList_copy_runI w hgd d s dT sT ho _ _ hd hs hrun (h _ (Row.sets cs off xs w hr (by omega)) (sets_gb _ _ _))
end
def adr (o : Option (List Nat)) : Value := .agg (u16s (o.getD (noughts 8))).toArray
def ret6 (o : Option (List Nat)) : Ending := .returned (.tuple #[adr o, .int .i64 (if o.isSome = true then 0 else 5)])
theorem Row.range {w : World} {X : Nat} {xs : List Value} (h : Row w X xs) : w.rangeAt X 0 xs := fun j v hv => by rw [Nat.zero_add]; exact h.1 j v hv
theorem results_row {P : Program} {fn : Func} {t u : Tmp} {ty : TypeId} (h : fn.results = #[.cell t ty, .tmp u]) {tmps : Array Value} {w : World} {R : Nat} {us : List Value} {d : TypeDesc}
  (ht : tmps.getD t undef = .pointer (some ⟨R, 0, none⟩)) (hR : Row w R us) (hu : P.underlying ty = some d) (hd : d.isRow = true) (hi : (P.info? ty).map (·.size) = some us.length) :
  (results fn tmps).run P w = .ok (.tuple #[.agg us.toArray, tmps.getD u undef]) w := by
 have hl := run_loadVar_mid (P := P) w R 0 ty us d hR.range hu hd hi
 have ht2 : tmps[t]?.getD undef = .pointer (some ⟨R, 0, none⟩) := by rw [← Array.getD_eq_getD_getElem?]; exact ht
 simp [results, h, ht2, asAddr, hl]
theorem info_arr8 : (Tryz.prog.info? 24).map (·.size) = some 8 := by kernel_rfl
-- The end of Parse: what block R holds is handed on.
theorem ret6_none : ret6 none = .returned (.tuple #[.agg #[.int .u16 0, .int .u16 0, .int .u16 0, .int .u16 0, .int .u16 0, .int .u16 0, .int .u16 0, .int .u16 0], .int .i64 5]) := by rfl
theorem end_no {g : Option Nat} {l : List Nat} (h : (g = none ∧ l.length ≠ 8) ∨ (g ≠ none ∧ 7 < l.length)) : sEnd (l, g) = none := by
 rcases h with ⟨rfl, h⟩ | ⟨h, h7⟩
 · exact if_neg h
 ·
  cases g with
  | none => exact absurd rfl h
  | some k => exact if_neg (by omega)
theorem own_farU {w w' : World} {B X m : Nat} {e : TypeId} {u : Value} {xs : List Value} (hown : w.ownsRow B e 1 u m xs) (hg : w.grownBy w' (some X)) (hX : u.ownBlock ≠ some X) : w'.ownsRow B e 1 u m xs := hown.kept hg (.inr hX)
theorem u16s_take (l : List Nat) (k : Nat) : (u16s l).take k = u16s (l.take k) := by unfold u16s; rw [List.map_take]
theorem u16s_drop (l : List Nat) (k : Nat) : (u16s l).drop k = u16s (l.drop k) := by unfold u16s; rw [List.map_drop]
theorem u16s_lay (xs vs : List Nat) (o : Nat) : lay (u16s xs) o (u16s vs) = u16s (lay xs o vs) := by
 unfold lay; rw [u16s_append, u16s_append, u16s_take, u16s_len, u16s_drop]
theorem u16s_one (l : List Nat) : ∀ u ∈ u16s l, u.oneCell' = true := by
 intro u hu
 obtain ⟨c, _, rfl⟩ := List.mem_map.1 hu
 rfl
theorem lay_two {l : List Nat} {k : Nat} (hk : k ≤ l.length) (h8 : l.length ≤ 8) : lay (lay (noughts 8) 0 (l.take k)) (k + (8 - l.length)) (l.drop k) = l.take k ++ noughts (8 - l.length) ++ l.drop k := by
 have e1 : lay (noughts 8) 0 (l.take k) = l.take k ++ noughts (8 - k) := by
  unfold lay noughts
  rw [List.take_zero, List.nil_append, List.drop_replicate, Nat.zero_add, List.length_take, Nat.min_eq_left hk]
 rw [e1]
 unfold lay noughts
 have hl1 : (l.take k).length = k := by rw [List.length_take]; omega
 rw [List.take_append, List.drop_append, hl1, List.take_replicate, List.drop_replicate, List.length_drop, List.take_of_length_le (l := l.take k) (i := k + (8 - l.length)) (by rw [hl1]; omega), List.drop_eq_nil_of_le (show (l.take k).length ≤ _ by rw [hl1]; omega), List.nil_append,
  show min (k + (8 - l.length) - k) (8 - k) = 8 - l.length by omega, show 8 - k - (k + (8 - l.length) + (l.length - k) - k) = 0 by omega]
 simp
theorem info_u16s : (Tryz.prog.info? 23).map (·.size) = some 1 := by kernel_rfl
theorem eight {l : List Nat} (h : l.length = 8) : ∃ a b c d e f g i, l = [a, b, c, d, e, f, g, i] := by
 match l, h with
 | [a, b, c, d, e, f, g, i], _ => exact ⟨a, b, c, d, e, f, g, i, rfl⟩
-- The way to a number: K the number of pieces ahead of the gap (an integer), PRE what stands ahead of the copies.
-- The way to a number. WY: the world ahead of the copies; K: how many pieces stand ahead, as the walk has it; DA, DL: where the second copy begins, and how much room is there; SA, SC: its source.
-- The way to a number. WY: the world ahead of the copies; K: how many pieces stand ahead, as the walk has it; DA: where the second copy begins; SA: its source.
set_option maxRecDepth 100000 in
set_option maxHeartbeats 8000000 in
theorem parse6_bad (s : List UInt8) (hON : pParse6 s = none) (w : World) (hev : EV w) (hs : s.length ≤ 1000) :
  Calls Tryz.prog 44 #[.string (str s)] w fun e w' => e = ret6 (pParse6 s) ∧ Below w.heap.size w w' := by
 have hev2 := (hev.next ((Below.refl w.heap.size w).alloc (Nat.le_refl _) (.cells #[.int .u16 0, .int .u16 0, .int .u16 0, .int .u16 0, .int .u16 0, .int .u16 0, .int .u16 0, .int .u16 0] 24)))
 have hlow : Low (w.heap.size + 1) := by
  obtain ⟨⟨e1, h1, _⟩, e2, h2, _⟩ := hev
  have := World.block_lt_of_cell? _ _ h1
  have := World.block_lt_of_cell? _ _ h2
  exact ⟨by simp only at *; omega, by simp only at *; omega⟩
 obtain ⟨wA, hwA⟩ : ∃ wA, wA = w.alloc (.cells #[.int .u16 0, .int .u16 0, .int .u16 0, .int .u16 0, .int .u16 0, .int .u16 0, .int .u16 0, .int .u16 0] 24) := ⟨_, rfl⟩
 have hR0 : Row wA w.heap.size #[.int .u16 0, .int .u16 0, .int .u16 0, .int .u16 0, .int .u16 0, .int .u16 0, .int .u16 0, .int .u16 0].toList := by rw [hwA]; exact Row.made _ _ _
 have hbA : Below w.heap.size w wA := by rw [hwA]; exact (Below.refl _ _).alloc (Nat.le_refl _) _
 rw [← hwA] at hev2
 have hzA : wA.heap.size = w.heap.size + 1 := by rw [hwA]; simp
 have HB := Lib.hid (show RD (wA.alloc (.cells #[.string (str s), .bool true, .slice none 0 0, .int .i64 (-1)] 113)) (w.heap.size + 1) s true [] (-1) from ⟨.slice none 0 0, by have := heap_alloc_new wA (.cells #[.string (str s), .bool true, .slice none 0 0, .int .i64 (-1)] 113); rw [hzA] at this; exact this, World.ownsRow_nil _ _ _ _⟩)
 have CA := all6_any (w.heap.size + 1) s _ HB.out (hev2.next ((Below.refl wA.heap.size wA).alloc (Nat.le_refl _) _)) hlow hs
 rw [hwA] at CA
 have HP := Lib.hid (show pParse6 s = (sAll s).bind sEnd from rfl)
 obtain ⟨T, hT⟩ : ∃ T, T = sAll s := ⟨_, rfl⟩
 obtain ⟨O, hO⟩ : ∃ O, O = pParse6 s := ⟨_, rfl⟩
 rw [← hT] at CA HP
 rw [← hO] at HP hON ⊢
 clear hT hO
 go_enter Tryz.func44, Tryz.ntmps44
 go_wp2_with (go_at_call 88; go_must (go_fit CA); rintro e w1 ⟨rfl, hA⟩; revert hA)
 intro hA
 rw [← hwA] at hA
 unfold AllPost at hA
 obtain ⟨r, ok, l, gap, h1, hl16, hl20, hg0, hg1, hAI, hb1⟩ := hA
 have c0 := h1.c0
 have c1 := h1.c1
 have c3 := h1.c3
 obtain ⟨A, cc, c2, hcc, hmm⟩ := h1.c2
 have htl := str_toL r
 have hR1 : Row w1 w.heap.size #[.int .u16 0, .int .u16 0, .int .u16 0, .int .u16 0, .int .u16 0, .int .u16 0, .int .u16 0, .int .u16 0].toList := (hR0.below ((Below.refl wA.heap.size wA).alloc (Nat.le_refl _) _) (by rw [hzA]; omega)).below hb1 (Nat.lt_succ_self _)
 have hbw : Below w.heap.size w w1 := (hbA.trans ((Below.refl wA.heap.size wA).alloc (Nat.le_refl _) (.cells #[.string (str s), .bool true, .slice none 0 0, .int .i64 (-1)] 113) |>.mono (by rw [hzA]; omega))).trans (hb1.mono (Nat.le_succ _))
 have x0 : w1.cell? ⟨w.heap.size, 0, none⟩ = some (.int .u16 0) := hR1.1 0 _ rfl
 have y0 : w1.frozen? ⟨w.heap.size, 0, none⟩ = false := hR1.2.1 0 (by decide)
 have x1 : w1.cell? ⟨w.heap.size, 1, none⟩ = some (.int .u16 0) := hR1.1 1 _ rfl
 have y1 : w1.frozen? ⟨w.heap.size, 1, none⟩ = false := hR1.2.1 1 (by decide)
 have x2 : w1.cell? ⟨w.heap.size, 2, none⟩ = some (.int .u16 0) := hR1.1 2 _ rfl
 have y2 : w1.frozen? ⟨w.heap.size, 2, none⟩ = false := hR1.2.1 2 (by decide)
 have x3 : w1.cell? ⟨w.heap.size, 3, none⟩ = some (.int .u16 0) := hR1.1 3 _ rfl
 have y3 : w1.frozen? ⟨w.heap.size, 3, none⟩ = false := hR1.2.1 3 (by decide)
 have x4 : w1.cell? ⟨w.heap.size, 4, none⟩ = some (.int .u16 0) := hR1.1 4 _ rfl
 have y4 : w1.frozen? ⟨w.heap.size, 4, none⟩ = false := hR1.2.1 4 (by decide)
 have x5 : w1.cell? ⟨w.heap.size, 5, none⟩ = some (.int .u16 0) := hR1.1 5 _ rfl
 have y5 : w1.frozen? ⟨w.heap.size, 5, none⟩ = false := hR1.2.1 5 (by decide)
 have x6 : w1.cell? ⟨w.heap.size, 6, none⟩ = some (.int .u16 0) := hR1.1 6 _ rfl
 have y6 : w1.frozen? ⟨w.heap.size, 6, none⟩ = false := hR1.2.1 6 (by decide)
 have x7 : w1.cell? ⟨w.heap.size, 7, none⟩ = some (.int .u16 0) := hR1.1 7 _ rfl
 have y7 : w1.frozen? ⟨w.heap.size, 7, none⟩ = false := hR1.2.1 7 (by decide)
 have HRR := Lib.hid ((Row.set (Row.set (Row.set (Row.set (Row.set (Row.set (Row.set (Row.set hR1 (j := 0) (by decide) (.int .u16 0)) (j := 1) (by decide) (.int .u16 0)) (j := 2) (by decide) (.int .u16 0)) (j := 3) (by decide) (.int .u16 0)) (j := 4) (by decide) (.int .u16 0)) (j := 5) (by decide) (.int .u16 0)) (j := 6) (by decide) (.int .u16 0)) (j := 7) (by decide) (.int .u16 0)))
 have HBB := Lib.hid ((Below.setCell (Below.setCell (Below.setCell (Below.setCell (Below.setCell (Below.setCell (Below.setCell (Below.setCell hbw (p := ⟨w.heap.size, 0, none⟩) (Nat.le_refl _) (.int .u16 0)) (p := ⟨w.heap.size, 1, none⟩) (Nat.le_refl _) (.int .u16 0)) (p := ⟨w.heap.size, 2, none⟩) (Nat.le_refl _) (.int .u16 0)) (p := ⟨w.heap.size, 3, none⟩) (Nat.le_refl _) (.int .u16 0)) (p := ⟨w.heap.size, 4, none⟩) (Nat.le_refl _) (.int .u16 0)) (p := ⟨w.heap.size, 5, none⟩) (Nat.le_refl _) (.int .u16 0)) (p := ⟨w.heap.size, 6, none⟩) (Nat.le_refl _) (.int .u16 0)) (p := ⟨w.heap.size, 7, none⟩) (Nat.le_refl _) (.int .u16 0)))
 rcases hAI with ⟨m, go, hT, rfl, rfl, rfl, rfl, hgk⟩ | ⟨hT, hbad⟩
 ·
  have e0 := HP.out
  rw [hT] at e0
  replace e0 : O = sEnd (l, go) := e0
  have hre : ([] : List UInt8).isEmpty = true := rfl
  cases go with
  | none =>
   have hgi : gapI none = -1 := rfl
   rw [hgi] at c3
   by_cases h8 : l.length = 8
   · cases (e0.trans (if_pos h8)).symm.trans hON
   ·
    replace e0 := e0.trans (end_no (.inl ⟨rfl, h8⟩))
    subst e0
    rcases Nat.lt_or_gt_of_ne h8 with h8 | h8
    ·
     have q1 : (0 : Int) < 8 - (l.length : Int) := by omega
     have q2 : ¬ (8 : Int) - (l.length : Int) < 0 := by omega
     clear hON
     have hws : wrap64 (8 - (l.length : Int)) = 8 - (l.length : Int) := IntWalk.wrap64_in _ (by omega)
     clear hwA hR0 hbA hzA HB CA hev hev2 hlow HP hl16 hl20 hg0 hg1 hT
     go_wp2
     (try simp only [Exit.inBlock, Exit.then])
     refine bodyPost_ret (results_row (R := w.heap.size) (us := #[.int .u16 0, .int .u16 0, .int .u16 0, .int .u16 0, .int .u16 0, .int .u16 0, .int .u16 0, .int .u16 0].toList) (d := .array 8 23) rfl rfl (by exact HRR.out) Tryz.underlying24 rfl info_arr8) rfl ?_
     exact ⟨rfl, HBB.out⟩
    ·
     have q2 : (8 : Int) - (l.length : Int) < 0 := by omega
     clear hON
     have hws : wrap64 (8 - (l.length : Int)) = 8 - (l.length : Int) := IntWalk.wrap64_in _ (by omega)
     clear hwA hR0 hbA hzA HB CA hev hev2 hlow HP hl16 hl20 hg0 hg1 hT
     go_wp2
     (try simp only [Exit.inBlock, Exit.then])
     refine bodyPost_ret (results_row (R := w.heap.size) (us := #[.int .u16 0, .int .u16 0, .int .u16 0, .int .u16 0, .int .u16 0, .int .u16 0, .int .u16 0, .int .u16 0].toList) (d := .array 8 23) rfl rfl (by exact HRR.out) Tryz.underlying24 rfl info_arr8) rfl ?_
     exact ⟨rfl, HBB.out⟩
  | some k =>
   have hgi : gapI (some k) = (k : Int) := rfl
   rw [hgi] at c3
   have hkl := hgk k rfl
   by_cases h8 : l.length ≤ 7
   · cases (e0.trans (if_pos h8)).symm.trans hON
   ·
    replace e0 := e0.trans (end_no (.inr ⟨by simp, by omega⟩))
    subst e0
    have hk0 : (0 : Int) ≤ (k : Int) := by omega
    by_cases h9 : l.length = 8
    ·
     have q1 : (8 : Int) - (l.length : Int) = 0 := by omega
     clear h9 h8
     clear hON
     have hws : wrap64 (8 - (l.length : Int)) = 8 - (l.length : Int) := IntWalk.wrap64_in _ (by omega)
     clear hwA hR0 hbA hzA HB CA hev hev2 hlow HP hl16 hl20 hg0 hg1 hT
     go_wp2
     (try simp only [Exit.inBlock, Exit.then])
     refine bodyPost_ret (results_row (R := w.heap.size) (us := #[.int .u16 0, .int .u16 0, .int .u16 0, .int .u16 0, .int .u16 0, .int .u16 0, .int .u16 0, .int .u16 0].toList) (d := .array 8 23) rfl rfl (by exact HRR.out) Tryz.underlying24 rfl info_arr8) rfl ?_
     exact ⟨rfl, HBB.out⟩
    ·
     have q2 : (8 : Int) - (l.length : Int) < 0 := by omega
     clear hON
     have hws : wrap64 (8 - (l.length : Int)) = 8 - (l.length : Int) := IntWalk.wrap64_in _ (by omega)
     clear hwA hR0 hbA hzA HB CA hev hev2 hlow HP hl16 hl20 hg0 hg1 hT
     go_wp2
     (try simp only [Exit.inBlock, Exit.then])
     refine bodyPost_ret (results_row (R := w.heap.size) (us := #[.int .u16 0, .int .u16 0, .int .u16 0, .int .u16 0, .int .u16 0, .int .u16 0, .int .u16 0, .int .u16 0].toList) (d := .array 8 23) rfl rfl (by exact HRR.out) Tryz.underlying24 rfl info_arr8) rfl ?_
     exact ⟨rfl, HBB.out⟩
 ·
  have e := HP.out
  rw [hT] at e
  have e : O = none := e
  subst e
  clear e
  rcases hbad with rfl | hr | h8
  ·
   skip
   clear hON
   have hws : wrap64 (8 - (l.length : Int)) = 8 - (l.length : Int) := IntWalk.wrap64_in _ (by omega)
   clear hwA hR0 hbA hzA HB CA hev hev2 hlow HP hl16 hl20 hg0 hg1 hT
   go_wp2
   (try simp only [Exit.inBlock, Exit.then])
   refine bodyPost_ret (results_row (R := w.heap.size) (us := #[.int .u16 0, .int .u16 0, .int .u16 0, .int .u16 0, .int .u16 0, .int .u16 0, .int .u16 0, .int .u16 0].toList) (d := .array 8 23) rfl rfl (by exact HRR.out) Tryz.underlying24 rfl info_arr8) rfl ?_
   exact ⟨rfl, HBB.out⟩
  ·
   have hre : r.isEmpty = false := by cases r with | nil => exact absurd rfl hr | cons _ _ => rfl
   clear hr
   cases ok with
   | true =>
    clear hON
    have hws : wrap64 (8 - (l.length : Int)) = 8 - (l.length : Int) := IntWalk.wrap64_in _ (by omega)
    clear hwA hR0 hbA hzA HB CA hev hev2 hlow HP hl16 hl20 hg0 hg1 hT
    go_wp2
    (try simp only [Exit.inBlock, Exit.then])
    refine bodyPost_ret (results_row (R := w.heap.size) (us := #[.int .u16 0, .int .u16 0, .int .u16 0, .int .u16 0, .int .u16 0, .int .u16 0, .int .u16 0, .int .u16 0].toList) (d := .array 8 23) rfl rfl (by exact HRR.out) Tryz.underlying24 rfl info_arr8) rfl ?_
    exact ⟨rfl, HBB.out⟩
   | false =>
    clear hON
    have hws : wrap64 (8 - (l.length : Int)) = 8 - (l.length : Int) := IntWalk.wrap64_in _ (by omega)
    clear hwA hR0 hbA hzA HB CA hev hev2 hlow HP hl16 hl20 hg0 hg1 hT
    go_wp2
    (try simp only [Exit.inBlock, Exit.then])
    refine bodyPost_ret (results_row (R := w.heap.size) (us := #[.int .u16 0, .int .u16 0, .int .u16 0, .int .u16 0, .int .u16 0, .int .u16 0, .int .u16 0, .int .u16 0].toList) (d := .array 8 23) rfl rfl (by exact HRR.out) Tryz.underlying24 rfl info_arr8) rfl ?_
    exact ⟨rfl, HBB.out⟩
  ·
   have h8' : (8 : Int) - (l.length : Int) < 0 := by omega
   cases ok with
   | true =>
    cases hre : r.isEmpty with
    | true =>
     clear hON
     have hws : wrap64 (8 - (l.length : Int)) = 8 - (l.length : Int) := IntWalk.wrap64_in _ (by omega)
     clear hwA hR0 hbA hzA HB CA hev hev2 hlow HP hl16 hl20 hg0 hg1 hT
     go_wp2
     (try simp only [Exit.inBlock, Exit.then])
     refine bodyPost_ret (results_row (R := w.heap.size) (us := #[.int .u16 0, .int .u16 0, .int .u16 0, .int .u16 0, .int .u16 0, .int .u16 0, .int .u16 0, .int .u16 0].toList) (d := .array 8 23) rfl rfl (by exact HRR.out) Tryz.underlying24 rfl info_arr8) rfl ?_
     exact ⟨rfl, HBB.out⟩
    | false =>
     clear hON
     have hws : wrap64 (8 - (l.length : Int)) = 8 - (l.length : Int) := IntWalk.wrap64_in _ (by omega)
     clear hwA hR0 hbA hzA HB CA hev hev2 hlow HP hl16 hl20 hg0 hg1 hT
     go_wp2
     (try simp only [Exit.inBlock, Exit.then])
     refine bodyPost_ret (results_row (R := w.heap.size) (us := #[.int .u16 0, .int .u16 0, .int .u16 0, .int .u16 0, .int .u16 0, .int .u16 0, .int .u16 0, .int .u16 0].toList) (d := .array 8 23) rfl rfl (by exact HRR.out) Tryz.underlying24 rfl info_arr8) rfl ?_
     exact ⟨rfl, HBB.out⟩
   | false =>
    clear hON
    have hws : wrap64 (8 - (l.length : Int)) = 8 - (l.length : Int) := IntWalk.wrap64_in _ (by omega)
    clear hwA hR0 hbA hzA HB CA hev hev2 hlow HP hl16 hl20 hg0 hg1 hT
    go_wp2
    (try simp only [Exit.inBlock, Exit.then])
    refine bodyPost_ret (results_row (R := w.heap.size) (us := #[.int .u16 0, .int .u16 0, .int .u16 0, .int .u16 0, .int .u16 0, .int .u16 0, .int .u16 0, .int .u16 0].toList) (d := .array 8 23) rfl rfl (by exact HRR.out) Tryz.underlying24 rfl info_arr8) rfl ?_
    exact ⟨rfl, HBB.out⟩
end Go.Proofs.YtoapelcofjjdnaaGreatDoor
namespace Go.Proofs.YtoapelcofjjdnaaGreatDoor
set_option linter.all false
open Go.RowKit
set_option maxRecDepth 100000 in
set_option maxHeartbeats 8000000 in
theorem parse6_good (s : List UInt8) (M0 : List Nat) (hON : pParse6 s = some M0) (w : World) (hev : EV w) (hs : s.length ≤ 1000) :
  Calls Tryz.prog 44 #[.string (str s)] w fun e w' => e = ret6 (pParse6 s) ∧ Below w.heap.size w w' := by
 have hev2 := (hev.next ((Below.refl w.heap.size w).alloc (Nat.le_refl _) (.cells #[.int .u16 0, .int .u16 0, .int .u16 0, .int .u16 0, .int .u16 0, .int .u16 0, .int .u16 0, .int .u16 0] 24)))
 have hlow : Low (w.heap.size + 1) := by
  obtain ⟨⟨e1, h1, _⟩, e2, h2, _⟩ := hev
  have := World.block_lt_of_cell? _ _ h1
  have := World.block_lt_of_cell? _ _ h2
  exact ⟨by simp only at *; omega, by simp only at *; omega⟩
 obtain ⟨wA, hwA⟩ : ∃ wA, wA = w.alloc (.cells #[.int .u16 0, .int .u16 0, .int .u16 0, .int .u16 0, .int .u16 0, .int .u16 0, .int .u16 0, .int .u16 0] 24) := ⟨_, rfl⟩
 have hR0 : Row wA w.heap.size #[.int .u16 0, .int .u16 0, .int .u16 0, .int .u16 0, .int .u16 0, .int .u16 0, .int .u16 0, .int .u16 0].toList := by rw [hwA]; exact Row.made _ _ _
 have hbA : Below w.heap.size w wA := by rw [hwA]; exact (Below.refl _ _).alloc (Nat.le_refl _) _
 rw [← hwA] at hev2
 have hzA : wA.heap.size = w.heap.size + 1 := by rw [hwA]; simp
 have HB := Lib.hid (show RD (wA.alloc (.cells #[.string (str s), .bool true, .slice none 0 0, .int .i64 (-1)] 113)) (w.heap.size + 1) s true [] (-1) from ⟨.slice none 0 0, by have := heap_alloc_new wA (.cells #[.string (str s), .bool true, .slice none 0 0, .int .i64 (-1)] 113); rw [hzA] at this; exact this, World.ownsRow_nil _ _ _ _⟩)
 have CA := all6_any (w.heap.size + 1) s _ HB.out (hev2.next ((Below.refl wA.heap.size wA).alloc (Nat.le_refl _) _)) hlow hs
 rw [hwA] at CA
 have HP := Lib.hid (show pParse6 s = (sAll s).bind sEnd from rfl)
 obtain ⟨T, hT⟩ : ∃ T, T = sAll s := ⟨_, rfl⟩
 obtain ⟨O, hO⟩ : ∃ O, O = pParse6 s := ⟨_, rfl⟩
 rw [← hT] at CA HP
 rw [← hO] at HP hON ⊢
 clear hT hO
 go_enter Tryz.func44, Tryz.ntmps44
 go_wp2_with (go_at_call 88; go_must (go_fit CA); rintro e w1 ⟨rfl, hA⟩; revert hA)
 intro hA
 rw [← hwA] at hA
 unfold AllPost at hA
 obtain ⟨r, ok, l, gap, h1, hl16, hl20, hg0, hg1, hAI, hb1⟩ := hA
 have c0 := h1.c0
 have c1 := h1.c1
 have c3 := h1.c3
 obtain ⟨A, cc, c2, hcc, hmm⟩ := h1.c2
 have htl := str_toL r
 have hR1 : Row w1 w.heap.size #[.int .u16 0, .int .u16 0, .int .u16 0, .int .u16 0, .int .u16 0, .int .u16 0, .int .u16 0, .int .u16 0].toList := (hR0.below ((Below.refl wA.heap.size wA).alloc (Nat.le_refl _) _) (by rw [hzA]; omega)).below hb1 (Nat.lt_succ_self _)
 have hbw : Below w.heap.size w w1 := (hbA.trans ((Below.refl wA.heap.size wA).alloc (Nat.le_refl _) (.cells #[.string (str s), .bool true, .slice none 0 0, .int .i64 (-1)] 113) |>.mono (by rw [hzA]; omega))).trans (hb1.mono (Nat.le_succ _))
 rcases hAI with ⟨m, go, hT, rfl, rfl, rfl, rfl, hgk⟩ | ⟨hT, hbad⟩
 ·
  have e0 := HP.out
  rw [hT] at e0
  replace e0 : O = sEnd (l, go) := e0
  have hre : ([] : List UInt8).isEmpty = true := rfl
  cases go with
  | none =>
   have hgi : gapI none = -1 := rfl
   rw [hgi] at c3
   by_cases h8 : l.length = 8
   ·
    have q1 : (8 : Int) - (l.length : Int) = 0 := by omega
    have hz1 : (w1.setCell ⟨w.heap.size + 1, 3, none⟩ (.int .i64 0)).heap.size = w1.heap.size := by simp
    have hX0 : Row ((w1.setCell ⟨w.heap.size + 1, 3, none⟩ (.int .i64 0)).alloc (.cells #[.int .u16 0, .int .u16 0, .int .u16 0, .int .u16 0, .int .u16 0, .int .u16 0, .int .u16 0, .int .u16 0] 24)) w1.heap.size (u16s (noughts 8)) := by rw [← hz1]; exact Row.made _ #[.int .u16 0, .int .u16 0, .int .u16 0, .int .u16 0, .int .u16 0, .int .u16 0, .int .u16 0, .int .u16 0] 24
    have d2a := fun o => (h1.next ((Below.refl w1.heap.size w1).alloc (Nat.le_refl _) o)).c3
    have d3a := fun o => (h1.next ((Below.refl w1.heap.size w1).alloc (Nat.le_refl _) o)).fr 3
    rw [hgi] at d2a
    replace e0 := e0.trans (if_pos h8)
    obtain ⟨M, hM⟩ : ∃ M, M = l := ⟨_, rfl⟩
    have HM := Lib.hid (show M = l.take 0 ++ noughts (8 - l.length) ++ l.drop 0 by rw [hM, h8]; simp [noughts])
    rw [← hM] at e0
    clear hM
    subst e0
    have hlt1 := h1.lt
    obtain ⟨v, hr1, ho1⟩ := id h1
    obtain rfl : v = .slice A l.length cc := by
     have := hr1.c2
     rw [c2] at this
     injection this with this
     exact this.symm
    have hvX : (Value.slice A l.length cc).ownBlock ≠ some w1.heap.size := by
     intro e
     have := (ho1.lt _ e).2
     omega
    have al : Below w1.heap.size (w1.setCell ⟨w.heap.size + 1, 3, none⟩ (.int .i64 0)) ((w1.setCell ⟨w.heap.size + 1, 3, none⟩ (.int .i64 0)).alloc (.cells #[.int .u16 0, .int .u16 0, .int .u16 0, .int .u16 0, .int .u16 0, .int .u16 0, .int .u16 0, .int .u16 0] 24)) := (Below.refl w1.heap.size (w1.setCell ⟨w.heap.size + 1, 3, none⟩ (.int .i64 0))).alloc (by rw [hz1]; exact Nat.le_refl _) _
    have hrW := hr1.s3 0
    have hoW := own_setU (j := 3) (z := .int .i64 0) ho1
    have hs1 : Rd (w1.setCell ⟨w.heap.size + 1, 3, none⟩ (.int .i64 0)) w1.heap.size A (u16s l) := by
     obtain ⟨A', c', e1, _, _, _, hr⟩ := Rd.of_own hoW
     injection e1 with e1
     rw [e1, ← hz1]; exact hr
    have hrY := hrW.next (by rw [hz1]; exact al)
    have hoY := hoW.alloc (.cells #[.int .u16 0, .int .u16 0, .int .u16 0, .int .u16 0, .int .u16 0, .int .u16 0, .int .u16 0, .int .u16 0] 24)
    have hsY := hs1.below al
    have hRY := (Row.grown hR1 (set_gb w1 (w.heap.size + 1) 3 (.int .i64 0)) (fun e => by injection e with e; omega)).below al (by omega)
    have hbY := (hbw.setCell (p := ⟨w.heap.size + 1, 3, none⟩) (by simp) (.int .i64 0)).trans (al.mono (by omega))
    obtain ⟨b, rfl⟩ : ∃ b, A = some ⟨b, 0, none⟩ := by
     rcases ho1.2 with ⟨e1, e2⟩ | ⟨b, cap, cur, e1, _⟩
     ·
      injection e1 with e1 e2 e3
      omega
     ·
      injection e1 with e1
      exact ⟨b, e1⟩
    clear hs1 hr1 ho1 al hrW hoW hz1
    have h8e : l.length ≤ 8 := by omega
    have hkl : 0 ≤ l.length := by omega
    have hc1 : (cc = 0) = False := eq_false (by omega)
    have hc2 : (0 = cc) = False := eq_false (by omega)
    have hc3 : (0 : Int) ≤ (cc : Int) := by omega
    have hw0 : IntKind.i64.wrap 0 = 0 := by decide
    have hws : wrap64 (8 - (l.length : Int)) = 0 := by rw [IntWalk.wrap64_in _ (by omega)]; omega
    have HOO := Lib.hid (show 0 = 0 + (8 - l.length) by omega)
    have HDL := Lib.hid (show l.length ≤ 8 - 0 ∧ 0 + l.length ≤ 8 from ⟨by omega, by omega⟩)
    clear h8
    clear hON
    have hgX : w.heap.size + 1 ≠ w1.heap.size := by have := h1.lt; omega
    have hRX : w.heap.size ≠ w1.heap.size := by have := h1.lt; omega
    clear hwA hR0 hbA hzA HB CA hev hev2 hlow HP hg0 hg1 hT hR1 hbw h1
    go_wp2
    generalize (w1.setCell ⟨w.heap.size + 1, 3, none⟩ (.int .i64 0)).alloc (.cells #[.int .u16 0, .int .u16 0, .int .u16 0, .int .u16 0, .int .u16 0, .int .u16 0, .int .u16 0, .int .u16 0] 24) = wY at *
    clear c0 c1 c2 c3
    have d2 := (Rdr.keep (w' := wY.drew) hrY rfl).c2
    have d3 := (Rdr.keep (w' := wY.drew) hrY rfl).c3
    generalize w1.heap.size = X at *
    refine wp_region_still_tail 10 (by kernel_rfl) (by kernel_rfl) ?_
    change wpStill _ _ wY.drew _ _ _
    simp only [List.take_succ_cons, List.take_zero, List.drop_succ_cons, List.drop_zero]
    repeat still_step
    refine wpStill_nil ?_
    change wpList _ _ _ _ _ wY.drew
    clear d2 d3
    refine wpList_copy_row rfl _ _ 72 72 rfl 23 Tryz.underlying72 info_u16s _ 8 8 rfl _ _ _ rfl X 0 (u16s (noughts 8)) (show Row wY.drew X _ from hX0) X (u16s (l.take 0)) (by rw [← u16s_take]; exact hsY.take 0) (by rw [u16s_len, List.length_take]; try omega) (fun _ => rfl) (by omega) (by rw [u16s_len]; simp [noughts]; try omega) (u16s_one _) ?_
    intro w5 hX5 hg5
    replace hg5 : wY.grownBy w5 (some X) := ⟨hg5.os, hg5.tape, hg5.output, hg5.size, hg5.block⟩
    have hr5 := Rdr.keep hrY (hg5.block _ hrY.lt (fun e => hgX (by injection e)))
    have ho5 := own_farU hoY hg5 hvX
    have hs5 := hsY.keep (fun p hp => hg5.cell_far p (by have := hX0.2.2; omega) (fun e => by injection e with e; omega))
    have hR5 := Row.grown hRY hg5 (fun e => hRX (by injection e))
    have hb5 := hbY.grown hg5 (by have := hX0.2.2; have := hrY.lt; omega) (fun j e => by injection e with e; omega)
    have hz5 := hX5.2.2
    rw [u16s_lay] at hX5
    generalize hL5 : lay (noughts 8) 0 (l.take 0) = L5 at *
    have hL58 : L5.length = 8 := by rw [← hL5, lay_len (by simp [noughts]; try omega)]; rfl
    go_wp2
    have d2 := (Rdr.keep (w' := w5.drew) hr5 rfl).c2
    have d3 := (Rdr.keep (w' := w5.drew) hr5 rfl).c3
    refine wp_region_still_tail 16 (by kernel_rfl) (by kernel_rfl) ?_
    change wpStill _ _ w5.drew _ _ _
    simp only [List.take_succ_cons, List.take_zero, List.drop_succ_cons, List.drop_zero]
    repeat still_step
    refine wpStill_nil ?_
    change wpList _ _ _ _ _ w5.drew
    clear d2 d3
    refine wpList_copy_row rfl _ _ 72 72 rfl 23 Tryz.underlying72 info_u16s _ _ _ rfl _ _ _ rfl X 0 (u16s L5) (show Row w5.drew X _ from hX5) X (u16s (l.drop 0)) (show Rd w5 X _ _ from hs5) (by rw [u16s_len, List.length_drop]; try rfl) (fun _ => rfl) (by first | exact HDL.out.1 | omega) (by rw [u16s_len, hL58]; exact HDL.out.2) (u16s_one _) ?_
    intro w6 hX6 hg6
    replace hg6 : w5.grownBy w6 (some X) := ⟨hg6.os, hg6.tape, hg6.output, hg6.size, hg6.block⟩
    have hR6 := Row.grown hR5 hg6 (fun e => hRX (by injection e))
    have hb6 := hb5.grown hg6 (by omega) (fun j e => by injection e with e; omega)
    have hE := lay_two hkl h8e
    rw [← HOO.out] at hE
    rw [u16s_lay, ← hL5, hE] at hX6
    rw [← HM.out] at hX6
    have hM8 : M.length = 8 := by rw [HM.out]; simp [noughts]; omega
    obtain ⟨a0, a1, a2, a3, a4, a5, a6, a7, rfl⟩ := eight hM8
    have x0 : w6.cell? ⟨X, 0, none⟩ = some (.int .u16 (a0 : Int)) := hX6.1 0 _ rfl
    have x1 : w6.cell? ⟨X, 1, none⟩ = some (.int .u16 (a1 : Int)) := hX6.1 1 _ rfl
    have x2 : w6.cell? ⟨X, 2, none⟩ = some (.int .u16 (a2 : Int)) := hX6.1 2 _ rfl
    have x3 : w6.cell? ⟨X, 3, none⟩ = some (.int .u16 (a3 : Int)) := hX6.1 3 _ rfl
    have x4 : w6.cell? ⟨X, 4, none⟩ = some (.int .u16 (a4 : Int)) := hX6.1 4 _ rfl
    have x5 : w6.cell? ⟨X, 5, none⟩ = some (.int .u16 (a5 : Int)) := hX6.1 5 _ rfl
    have x6 : w6.cell? ⟨X, 6, none⟩ = some (.int .u16 (a6 : Int)) := hX6.1 6 _ rfl
    have x7 : w6.cell? ⟨X, 7, none⟩ = some (.int .u16 (a7 : Int)) := hX6.1 7 _ rfl
    have z0 : w6.cell? ⟨w.heap.size, 0, none⟩ = some (.int .u16 0) := hR6.1 0 _ rfl
    have y0 : w6.frozen? ⟨w.heap.size, 0, none⟩ = false := hR6.2.1 0 (by decide)
    have z1 : w6.cell? ⟨w.heap.size, 1, none⟩ = some (.int .u16 0) := hR6.1 1 _ rfl
    have y1 : w6.frozen? ⟨w.heap.size, 1, none⟩ = false := hR6.2.1 1 (by decide)
    have z2 : w6.cell? ⟨w.heap.size, 2, none⟩ = some (.int .u16 0) := hR6.1 2 _ rfl
    have y2 : w6.frozen? ⟨w.heap.size, 2, none⟩ = false := hR6.2.1 2 (by decide)
    have z3 : w6.cell? ⟨w.heap.size, 3, none⟩ = some (.int .u16 0) := hR6.1 3 _ rfl
    have y3 : w6.frozen? ⟨w.heap.size, 3, none⟩ = false := hR6.2.1 3 (by decide)
    have z4 : w6.cell? ⟨w.heap.size, 4, none⟩ = some (.int .u16 0) := hR6.1 4 _ rfl
    have y4 : w6.frozen? ⟨w.heap.size, 4, none⟩ = false := hR6.2.1 4 (by decide)
    have z5 : w6.cell? ⟨w.heap.size, 5, none⟩ = some (.int .u16 0) := hR6.1 5 _ rfl
    have y5 : w6.frozen? ⟨w.heap.size, 5, none⟩ = false := hR6.2.1 5 (by decide)
    have z6 : w6.cell? ⟨w.heap.size, 6, none⟩ = some (.int .u16 0) := hR6.1 6 _ rfl
    have y6 : w6.frozen? ⟨w.heap.size, 6, none⟩ = false := hR6.2.1 6 (by decide)
    have z7 : w6.cell? ⟨w.heap.size, 7, none⟩ = some (.int .u16 0) := hR6.1 7 _ rfl
    have y7 : w6.frozen? ⟨w.heap.size, 7, none⟩ = false := hR6.2.1 7 (by decide)
    clear hM8 hE hL5 hL58 hX0 hX5 hRY hR5 hsY hs5 hoY ho5 hrY hr5 hg5 hg6 hbY hb5 hvX
    go_wp2
    (try simp only [Exit.inBlock, Exit.then])
    refine bodyPost_ret (results_row (R := w.heap.size) (us := #[.int .u16 (a0 : Int), .int .u16 (a1 : Int), .int .u16 (a2 : Int), .int .u16 (a3 : Int), .int .u16 (a4 : Int), .int .u16 (a5 : Int), .int .u16 (a6 : Int), .int .u16 (a7 : Int)].toList) (d := .array 8 23) rfl rfl (by exact (Row.set (Row.set (Row.set (Row.set (Row.set (Row.set (Row.set (Row.set hR6 (j := 0) (by simp) (.int .u16 (a0 : Int))) (j := 1) (by simp) (.int .u16 (a1 : Int))) (j := 2) (by simp) (.int .u16 (a2 : Int))) (j := 3) (by simp) (.int .u16 (a3 : Int))) (j := 4) (by simp) (.int .u16 (a4 : Int))) (j := 5) (by simp) (.int .u16 (a5 : Int))) (j := 6) (by simp) (.int .u16 (a6 : Int))) (j := 7) (by simp) (.int .u16 (a7 : Int)))) Tryz.underlying24 rfl info_arr8) rfl ?_
    exact ⟨rfl, (Below.setCell (Below.setCell (Below.setCell (Below.setCell (Below.setCell (Below.setCell (Below.setCell (Below.setCell hb6 (p := ⟨w.heap.size, 0, none⟩) (Nat.le_refl _) (.int .u16 (a0 : Int))) (p := ⟨w.heap.size, 1, none⟩) (Nat.le_refl _) (.int .u16 (a1 : Int))) (p := ⟨w.heap.size, 2, none⟩) (Nat.le_refl _) (.int .u16 (a2 : Int))) (p := ⟨w.heap.size, 3, none⟩) (Nat.le_refl _) (.int .u16 (a3 : Int))) (p := ⟨w.heap.size, 4, none⟩) (Nat.le_refl _) (.int .u16 (a4 : Int))) (p := ⟨w.heap.size, 5, none⟩) (Nat.le_refl _) (.int .u16 (a5 : Int))) (p := ⟨w.heap.size, 6, none⟩) (Nat.le_refl _) (.int .u16 (a6 : Int))) (p := ⟨w.heap.size, 7, none⟩) (Nat.le_refl _) (.int .u16 (a7 : Int)))⟩
   ·
    replace e0 := e0.trans (end_no (.inl ⟨rfl, h8⟩))
    subst e0
    rcases Nat.lt_or_gt_of_ne h8 with h8 | h8
    ·
     have q1 : (0 : Int) < 8 - (l.length : Int) := by omega
     have q2 : ¬ (8 : Int) - (l.length : Int) < 0 := by omega
     cases hON
    ·
     have q2 : (8 : Int) - (l.length : Int) < 0 := by omega
     cases hON
  | some k =>
   have hgi : gapI (some k) = (k : Int) := rfl
   rw [hgi] at c3
   have hkl := hgk k rfl
   by_cases h8 : l.length ≤ 7
   ·
    obtain ⟨oo, hoo⟩ : ∃ oo, oo = k + (8 - l.length) := ⟨_, rfl⟩
    have q1 : (0 : Int) < 8 - (l.length : Int) := by omega
    have q2 : ¬ (8 : Int) - (l.length : Int) < 0 := by omega
    have q3 : (0 : Int) ≤ (k : Int) := by omega
    have q4 : ¬ (k : Int) < 0 := by omega
    have q5 : (l.length : Int) < 8 := by omega
    have hX0 : Row (w1.alloc (.cells #[.int .u16 0, .int .u16 0, .int .u16 0, .int .u16 0, .int .u16 0, .int .u16 0, .int .u16 0, .int .u16 0] 24)) w1.heap.size (u16s (noughts 8)) := Row.made w1 #[.int .u16 0, .int .u16 0, .int .u16 0, .int .u16 0, .int .u16 0, .int .u16 0, .int .u16 0, .int .u16 0] 24
    have d2a := fun o => (h1.next ((Below.refl w1.heap.size w1).alloc (Nat.le_refl _) o)).c3
    rw [hgi] at d2a
    replace e0 := e0.trans (if_pos h8)
    obtain ⟨M, hM⟩ : ∃ M, M = l.take k ++ noughts (8 - l.length) ++ l.drop k := ⟨_, rfl⟩
    rw [← hM] at e0
    have HM := Lib.hid hM
    clear hM
    subst e0
    have hlt1 := h1.lt
    obtain ⟨v, hr1, ho1⟩ := id h1
    obtain rfl : v = .slice A l.length cc := by
     have := hr1.c2
     rw [c2] at this
     injection this with this
     exact this.symm
    have hvX : (Value.slice A l.length cc).ownBlock ≠ some w1.heap.size := by
     intro e
     have := (ho1.lt _ e).2
     omega
    have al := (Below.refl w1.heap.size w1).alloc (Nat.le_refl _) (.cells #[.int .u16 0, .int .u16 0, .int .u16 0, .int .u16 0, .int .u16 0, .int .u16 0, .int .u16 0, .int .u16 0] 24)
    have hs1 : Rd w1 w1.heap.size A (u16s l) := by
     obtain ⟨A', c', e1, _, _, _, hr⟩ := Rd.of_own ho1
     injection e1 with e1
     rw [e1]; exact hr
    have hrY := hr1.next al
    rw [hgi] at hrY
    have hoY := ho1.alloc (.cells #[.int .u16 0, .int .u16 0, .int .u16 0, .int .u16 0, .int .u16 0, .int .u16 0, .int .u16 0, .int .u16 0] 24)
    have hsY := hs1.below al
    have hRY := hR1.below al (by omega)
    have hbY := hbw.trans (al.mono (by omega))
    have hA' : (A = none ∧ l.length = 0 ∧ cc = 0) ∨ ∃ b, A = some ⟨b, 0, none⟩ := by
     rcases ho1.2 with ⟨e1, e2⟩ | ⟨b, cap, cur, e1, _⟩
     ·
      injection e1 with e1 e2 e3
      exact .inl ⟨e1, e2, e3⟩
     ·
      injection e1 with e1
      exact .inr ⟨b, e1⟩
    clear hs1 hr1 ho1 al
    have h8e : l.length ≤ 8 := by omega
    have hkc : k ≤ cc := by omega
    have hoi : (oo : Int) ≤ 8 := by omega
    have hoi0 : (0 : Int) ≤ (oo : Int) := by omega
    have hoi8 : oo ≤ 8 := by omega
    have hklI : (k : Int) ≤ (l.length : Int) := by omega
    have hkcI : (k : Int) ≤ (cc : Int) := by omega
    have hws : wrap64 (8 - (l.length : Int)) = 8 - (l.length : Int) := IntWalk.wrap64_in _ (by omega)
    have hwo1 : wrap64 ((k : Int) + (8 - (l.length : Int))) = (oo : Int) := by rw [IntWalk.wrap64_in _ (by omega)]; omega
    have hwo2 : IntKind.i64.wrap ((k : Int) + (8 - (l.length : Int))) = (oo : Int) := by rw [IntWalk.i64_in _ (by omega)]; omega
    have HOO := Lib.hid hoo
    have HDL := Lib.hid (show l.length - k ≤ 8 - oo ∧ oo + (l.length - k) ≤ 8 from ⟨by omega, by omega⟩)
    by_cases hck : cc = k
    ·
     have hkl2 : k = l.length := by omega
     have hc1 : (cc = k) = True := eq_true hck
     have hc2 : (k = cc) = True := eq_true hck.symm
     have ho1 : (oo = 8) = True := eq_true (by omega)
     have ho2 : (8 = oo) = True := eq_true (by omega)
     have HNL := Lib.hid (show l.length - k = 0 by omega)
     have HSR := Lib.hid fun (w5 : World) (A : Option Addr) => (show Rd w5 w1.heap.size A (u16s (l.drop k)) by rw [List.drop_eq_nil_of_le (by omega)]; exact Rd.nil)
     clear hoo hck hkl2 hA'
     clear hON
     have hgX : w.heap.size + 1 ≠ w1.heap.size := by have := h1.lt; omega
     have hRX : w.heap.size ≠ w1.heap.size := by have := h1.lt; omega
     clear hwA hR0 hbA hzA HB CA hev hev2 hlow HP hg0 hg1 hT hR1 hbw h1
     go_wp2
     generalize w1.alloc (.cells #[.int .u16 0, .int .u16 0, .int .u16 0, .int .u16 0, .int .u16 0, .int .u16 0, .int .u16 0, .int .u16 0] 24) = wY at *
     clear c0 c1 c2 c3
     have d2 := (Rdr.keep (w' := wY.drew) hrY rfl).c2
     have d3 := (Rdr.keep (w' := wY.drew) hrY rfl).c3
     generalize w1.heap.size = X at *
     refine wp_region_still_tail 10 (by kernel_rfl) (by kernel_rfl) ?_
     change wpStill _ _ wY.drew _ _ _
     simp only [List.take_succ_cons, List.take_zero, List.drop_succ_cons, List.drop_zero]
     repeat still_step
     refine wpStill_nil ?_
     change wpList _ _ _ _ _ wY.drew
     clear d2 d3
     refine wpList_copy_row rfl _ _ 72 72 rfl 23 Tryz.underlying72 info_u16s _ 8 8 rfl _ _ _ rfl X 0 (u16s (noughts 8)) (show Row wY.drew X _ from hX0) X (u16s (l.take k)) (by rw [← u16s_take]; exact hsY.take k) (by rw [u16s_len, List.length_take]; try omega) (fun _ => rfl) (by omega) (by rw [u16s_len]; simp [noughts]; try omega) (u16s_one _) ?_
     intro w5 hX5 hg5
     replace hg5 : wY.grownBy w5 (some X) := ⟨hg5.os, hg5.tape, hg5.output, hg5.size, hg5.block⟩
     have hr5 := Rdr.keep hrY (hg5.block _ hrY.lt (fun e => hgX (by injection e)))
     have ho5 := own_farU hoY hg5 hvX
     have hs5 := hsY.keep (fun p hp => hg5.cell_far p (by have := hX0.2.2; omega) (fun e => by injection e with e; omega))
     have hR5 := Row.grown hRY hg5 (fun e => hRX (by injection e))
     have hb5 := hbY.grown hg5 (by have := hX0.2.2; have := hrY.lt; omega) (fun j e => by injection e with e; omega)
     have hz5 := hX5.2.2
     rw [u16s_lay] at hX5
     generalize hL5 : lay (noughts 8) 0 (l.take k) = L5 at *
     have hL58 : L5.length = 8 := by rw [← hL5, lay_len (by simp [noughts]; try omega)]; rfl
     go_wp2
     have d2 := (Rdr.keep (w' := w5.drew) hr5 rfl).c2
     have d3 := (Rdr.keep (w' := w5.drew) hr5 rfl).c3
     refine wp_region_still_tail 16 (by kernel_rfl) (by kernel_rfl) ?_
     change wpStill _ _ w5.drew _ _ _
     simp only [List.take_succ_cons, List.take_zero, List.drop_succ_cons, List.drop_zero]
     repeat still_step
     refine wpStill_nil ?_
     change wpList _ _ _ _ _ w5.drew
     clear d2 d3
     refine wpList_copy_row rfl _ _ 72 72 rfl 23 Tryz.underlying72 info_u16s _ _ _ rfl _ _ _ rfl X oo (u16s L5) (show Row w5.drew X _ from hX5) X (u16s (l.drop k)) (HSR.out _ _) (by rw [u16s_len, List.length_drop]; try rfl) (fun h => absurd h (by have := HNL.out; omega)) (by first | exact HDL.out.1 | omega) (by rw [u16s_len, hL58]; exact HDL.out.2) (u16s_one _) ?_
     intro w6 hX6 hg6
     replace hg6 : w5.grownBy w6 (some X) := ⟨hg6.os, hg6.tape, hg6.output, hg6.size, hg6.block⟩
     have hR6 := Row.grown hR5 hg6 (fun e => hRX (by injection e))
     have hb6 := hb5.grown hg6 (by omega) (fun j e => by injection e with e; omega)
     have hE := lay_two hkl h8e
     rw [← HOO.out] at hE
     rw [u16s_lay, ← hL5, hE] at hX6
     rw [← HM.out] at hX6
     have hM8 : M.length = 8 := by rw [HM.out]; simp [noughts]; omega
     obtain ⟨a0, a1, a2, a3, a4, a5, a6, a7, rfl⟩ := eight hM8
     have x0 : w6.cell? ⟨X, 0, none⟩ = some (.int .u16 (a0 : Int)) := hX6.1 0 _ rfl
     have x1 : w6.cell? ⟨X, 1, none⟩ = some (.int .u16 (a1 : Int)) := hX6.1 1 _ rfl
     have x2 : w6.cell? ⟨X, 2, none⟩ = some (.int .u16 (a2 : Int)) := hX6.1 2 _ rfl
     have x3 : w6.cell? ⟨X, 3, none⟩ = some (.int .u16 (a3 : Int)) := hX6.1 3 _ rfl
     have x4 : w6.cell? ⟨X, 4, none⟩ = some (.int .u16 (a4 : Int)) := hX6.1 4 _ rfl
     have x5 : w6.cell? ⟨X, 5, none⟩ = some (.int .u16 (a5 : Int)) := hX6.1 5 _ rfl
     have x6 : w6.cell? ⟨X, 6, none⟩ = some (.int .u16 (a6 : Int)) := hX6.1 6 _ rfl
     have x7 : w6.cell? ⟨X, 7, none⟩ = some (.int .u16 (a7 : Int)) := hX6.1 7 _ rfl
     have z0 : w6.cell? ⟨w.heap.size, 0, none⟩ = some (.int .u16 0) := hR6.1 0 _ rfl
     have y0 : w6.frozen? ⟨w.heap.size, 0, none⟩ = false := hR6.2.1 0 (by decide)
     have z1 : w6.cell? ⟨w.heap.size, 1, none⟩ = some (.int .u16 0) := hR6.1 1 _ rfl
     have y1 : w6.frozen? ⟨w.heap.size, 1, none⟩ = false := hR6.2.1 1 (by decide)
     have z2 : w6.cell? ⟨w.heap.size, 2, none⟩ = some (.int .u16 0) := hR6.1 2 _ rfl
     have y2 : w6.frozen? ⟨w.heap.size, 2, none⟩ = false := hR6.2.1 2 (by decide)
     have z3 : w6.cell? ⟨w.heap.size, 3, none⟩ = some (.int .u16 0) := hR6.1 3 _ rfl
     have y3 : w6.frozen? ⟨w.heap.size, 3, none⟩ = false := hR6.2.1 3 (by decide)
     have z4 : w6.cell? ⟨w.heap.size, 4, none⟩ = some (.int .u16 0) := hR6.1 4 _ rfl
     have y4 : w6.frozen? ⟨w.heap.size, 4, none⟩ = false := hR6.2.1 4 (by decide)
     have z5 : w6.cell? ⟨w.heap.size, 5, none⟩ = some (.int .u16 0) := hR6.1 5 _ rfl
     have y5 : w6.frozen? ⟨w.heap.size, 5, none⟩ = false := hR6.2.1 5 (by decide)
     have z6 : w6.cell? ⟨w.heap.size, 6, none⟩ = some (.int .u16 0) := hR6.1 6 _ rfl
     have y6 : w6.frozen? ⟨w.heap.size, 6, none⟩ = false := hR6.2.1 6 (by decide)
     have z7 : w6.cell? ⟨w.heap.size, 7, none⟩ = some (.int .u16 0) := hR6.1 7 _ rfl
     have y7 : w6.frozen? ⟨w.heap.size, 7, none⟩ = false := hR6.2.1 7 (by decide)
     clear hM8 hE hL5 hL58 hX0 hX5 hRY hR5 hsY hs5 hoY ho5 hrY hr5 hg5 hg6 hbY hb5 hvX
     go_wp2
     (try simp only [Exit.inBlock, Exit.then])
     refine bodyPost_ret (results_row (R := w.heap.size) (us := #[.int .u16 (a0 : Int), .int .u16 (a1 : Int), .int .u16 (a2 : Int), .int .u16 (a3 : Int), .int .u16 (a4 : Int), .int .u16 (a5 : Int), .int .u16 (a6 : Int), .int .u16 (a7 : Int)].toList) (d := .array 8 23) rfl rfl (by exact (Row.set (Row.set (Row.set (Row.set (Row.set (Row.set (Row.set (Row.set hR6 (j := 0) (by simp) (.int .u16 (a0 : Int))) (j := 1) (by simp) (.int .u16 (a1 : Int))) (j := 2) (by simp) (.int .u16 (a2 : Int))) (j := 3) (by simp) (.int .u16 (a3 : Int))) (j := 4) (by simp) (.int .u16 (a4 : Int))) (j := 5) (by simp) (.int .u16 (a5 : Int))) (j := 6) (by simp) (.int .u16 (a6 : Int))) (j := 7) (by simp) (.int .u16 (a7 : Int)))) Tryz.underlying24 rfl info_arr8) rfl ?_
     exact ⟨rfl, (Below.setCell (Below.setCell (Below.setCell (Below.setCell (Below.setCell (Below.setCell (Below.setCell (Below.setCell hb6 (p := ⟨w.heap.size, 0, none⟩) (Nat.le_refl _) (.int .u16 (a0 : Int))) (p := ⟨w.heap.size, 1, none⟩) (Nat.le_refl _) (.int .u16 (a1 : Int))) (p := ⟨w.heap.size, 2, none⟩) (Nat.le_refl _) (.int .u16 (a2 : Int))) (p := ⟨w.heap.size, 3, none⟩) (Nat.le_refl _) (.int .u16 (a3 : Int))) (p := ⟨w.heap.size, 4, none⟩) (Nat.le_refl _) (.int .u16 (a4 : Int))) (p := ⟨w.heap.size, 5, none⟩) (Nat.le_refl _) (.int .u16 (a5 : Int))) (p := ⟨w.heap.size, 6, none⟩) (Nat.le_refl _) (.int .u16 (a6 : Int))) (p := ⟨w.heap.size, 7, none⟩) (Nat.le_refl _) (.int .u16 (a7 : Int)))⟩
    ·
     rcases hA' with ⟨hA', hl0⟩ | ⟨b, rfl⟩
     · exact absurd (by omega) hck
     ·
      have hc1 : (cc = k) = False := eq_false hck
      have hc2 : (k = cc) = False := eq_false (fun e => hck e.symm)
      by_cases hkl2 : k = l.length
      ·
       have ho1 : (oo = 8) = True := eq_true (by omega)
       have ho2 : (8 = oo) = True := eq_true (by omega)
       have HNL := Lib.hid (show l.length - k = 0 by omega)
       have HSR := Lib.hid fun (w5 : World) (A : Option Addr) => (show Rd w5 w1.heap.size A (u16s (l.drop k)) by rw [List.drop_eq_nil_of_le (by omega)]; exact Rd.nil)
       clear hoo hck hkl2
       clear hON
       have hgX : w.heap.size + 1 ≠ w1.heap.size := by have := h1.lt; omega
       have hRX : w.heap.size ≠ w1.heap.size := by have := h1.lt; omega
       clear hwA hR0 hbA hzA HB CA hev hev2 hlow HP hg0 hg1 hT hR1 hbw h1
       go_wp2
       generalize w1.alloc (.cells #[.int .u16 0, .int .u16 0, .int .u16 0, .int .u16 0, .int .u16 0, .int .u16 0, .int .u16 0, .int .u16 0] 24) = wY at *
       clear c0 c1 c2 c3
       have d2 := (Rdr.keep (w' := wY.drew) hrY rfl).c2
       have d3 := (Rdr.keep (w' := wY.drew) hrY rfl).c3
       generalize w1.heap.size = X at *
       refine wp_region_still_tail 10 (by kernel_rfl) (by kernel_rfl) ?_
       change wpStill _ _ wY.drew _ _ _
       simp only [List.take_succ_cons, List.take_zero, List.drop_succ_cons, List.drop_zero]
       repeat still_step
       refine wpStill_nil ?_
       change wpList _ _ _ _ _ wY.drew
       clear d2 d3
       refine wpList_copy_row rfl _ _ 72 72 rfl 23 Tryz.underlying72 info_u16s _ 8 8 rfl _ _ _ rfl X 0 (u16s (noughts 8)) (show Row wY.drew X _ from hX0) X (u16s (l.take k)) (by rw [← u16s_take]; exact hsY.take k) (by rw [u16s_len, List.length_take]; try omega) (fun _ => rfl) (by omega) (by rw [u16s_len]; simp [noughts]; try omega) (u16s_one _) ?_
       intro w5 hX5 hg5
       replace hg5 : wY.grownBy w5 (some X) := ⟨hg5.os, hg5.tape, hg5.output, hg5.size, hg5.block⟩
       have hr5 := Rdr.keep hrY (hg5.block _ hrY.lt (fun e => hgX (by injection e)))
       have ho5 := own_farU hoY hg5 hvX
       have hs5 := hsY.keep (fun p hp => hg5.cell_far p (by have := hX0.2.2; omega) (fun e => by injection e with e; omega))
       have hR5 := Row.grown hRY hg5 (fun e => hRX (by injection e))
       have hb5 := hbY.grown hg5 (by have := hX0.2.2; have := hrY.lt; omega) (fun j e => by injection e with e; omega)
       have hz5 := hX5.2.2
       rw [u16s_lay] at hX5
       generalize hL5 : lay (noughts 8) 0 (l.take k) = L5 at *
       have hL58 : L5.length = 8 := by rw [← hL5, lay_len (by simp [noughts]; try omega)]; rfl
       go_wp2
       have d2 := (Rdr.keep (w' := w5.drew) hr5 rfl).c2
       have d3 := (Rdr.keep (w' := w5.drew) hr5 rfl).c3
       refine wp_region_still_tail 16 (by kernel_rfl) (by kernel_rfl) ?_
       change wpStill _ _ w5.drew _ _ _
       simp only [List.take_succ_cons, List.take_zero, List.drop_succ_cons, List.drop_zero]
       repeat still_step
       refine wpStill_nil ?_
       change wpList _ _ _ _ _ w5.drew
       clear d2 d3
       refine wpList_copy_row rfl _ _ 72 72 rfl 23 Tryz.underlying72 info_u16s _ _ _ rfl _ _ _ rfl X oo (u16s L5) (show Row w5.drew X _ from hX5) X (u16s (l.drop k)) (HSR.out _ _) (by rw [u16s_len, List.length_drop]; try rfl) (fun h => absurd h (by have := HNL.out; omega)) (by first | exact HDL.out.1 | omega) (by rw [u16s_len, hL58]; exact HDL.out.2) (u16s_one _) ?_
       intro w6 hX6 hg6
       replace hg6 : w5.grownBy w6 (some X) := ⟨hg6.os, hg6.tape, hg6.output, hg6.size, hg6.block⟩
       have hR6 := Row.grown hR5 hg6 (fun e => hRX (by injection e))
       have hb6 := hb5.grown hg6 (by omega) (fun j e => by injection e with e; omega)
       have hE := lay_two hkl h8e
       rw [← HOO.out] at hE
       rw [u16s_lay, ← hL5, hE] at hX6
       rw [← HM.out] at hX6
       have hM8 : M.length = 8 := by rw [HM.out]; simp [noughts]; omega
       obtain ⟨a0, a1, a2, a3, a4, a5, a6, a7, rfl⟩ := eight hM8
       have x0 : w6.cell? ⟨X, 0, none⟩ = some (.int .u16 (a0 : Int)) := hX6.1 0 _ rfl
       have x1 : w6.cell? ⟨X, 1, none⟩ = some (.int .u16 (a1 : Int)) := hX6.1 1 _ rfl
       have x2 : w6.cell? ⟨X, 2, none⟩ = some (.int .u16 (a2 : Int)) := hX6.1 2 _ rfl
       have x3 : w6.cell? ⟨X, 3, none⟩ = some (.int .u16 (a3 : Int)) := hX6.1 3 _ rfl
       have x4 : w6.cell? ⟨X, 4, none⟩ = some (.int .u16 (a4 : Int)) := hX6.1 4 _ rfl
       have x5 : w6.cell? ⟨X, 5, none⟩ = some (.int .u16 (a5 : Int)) := hX6.1 5 _ rfl
       have x6 : w6.cell? ⟨X, 6, none⟩ = some (.int .u16 (a6 : Int)) := hX6.1 6 _ rfl
       have x7 : w6.cell? ⟨X, 7, none⟩ = some (.int .u16 (a7 : Int)) := hX6.1 7 _ rfl
       have z0 : w6.cell? ⟨w.heap.size, 0, none⟩ = some (.int .u16 0) := hR6.1 0 _ rfl
       have y0 : w6.frozen? ⟨w.heap.size, 0, none⟩ = false := hR6.2.1 0 (by decide)
       have z1 : w6.cell? ⟨w.heap.size, 1, none⟩ = some (.int .u16 0) := hR6.1 1 _ rfl
       have y1 : w6.frozen? ⟨w.heap.size, 1, none⟩ = false := hR6.2.1 1 (by decide)
       have z2 : w6.cell? ⟨w.heap.size, 2, none⟩ = some (.int .u16 0) := hR6.1 2 _ rfl
       have y2 : w6.frozen? ⟨w.heap.size, 2, none⟩ = false := hR6.2.1 2 (by decide)
       have z3 : w6.cell? ⟨w.heap.size, 3, none⟩ = some (.int .u16 0) := hR6.1 3 _ rfl
       have y3 : w6.frozen? ⟨w.heap.size, 3, none⟩ = false := hR6.2.1 3 (by decide)
       have z4 : w6.cell? ⟨w.heap.size, 4, none⟩ = some (.int .u16 0) := hR6.1 4 _ rfl
       have y4 : w6.frozen? ⟨w.heap.size, 4, none⟩ = false := hR6.2.1 4 (by decide)
       have z5 : w6.cell? ⟨w.heap.size, 5, none⟩ = some (.int .u16 0) := hR6.1 5 _ rfl
       have y5 : w6.frozen? ⟨w.heap.size, 5, none⟩ = false := hR6.2.1 5 (by decide)
       have z6 : w6.cell? ⟨w.heap.size, 6, none⟩ = some (.int .u16 0) := hR6.1 6 _ rfl
       have y6 : w6.frozen? ⟨w.heap.size, 6, none⟩ = false := hR6.2.1 6 (by decide)
       have z7 : w6.cell? ⟨w.heap.size, 7, none⟩ = some (.int .u16 0) := hR6.1 7 _ rfl
       have y7 : w6.frozen? ⟨w.heap.size, 7, none⟩ = false := hR6.2.1 7 (by decide)
       clear hM8 hE hL5 hL58 hX0 hX5 hRY hR5 hsY hs5 hoY ho5 hrY hr5 hg5 hg6 hbY hb5 hvX
       go_wp2
       (try simp only [Exit.inBlock, Exit.then])
       refine bodyPost_ret (results_row (R := w.heap.size) (us := #[.int .u16 (a0 : Int), .int .u16 (a1 : Int), .int .u16 (a2 : Int), .int .u16 (a3 : Int), .int .u16 (a4 : Int), .int .u16 (a5 : Int), .int .u16 (a6 : Int), .int .u16 (a7 : Int)].toList) (d := .array 8 23) rfl rfl (by exact (Row.set (Row.set (Row.set (Row.set (Row.set (Row.set (Row.set (Row.set hR6 (j := 0) (by simp) (.int .u16 (a0 : Int))) (j := 1) (by simp) (.int .u16 (a1 : Int))) (j := 2) (by simp) (.int .u16 (a2 : Int))) (j := 3) (by simp) (.int .u16 (a3 : Int))) (j := 4) (by simp) (.int .u16 (a4 : Int))) (j := 5) (by simp) (.int .u16 (a5 : Int))) (j := 6) (by simp) (.int .u16 (a6 : Int))) (j := 7) (by simp) (.int .u16 (a7 : Int)))) Tryz.underlying24 rfl info_arr8) rfl ?_
       exact ⟨rfl, (Below.setCell (Below.setCell (Below.setCell (Below.setCell (Below.setCell (Below.setCell (Below.setCell (Below.setCell hb6 (p := ⟨w.heap.size, 0, none⟩) (Nat.le_refl _) (.int .u16 (a0 : Int))) (p := ⟨w.heap.size, 1, none⟩) (Nat.le_refl _) (.int .u16 (a1 : Int))) (p := ⟨w.heap.size, 2, none⟩) (Nat.le_refl _) (.int .u16 (a2 : Int))) (p := ⟨w.heap.size, 3, none⟩) (Nat.le_refl _) (.int .u16 (a3 : Int))) (p := ⟨w.heap.size, 4, none⟩) (Nat.le_refl _) (.int .u16 (a4 : Int))) (p := ⟨w.heap.size, 5, none⟩) (Nat.le_refl _) (.int .u16 (a5 : Int))) (p := ⟨w.heap.size, 6, none⟩) (Nat.le_refl _) (.int .u16 (a6 : Int))) (p := ⟨w.heap.size, 7, none⟩) (Nat.le_refl _) (.int .u16 (a7 : Int)))⟩
      ·
       have ho1 : (oo = 8) = False := eq_false (by omega)
       have ho2 : (8 = oo) = False := eq_false (by omega)
       clear hoo hck hkl2
       clear hON
       have hgX : w.heap.size + 1 ≠ w1.heap.size := by have := h1.lt; omega
       have hRX : w.heap.size ≠ w1.heap.size := by have := h1.lt; omega
       clear hwA hR0 hbA hzA HB CA hev hev2 hlow HP hg0 hg1 hT hR1 hbw h1
       go_wp2
       generalize w1.alloc (.cells #[.int .u16 0, .int .u16 0, .int .u16 0, .int .u16 0, .int .u16 0, .int .u16 0, .int .u16 0, .int .u16 0] 24) = wY at *
       clear c0 c1 c2 c3
       have d2 := (Rdr.keep (w' := wY.drew) hrY rfl).c2
       have d3 := (Rdr.keep (w' := wY.drew) hrY rfl).c3
       generalize w1.heap.size = X at *
       refine wp_region_still_tail 10 (by kernel_rfl) (by kernel_rfl) ?_
       change wpStill _ _ wY.drew _ _ _
       simp only [List.take_succ_cons, List.take_zero, List.drop_succ_cons, List.drop_zero]
       repeat still_step
       refine wpStill_nil ?_
       change wpList _ _ _ _ _ wY.drew
       clear d2 d3
       refine wpList_copy_row rfl _ _ 72 72 rfl 23 Tryz.underlying72 info_u16s _ 8 8 rfl _ _ _ rfl X 0 (u16s (noughts 8)) (show Row wY.drew X _ from hX0) X (u16s (l.take k)) (by rw [← u16s_take]; exact hsY.take k) (by rw [u16s_len, List.length_take]; try omega) (fun _ => rfl) (by omega) (by rw [u16s_len]; simp [noughts]; try omega) (u16s_one _) ?_
       intro w5 hX5 hg5
       replace hg5 : wY.grownBy w5 (some X) := ⟨hg5.os, hg5.tape, hg5.output, hg5.size, hg5.block⟩
       have hr5 := Rdr.keep hrY (hg5.block _ hrY.lt (fun e => hgX (by injection e)))
       have ho5 := own_farU hoY hg5 hvX
       have hs5 := hsY.keep (fun p hp => hg5.cell_far p (by have := hX0.2.2; omega) (fun e => by injection e with e; omega))
       have hR5 := Row.grown hRY hg5 (fun e => hRX (by injection e))
       have hb5 := hbY.grown hg5 (by have := hX0.2.2; have := hrY.lt; omega) (fun j e => by injection e with e; omega)
       have hz5 := hX5.2.2
       rw [u16s_lay] at hX5
       generalize hL5 : lay (noughts 8) 0 (l.take k) = L5 at *
       have hL58 : L5.length = 8 := by rw [← hL5, lay_len (by simp [noughts]; try omega)]; rfl
       go_wp2
       have d2 := (Rdr.keep (w' := w5.drew) hr5 rfl).c2
       have d3 := (Rdr.keep (w' := w5.drew) hr5 rfl).c3
       refine wp_region_still_tail 16 (by kernel_rfl) (by kernel_rfl) ?_
       change wpStill _ _ w5.drew _ _ _
       simp only [List.take_succ_cons, List.take_zero, List.drop_succ_cons, List.drop_zero]
       repeat still_step
       refine wpStill_nil ?_
       change wpList _ _ _ _ _ w5.drew
       clear d2 d3
       refine wpList_copy_row rfl _ _ 72 72 rfl 23 Tryz.underlying72 info_u16s _ _ _ rfl _ _ _ rfl X oo (u16s L5) (show Row w5.drew X _ from hX5) X (u16s (l.drop k)) (by rw [← u16s_drop]; have := hs5.dropAt k; rw [Nat.zero_add] at this; exact this) (by rw [u16s_len, List.length_drop]; try rfl) (fun _ => rfl) (by first | exact HDL.out.1 | omega) (by rw [u16s_len, hL58]; exact HDL.out.2) (u16s_one _) ?_
       intro w6 hX6 hg6
       replace hg6 : w5.grownBy w6 (some X) := ⟨hg6.os, hg6.tape, hg6.output, hg6.size, hg6.block⟩
       have hR6 := Row.grown hR5 hg6 (fun e => hRX (by injection e))
       have hb6 := hb5.grown hg6 (by omega) (fun j e => by injection e with e; omega)
       have hE := lay_two hkl h8e
       rw [← HOO.out] at hE
       rw [u16s_lay, ← hL5, hE] at hX6
       rw [← HM.out] at hX6
       have hM8 : M.length = 8 := by rw [HM.out]; simp [noughts]; omega
       obtain ⟨a0, a1, a2, a3, a4, a5, a6, a7, rfl⟩ := eight hM8
       have x0 : w6.cell? ⟨X, 0, none⟩ = some (.int .u16 (a0 : Int)) := hX6.1 0 _ rfl
       have x1 : w6.cell? ⟨X, 1, none⟩ = some (.int .u16 (a1 : Int)) := hX6.1 1 _ rfl
       have x2 : w6.cell? ⟨X, 2, none⟩ = some (.int .u16 (a2 : Int)) := hX6.1 2 _ rfl
       have x3 : w6.cell? ⟨X, 3, none⟩ = some (.int .u16 (a3 : Int)) := hX6.1 3 _ rfl
       have x4 : w6.cell? ⟨X, 4, none⟩ = some (.int .u16 (a4 : Int)) := hX6.1 4 _ rfl
       have x5 : w6.cell? ⟨X, 5, none⟩ = some (.int .u16 (a5 : Int)) := hX6.1 5 _ rfl
       have x6 : w6.cell? ⟨X, 6, none⟩ = some (.int .u16 (a6 : Int)) := hX6.1 6 _ rfl
       have x7 : w6.cell? ⟨X, 7, none⟩ = some (.int .u16 (a7 : Int)) := hX6.1 7 _ rfl
       have z0 : w6.cell? ⟨w.heap.size, 0, none⟩ = some (.int .u16 0) := hR6.1 0 _ rfl
       have y0 : w6.frozen? ⟨w.heap.size, 0, none⟩ = false := hR6.2.1 0 (by decide)
       have z1 : w6.cell? ⟨w.heap.size, 1, none⟩ = some (.int .u16 0) := hR6.1 1 _ rfl
       have y1 : w6.frozen? ⟨w.heap.size, 1, none⟩ = false := hR6.2.1 1 (by decide)
       have z2 : w6.cell? ⟨w.heap.size, 2, none⟩ = some (.int .u16 0) := hR6.1 2 _ rfl
       have y2 : w6.frozen? ⟨w.heap.size, 2, none⟩ = false := hR6.2.1 2 (by decide)
       have z3 : w6.cell? ⟨w.heap.size, 3, none⟩ = some (.int .u16 0) := hR6.1 3 _ rfl
       have y3 : w6.frozen? ⟨w.heap.size, 3, none⟩ = false := hR6.2.1 3 (by decide)
       have z4 : w6.cell? ⟨w.heap.size, 4, none⟩ = some (.int .u16 0) := hR6.1 4 _ rfl
       have y4 : w6.frozen? ⟨w.heap.size, 4, none⟩ = false := hR6.2.1 4 (by decide)
       have z5 : w6.cell? ⟨w.heap.size, 5, none⟩ = some (.int .u16 0) := hR6.1 5 _ rfl
       have y5 : w6.frozen? ⟨w.heap.size, 5, none⟩ = false := hR6.2.1 5 (by decide)
       have z6 : w6.cell? ⟨w.heap.size, 6, none⟩ = some (.int .u16 0) := hR6.1 6 _ rfl
       have y6 : w6.frozen? ⟨w.heap.size, 6, none⟩ = false := hR6.2.1 6 (by decide)
       have z7 : w6.cell? ⟨w.heap.size, 7, none⟩ = some (.int .u16 0) := hR6.1 7 _ rfl
       have y7 : w6.frozen? ⟨w.heap.size, 7, none⟩ = false := hR6.2.1 7 (by decide)
       clear hM8 hE hL5 hL58 hX0 hX5 hRY hR5 hsY hs5 hoY ho5 hrY hr5 hg5 hg6 hbY hb5 hvX
       go_wp2
       (try simp only [Exit.inBlock, Exit.then])
       refine bodyPost_ret (results_row (R := w.heap.size) (us := #[.int .u16 (a0 : Int), .int .u16 (a1 : Int), .int .u16 (a2 : Int), .int .u16 (a3 : Int), .int .u16 (a4 : Int), .int .u16 (a5 : Int), .int .u16 (a6 : Int), .int .u16 (a7 : Int)].toList) (d := .array 8 23) rfl rfl (by exact (Row.set (Row.set (Row.set (Row.set (Row.set (Row.set (Row.set (Row.set hR6 (j := 0) (by simp) (.int .u16 (a0 : Int))) (j := 1) (by simp) (.int .u16 (a1 : Int))) (j := 2) (by simp) (.int .u16 (a2 : Int))) (j := 3) (by simp) (.int .u16 (a3 : Int))) (j := 4) (by simp) (.int .u16 (a4 : Int))) (j := 5) (by simp) (.int .u16 (a5 : Int))) (j := 6) (by simp) (.int .u16 (a6 : Int))) (j := 7) (by simp) (.int .u16 (a7 : Int)))) Tryz.underlying24 rfl info_arr8) rfl ?_
       exact ⟨rfl, (Below.setCell (Below.setCell (Below.setCell (Below.setCell (Below.setCell (Below.setCell (Below.setCell (Below.setCell hb6 (p := ⟨w.heap.size, 0, none⟩) (Nat.le_refl _) (.int .u16 (a0 : Int))) (p := ⟨w.heap.size, 1, none⟩) (Nat.le_refl _) (.int .u16 (a1 : Int))) (p := ⟨w.heap.size, 2, none⟩) (Nat.le_refl _) (.int .u16 (a2 : Int))) (p := ⟨w.heap.size, 3, none⟩) (Nat.le_refl _) (.int .u16 (a3 : Int))) (p := ⟨w.heap.size, 4, none⟩) (Nat.le_refl _) (.int .u16 (a4 : Int))) (p := ⟨w.heap.size, 5, none⟩) (Nat.le_refl _) (.int .u16 (a5 : Int))) (p := ⟨w.heap.size, 6, none⟩) (Nat.le_refl _) (.int .u16 (a6 : Int))) (p := ⟨w.heap.size, 7, none⟩) (Nat.le_refl _) (.int .u16 (a7 : Int)))⟩
   ·
    replace e0 := e0.trans (end_no (.inr ⟨by simp, by omega⟩))
    subst e0
    have hk0 : (0 : Int) ≤ (k : Int) := by omega
    by_cases h9 : l.length = 8
    ·
     have q1 : (8 : Int) - (l.length : Int) = 0 := by omega
     clear h9 h8
     cases hON
    ·
     have q2 : (8 : Int) - (l.length : Int) < 0 := by omega
     cases hON
 ·
  have e := HP.out
  rw [hT] at e
  have e : O = none := e
  subst e
  clear e
  rcases hbad with rfl | hr | h8
  ·
   skip
   cases hON
  ·
   have hre : r.isEmpty = false := by cases r with | nil => exact absurd rfl hr | cons _ _ => rfl
   clear hr
   cases ok with
   | true =>
    cases hON
   | false =>
    cases hON
  ·
   have h8' : (8 : Int) - (l.length : Int) < 0 := by omega
   cases ok with
   | true =>
    cases hre : r.isEmpty with
    | true =>
     cases hON
    | false =>
     cases hON
   | false =>
    cases hON
theorem parse6_any (s : List UInt8) (w : World) (hev : EV w) (hs : s.length ≤ 1000) :
  Calls Tryz.prog 44 #[.string (str s)] w fun e w' => e = ret6 (pParse6 s) ∧ Below w.heap.size w w' := by
 cases h : pParse6 s with
 | none => rw [← h]; exact parse6_bad s h w hev hs
 | some M => rw [← h]; exact parse6_good s M h w hev hs
end Go.Proofs.YtoapelcofjjdnaaGreatDoor
namespace Go.Proofs.YtoapelcofjjdnaaGreatDoor
set_option linter.all false
open Go.RowKit
def DBt (w : World) : Prop := w.cell? ⟨7, 15, none⟩ = some (.int .u8 4)
theorem DBt.next {w w' : World} (h : DBt w) (hb : Below w.heap.size w w') : DBt w' := (hb.cell (p := ⟨_, 15, none⟩) (World.block_lt_of_cell? _ _ h)).trans h
set_option maxRecDepth 100000 in
set_option maxHeartbeats 1000000 in
theorem tz64_any (w : World) (h : DBt w) : Calls Tryz.prog 220 #[.int .u64 16] w fun e w' => e = .returned (.int .i64 4) ∧ w = w' := by
 have key : IntKind.u64.wrap (bits BinOp.and IntKind.u64 16 (IntKind.u64.wrap (-16)) * 285870213051353865) / 288230376151711744 = 15 := by decide +kernel
 unfold DBt at h
 go_enter Tryz.func220, Tryz.ntmps220
 go_wp2_with (simp only [key])
 go_ret
 exact ⟨rfl, rfl⟩
set_option maxRecDepth 100000 in
set_option maxHeartbeats 1000000 in
theorem tz_any (w : World) (h : DBt w) : Calls Tryz.prog 205 #[.int .u64 16] w fun e w' => e = .returned (.int .i64 4) ∧ w = w' := by
 have hw0 : IntKind.u64.wrap 16 = 16 := by decide
 have C := Lib.hid (tz64_any w h)
 go_enter Tryz.func205, Tryz.ntmps205
 go_wp2_with (go_at_call 220; go_must (go_fit C.out); rintro e w1 ⟨rfl, rfl⟩)
 go_ret
 exact ⟨rfl, rfl⟩
set_option maxRecDepth 100000 in
set_option maxHeartbeats 1000000 in
theorem pow2_any (w : World) : Calls Tryz.prog 204 #[.int .i64 16] w fun e w' => e = .returned (.bool true) ∧ w = w' := by
 have key : bits BinOp.and IntKind.i64 16 15 = 0 := by decide +kernel
 go_enter Tryz.func204, Tryz.ntmps204
 go_wp2
 go_ret
 exact ⟨rfl, rfl⟩
theorem u64_and15 {x : Nat} (h : x < 65536) : bits .and .u64 (x : Int) 15 = ((x % 16 : Nat) : Int) := by
 show IntKind.u64.wrap ((BitVec.ofInt 64 (x : Int) &&& BitVec.ofInt 64 ((15 : Nat) : Int)).toNat : Int) = _
 have e1 : BitVec.ofInt 64 (x : Int) = BitVec.ofNat 64 x := BitVec.ofInt_natCast ..
 have e2 : BitVec.ofInt 64 ((15 : Nat) : Int) = BitVec.ofNat 64 15 := BitVec.ofInt_natCast ..
 rw [e1, e2, BitVec.toNat_and, BitVec.toNat_ofNat, BitVec.toNat_ofNat, Nat.mod_eq_of_lt (show x < 2 ^ 64 by omega), Nat.mod_eq_of_lt (show 15 < 2 ^ 64 by decide), show (15 : Nat) = 2 ^ 4 - 1 from rfl, Nat.and_two_pow_sub_one_eq_mod, IntWalk.u64_in _ (by omega)]
theorem sign_fin : ∀ k : Fin 16, (⟨#[48, 49, 50, 51, 52, 53, 54, 55, 56, 57, 97, 98, 99, 100, 101, 102, 103, 104, 105, 106, 107, 108, 109, 110, 111, 112, 113, 114, 115, 116, 117, 118, 119, 120, 121, 122]⟩ : ByteArray).data[k.val]? = some (dch k.val) := by decide +kernel
theorem sign_at {d : Nat} (h1 : d < 16) (h : d < (⟨#[48, 49, 50, 51, 52, 53, 54, 55, 56, 57, 97, 98, 99, 100, 101, 102, 103, 104, 105, 106, 107, 108, 109, 110, 111, 112, 113, 114, 115, 116, 117, 118, 119, 120, 121, 122]⟩ : ByteArray).size) : (⟨#[48, 49, 50, 51, 52, 53, 54, 55, 56, 57, 97, 98, 99, 100, 101, 102, 103, 104, 105, 106, 107, 108, 109, 110, 111, 112, 113, 114, 115, 116, 117, 118, 119, 120, 121, 122]⟩ : ByteArray)[d]'h = dch d := by
 have h1 := sign_fin ⟨d, h1⟩
 have h2 : (⟨#[48, 49, 50, 51, 52, 53, 54, 55, 56, 57, 97, 98, 99, 100, 101, 102, 103, 104, 105, 106, 107, 108, 109, 110, 111, 112, 113, 114, 115, 116, 117, 118, 119, 120, 121, 122]⟩ : ByteArray).data[d]? = some _ := Array.getElem?_eq_getElem (i := d) h
 rw [h2] at h1
 exact Option.some.inj h1
def Buf (w : World) (g : Nat) (T : List UInt8) : Prop := ∃ xs, Row w g xs ∧ xs.length = 65 ∧ xs.drop (65 - T.length) = bytes T
theorem Buf.put {w : World} {g : Nat} {T : List UInt8} {p : Nat} (h : Buf w g T) (hT : T.length + p = 64) (c : UInt8) : Buf (w.setCell ⟨g, p, none⟩ (.int .u8 (c.toNat : Int))) g (c :: T) := by
 obtain ⟨xs, h1, h2, h3⟩ := h
 refine ⟨xs.set p (.int .u8 (c.toNat : Int)), h1.set (by omega) _, by simpa using h2, ?_⟩
 rw [List.length_cons, show 65 - (T.length + 1) = p by omega, List.drop_set, if_neg (by omega), Nat.sub_self, List.drop_eq_getElem_cons (by omega), List.set_cons_zero]
 rw [show 65 - T.length = p + 1 by omega] at h3
 rw [h3]; rfl
theorem Buf.at_ {w : World} {g : Nat} {T : List UInt8} {p : Nat} (h : Buf w g T) (hp : p < 65) : (∃ u, w.cell? ⟨g, p, none⟩ = some u) ∧ w.frozen? ⟨g, p, none⟩ = false := by
 obtain ⟨xs, h1, h2, h3⟩ := h
 exact ⟨⟨_, h1.1 p _ (List.getElem?_eq_getElem (by omega))⟩, h1.2.1 p (by omega)⟩
theorem Buf.rd {w : World} {g : Nat} {T : List UInt8} (h : Buf w g T) {p : Nat} (hp : p = 65 - T.length) : Rd w w.heap.size (some ⟨g, p, none⟩) (bytes T) := by
 obtain ⟨xs, h1, h2, h3⟩ := h
 have := (h1.rd h1.2.2).dropAt p
 rw [Nat.zero_add, hp, h3] at this
 rw [hp]; exact this
set_option maxRecDepth 100000 in
set_option maxHeartbeats 8000000 in
theorem fbits_any (u : Nat) (hu : u < 65536) (w : World) (hd : DBt w) :
  Calls Tryz.prog 179 #[.slice none 0 0, .int .u64 (u : Int), .int .i64 16, .bool false, .bool false] w fun e w' => e = .returned (.tuple #[.slice none 0 0, .string (str (digs 16 u))]) ∧ Below w.heap.size w w' := by
 have hlen := Lib.hid (digs_len (b := 16) (by decide) 4 u (by omega))
 have C1 := Lib.hid fun w => pow2_any w
 have C2 := Lib.hid fun w h => tz_any w h
 have hw1 : IntKind.u64.wrap 16 = 16 := by decide
 have hw2 : IntKind.u64.wrap 4 = 4 := by decide
 have hw3 : IntKind.u64.wrap 15 = 15 := by decide
 go_enter Tryz.func179, Tryz.ntmps179
 go_wp2_with (first
  | (go_at_call 204; go_must (go_fit (C1.out _)); rintro e w1 ⟨rfl, rfl⟩)
  | (go_at_call 205; go_must (go_fit (C2.out _ (hd.next ((Below.refl w.heap.size w).alloc (Nat.le_refl _) _)))); rintro e w1 ⟨rfl, rfl⟩))
 go_loopg [1, 13] u (fun k s1 s13 wr => ∃ (m p : Nat) (T : List UInt8), k = m ∧ s1 = .int .u64 (m : Int) ∧ s13 = .int .i64 (p : Int) ∧ m ≤ u ∧ T.length + p = 65 ∧ Hid (digs 16 u = digs 16 m ++ T) ∧ Buf wr w.heap.size T ∧ Below w.heap.size w wr)
 case atStart => exact ⟨u, 65, [], rfl, rfl, rfl, Nat.le_refl _, rfl, (List.append_nil _).symm, ⟨_, Row.made w _ _, by rfl, by rfl⟩, (Below.refl w.heap.size w).alloc (Nat.le_refl _) _⟩
 case round =>
  obtain ⟨m, p, T, rfl, rfl, rfl, hm, hp, hD, hbuf, hbel⟩ := hrel
  have hgl : w.heap.size < wr.heap.size := by obtain ⟨xs, h, _⟩ := hbuf; exact h.2.2
  have hT4 : T.length ≤ 4 := by
   have h1 := hlen.out
   rw [hD.out, List.length_append] at h1
   omega
  obtain ⟨p, rfl⟩ : ∃ p', p = p' + 1 := ⟨p - 1, by omega⟩
  obtain ⟨⟨u0, hcell⟩, hfz⟩ := hbuf.at_ (p := p) (by omega)
  have hp64 : p < 65 := by omega
  have hp1 : (p : Int) < 65 := by omega
  have hp0 : (0 : Int) ≤ (p : Int) := by omega
  have hw4 : IntKind.u64.wrap (gk : Int) = (gk : Int) := IntWalk.u64_in _ (by omega)
  by_cases h16 : 16 ≤ gk
  ·
   obtain ⟨d, hd0⟩ : ∃ d : Nat, d = gk % 16 := ⟨_, rfl⟩
   obtain ⟨q, hq0⟩ : ∃ q : Nat, q = gk / 16 := ⟨_, rfl⟩
   have hd16 : d < 16 := by omega
   have hand := u64_and15 (x := gk) (by omega)
   rw [← hd0] at hand
   have hquo : (gk : Int) / 16 = (q : Int) := by rw [hq0]; rfl
   have hsg := fun h => sign_at (d := d) hd16 h
   have HF := Lib.hid (show digs 16 u = digs 16 q ++ (dch d :: T) by
    rw [hD.out, digs_big (b := 16) (by decide) h16, ← hq0, ← hd0, List.append_assoc]; rfl)
   have hql : q < gk := by omega
   have hP := hbuf.put (p := p) (by omega) (dch d)
   have hd36 : (d : Int) < 36 := by omega
   have hd36n : d < 36 := by omega
   have h16' : (16 : Int) ≤ (gk : Int) := by omega
   clear hd0 hq0
   go_wp2
   go_roundg q
   case measure => omega
   case rel => exact ⟨q, p, dch d :: T, rfl, by go_num, by go_num, by omega, by simp only [List.length_cons]; omega, HF.out, hP, hbel.setCell (p := ⟨w.heap.size, p, none⟩) (Nat.le_refl _) _⟩
  ·
   have hsg := fun h => sign_at (d := gk) (by omega) h
   have HF := Lib.hid (show digs 16 u = dch gk :: T by rw [hD.out, digs_small (by omega)]; rfl)
   have hP := hbuf.put (p := p) (by omega) (dch gk)
   have hd36 : (gk : Int) < 36 := by omega
   have hd36n : gk < 36 := by omega
   have h16' : (gk : Int) < 16 := by omega
   have hst := str_atN (B := _) (n := 65 - p) (c := 65 - p) (hP.rd (p := p) (by simp only [List.length_cons]; omega)) (by simp only [List.length_cons]; omega)
   have hp65 : (p : Int) ≤ 65 := by omega
   have hpn : ¬ 65 = p := by omega
   have hpn2 : ¬ p = 65 := by omega
   clear h16
   go_wp2
   go_ret2
   exact ⟨by rw [HF.out]; rfl, hbel.setCell (p := ⟨w.heap.size, p, none⟩) (Nat.le_refl _) _⟩
end Go.Proofs.YtoapelcofjjdnaaGreatDoor
namespace Go.Proofs.YtoapelcofjjdnaaGreatDoor
set_option linter.all false
open Go.RowKit
set_option maxRecDepth 100000 in
set_option maxHeartbeats 2000000 in
theorem fuI_any (u : Nat) (hu : u < 65536) (w : World) (hd : DBt w) : Calls Tryz.prog 155 #[.int .u64 (u : Int), .int .i64 16] w fun e w' => e = .returned (.string (str (digs 16 u))) ∧ Below w.heap.size w w' := by
 have C := Lib.hid (fbits_any u hu w hd)
 go_enter Tryz.func155, Tryz.ntmps155
 go_wp2_with (go_at_call 179; go_must (go_fit C.out); rintro e w1 ⟨rfl, hb1⟩)
 go_ret
 exact ⟨rfl, hb1⟩
set_option maxRecDepth 100000 in
set_option maxHeartbeats 2000000 in
theorem fu_any (u : Nat) (hu : u < 65536) (w : World) (hd : DBt w) : Calls Tryz.prog 130 #[.int .u64 (u : Int), .int .i64 16] w fun e w' => e = .returned (.string (str (digs 16 u))) ∧ Below w.heap.size w w' := by
 have C := Lib.hid (fuI_any u hu w hd)
 go_enter Tryz.func130, Tryz.ntmps130
 go_wp2_with (go_at_call 155; go_must (go_fit C.out); rintro e w1 ⟨rfl, hb1⟩)
 go_ret
 exact ⟨rfl, hb1⟩
theorem digs16_len {u : Nat} (h : u < 65536) : (digs 16 u).length ≤ 4 := by
 have := digs_len (b := 16) (by decide) 4 u (by omega)
 omega
theorem hexs_len : ∀ (l : List Nat), (∀ x ∈ l, x < 65536) → (hexs (digs 16) l).length ≤ 5 * l.length := by
 intro l
 induction l with
 | nil => intro _; exact Nat.le_refl _
 | cons x l ih =>
  intro h
  have h1 := digs16_len (h x (by simp))
  have h2 := ih (fun y hy => h y (by simp [hy]))
  cases l with
  | nil => rw [hexs_one]; simp; omega
  | cons y r =>
   rw [hexs_more, List.length_append, List.length_cons]
   simp only [List.length_cons] at *
   omega
theorem u16s_get {l : List Nat} {j x : Nat} (h : l[j]? = some x) : (u16s l)[j]? = some (.int .u16 (x : Int)) := by
 unfold u16s; rw [List.getElem?_map, h]; rfl
set_option maxRecDepth 100000 in
set_option maxHeartbeats 4000000 in
theorem hex6_show (A : Option Addr) (c : Nat) (l : List Nat) (w : World) (hr : Rd w w.heap.size A (u16s l)) (hl16 : ∀ x ∈ l, x < 65536) (hl : l.length ≤ 8) (hd : DBt w) :
  Calls Tryz.prog 90 #[.slice A l.length c] w fun e w' => e = .returned (.string (str (hexs (digs 16) l))) ∧ Below w.heap.size w w' := by
 have HL := Lib.hid hl16
 clear hl16
 go_enter Tryz.func90, Tryz.ntmps90
 go_wp2
 go_loopg [3, 8] l.length (fun k s3 s8 wr => ∃ j : Nat, k = l.length - j ∧ j ≤ l.length ∧ s8 = .int .i64 (j : Int) ∧ wr.ownsRow w.heap.size 9 1 s3 j (strs ((l.map (digs 16)).take j)) ∧ Below w.heap.size w wr)
 case atStart => exact ⟨0, rfl, Nat.zero_le _, rfl, World.ownsRow_nil _ _ _ _, Below.refl _ _⟩
 case round =>
  obtain ⟨j, rfl, hj, rfl, hown, hbel⟩ := hrel
  obtain ⟨A3, c3, rfl, hc3, hm3⟩ := own_shape hown
  have hq0 := hbel.size
  by_cases hlt : j < l.length
  ·
   obtain ⟨x, hx⟩ : ∃ x, l[j]? = some x := ⟨_, List.getElem?_eq_getElem hlt⟩
   have hx16 := HL.out x (List.mem_of_getElem? hx)
   obtain ⟨b, off, rfl, hb, hcell⟩ := (hr.below hbel).at_ (k := j) (by rw [u16s_len]; exact hlt)
   have hcx : wr.cell? ⟨b, off + j, none⟩ = some (.int .u16 (x : Int)) := by
    rw [hcell]
    have := u16s_get hx
    rw [List.getElem?_eq_getElem (by rw [u16s_len]; exact hlt)] at this
    exact this
   clear hcell
   have hj0 : (0 : Int) ≤ (j : Int) := by omega
   have hlt1 : (j : Int) < (l.length : Int) := by omega
   have hw : IntKind.u64.wrap (x : Int) = (x : Int) := IntWalk.u64_in _ (by omega)
   have C1 := Lib.hid (fu_any x hx16 wr (hd.next hbel))
   have HT := Lib.hid (show (l.map (digs 16)).take (j + 1) = (l.map (digs 16)).take j ++ [digs 16 x] by
    obtain ⟨hj', e⟩ := List.getElem?_eq_some_iff.1 hx
    rw [take_snoc' _ j (by rw [List.length_map]; exact hlt)]
    simp [e])
   have hown' := fun w' (hb : Below wr.heap.size wr w') => own_below hown hb (Nat.le_refl _)
   have HW := Lib.hid hown'
   clear hown' hx
   go_wp2_with (first
    | (go_at_call 130; go_must (go_fit C1.out); rintro e w1 ⟨rfl, hb1⟩; have hown1 := HW.out w1 hb1; have hq1 := hb1.size)
    | (at_builtin; go_loud (refine wpList_append_lit rfl _ _ _ rfl w.heap.size _ _ 1 16 Tryz.underlying38 info_strU rfl (by decide) _ _ _ rfl hown1 _ 1 1 _ rfl rfl (by simp [Value.oneCell']) (by omega) (by decide) (by omega) ?_; intro A5 c5 w5 hc5 hm5 hown5 hb5 hg5)))
   go_roundg (l.length - (j + 1))
   case measure => omega
   case rel =>
    refine ⟨j + 1, rfl, by omega, by go_num, ?_, (hbel.trans (hb1.mono hq0)).trans hb5⟩
    rw [HT.out, strs_append]
    exact hown5
  ·
   obtain rfl : j = l.length := by omega
   rw [List.take_of_length_le (by rw [List.length_map]; exact Nat.le_refl _)] at hown
   obtain ⟨A6, c6, e6, hc6, hm6, hx6⟩ := own_rdN hown
   injection e6 with e6 _ e7
   subst e6 e7
   have hll : (l.map (digs 16)).length = l.length := List.length_map ..
   have hxl := hexs_len l HL.out
   have CJ := Lib.hid (join_any 58 A3 c3 (l.map (digs 16)) wr hx6 (by rw [hll]; exact hc3) (by rw [hll]; omega) (by unfold hexs at hxl; omega))
   rw [hll] at CJ
   have CJ := Lib.hid (show Calls Tryz.prog 87 #[.slice A3 l.length c3, .string (str [58])] wr fun e w' => e = .returned (.string (str (hexs (digs 16) l))) ∧ Below wr.heap.size wr w' from CJ.out)
   go_wp2_with (go_at_call 87; go_must (go_fit CJ.out); rintro e w7 ⟨rfl, hb7⟩)
   go_ret
   exact ⟨rfl, hbel.trans (hb7.mono hbel.size)⟩
theorem rowI_le (a : List Nat) : ∀ i, (rowI a i).2 ≤ a.length := by
 intro i
 induction i with
 | zero => exact Nat.zero_le _
 | succ i ih =>
  unfold rowI
  split
  ·
   have := zrun_le (a.drop i)
   rw [List.length_drop] at this
   simp only
   omega
  · exact ih
theorem row_yes {a : List Nat} {i f n d : Nat} (h : rowI a i = (f, n)) (hz : zrun (a.drop i) = d) (hn : n < d) : rowI a (i + 1) = (i, d) := by
 rw [rowI, h, hz, if_pos hn]
theorem row_no {a : List Nat} {i f n d : Nat} (h : rowI a i = (f, n)) (hz : zrun (a.drop i) = d) (hn : ¬ n < d) : rowI a (i + 1) = (f, n) := by
 rw [rowI, h, hz, if_neg hn]
-- The longest row of noughts.
set_option maxRecDepth 100000 in
set_option maxHeartbeats 8000000 in
theorem row6_any (a : List Nat) (a0 a1 a2 a3 a4 a5 a6 a7 : Nat) (ha : a = [a0, a1, a2, a3, a4, a5, a6, a7]) (w : World) :
  Calls Tryz.prog 89 #[.agg #[.int .u16 (a0 : Int), .int .u16 (a1 : Int), .int .u16 (a2 : Int), .int .u16 (a3 : Int), .int .u16 (a4 : Int), .int .u16 (a5 : Int), .int .u16 (a6 : Int), .int .u16 (a7 : Int)]] w fun e w' => e = .returned (.tuple #[.int .i64 ((rowI a 8).1 : Int), .int .i64 ((rowI a 8).2 : Int)]) ∧ Below w.heap.size w w' := by
 have hR := Row.made w #[.int .u16 (a0 : Int), .int .u16 (a1 : Int), .int .u16 (a2 : Int), .int .u16 (a3 : Int), .int .u16 (a4 : Int), .int .u16 (a5 : Int), .int .u16 (a6 : Int), .int .u16 (a7 : Int)] 24
 have hb0 : Below w.heap.size w (w.alloc (.cells #[.int .u16 (a0 : Int), .int .u16 (a1 : Int), .int .u16 (a2 : Int), .int .u16 (a3 : Int), .int .u16 (a4 : Int), .int .u16 (a5 : Int), .int .u16 (a6 : Int), .int .u16 (a7 : Int)] 24)) := (Below.refl _ _).alloc (Nat.le_refl _) _
 have hR2 : Row (w.alloc (.cells #[.int .u16 (a0 : Int), .int .u16 (a1 : Int), .int .u16 (a2 : Int), .int .u16 (a3 : Int), .int .u16 (a4 : Int), .int .u16 (a5 : Int), .int .u16 (a6 : Int), .int .u16 (a7 : Int)] 24)) w.heap.size (u16s a) := by rw [ha]; exact hR
 have hl8 : a.length = 8 := by rw [ha]; rfl
 have HA := Lib.hid ha
 clear ha hR
 have HO := Lib.hid (rowI_ok a)
 have HN := Lib.hid (rowI_le a)
 go_enter Tryz.func89, Tryz.ntmps89
 go_wp2
 generalize w.alloc (.cells #[.int .u16 (a0 : Int), .int .u16 (a1 : Int), .int .u16 (a2 : Int), .int .u16 (a3 : Int), .int .u16 (a4 : Int), .int .u16 (a5 : Int), .int .u16 (a6 : Int), .int .u16 (a7 : Int)] 24) = wA at *
 go_loopg [2, 3, 6] 8 (fun k s2 s3 s6 wr => ∃ (i f n : Nat), k = 8 - i ∧ i ≤ 8 ∧ s6 = .int .i64 (i : Int) ∧ s2 = .int .i64 (f : Int) ∧ s3 = .int .i64 (n : Int) ∧ n ≤ 8 ∧ Hid (rowI a i = (f, n)) ∧ wA = wr)
 case atStart => exact ⟨0, 0, 0, rfl, by omega, rfl, rfl, rfl, by omega, rfl, rfl⟩
 case round =>
  obtain ⟨i, f, n, rfl, hi, rfl, rfl, rfl, hn, hrow, rfl⟩ := hrel
  by_cases hlt : i < 8
  ·
   have hi8 : (i : Int) < 8 := by omega
   go_wp2
   go_loopg [5] (8 - i) (fun k s5 wr => ∃ j : Nat, k = 8 - j ∧ j ≤ 8 ∧ i ≤ j ∧ s5 = .int .i64 (j : Int) ∧ Hid (zrun (a.drop i) = (j - i) + zrun (a.drop j)) ∧ wA = wr)
   case atStart => exact ⟨i, rfl, by omega, Nat.le_refl _, rfl, by show _ = i - i + _; omega, rfl⟩
   case round =>
    obtain ⟨j, rfl, hj, hij, rfl, hz, rfl⟩ := hrel
    by_cases hj8 : j < 8
    ·
     obtain ⟨x, hx⟩ : ∃ x, a[j]? = some x := ⟨_, List.getElem?_eq_getElem (by omega)⟩
     have hc := hR2.1 j _ (u16s_get hx)
     have hj8' : (j : Int) < 8 := by omega
     have hj0 : (0 : Int) ≤ (j : Int) := by omega
     by_cases hx0 : x = 0
     ·
      subst hx0
      have HZ := Lib.hid (show zrun (a.drop i) = (j + 1 - i) + zrun (a.drop (j + 1)) by rw [hz.out, zrun_hit hx]; omega)
      clear hx
      go_wp2
      go_roundg (8 - (j + 1))
      case measure => omega
      case rel => exact ⟨j + 1, rfl, by omega, by omega, by go_num, HZ.out, rfl⟩
     ·
      have hxb : ((x : Int) == 0) = false := by rw [beq_eq_false_iff_ne]; omega
      have HZ := Lib.hid (show zrun (a.drop i) = j - i by rw [hz.out, zrun_miss hx hx0]; omega)
      clear hx hx0
      obtain ⟨d, hd⟩ : ∃ d, d = j - i := ⟨_, rfl⟩
      have hsub : ((j : Nat) : Int) - (i : Int) = (d : Int) := by omega
      have hdw : IntKind.i64.wrap (d : Int) = (d : Int) := IntWalk.i64_in _ (by omega)
      rw [← hd] at HZ
      have hd8 : d ≤ 8 := by omega
      clear hd
      by_cases hdn : n < d
      ·
       have HR := Lib.hid (row_yes hrow.out HZ.out hdn)
       have hdnI : (n : Int) < (d : Int) := by omega
       go_wp2
       go_roundg (8 - (i + 1))
       case measure => omega
       case rel => exact ⟨i + 1, i, d, rfl, by omega, by go_num, rfl, by go_num, hd8, HR.out, rfl⟩
      ·
       have HR := Lib.hid (row_no hrow.out HZ.out hdn)
       have hdnI : ¬ (n : Int) < (d : Int) := by omega
       go_wp2
       go_roundg (8 - (i + 1))
       case measure => omega
       case rel => exact ⟨i + 1, f, n, rfl, by omega, by go_num, rfl, rfl, hn, HR.out, rfl⟩
    ·
     obtain rfl : j = 8 := by omega
     have HZ := Lib.hid (show zrun (a.drop i) = 8 - i by rw [hz.out, zrun_end (by omega)]; omega)
     obtain ⟨d, hd⟩ : ∃ d, d = 8 - i := ⟨_, rfl⟩
     have hsub : ((8 : Nat) : Int) - (i : Int) = (d : Int) := by omega
     have hdw : IntKind.i64.wrap (d : Int) = (d : Int) := IntWalk.i64_in _ (by omega)
     rw [← hd] at HZ
     have hd8 : d ≤ 8 := by omega
     clear hd
     by_cases hdn : n < d
     ·
      have HR := Lib.hid (row_yes hrow.out HZ.out hdn)
      have hdnI : (n : Int) < (d : Int) := by omega
      go_wp2
      go_roundg (8 - (i + 1))
      case measure => omega
      case rel => exact ⟨i + 1, i, d, rfl, by omega, by go_num, rfl, by go_num, hd8, HR.out, rfl⟩
     ·
      have HR := Lib.hid (row_no hrow.out HZ.out hdn)
      have hdnI : ¬ (n : Int) < (d : Int) := by omega
      go_wp2
      go_roundg (8 - (i + 1))
      case measure => omega
      case rel => exact ⟨i + 1, f, n, rfl, by omega, by go_num, rfl, rfl, hn, HR.out, rfl⟩
  ·
   obtain rfl : i = 8 := by omega
   go_wp2
   go_ret2
   exact ⟨by rw [hrow.out]; rfl, hb0⟩
theorem Row.rdPart {w : World} {X : Nat} {xs : List Value} (h : Row w X xs) (k : Nat) : Rd w w.heap.size (some ⟨X, k, none⟩) (xs.drop k) := by
 have := (h.rd h.2.2).dropAt k
 rwa [Nat.zero_add] at this
theorem rowI_in (a : List Nat) (h2 : 2 ≤ (rowI a 8).2) (h8 : a.length = 8) : (rowI a 8).1 + (rowI a 8).2 ≤ 8 := by
 have := (rowI_parts a 8 h2).2
 omega
set_option maxRecDepth 100000 in
set_option maxHeartbeats 8000000 in
theorem show6_any (a : List Nat) (a0 a1 a2 a3 a4 a5 a6 a7 : Nat) (ha : a = [a0, a1, a2, a3, a4, a5, a6, a7]) (h16 : ∀ x ∈ a, x < 65536) (w : World) (hd : DBt w) :
  Calls Tryz.prog 45 #[.agg #[.int .u16 (a0 : Int), .int .u16 (a1 : Int), .int .u16 (a2 : Int), .int .u16 (a3 : Int), .int .u16 (a4 : Int), .int .u16 (a5 : Int), .int .u16 (a6 : Int), .int .u16 (a7 : Int)]] w fun e w' => e = .returned (.string (str (pShow6 a))) ∧ Below w.heap.size w w' := by
 have hb0 : Below w.heap.size w (w.alloc (.cells #[.int .u16 (a0 : Int), .int .u16 (a1 : Int), .int .u16 (a2 : Int), .int .u16 (a3 : Int), .int .u16 (a4 : Int), .int .u16 (a5 : Int), .int .u16 (a6 : Int), .int .u16 (a7 : Int)] 24)) := (Below.refl _ _).alloc (Nat.le_refl _) _
 have hR2 : Row (w.alloc (.cells #[.int .u16 (a0 : Int), .int .u16 (a1 : Int), .int .u16 (a2 : Int), .int .u16 (a3 : Int), .int .u16 (a4 : Int), .int .u16 (a5 : Int), .int .u16 (a6 : Int), .int .u16 (a7 : Int)] 24)) w.heap.size (u16s a) := by rw [ha]; exact Row.made w #[.int .u16 (a0 : Int), .int .u16 (a1 : Int), .int .u16 (a2 : Int), .int .u16 (a3 : Int), .int .u16 (a4 : Int), .int .u16 (a5 : Int), .int .u16 (a6 : Int), .int .u16 (a7 : Int)] 24
 have hl8 : a.length = 8 := by rw [ha]; rfl
 have CR := Lib.hid fun w => row6_any a a0 a1 a2 a3 a4 a5 a6 a7 ha w
 have x0 : (w.alloc (.cells #[.int .u16 (a0 : Int), .int .u16 (a1 : Int), .int .u16 (a2 : Int), .int .u16 (a3 : Int), .int .u16 (a4 : Int), .int .u16 (a5 : Int), .int .u16 (a6 : Int), .int .u16 (a7 : Int)] 24)).cell? ⟨w.heap.size, 0, none⟩ = some (.int .u16 (a0 : Int)) := (Row.made w #[.int .u16 (a0 : Int), .int .u16 (a1 : Int), .int .u16 (a2 : Int), .int .u16 (a3 : Int), .int .u16 (a4 : Int), .int .u16 (a5 : Int), .int .u16 (a6 : Int), .int .u16 (a7 : Int)] 24).1 0 _ rfl
 have HL := Lib.hid h16
 have HD := Lib.hid (show pShow6 a = if (rowI a 8).2 < 2 then hexs (digs 16) a else hexs (digs 16) (a.take (rowI a 8).1) ++ 58 :: 58 :: hexs (digs 16) (a.drop ((rowI a 8).1 + (rowI a 8).2)) from rfl)
 have HI := Lib.hid (rowI_in a)
 obtain ⟨S, hS⟩ : ∃ S, S = pShow6 a := ⟨_, rfl⟩
 rw [← hS] at HD ⊢
 obtain ⟨f, hf⟩ : ∃ f, f = (rowI a 8).1 := ⟨_, rfl⟩
 obtain ⟨n, hn⟩ : ∃ n, n = (rowI a 8).2 := ⟨_, rfl⟩
 rw [← hf, ← hn] at HD CR HI
 clear hS hf hn ha h16 x0
 by_cases h2 : n < 2
 ·
  have e := HD.out
  rw [if_pos h2] at e
  have HE := Lib.hid e
  have h2I : (n : Int) < 2 := by omega
  clear e h2
  go_enter Tryz.func45, Tryz.ntmps45
  go_wp2_with (first
   | (go_at_call 89; go_must (go_fit (CR.out _)); rintro e w1 ⟨rfl, hb1⟩; have hR3 := Row.below hR2 hb1 hR2.2.2; have CH := hex6_show (some ⟨w.heap.size, 0, none⟩) 8 a w1 (hR3.rdPart 0) HL.out (by omega) (hd.next (bnext hb0 hb1)); rw [hl8] at CH)
   | (go_at_call 90; go_must (go_fit CH); rintro e w2 ⟨rfl, hb2⟩))
  go_ret
  exact ⟨by rw [HE.out]; rfl, bnext (bnext hb0 hb1) hb2⟩
 ·
  have e := HD.out
  rw [if_neg h2] at e
  have hfn := HI.out (by omega)
  have h2I : ¬ (n : Int) < 2 := by omega
  obtain ⟨o, ho⟩ : ∃ o, o = f + n := ⟨_, rfl⟩
  have hoI : (f : Int) + (n : Int) = (o : Int) := by omega
  have hwo : IntKind.i64.wrap (o : Int) = (o : Int) := IntWalk.i64_in _ (by omega)
  have hwo2 : IntKind.i64.wrap ((f : Int) + (n : Int)) = (o : Int) := by rw [IntWalk.i64_in _ (by omega)]; omega
  have hwo3 : wrap64 ((f : Int) + (n : Int)) = (o : Int) := by rw [IntWalk.wrap64_in _ (by omega)]; omega
  rw [← ho] at e hfn
  have hf8 : f ≤ 8 := by omega
  have hf8I : (f : Int) ≤ 8 := by omega
  have ho8I : (o : Int) ≤ 8 := by omega
  have hf0 : (0 : Int) ≤ (f : Int) := by omega
  have ho0 : (0 : Int) ≤ (o : Int) := by omega
  obtain ⟨P, hP⟩ : ∃ P, P = hexs (digs 16) (a.take f) := ⟨_, rfl⟩
  obtain ⟨Q, hQ⟩ : ∃ Q, Q = hexs (digs 16) (a.drop o) := ⟨_, rfl⟩
  have HP := Lib.hid hP
  have HQ := Lib.hid hQ
  rw [← hP, ← hQ] at e
  have hPl : P.length ≤ 40 := by
   have := hexs_len (a.take f) (fun x hx => HL.out x (List.mem_of_mem_take hx))
   rw [hP]; rw [List.length_take] at this; omega
  have hQl : Q.length ≤ 40 := by
   have := hexs_len (a.drop o) (fun x hx => HL.out x (List.mem_of_mem_drop hx))
   rw [hQ]; rw [List.length_drop] at this; omega
  clear hP hQ
  have e1 : str P ++ { data := #[58, 58] } = str (P ++ [58, 58]) := str_app P [58, 58]
  have e2 : str (P ++ [58, 58]) ++ str Q = str S := (str_app _ _).trans (by rw [e]; simp)
  have y1 := str_size P
  have y2 := str_size Q
  have y3 := str_size (P ++ [58, 58])
  rw [List.length_append] at y3
  have k1 : (9223372036854775807 < P.length + 2) = False := eq_false (by omega)
  have k2 : (9223372036854775807 < P.length + [58, 58].length + Q.length) = False := eq_false (by simp; omega)
  clear e ho h2
  by_cases ho8 : o = 8
  ·
   have hc1 : (o = 8) = True := eq_true ho8
   have hc2 : (8 = o) = True := eq_true ho8.symm
   have HZ := Lib.hid (show a.drop o = [] from List.drop_eq_nil_of_le (by omega))
   have HO8 := Lib.hid ho8
   clear ho8
   go_enter Tryz.func45, Tryz.ntmps45
   go_wp2_with (go_at_call 89; go_must (go_fit (CR.out _)); rintro e w1 ⟨rfl, hb1⟩; have hR3 := Row.below hR2 hb1 hR2.2.2; have HB1 := Lib.hid (bnext hb0 hb1); have HC1 := Lib.hid fun w' (hb : Below w1.heap.size w1 w') => (show Calls Tryz.prog 90 #[.slice (some ⟨w.heap.size, 0, none⟩) f 8] w' fun e w2 => e = .returned (.string (str P)) ∧ Below w'.heap.size w' w2 by have h := hex6_show (some ⟨w.heap.size, 0, none⟩) 8 (a.take f) w' (by rw [← u16s_take]; exact ((Row.below hR3 hb hR3.2.2).rdPart 0).take f) (fun x hx => HL.out x (List.mem_of_mem_take hx)) (by rw [List.length_take]; omega) (hd.next (bnext HB1.out hb)); rw [List.length_take, Nat.min_eq_left (by omega), ← HP.out] at h; exact h); have HC2 := Lib.hid fun w' (hb : Below w1.heap.size w1 w') => (show Calls Tryz.prog 90 #[.slice (some ⟨w.heap.size, 0, none⟩) (8 - o) (8 - o)] w' fun e w2 => e = .returned (.string (str Q)) ∧ Below w'.heap.size w' w2 by have h := hex6_show (some ⟨w.heap.size, 0, none⟩) (8 - o) (a.drop o) w' (by rw [HZ.out]; exact Rd.nil) (fun x hx => HL.out x (List.mem_of_mem_drop hx)) (by rw [List.length_drop]; omega) (hd.next (bnext HB1.out hb)); rw [List.length_drop, hl8, ← HQ.out] at h; exact h))
   go_region_with (first
    | (go_at_call 90; go_fit (HC1.out w1.drew (Below.refl _ _).drew); rintro e w2 ⟨rfl, hb2⟩; have hc2 : Below w1.heap.size w1 w2 := ((Below.refl w1.heap.size w1).drew).trans hb2)
    | (go_at_call 90; go_fit (HC2.out w1.drew (Below.refl _ _).drew); rintro e w3 ⟨rfl, hb3⟩; have hc3 : Below w1.heap.size w1 w3 := ((Below.refl w1.heap.size w1).drew).trans hb3)
    | (go_at_call 90; go_fit (HC2.out w2 hc2); rintro e w4 ⟨rfl, hb4⟩)
    | (go_at_call 90; go_fit (HC1.out w3 hc3); rintro e w5 ⟨rfl, hb5⟩))
   all_goals go_wp2
   all_goals go_ret
   all_goals first
    | exact ⟨rfl, bnext (bnext HB1.out hc2) hb4⟩
    | exact ⟨rfl, bnext (bnext HB1.out hc3) hb5⟩
  ·
   have hc1 : (o = 8) = False := eq_false ho8
   have hc2 : (8 = o) = False := eq_false (fun e => ho8 e.symm)
   clear ho8
   go_enter Tryz.func45, Tryz.ntmps45
   go_wp2_with (go_at_call 89; go_must (go_fit (CR.out _)); rintro e w1 ⟨rfl, hb1⟩; have hR3 := Row.below hR2 hb1 hR2.2.2; have HB1 := Lib.hid (bnext hb0 hb1); have HC1 := Lib.hid fun w' (hb : Below w1.heap.size w1 w') => (show Calls Tryz.prog 90 #[.slice (some ⟨w.heap.size, 0, none⟩) f 8] w' fun e w2 => e = .returned (.string (str P)) ∧ Below w'.heap.size w' w2 by have h := hex6_show (some ⟨w.heap.size, 0, none⟩) 8 (a.take f) w' (by rw [← u16s_take]; exact ((Row.below hR3 hb hR3.2.2).rdPart 0).take f) (fun x hx => HL.out x (List.mem_of_mem_take hx)) (by rw [List.length_take]; omega) (hd.next (bnext HB1.out hb)); rw [List.length_take, Nat.min_eq_left (by omega), ← HP.out] at h; exact h); have HC2 := Lib.hid fun w' (hb : Below w1.heap.size w1 w') => (show Calls Tryz.prog 90 #[.slice (some ⟨w.heap.size, o, none⟩) (8 - o) (8 - o)] w' fun e w2 => e = .returned (.string (str Q)) ∧ Below w'.heap.size w' w2 by have h := hex6_show (some ⟨w.heap.size, o, none⟩) (8 - o) (a.drop o) w' (by rw [← u16s_drop]; exact (Row.below hR3 hb hR3.2.2).rdPart o) (fun x hx => HL.out x (List.mem_of_mem_drop hx)) (by rw [List.length_drop]; omega) (hd.next (bnext HB1.out hb)); rw [List.length_drop, hl8, ← HQ.out] at h; exact h))
   go_region_with (first
    | (go_at_call 90; go_fit (HC1.out w1.drew (Below.refl _ _).drew); rintro e w2 ⟨rfl, hb2⟩; have hc2 : Below w1.heap.size w1 w2 := ((Below.refl w1.heap.size w1).drew).trans hb2)
    | (go_at_call 90; go_fit (HC2.out w1.drew (Below.refl _ _).drew); rintro e w3 ⟨rfl, hb3⟩; have hc3 : Below w1.heap.size w1 w3 := ((Below.refl w1.heap.size w1).drew).trans hb3)
    | (go_at_call 90; go_fit (HC2.out w2 hc2); rintro e w4 ⟨rfl, hb4⟩)
    | (go_at_call 90; go_fit (HC1.out w3 hc3); rintro e w5 ⟨rfl, hb5⟩))
   all_goals go_wp2
   all_goals go_ret
   all_goals first
    | exact ⟨rfl, bnext (bnext HB1.out hc2) hb4⟩
    | exact ⟨rfl, bnext (bnext HB1.out hc3) hb5⟩
end Go.Proofs.YtoapelcofjjdnaaGreatDoor
namespace Go.Proofs.YtoapelcofjjdnaaGreatDoor
set_option linter.all false
open Go.RowKit
section
variable {a0 a1 a2 a3 a4 a5 a6 a7 : Nat}
theorem parse6_some (s : List UInt8) (h : pParse6 s = some [a0, a1, a2, a3, a4, a5, a6, a7]) (w : World) (hev : EV w) (hs : s.length ≤ 1000) :
  Calls Tryz.prog 44 #[.string (str s)] w fun e w' => e = .returned (.tuple #[.agg #[.int .u16 (a0 : Int), .int .u16 (a1 : Int), .int .u16 (a2 : Int), .int .u16 (a3 : Int), .int .u16 (a4 : Int), .int .u16 (a5 : Int), .int .u16 (a6 : Int), .int .u16 (a7 : Int)], .int .i64 0]) ∧ Below w.heap.size w w' :=
 (parse6_any s w hev hs).mono fun e w' ⟨he, hb⟩ => ⟨by rw [he, h]; rfl, hb⟩
end
theorem parse6_none (s : List UInt8) (h : pParse6 s = none) (w : World) (hev : EV w) (hs : s.length ≤ 1000) :
  Calls Tryz.prog 44 #[.string (str s)] w fun e w' => e = .returned (.tuple #[.agg #[.int .u16 0, .int .u16 0, .int .u16 0, .int .u16 0, .int .u16 0, .int .u16 0, .int .u16 0, .int .u16 0], .int .i64 5]) ∧ Below w.heap.size w w' :=
 (parse6_any s w hev hs).mono fun e w' ⟨he, hb⟩ => ⟨by rw [he, h, ret6_none], hb⟩
theorem Row.far {w : World} {g : Nat} {xs : List Value} (h : Row w g xs) (o : Obj) : Row (w.alloc o) g xs := h.below ((Below.refl w.heap.size w).alloc (Nat.le_refl _) o) h.2.2
def L8 (w : World) : Prop := EV w ∧ DBt w
theorem L8.next {w w' : World} (h : L8 w) (hb : Below w.heap.size w w') : L8 w' := ⟨h.1.next hb, h.2.next hb⟩
theorem show6_len {a : List Nat} (h : ∀ x ∈ a, x < 65536) (h8 : a.length = 8) : (pShow6 a).length ≤ 100 := by
 have h1 := hexs_len a h
 have h2 := hexs_len (a.take (rowI a 8).1) (fun x hx => h x (List.mem_of_mem_take hx))
 have h3 := hexs_len (a.drop ((rowI a 8).1 + (rowI a 8).2)) (fun x hx => h x (List.mem_of_mem_drop hx))
 rw [List.length_take] at h2
 rw [List.length_drop] at h3
 unfold pShow6 pShowD
 split
 · omega
 · rw [List.length_append, List.length_cons, List.length_cons]; omega
end Go.Proofs.YtoapelcofjjdnaaGreatDoor
namespace Go.Proofs.YtoapelcofjjdnaaGreatDoor
set_option linter.all false
open Go.RowKit
theorem gapRow_len {a : List Nat} (h16 : ∀ x ∈ a, x < 65536) (h8 : a.length = 8) (g n i : Nat) : (gapRow (digs 16) a g n i).length ≤ 90 := by
 have h1 := hexs_len (a.take i) (fun x hx => h16 x (List.mem_of_mem_take hx))
 have h2 := hexs_len (a.take g) (fun x hx => h16 x (List.mem_of_mem_take hx))
 have h3 := hexs_len ((a.take i).drop (g + n)) (fun x hx => h16 x (List.mem_of_mem_take (List.mem_of_mem_drop hx)))
 rw [List.length_take] at h1 h2
 rw [List.length_drop, List.length_take] at h3
 unfold gapRow
 split
 · omega
 · rw [List.length_append, List.length_cons, List.length_cons]; omega
theorem at_yes {a : List Nat} {i n d : Nat} {f : Int} (h : rAt (rowI a i) = f ∧ rLong (rowI a i) = n) (hz : zrun (a.drop i) = d) (hn : n < d) : rAt (rowI a (i + 1)) = (i : Int) ∧ rLong (rowI a (i + 1)) = d := by
 have := rAt_hit (a := a) (i := i) (by rw [h.2, hz]; exact hn)
 rw [hz] at this
 exact this
theorem at_no {a : List Nat} {i n d : Nat} {f : Int} (h : rAt (rowI a i) = f ∧ rLong (rowI a i) = n) (hz : zrun (a.drop i) = d) (hn : ¬ n < d) : rAt (rowI a (i + 1)) = f ∧ rLong (rowI a (i + 1)) = n := by
 have := rAt_miss (a := a) (i := i) (by rw [h.2, hz]; exact hn)
 rw [h.1, h.2] at this
 exact this
end Go.Proofs.YtoapelcofjjdnaaGreatDoor
namespace Go.Proofs.YtoapelcofjjdnaaGreatDoor
set_option linter.all false
open Go.RowKit
theorem hexTab : ∀ d, d < 16 → ({ data := #[48, 49, 50, 51, 52, 53, 54, 55, 56, 57, 97, 98, 99, 100, 101, 102] } : ByteArray).extract d (d + 1) = str [dch d] := by decide +kernel
set_option maxRecDepth 100000 in
set_option maxHeartbeats 4000000 in
theorem piece6r_any (n : Nat) (w : World) (hn : n < 65536) : Calls Tryz.prog 35 #[.int .u16 (n : Int)] w fun e w' => e = .returned (.string (str (digs 16 n))) ∧ Below w.heap.size w w' := by
 have hlen := Lib.hid (digs16_len hn)
 go_enter Tryz.func35, Tryz.ntmps35
 go_wp2
 go_loopg [0, 3] n (fun k s0 s3 wr => ∃ (m : Nat) (T : List UInt8), k = m ∧ s0 = .int .u16 (m : Int) ∧ s3 = .string (str T) ∧ m ≤ n ∧ T.length ≤ 4 ∧ Hid (digs 16 n = digs 16 m ++ T) ∧ w = wr)
 case atStart => exact ⟨n, [], rfl, rfl, rfl, Nat.le_refl _, by simp, (List.append_nil _).symm, rfl⟩
 case round =>
  obtain ⟨_, T, rfl, rfl, rfl, hm, hT, hD, rfl⟩ := hrel
  obtain ⟨d, hd⟩ : ∃ d : Nat, d = gk % 16 := ⟨_, rfl⟩
  obtain ⟨q, hq⟩ : ∃ q : Nat, q = gk / 16 := ⟨_, rfl⟩
  have hd16 : d < 16 := by omega
  have hrem : ((gk : Int)).tmod 16 = (d : Int) := by rw [hd]; exact (Int.ofNat_tmod gk 16).symm
  have hquo : ((gk : Int)).tdiv 16 = (q : Int) := by rw [hq]; exact (Int.ofNat_tdiv gk 16).symm
  have hv0 : IntKind.u16.wrap (d : Int) = (d : Int) := IntWalk.u16_in _ (by omega)
  have hv1 : IntKind.u16.wrap ((d : Int) + 1) = (d : Int) + 1 := IntWalk.u16_in _ (by omega)
  have hv3 : IntKind.u16.wrap (q : Int) = (q : Int) := IntWalk.u16_in _ (by omega)
  have hx1 : (d : Int) ≤ (d : Int) + 1 := by omega
  have hx2 : (d : Int) + 1 ≤ 16 := by omega
  have hx3 : (0 : Int) ≤ (d : Int) := by omega
  have hmid : ({ data := #[48, 49, 50, 51, 52, 53, 54, 55, 56, 57, 97, 98, 99, 100, 101, 102] } : ByteArray).extract d (d + 1) = str [dch d] := hexTab d hd16
  have e1 : str [dch d] ++ str T = str (dch d :: T) := str_app [dch d] T
  have y1 := str_size T
  have y2 : (str [dch d]).size = 1 := str_size [dch d]
  have k1 : (9223372036854775807 < 1 + T.length) = False := eq_false (by omega)
  by_cases hq1 : q = 0
  ·
   have HF := Lib.hid (show digs 16 n = dch d :: T by
    rw [hD.out, digs_small (show gk < 16 by omega), show d = gk by omega]; rfl)
   have hz : ((q : Int) == 0) = true := by rw [beq_iff_eq]; omega
   clear hd hq
   go_wp2
   go_ret
   exact ⟨by rw [HF.out]; rfl, Below.refl _ _⟩
  ·
   have HF := Lib.hid (show digs 16 n = digs 16 q ++ dch d :: T by
    rw [hD.out, digs_big (b := 16) (by decide) (show 16 ≤ gk by omega), ← hq, ← hd, List.append_assoc]; rfl)
   have hz : ((q : Int) == 0) = false := by rw [beq_eq_false_iff_ne]; omega
   have hqm : q < gk := by omega
   have HT := Lib.hid (show (dch d :: T).length ≤ 4 by
    have h1 := hlen.out
    rw [HF.out, List.length_append] at h1
    omega)
   clear hd hq hq1
   go_wp2
   go_roundg q
   case measure => omega
   case rel => exact ⟨q, dch d :: T, rfl, by go_num, rfl, by omega, HT.out, HF.out, rfl⟩
set_option maxRecDepth 100000 in
set_option maxHeartbeats 16000000 in
theorem show6r_any (a : List Nat) (a0 a1 a2 a3 a4 a5 a6 a7 : Nat) (ha : a = [a0, a1, a2, a3, a4, a5, a6, a7]) (h16 : ∀ x ∈ a, x < 65536) (w : World) :
  Calls Tryz.prog 16 #[.agg #[.int .u16 (a0 : Int), .int .u16 (a1 : Int), .int .u16 (a2 : Int), .int .u16 (a3 : Int), .int .u16 (a4 : Int), .int .u16 (a5 : Int), .int .u16 (a6 : Int), .int .u16 (a7 : Int)]] w fun e w' => e = .returned (.string (str (pShow6 a))) ∧ Below w.heap.size w w' := by
 have hb0 : Below w.heap.size w (w.alloc (.cells #[.int .u16 (a0 : Int), .int .u16 (a1 : Int), .int .u16 (a2 : Int), .int .u16 (a3 : Int), .int .u16 (a4 : Int), .int .u16 (a5 : Int), .int .u16 (a6 : Int), .int .u16 (a7 : Int)] 24)) := (Below.refl _ _).alloc (Nat.le_refl _) _
 have hR : Row (w.alloc (.cells #[.int .u16 (a0 : Int), .int .u16 (a1 : Int), .int .u16 (a2 : Int), .int .u16 (a3 : Int), .int .u16 (a4 : Int), .int .u16 (a5 : Int), .int .u16 (a6 : Int), .int .u16 (a7 : Int)] 24)) w.heap.size (u16s a) := by rw [ha]; exact Row.made w #[.int .u16 (a0 : Int), .int .u16 (a1 : Int), .int .u16 (a2 : Int), .int .u16 (a3 : Int), .int .u16 (a4 : Int), .int .u16 (a5 : Int), .int .u16 (a6 : Int), .int .u16 (a7 : Int)] 24
 have hl8 : a.length = 8 := by rw [ha]; rfl
 have H16 := Lib.hid h16
 clear ha h16
 go_enter Tryz.func16, Tryz.ntmps16
 go_wp2
 generalize w.alloc (.cells #[.int .u16 (a0 : Int), .int .u16 (a1 : Int), .int .u16 (a2 : Int), .int .u16 (a3 : Int), .int .u16 (a4 : Int), .int .u16 (a5 : Int), .int .u16 (a6 : Int), .int .u16 (a7 : Int)] 24) = wr at *
 go_loopg [3, 4, 5] 8 (fun k s5 s6 s7 wx => ∃ (i n : Nat) (f : Int), k = 8 - i ∧ i ≤ 8 ∧ s7 = .int .i64 (i : Int) ∧ s5 = .int .i64 f ∧ s6 = .int .i64 (n : Int) ∧ n ≤ 8 ∧ Hid (rAt (rowI a i) = f ∧ rLong (rowI a i) = n) ∧ wr = wx)
 case atStart => exact ⟨0, 1, -1, rfl, by omega, rfl, rfl, rfl, by omega, ⟨rfl, rfl⟩, rfl⟩
 case round =>
  obtain ⟨i, n, f, rfl, hi, rfl, rfl, rfl, hn, hrow, rfl⟩ := hrel
  by_cases hlt : i < 8
  ·
   have hi8 : (i : Int) < 8 := by omega
   go_wp2
   go_loopg [6] (8 - i) (fun k s8 wx => ∃ d : Nat, k = 8 - i - d ∧ i + d ≤ 8 ∧ s8 = .int .i64 (d : Int) ∧ Hid (zrun (a.drop i) = d + zrun (a.drop (i + d))) ∧ wr = wx)
   case atStart => exact ⟨0, rfl, by omega, rfl, by show _ = 0 + _; rw [Nat.zero_add]; rfl, rfl⟩
   case round =>
    obtain ⟨d, rfl, hd, rfl, hz, rfl⟩ := hrel
    have hw1 : IntKind.i64.wrap ((i : Int) + (d : Int)) = (i : Int) + (d : Int) := IntWalk.i64_in _ (by omega)
    obtain ⟨j, hj⟩ : ∃ j, j = i + d := ⟨_, rfl⟩
    have hsum : (i : Int) + (d : Int) = (j : Int) := by omega
    rw [hsum] at hw1
    rw [← hj] at hz hd
    by_cases hj8 : j < 8
    ·
     obtain ⟨x, hx⟩ : ∃ x, a[j]? = some x := ⟨_, List.getElem?_eq_getElem (by omega)⟩
     have hc := hR.1 j _ (u16s_get hx)
     have hj8' : (j : Int) < 8 := by omega
     have hj0 : (0 : Int) ≤ (j : Int) := by omega
     by_cases hx0 : x = 0
     ·
      subst hx0
      have HZ := Lib.hid (show zrun (a.drop i) = (d + 1) + zrun (a.drop (i + (d + 1))) by rw [hz.out, zrun_hit hx, show j + 1 = i + (d + 1) by omega]; omega)
      have hjd : i + (d + 1) ≤ 8 := by omega
      clear hx hj
      go_wp2
      go_roundg (8 - i - (d + 1))
      case measure => omega
      case rel => exact ⟨d + 1, rfl, hjd, by go_num, HZ.out, rfl⟩
     ·
      have hxb : ((x : Int) == 0) = false := by rw [beq_eq_false_iff_ne]; omega
      have HZ := Lib.hid (show zrun (a.drop i) = d by rw [hz.out, zrun_miss hx hx0]; omega)
      have hd8 : d ≤ 8 := by omega
      clear hx hx0 hj
      by_cases hdn : n < d
      ·
       have HR := Lib.hid (at_yes hrow.out HZ.out hdn)
       have hdnI : (n : Int) < (d : Int) := by omega
       go_wp2
       go_roundg (8 - (i + 1))
       case measure => omega
       case rel => exact ⟨i + 1, d, _, rfl, by omega, by go_num, rfl, rfl, by omega, HR.out, rfl⟩
      ·
       have HR := Lib.hid (at_no hrow.out HZ.out hdn)
       have hdnI : ¬ (n : Int) < (d : Int) := by omega
       go_wp2
       go_roundg (8 - (i + 1))
       case measure => omega
       case rel => exact ⟨i + 1, n, f, rfl, by omega, by go_num, rfl, rfl, hn, HR.out, rfl⟩
    ·
     have HZ := Lib.hid (show zrun (a.drop i) = d by rw [hz.out, zrun_end (by omega)]; omega)
     have hj8I : ¬ (j : Int) < 8 := by omega
     have hd8 : d ≤ 8 := by omega
     clear hj hj8
     by_cases hdn : n < d
     ·
      have HR := Lib.hid (at_yes hrow.out HZ.out hdn)
      have hdnI : (n : Int) < (d : Int) := by omega
      go_wp2
      go_roundg (8 - (i + 1))
      case measure => omega
      case rel => exact ⟨i + 1, d, _, rfl, by omega, by go_num, rfl, rfl, by omega, HR.out, rfl⟩
     ·
      have HR := Lib.hid (at_no hrow.out HZ.out hdn)
      have hdnI : ¬ (n : Int) < (d : Int) := by omega
      go_wp2
      go_roundg (8 - (i + 1))
      case measure => omega
      case rel => exact ⟨i + 1, n, f, rfl, by omega, by go_num, rfl, rfl, hn, HR.out, rfl⟩
  ·
   obtain rfl : i = 8 := by omega
   have HG := Lib.hid fun (i : Nat) (h : i < 8) => (show (i : Int) = f ↔ i = rowG a by have := gapG_at (s := rowI a 8) h; rw [hrow.out.1] at this; exact this)
   have HNN := Lib.hid (show rowN a = n from hrow.out.2)
   clear hrow hlt
   have HZ := Lib.hid (rowT_zero (a := a) hl8)
   have hng := rowN_pos (a := a) hl8
   have hgl := rowG_le (a := a) hl8
   have hgi := Lib.hid (rowG_in (a := a) hl8)
   have HGap := Lib.hid (rowT_gap (a := a) hl8)
   have HCs := Lib.hid fun (i x : Nat) (hx : a[i]? = some x) h1 h2 => rowT_cases hl8 H16.out hx (i := i) h1 h2
   have HL := Lib.hid fun i => (show (rowT a i).length ≤ 90 from gapRow_len H16.out hl8 _ _ i)
   have HE := Lib.hid (rowT_end (a := a) hl8)
   rw [HNN.out] at hng hgi HGap HCs
   obtain ⟨G, hG⟩ : ∃ G, G = rowG a := ⟨_, rfl⟩
   rw [← hG] at HG hgl hgi HGap HCs
   obtain ⟨W, hW⟩ : ∃ W, W = rowT a := ⟨_, rfl⟩
   rw [← hW] at HGap HCs HL HE HZ
   clear hG hW HNN
   go_wp2
   go_loopg [7, 8] 8 (fun k s9 s10 wx => ∃ i : Nat, k = 8 - i ∧ i ≤ 8 ∧ s9 = .string (str (W i)) ∧ s10 = .int .i64 (i : Int) ∧ (i ≤ G ∨ G + n ≤ i) ∧ Row wx w.heap.size (u16s a) ∧ Below w.heap.size w wx)
   case atStart => exact ⟨0, rfl, by omega, by rw [HZ.out]; rfl, rfl, .inl (Nat.zero_le _), hR, hb0⟩
   case round =>
    clear hR hb0
    obtain ⟨i, rfl, hi, rfl, rfl, hin, hR, hbel⟩ := hrel
    have hq0 := hbel.size
    by_cases hlt : i < 8
    ·
     have hi8 : (i : Int) < 8 := by omega
     have hi0 : (0 : Int) ≤ (i : Int) := by omega
     have hWl := HL.out i
     obtain ⟨S, hS⟩ : ∃ S, S = W i := ⟨_, rfl⟩
     rw [← hS] at hWl ⊢
     have ySS := str_size S
     by_cases hg : i = G
     ·
      have hfi := (HG.out i hlt).2 hg
      have hgn := hgi.out (by omega)
      obtain ⟨U, hU⟩ : ∃ Z0, Z0 = S ++ [58, 58] := ⟨_, rfl⟩
      have eU : str S ++ { data := #[58, 58] } = str U := (str_app S [58, 58]).trans (by rw [hU])
      have nU : U.length ≤ 100 := by rw [hU, List.length_append]; simp only [List.length_cons, List.length_nil]; omega
      have yU := str_size U
      have kU : (9223372036854775807 < S.length + 2) = False := eq_false (by omega)
      have HU := Lib.hid (show U = W (i + n) by rw [hU, hS, hg]; exact (HGap.out (by omega)).symm)
      have hw1 : IntKind.i64.wrap ((i : Int) + (n : Int)) = (i : Int) + (n : Int) := IntWalk.i64_in _ (by omega)
      have hw2 : IntKind.i64.wrap ((i : Int) + (n : Int) - 1) = (i : Int) + (n : Int) - 1 := IntWalk.i64_in _ (by omega)
      have hw3 : IntKind.i64.wrap ((i : Int) + (n : Int) - 1 + 1) = (i : Int) + (n : Int) := by rw [IntWalk.i64_in _ (by omega)]; omega
      clear hU hS
      go_wp2
      go_roundg (8 - (i + n))
      case measure => omega
      case rel => exact ⟨i + n, rfl, by omega, by rw [HU.out], by go_num, .inr (by omega), hR, hbel⟩
     ·
      have hfi : ((i : Int) == f) = false := by rw [beq_eq_false_iff_ne]; exact fun e => hg ((HG.out i hlt).1 e)
      obtain ⟨x, hx⟩ : ∃ x, a[i]? = some x := ⟨_, List.getElem?_eq_getElem (by omega)⟩
      have hx16 := H16.out x (List.mem_of_getElem? hx)
      have hc := hR.1 i _ (u16s_get hx)
      have hcs := HCs.out i x hx hg hin
      have hnx : i + 1 ≤ G ∨ G + n ≤ i + 1 := by omega
      rw [← hS] at hcs
      have hxl := digs16_len hx16
      have CP := Lib.hid (piece6r_any x wr hx16)
      obtain ⟨X, hX⟩ : ∃ X, X = digs 16 x := ⟨_, rfl⟩
      rw [← hX] at hcs hxl CP
      have y2 := str_size X
      have HCC := Lib.hid hcs
      clear hcs hx hS hX
      rcases HCC.out with ⟨h0, h1⟩ | ⟨p, h0, h1⟩ | ⟨p, c, h0, hc58, h1⟩
      ·
       subst h0
       have HU := Lib.hid h1.symm
       clear h1
       have e1 : ({ data := #[] } : ByteArray) ++ str X = str X := str_app [] X
       have e0 : str [] = { data := #[] } := rfl
       have etl : ({ data := #[] } : ByteArray).toList = [] := str_toL []
       have k1 : (9223372036854775807 < X.length) = False := eq_false (by omega)
       go_wp2_with (go_at_call 35; go_must (go_fit CP.out); rintro e w3 ⟨rfl, hb3⟩)
       go_roundg (8 - (i + 1))
       case measure => omega
       case rel => exact ⟨i + 1, rfl, by omega, by rw [← HU.out], by go_num, hnx, hR.below hb3 hR.2.2, hbel.trans (hb3.mono hq0)⟩
      ·
       have hl : S.length = p.length + 1 := by rw [h0]; simp
       have hgq : gb S p.length = 58 := by rw [h0]; unfold gb; rw [List.getD_eq_getElem?_getD, List.getElem?_append_right (Nat.le_refl _), Nat.sub_self]; rfl
       have HU := Lib.hid h1.symm
       have hgt := str_get S
       have htl := str_toL S
       have hne : S.isEmpty = false := by rw [h0]; simp
       have hn' : (S = []) = False := eq_false (by rw [h0]; simp)
       obtain ⟨q, hq⟩ : ∃ q, q = p.length := ⟨_, rfl⟩
       rw [← hq] at hl hgq
       rw [hl] at hWl ySS
       have e1 : str S ++ str X = str (S ++ X) := str_app S X
       have k1 : (9223372036854775807 < q + 1 + X.length) = False := eq_false (by omega)
       have hw1 : IntKind.i64.wrap ((q : Int)) = (q : Int) := IntWalk.i64_in _ (by omega)
       have hq1 : (0 : Int) ≤ (q : Int) := by omega
       clear h0 h1 hq
       go_wp2_with (go_at_call 35; go_must (go_fit CP.out); rintro e w3 ⟨rfl, hb3⟩)
       go_roundg (8 - (i + 1))
       case measure => omega
       case rel => exact ⟨i + 1, rfl, by omega, by rw [← HU.out], by go_num, hnx, hR.below hb3 hR.2.2, hbel.trans (hb3.mono hq0)⟩
      ·
       have hl : S.length = p.length + 1 := by rw [h0]; simp
       have hgq : gb S p.length = c := by rw [h0]; unfold gb; rw [List.getD_eq_getElem?_getD, List.getElem?_append_right (Nat.le_refl _), Nat.sub_self]; rfl
       have HU := Lib.hid h1.symm
       have hgt := str_get S
       have htl := str_toL S
       have hne : S.isEmpty = false := by rw [h0]; simp
       have hn' : (S = []) = False := eq_false (by rw [h0]; simp)
       have hcb : ((c.toNat : Int) == 58) = false := by rw [beq_eq_false_iff_ne]; exact fun e => hc58 (byte_ext (by show c.toNat = 58; omega))
       obtain ⟨q, hq⟩ : ∃ q, q = p.length := ⟨_, rfl⟩
       rw [← hq] at hl hgq
       rw [hl] at hWl ySS
       have e0 : str S ++ { data := #[58] } = str (S ++ [58]) := str_app S [58]
       have e1 : str (S ++ [58]) ++ str X = str (S ++ [58] ++ X) := str_app _ X
       have y3 : (str (S ++ [58])).size = q + 1 + 1 := by rw [str_size, List.length_append, hl]; rfl
       have k1 : (9223372036854775807 < q + 1 + 1) = False := eq_false (by omega)
       have k2 : (9223372036854775807 < q + 1 + 1 + X.length) = False := eq_false (by omega)
       have hw1 : IntKind.i64.wrap ((q : Int)) = (q : Int) := IntWalk.i64_in _ (by omega)
       have hq1 : (0 : Int) ≤ (q : Int) := by omega
       clear h0 h1 hq hc58
       go_wp2_with (go_at_call 35; go_must (go_fit CP.out); rintro e w3 ⟨rfl, hb3⟩)
       go_roundg (8 - (i + 1))
       case measure => omega
       case rel => exact ⟨i + 1, rfl, by omega, by rw [← HU.out]; simp, by go_num, hnx, hR.below hb3 hR.2.2, hbel.trans (hb3.mono hq0)⟩
    ·
     obtain rfl : i = 8 := by omega
     go_wp2
     go_ret
     exact ⟨by rw [← HE.out]; rfl, hbel⟩
end Go.Proofs.YtoapelcofjjdnaaGreatDoor
namespace Go.Proofs.YtoapelcofjjdnaaGreatDoor
set_option linter.all false
open Go.RowKit
theorem dec_fold_ge : ∀ (l : List UInt8) (n : Nat), l.all decOk = true → n * 10 ^ l.length ≤ l.foldl (fun n c => n * 10 + (c.toNat - 48)) n := by
 intro l
 induction l with
 | nil => intro n _; simp
 | cons c t ih =>
  intro n h
  rw [List.all_cons, Bool.and_eq_true] at h
  rw [List.foldl_cons, List.length_cons, Nat.pow_succ]
  have := ih (n * 10 + (c.toNat - 48)) h.2
  have h2 : n * 10 * 10 ^ t.length ≤ (n * 10 + (c.toNat - 48)) * 10 ^ t.length := Nat.mul_le_mul_right _ (by omega)
  have e : n * (10 ^ t.length * 10) = n * 10 * 10 ^ t.length := by rw [Nat.mul_assoc, Nat.mul_comm (10 ^ t.length)]
  omega
theorem dec_fold_lt : ∀ (l : List UInt8) (n : Nat), l.all decOk = true → l.foldl (fun n c => n * 10 + (c.toNat - 48)) n < (n + 1) * 10 ^ l.length := by
 intro l
 induction l with
 | nil => intro n _; simp
 | cons c t ih =>
  intro n h
  rw [List.all_cons, Bool.and_eq_true] at h
  have hc := of_decide_eq_true h.1
  rw [List.foldl_cons, List.length_cons, Nat.pow_succ]
  have := ih (n * 10 + (c.toNat - 48)) h.2
  have h2 : (n * 10 + (c.toNat - 48) + 1) * 10 ^ t.length ≤ ((n + 1) * 10) * 10 ^ t.length := Nat.mul_le_mul_right _ (by omega)
  have e : (n + 1) * (10 ^ t.length * 10) = ((n + 1) * 10) * 10 ^ t.length := by rw [Nat.mul_assoc, Nat.mul_comm (10 ^ t.length)]
  omega
theorem decN_lt (l : List UInt8) (h : l.all decOk = true) : decN l < 10 ^ l.length := by have := dec_fold_lt l 0 h; simpa [decN] using this
theorem rByte_prog (p : List UInt8) : rByte p = if 1 ≤ p.length ∧ p.length ≤ 3 ∧ ¬ (1 < p.length ∧ gb p 0 = 48) ∧ p.all decOk = true ∧ decN p ≤ 255 then some (decN p) else none := by
 unfold rByte
 by_cases ha : p.all decOk = true
 ·
  have key : okByte p = true ↔ 1 ≤ p.length ∧ p.length ≤ 3 ∧ ¬ (1 < p.length ∧ gb p 0 = 48) ∧ decN p ≤ 255 := by
   unfold okByte
   rw [decide_eq_true_iff]
   cases p with
   | nil => simp
   | cons c t =>
    have hg : gb (c :: t) 0 = c := rfl
    rw [hg]
    constructor
    ·
     rintro ⟨_, h2, h3⟩
     have hn : ¬ (1 < (c :: t).length ∧ c = 48) := by
      rintro ⟨h4, h5⟩
      rcases h3 with h3 | h3
      · injection h3 with _ h3; subst h3; simp at h4
      · exact h3 (by rw [h5]; rfl)
     refine ⟨by simp, ?_, hn, by omega⟩
     rcases Nat.lt_or_ge 3 (c :: t).length with h4 | h4
     ·
      exfalso
      have hc : c ≠ 48 := fun e => hn ⟨by omega, e⟩
      rw [List.all_cons, Bool.and_eq_true] at ha
      have hd := of_decide_eq_true ha.1
      have hc1 : 1 ≤ c.toNat - 48 := by
       have : c.toNat ≠ 48 := fun e => hc (byte_ext e)
       omega
      have h5 := dec_fold_ge t (0 * 10 + (c.toNat - 48)) ha.2
      have h6 : decN (c :: t) = t.foldl (fun n c => n * 10 + (c.toNat - 48)) (0 * 10 + (c.toNat - 48)) := rfl
      have h7 : 10 ^ 3 ≤ 10 ^ t.length := Nat.pow_le_pow_right (by decide) (by simp at h4; omega)
      have h8 : 1 * 10 ^ t.length ≤ (0 * 10 + (c.toNat - 48)) * 10 ^ t.length := Nat.mul_le_mul_right _ (by omega)
      have h9 : (10 : Nat) ^ 3 = 1000 := rfl
      omega
     · exact h4
    ·
     rintro ⟨_, h2, h3, h4⟩
     refine ⟨by simp, by omega, ?_⟩
     by_cases hc : c = 48
     ·
      left
      have : ¬ 1 < (c :: t).length := fun h => h3 ⟨h, hc⟩
      have ht : t = [] := List.eq_nil_of_length_eq_zero (by rw [List.length_cons] at this; omega)
      rw [hc, ht]
     ·
      right
      intro e
      injection e with e
      exact hc e
  by_cases hk : okByte p = true
  ·
   obtain ⟨k1, k2, k3, k4⟩ := key.1 hk
   rw [if_pos ⟨ha, hk⟩, if_pos ⟨k1, k2, k3, ha, k4⟩]
  · rw [if_neg (fun h => hk h.2), if_neg (fun h => hk (key.2 ⟨h.1, h.2.1, h.2.2.1, h.2.2.2.2⟩))]
 · rw [if_neg (fun h => ha h.1), if_neg (fun h => ha h.2.2.2.1)]
theorem rBytes_next {b cs : List (List UInt8)} {j : Nat} {p : List UInt8} {acc : List Nat} (h : rBytes b = (rBytes (cs.drop j)).map (acc ++ ·)) (hp : cs[j]? = some p) :
  (rByte p = none → rBytes b = none) ∧ ∀ n, rByte p = some n → rBytes b = (rBytes (cs.drop (j + 1))).map ((acc ++ [n]) ++ ·) := by
 obtain ⟨hj, e⟩ := List.getElem?_eq_some_iff.1 hp
 rw [List.drop_eq_getElem_cons hj, e, rBytes] at h
 constructor
 · intro h1; rw [h1] at h; exact h
 ·
  intro n h1
  rw [h1] at h
  rw [h]
  cases rBytes (cs.drop (j + 1)) with
  | none => rfl
  | some r => show some (acc ++ n :: r) = some (acc ++ [n] ++ r); simp
theorem take_all_next {P : UInt8 → Bool} {p : List UInt8} {k : Nat} (h : (tk p k).all P = true) (hk : k < p.length) (hp : P (gb p k) = true) : (tk p (k + 1)).all P = true := by
 rw [tk_next hk, List.all_append, h]
 simp [hp]
theorem not_all_at {P : UInt8 → Bool} {p : List UInt8} {k : Nat} (hk : k < p.length) (hp : P (gb p k) = false) : p.all P = false := by
 rw [Bool.eq_false_iff]
 intro h
 have := List.all_eq_true.1 h (gb p k) (List.mem_of_getElem? (gb_some hk))
 rw [hp] at this; cases this
theorem decN_next {p : List UInt8} {k : Nat} (hk : k < p.length) : decN (tk p (k + 1)) = decN (tk p k) * 10 + ((gb p k).toNat - 48) := by rw [tk_next hk, decN_snoc]
theorem tk_whole (p : List UInt8) : tk p p.length = p := List.take_length
def FourP (w : World) (o : Option (List Nat)) (e : Ending) (w' : World) : Prop :=
 match o with
 | none => e = .returned (.tuple #[.slice none 0 0, .bool false]) ∧ Below w.heap.size w w'
 | some l => ∃ g c, e = .returned (.tuple #[.slice (some ⟨g, 0, none⟩) l.length c, .bool true]) ∧ Rd w' w'.heap.size (some ⟨g, 0, none⟩) (u16s l) ∧ w.heap.size ≤ g ∧ Below w.heap.size w w'
theorem u16_pair {a b : Nat} (ha : a < 256) (hb : b < 256) : bits .or .u16 ((a : Int) * 256) (b : Int) = ((a * 256 + b : Nat) : Int) := by
 have e : ((a : Int) * 256) = ((a * 256 : Nat) : Int) := by omega
 rw [e, u16_or_nat _ _ (by omega) (by omega)]
 have h1 := Nat.shiftLeft_add_eq_or_of_lt (b := b) (i := 8) (show b < 2 ^ 8 from hb) a
 rw [Nat.shiftLeft_eq] at h1
 have : a * 2 ^ 8 = a * 256 := rfl
 rw [this] at h1
 rw [← h1]
set_option maxRecDepth 100000 in
set_option maxHeartbeats 16000000 in
theorem four6r_any (s : List UInt8) (w : World) (hs : s.length ≤ 1000) :
  Calls Tryz.prog 134 #[.string (str s)] w (FourP w (rFour s)) := by
 have C1 := Lib.hid (cut6_any s 46 w (by omega))
 have HP := Lib.hid (show rFour s = if (cuts 46 s).length = 4 then (rBytes (cuts 46 s)).map two else none from rfl)
 have HL := Lib.hid fun (p : List UInt8) (h : p ∈ cuts 46 s) => (show p.length ≤ 1000 by have := cuts_sum 46 s p h; omega)
 have hcl := cuts_le 46 s
 obtain ⟨cs, hcse⟩ : ∃ cs, cs = cuts 46 s := ⟨_, rfl⟩
 rw [← hcse] at C1 HP HL hcl
 clear hcse
 have h46 : ((46 : UInt8).toNat : Int) = 46 := rfl
 by_cases h4 : cs.length = 4
 ·
  have HP2 := Lib.hid (show rFour s = (rBytes cs).map two by rw [HP.out, if_pos h4])
  have h4b : ((cs.length : Int) != 4) = false := by simp [h4]
  clear HP
  go_enter Tryz.func134, Tryz.ntmps134
  go_wp2_with (go_at_call 100; go_must (go_fit C1.out); rintro e w1 ⟨v1, rfl, hown1, hb1⟩; obtain ⟨A1, c1, rfl, hc1, hm1, hr1⟩ := own_rdN hown1)
  clear hown1
  have hX0 : Row (w1.alloc (.cells #[.int .u16 0, .int .u16 0, .int .u16 0, .int .u16 0] 166)) w1.heap.size (u16s ([] ++ noughts (4 - 0))) := Row.made w1 #[.int .u16 0, .int .u16 0, .int .u16 0, .int .u16 0] 166
  have hbA := bnew hb1 (.cells #[.int .u16 0, .int .u16 0, .int .u16 0, .int .u16 0] 166)
  have hbB : Below w1.heap.size w1 (w1.alloc (.cells #[.int .u16 0, .int .u16 0, .int .u16 0, .int .u16 0] 166)) := (Below.refl _ _).alloc (Nat.le_refl _) _
  have hl4 : (cs.length : Int) = 4 := by omega
  go_loopg [6] 4 (fun k s6 wr => ∃ (i : Nat) (nums : List Nat), k = 4 - i ∧ i ≤ 4 ∧ s6 = .int .i64 (i : Int) ∧ nums.length = i ∧ Hid (∀ n ∈ nums, n < 256) ∧ Row wr w1.heap.size (u16s (nums ++ noughts (4 - i))) ∧ Hid (rBytes cs = (rBytes (cs.drop i)).map (nums ++ ·)) ∧ Below w.heap.size w wr ∧ Below w1.heap.size w1 wr)
  case atStart => exact ⟨0, [], rfl, by omega, rfl, rfl, (fun n h => by cases h), hX0, by show rBytes cs = (rBytes cs).map ([] ++ ·); cases rBytes cs <;> rfl, hbA, hbB⟩
  case round =>
   clear hX0 hbA hbB
   obtain ⟨i, nums, rfl, hi, rfl, hnl, hn256, hX, hinv, hbel, hbel1⟩ := hrel
   by_cases hlt : i < 4
   ·
    obtain ⟨b, off, p, rfl, hb', hc0, hx⟩ := hr1.str_at (k := i) (by omega)
    have hc := cell_on hbel1 hc0 hb'
    have hi4 : (i : Int) < 4 := by omega
    have hi0 : (0 : Int) ≤ (i : Int) := by omega
    have hil : (i : Int) < (cs.length : Int) := by omega
    have HNX := Lib.hid (rBytes_next hinv.out hx.out)
    have hRP := Lib.hid (rByte_prog p)
    have hpl := HL.out p (List.mem_of_getElem? hx.out)
    have hsz := str_size p
    have hgt := str_get p
    clear hx
    by_cases h1 : 1 ≤ p.length
    ·
     by_cases h3 : p.length ≤ 3
     ·
      have h1I : ¬ (p.length : Int) < 1 := by omega
      have h3I : ¬ (3 : Int) < (p.length : Int) := by omega
      by_cases h0 : 1 < p.length ∧ gb p 0 = 48
      ·
       have HN := Lib.hid (show rFour s = none by rw [HP2.out, HNX.out.1 (by rw [hRP.out, if_neg (fun h => h.2.2.1 h0)])]; rfl)
       have h0I : (1 : Int) < (p.length : Int) := by omega
       have h00 : (0 : Int) < (p.length : Int) := by omega
       have hg0 : gb p 0 = 48 := h0.2
       clear h0
       go_wp2
       go_ret2
       rw [HN.out]
       exact ⟨rfl, hbel⟩
      ·
       by_cases hl1 : 1 < p.length
       ·
        have h0I : (1 : Int) < (p.length : Int) := by omega
        have h00 : (0 : Int) < (p.length : Int) := by omega
        have hg0 : (((gb p 0).toNat : Int) == 48) = false := by
         rw [beq_eq_false_iff_ne]
         exact fun e => h0 ⟨hl1, byte_ext (by show (gb p 0).toNat = 48; omega)⟩
        have H0 := Lib.hid h0
        clear h0
        go_wp2
        go_loopg [7] p.length (fun k s7 wx => ∃ k' : Nat, k = p.length - k' ∧ k' ≤ p.length ∧ s7 = .int .i64 (k' : Int) ∧ Hid ((tk p k').all decOk = true) ∧ Row wx w1.heap.size (u16s (nums ++ [decN (tk p k')] ++ noughts (3 - i))) ∧ Below w.heap.size w wx ∧ Below w1.heap.size w1 wx)
        case atStart =>
         refine ⟨0, rfl, Nat.zero_le _, rfl, rfl, ?_, hbel, hbel1⟩
         have e : nums ++ [decN (tk p 0)] ++ noughts (3 - i) = nums ++ noughts (4 - i) := by
          rw [List.append_assoc, show 4 - i = (3 - i) + 1 by omega]; rfl
         rw [e]; exact hX
        case round =>
         clear hX hbel hbel1 hc
         obtain ⟨k, rfl, hk, rfl, hall, hX, hbel, hbel1⟩ := hrel
         have hc := cell_on hbel1 hc0 hb'
         obtain ⟨v, hv⟩ : ∃ v, v = decN (tk p k) := ⟨_, rfl⟩
         have hxi : (u16s (nums ++ [v] ++ noughts (3 - i)))[i]? = some (.int .u16 (v : Int)) := by
          refine u16s_get ?_
          rw [List.append_assoc, List.getElem?_append_right (by omega), hnl, Nat.sub_self]; rfl
         rw [← hv] at hX
         have hcx := hX.1 i _ hxi
         have hfx := hX.2.1 i (List.getElem?_eq_some_iff.1 hxi).1
         have hvl : v < 10 ^ k := by
          have := decN_lt _ hall.out
          rw [tk_len, Nat.min_eq_left hk] at this
          rw [hv]; exact this
         by_cases hkl : k < p.length
         ·
          have hkI : (k : Int) < (p.length : Int) := by omega
          have hk0 : (0 : Int) ≤ (k : Int) := by omega
          have hcb := byte_lt (gb p k)
          by_cases hd1 : 48 ≤ (gb p k).toNat
          ·
           by_cases hd2 : (gb p k).toNat ≤ 57
           ·
            have hd1I : ¬ ((gb p k).toNat : Int) < 48 := by omega
            have hd2I : ¬ (57 : Int) < ((gb p k).toNat : Int) := by omega
            have hv100 : v < 100 := Nat.lt_of_lt_of_le hvl (Nat.le_trans (Nat.pow_le_pow_right (by decide) (show k ≤ 2 by omega)) (by decide))
            have HA := Lib.hid (take_all_next hall.out hkl (decide_eq_true ⟨hd1, hd2⟩))
            obtain ⟨u, hu⟩ : ∃ u : Nat, u = v * 10 + ((gb p k).toNat - 48) := ⟨_, rfl⟩
            have HU := Lib.hid (show decN (tk p (k + 1)) = u by rw [decN_next hkl, ← hv, hu])
            have w1' : IntKind.u16.wrap ((v : Int) * 10) = (v : Int) * 10 := IntWalk.u16_in _ (by omega)
            have w2' : IntKind.u8.wrap (((gb p k).toNat : Int) - 48) = ((gb p k).toNat : Int) - 48 := IntWalk.u8_in _ (by omega)
            have w3' : IntKind.u16.wrap (((gb p k).toNat : Int) - 48) = ((gb p k).toNat : Int) - 48 := IntWalk.u16_in _ (by omega)
            have w4' : IntKind.u16.wrap ((v : Int) * 10 + (((gb p k).toNat : Int) - 48)) = (u : Int) := by rw [IntWalk.u16_in _ (by omega)]; omega
            have hSet := hX.set (j := i) (List.getElem?_eq_some_iff.1 hxi).1 (.int .u16 (u : Int))
            have eS : (u16s (nums ++ [v] ++ noughts (3 - i))).set i (.int .u16 (u : Int)) = u16s (nums ++ [u] ++ noughts (3 - i)) := by
             have : (nums ++ [v] ++ noughts (3 - i)).set i u = nums ++ [u] ++ noughts (3 - i) := by
              rw [List.append_assoc, List.set_append_right _ _ (by omega), hnl, Nat.sub_self, List.append_assoc]; rfl
             rw [← this]; unfold u16s; rw [List.map_set]
            rw [eS] at hSet
            have HSet := Lib.hid hSet
            have hbS := Lib.hid (hbel.setCell (p := ⟨w1.heap.size, i, none⟩) hb1.size (.int .u16 (u : Int)))
            have hbS1 := Lib.hid (hbel1.setCell (p := ⟨w1.heap.size, i, none⟩) (Nat.le_refl _) (.int .u16 (u : Int)))
            clear hv hu hvl hd1 hd2 hSet eS hxi
            go_wp2
            go_region
            all_goals go_wp2
            all_goals go_roundg (p.length - (k + 1))
            all_goals first
             | (case measure => omega)
             | (case rel => exact ⟨k + 1, rfl, by omega, by go_num, HA.out, by rw [HU.out]; exact HSet.out, hbS.out.drew, hbS1.out.drew⟩)
           ·
            have hd1I : ¬ ((gb p k).toNat : Int) < 48 := by omega
            have hd2I : (57 : Int) < ((gb p k).toNat : Int) := by omega
            have HN := Lib.hid (show rFour s = none by rw [HP2.out, HNX.out.1 (by rw [hRP.out, if_neg (fun h => by rw [not_all_at hkl (decide_eq_false (fun e => hd2 e.2))] at h; cases h.2.2.2.1)])]; rfl)
            clear hv hvl hxi hX
            go_wp2
            go_ret2
            rw [HN.out]
            exact ⟨rfl, hbel⟩
          ·
           have hd1I : ((gb p k).toNat : Int) < 48 := by omega
           have HN := Lib.hid (show rFour s = none by rw [HP2.out, HNX.out.1 (by rw [hRP.out, if_neg (fun h => by rw [not_all_at hkl (decide_eq_false (fun e => hd1 e.1))] at h; cases h.2.2.2.1)])]; rfl)
           clear hv hvl hxi hX
           go_wp2
           go_ret2
           rw [HN.out]
           exact ⟨rfl, hbel⟩
         ·
          obtain rfl : k = p.length := by omega
          have hall' := hall.out
          rw [tk_whole] at hv hall'
          by_cases h255 : v ≤ 255
          ·
           have h255I : ¬ (255 : Int) < (v : Int) := by omega
           have HI := Lib.hid (HNX.out.2 v (by rw [hRP.out, if_pos ⟨h1, h3, H0.out, hall', by rw [← hv]; exact h255⟩, hv]))
           have e : nums ++ [v] ++ noughts (3 - i) = (nums ++ [v]) ++ noughts (4 - (i + 1)) := by rw [show 4 - (i + 1) = 3 - i by omega]
           rw [e] at hX
           have HX := Lib.hid hX
           have HLT := Lib.hid (show ∀ n ∈ nums ++ [v], n < 256 from fun n hn => by
            rcases List.mem_append.1 hn with hn | hn
            · exact hn256.out n hn
            · rw [List.mem_singleton.1 hn]; omega)
           clear hv hvl hxi e hX
           go_wp2
           go_roundg (4 - (i + 1))
           case measure => omega
           case rel => exact ⟨i + 1, nums ++ [v], rfl, by omega, by go_num, by rw [List.length_append, hnl]; rfl, HLT.out, HX.out, HI.out, hbel, hbel1⟩
          ·
           have h255I : (255 : Int) < (v : Int) := by omega
           have HN := Lib.hid (show rFour s = none by rw [HP2.out, HNX.out.1 (by rw [hRP.out, if_neg (fun h => h255 (by rw [hv]; exact h.2.2.2.2))])]; rfl)
           clear hv hvl hxi hX
           go_wp2
           go_ret2
           rw [HN.out]
           exact ⟨rfl, hbel⟩
       ·
        have h0I : ¬ (1 : Int) < (p.length : Int) := by omega
        have H0 := Lib.hid h0
        clear h0
        go_wp2
        go_loopg [7] p.length (fun k s7 wx => ∃ k' : Nat, k = p.length - k' ∧ k' ≤ p.length ∧ s7 = .int .i64 (k' : Int) ∧ Hid ((tk p k').all decOk = true) ∧ Row wx w1.heap.size (u16s (nums ++ [decN (tk p k')] ++ noughts (3 - i))) ∧ Below w.heap.size w wx ∧ Below w1.heap.size w1 wx)
        case atStart =>
         refine ⟨0, rfl, Nat.zero_le _, rfl, rfl, ?_, hbel, hbel1⟩
         have e : nums ++ [decN (tk p 0)] ++ noughts (3 - i) = nums ++ noughts (4 - i) := by
          rw [List.append_assoc, show 4 - i = (3 - i) + 1 by omega]; rfl
         rw [e]; exact hX
        case round =>
         clear hX hbel hbel1 hc
         obtain ⟨k, rfl, hk, rfl, hall, hX, hbel, hbel1⟩ := hrel
         have hc := cell_on hbel1 hc0 hb'
         obtain ⟨v, hv⟩ : ∃ v, v = decN (tk p k) := ⟨_, rfl⟩
         have hxi : (u16s (nums ++ [v] ++ noughts (3 - i)))[i]? = some (.int .u16 (v : Int)) := by
          refine u16s_get ?_
          rw [List.append_assoc, List.getElem?_append_right (by omega), hnl, Nat.sub_self]; rfl
         rw [← hv] at hX
         have hcx := hX.1 i _ hxi
         have hfx := hX.2.1 i (List.getElem?_eq_some_iff.1 hxi).1
         have hvl : v < 10 ^ k := by
          have := decN_lt _ hall.out
          rw [tk_len, Nat.min_eq_left hk] at this
          rw [hv]; exact this
         by_cases hkl : k < p.length
         ·
          have hkI : (k : Int) < (p.length : Int) := by omega
          have hk0 : (0 : Int) ≤ (k : Int) := by omega
          have hcb := byte_lt (gb p k)
          by_cases hd1 : 48 ≤ (gb p k).toNat
          ·
           by_cases hd2 : (gb p k).toNat ≤ 57
           ·
            have hd1I : ¬ ((gb p k).toNat : Int) < 48 := by omega
            have hd2I : ¬ (57 : Int) < ((gb p k).toNat : Int) := by omega
            have hv100 : v < 100 := Nat.lt_of_lt_of_le hvl (Nat.le_trans (Nat.pow_le_pow_right (by decide) (show k ≤ 2 by omega)) (by decide))
            have HA := Lib.hid (take_all_next hall.out hkl (decide_eq_true ⟨hd1, hd2⟩))
            obtain ⟨u, hu⟩ : ∃ u : Nat, u = v * 10 + ((gb p k).toNat - 48) := ⟨_, rfl⟩
            have HU := Lib.hid (show decN (tk p (k + 1)) = u by rw [decN_next hkl, ← hv, hu])
            have w1' : IntKind.u16.wrap ((v : Int) * 10) = (v : Int) * 10 := IntWalk.u16_in _ (by omega)
            have w2' : IntKind.u8.wrap (((gb p k).toNat : Int) - 48) = ((gb p k).toNat : Int) - 48 := IntWalk.u8_in _ (by omega)
            have w3' : IntKind.u16.wrap (((gb p k).toNat : Int) - 48) = ((gb p k).toNat : Int) - 48 := IntWalk.u16_in _ (by omega)
            have w4' : IntKind.u16.wrap ((v : Int) * 10 + (((gb p k).toNat : Int) - 48)) = (u : Int) := by rw [IntWalk.u16_in _ (by omega)]; omega
            have hSet := hX.set (j := i) (List.getElem?_eq_some_iff.1 hxi).1 (.int .u16 (u : Int))
            have eS : (u16s (nums ++ [v] ++ noughts (3 - i))).set i (.int .u16 (u : Int)) = u16s (nums ++ [u] ++ noughts (3 - i)) := by
             have : (nums ++ [v] ++ noughts (3 - i)).set i u = nums ++ [u] ++ noughts (3 - i) := by
              rw [List.append_assoc, List.set_append_right _ _ (by omega), hnl, Nat.sub_self, List.append_assoc]; rfl
             rw [← this]; unfold u16s; rw [List.map_set]
            rw [eS] at hSet
            have HSet := Lib.hid hSet
            have hbS := Lib.hid (hbel.setCell (p := ⟨w1.heap.size, i, none⟩) hb1.size (.int .u16 (u : Int)))
            have hbS1 := Lib.hid (hbel1.setCell (p := ⟨w1.heap.size, i, none⟩) (Nat.le_refl _) (.int .u16 (u : Int)))
            clear hv hu hvl hd1 hd2 hSet eS hxi
            go_wp2
            go_region
            all_goals go_wp2
            all_goals go_roundg (p.length - (k + 1))
            all_goals first
             | (case measure => omega)
             | (case rel => exact ⟨k + 1, rfl, by omega, by go_num, HA.out, by rw [HU.out]; exact HSet.out, hbS.out.drew, hbS1.out.drew⟩)
           ·
            have hd1I : ¬ ((gb p k).toNat : Int) < 48 := by omega
            have hd2I : (57 : Int) < ((gb p k).toNat : Int) := by omega
            have HN := Lib.hid (show rFour s = none by rw [HP2.out, HNX.out.1 (by rw [hRP.out, if_neg (fun h => by rw [not_all_at hkl (decide_eq_false (fun e => hd2 e.2))] at h; cases h.2.2.2.1)])]; rfl)
            clear hv hvl hxi hX
            go_wp2
            go_ret2
            rw [HN.out]
            exact ⟨rfl, hbel⟩
          ·
           have hd1I : ((gb p k).toNat : Int) < 48 := by omega
           have HN := Lib.hid (show rFour s = none by rw [HP2.out, HNX.out.1 (by rw [hRP.out, if_neg (fun h => by rw [not_all_at hkl (decide_eq_false (fun e => hd1 e.1))] at h; cases h.2.2.2.1)])]; rfl)
           clear hv hvl hxi hX
           go_wp2
           go_ret2
           rw [HN.out]
           exact ⟨rfl, hbel⟩
         ·
          obtain rfl : k = p.length := by omega
          have hall' := hall.out
          rw [tk_whole] at hv hall'
          by_cases h255 : v ≤ 255
          ·
           have h255I : ¬ (255 : Int) < (v : Int) := by omega
           have HI := Lib.hid (HNX.out.2 v (by rw [hRP.out, if_pos ⟨h1, h3, H0.out, hall', by rw [← hv]; exact h255⟩, hv]))
           have e : nums ++ [v] ++ noughts (3 - i) = (nums ++ [v]) ++ noughts (4 - (i + 1)) := by rw [show 4 - (i + 1) = 3 - i by omega]
           rw [e] at hX
           have HX := Lib.hid hX
           have HLT := Lib.hid (show ∀ n ∈ nums ++ [v], n < 256 from fun n hn => by
            rcases List.mem_append.1 hn with hn | hn
            · exact hn256.out n hn
            · rw [List.mem_singleton.1 hn]; omega)
           clear hv hvl hxi e hX
           go_wp2
           go_roundg (4 - (i + 1))
           case measure => omega
           case rel => exact ⟨i + 1, nums ++ [v], rfl, by omega, by go_num, by rw [List.length_append, hnl]; rfl, HLT.out, HX.out, HI.out, hbel, hbel1⟩
          ·
           have h255I : (255 : Int) < (v : Int) := by omega
           have HN := Lib.hid (show rFour s = none by rw [HP2.out, HNX.out.1 (by rw [hRP.out, if_neg (fun h => h255 (by rw [hv]; exact h.2.2.2.2))])]; rfl)
           clear hv hvl hxi hX
           go_wp2
           go_ret2
           rw [HN.out]
           exact ⟨rfl, hbel⟩
     ·
      have HN := Lib.hid (show rFour s = none by rw [HP2.out, HNX.out.1 (by rw [hRP.out, if_neg (fun h => h3 h.2.1)])]; rfl)
      have h1I : ¬ (p.length : Int) < 1 := by omega
      have h3I : (3 : Int) < (p.length : Int) := by omega
      go_wp2
      go_ret2
      rw [HN.out]
      exact ⟨rfl, hbel⟩
    ·
     have HN := Lib.hid (show rFour s = none by rw [HP2.out, HNX.out.1 (by rw [hRP.out, if_neg (fun h => h1 h.1)])]; rfl)
     have h1I : (p.length : Int) < 1 := by omega
     go_wp2
     go_ret2
     rw [HN.out]
     exact ⟨rfl, hbel⟩
   ·
    obtain rfl : i = 4 := by omega
    obtain ⟨a, b, c, d, rfl⟩ : ∃ a b c d, nums = [a, b, c, d] := by
     match nums, hnl with
     | [a, b, c, d], _ => exact ⟨a, b, c, d, rfl⟩
    have HN := Lib.hid (show rFour s = some [a * 256 + b, c * 256 + d] by
     rw [HP2.out, hinv.out, List.drop_eq_nil_of_le (by omega)]; rfl)
    have x0 := hX.1 0 _ rfl
    have x1 := hX.1 1 _ rfl
    have x2 := hX.1 2 _ rfl
    have x3 := hX.1 3 _ rfl
    have ha := hn256.out a (by simp)
    have hb := hn256.out b (by simp)
    have hcc := hn256.out c (by simp)
    have hd := hn256.out d (by simp)
    have o1 := u16_pair ha hb
    have o2 := u16_pair hcc hd
    go_wp2
    go_ret2
    rw [HN.out]
    refine ⟨wr.heap.size, 2, rfl, ?_, hbel.size, hbel.alloc hbel.size _⟩
    have := @Rd.lit wr #[.int .u16 ((a * 256 + b : Nat) : Int), .int .u16 ((c * 256 + d : Nat) : Int)] 23 (0, 0)
    simpa [u16s] using this
 ·
  have HP2 := Lib.hid (show rFour s = none by rw [HP.out, if_neg h4])
  have h4b : ((cs.length : Int) != 4) = true := by simp; omega
  rw [HP2.out]
  clear HP h4
  go_enter Tryz.func134, Tryz.ntmps134
  go_wp2_with (go_at_call 100; go_must (go_fit C1.out); rintro e w1 ⟨v1, rfl, hown1, hb1⟩; obtain ⟨A1, c1, rfl, hc1, hm1, hr1⟩ := own_rdN hown1)
  go_ret2
  exact ⟨rfl, hb1⟩
end Go.Proofs.YtoapelcofjjdnaaGreatDoor
namespace Go.Proofs.YtoapelcofjjdnaaGreatDoor
set_option linter.all false
open Go.RowKit
theorem rGo_step {tail : Bool} {b cs : List (List UInt8)} {j : Nat} {p : List UInt8} {acc : List Nat} (h : rGo tail b = (rGo tail (cs.drop j)).map (acc ++ ·)) (hp : cs[j]? = some p) :
  ((tail = true ∧ j + 1 = cs.length ∧ (46 : UInt8) ∈ p) → rGo tail b = (rFour p).map (acc ++ ·)) ∧
  (¬ (tail = true ∧ j + 1 = cs.length ∧ (46 : UInt8) ∈ p) → (rPiece p = none → rGo tail b = none) ∧ ∀ n, rPiece p = some n → rGo tail b = (rGo tail (cs.drop (j + 1))).map ((acc ++ [n]) ++ ·)) := by
 obtain ⟨hj, e⟩ := List.getElem?_eq_some_iff.1 hp
 have hnil : cs.drop (j + 1) = [] ↔ j + 1 = cs.length := by
  constructor
  ·
   intro h0
   have := congrArg List.length h0
   rw [List.length_drop, List.length_nil] at this
   omega
  · intro h0; exact List.drop_eq_nil_of_le (by omega)
 rw [List.drop_eq_getElem_cons hj, e, rGo] at h
 constructor
 ·
  rintro ⟨h1, h2, h3⟩
  rw [if_pos ⟨h1, hnil.2 h2, h3⟩] at h
  exact h
 ·
  intro hn
  rw [if_neg (fun e => hn ⟨e.1, hnil.1 e.2.1, e.2.2⟩)] at h
  constructor
  · intro h1; rw [h1] at h; exact h
  ·
   intro n h1
   rw [h1] at h
   rw [h]
   cases rGo tail (cs.drop (j + 1)) with
   | none => rfl
   | some r => show some (acc ++ n :: r) = some (acc ++ [n] ++ r); simp
def PiecesP (w : World) (o : Option (List Nat)) (e : Ending) (w' : World) : Prop :=
 match o with
 | none => ∃ A n c, e = .returned (.tuple #[.slice A n c, .bool false]) ∧ Below w.heap.size w w'
 | some l => ∃ A c, e = .returned (.tuple #[.slice A l.length c, .bool true]) ∧ Rd w' w'.heap.size A (u16s l) ∧ l.length ≤ c ∧ c ≤ maxLen ∧ (∀ k, (Value.slice A l.length c).ownBlock = some k → w.heap.size ≤ k) ∧ Below w.heap.size w w'
theorem hexN_next {p : List UInt8} {k : Nat} (hk : k < p.length) : hexN (tk p (k + 1)) = hexN (tk p k) * 16 + (hexV (gb p k)).toNat := by rw [tk_next hk, hexN_snoc]
theorem hexV_lt16 : ∀ c : UInt8, hexV c < 16 := by
 have h : ∀ n, n < 256 → hexV (UInt8.ofNat n) < 16 := by decide +kernel
 intro c
 have := h c.toNat (byte_lt c)
 rwa [UInt8.ofNat_toNat] at this
theorem hex_fold_lt : ∀ (l : List UInt8) (n : Nat), l.foldl (fun n c => n * 16 + (hexV c).toNat) n < (n + 1) * 16 ^ l.length := by
 intro l
 induction l with
 | nil => intro n; simp
 | cons c t ih =>
  intro n
  have hc := hexV_lt16 c
  rw [List.foldl_cons, List.length_cons, Nat.pow_succ]
  have := ih (n * 16 + (hexV c).toNat)
  have h2 : (n * 16 + (hexV c).toNat + 1) * 16 ^ t.length ≤ ((n + 1) * 16) * 16 ^ t.length := Nat.mul_le_mul_right _ (by omega)
  have e : (n + 1) * (16 ^ t.length * 16) = ((n + 1) * 16) * 16 ^ t.length := by rw [Nat.mul_assoc, Nat.mul_comm (16 ^ t.length)]
  omega
theorem hexN_lt (l : List UInt8) : hexN l < 16 ^ l.length := by have := hex_fold_lt l 0; simpa [hexN] using this
theorem u16_hex {v d : Nat} (hv : v < 4096) (hd : d < 16) : bits .or .u16 ((v : Int) * 16) (d : Int) = ((v * 16 + d : Nat) : Int) := by
 have e : ((v : Int) * 16) = ((v * 16 : Nat) : Int) := by omega
 rw [e, u16_or_nat _ _ (by omega) (by omega)]
 have h1 := Nat.shiftLeft_add_eq_or_of_lt (b := d) (i := 4) (show d < 2 ^ 4 from hd) v
 rw [Nat.shiftLeft_eq] at h1
 have : v * 2 ^ 4 = v * 16 := rfl
 rw [this] at h1
 rw [← h1]
set_option maxRecDepth 100000 in
set_option maxHeartbeats 16000000 in
theorem pieces6r_any (s : List UInt8) (tl : Bool) (w : World) (hs : s.length ≤ 1000) :
  Calls Tryz.prog 105 #[.string (str s), .bool tl] w (PiecesP w (rPieces tl s)) := by
 have C1 := Lib.hid (cut6_any s 58 w (by omega))
 have HL := Lib.hid fun (p : List UInt8) (h : p ∈ cuts 58 s) => (show p.length ≤ 1000 by have := cuts_sum 58 s p h; omega)
 have hcl := cuts_le 58 s
 have h58 : ((58 : UInt8).toNat : Int) = 58 := rfl
 have htl := str_toL s
 by_cases h0 : s = []
 ·
  have HP := Lib.hid (show rPieces tl s = some [] by unfold rPieces; rw [if_pos h0])
  subst h0
  have e0 : str [] = { data := #[] } := rfl
  go_enter Tryz.func105, Tryz.ntmps105
  go_wp2
  go_ret2
  rw [HP.out]
  exact ⟨none, 0, rfl, Rd.nil, Nat.le_refl _, by simp [maxLen], (fun k h => by cases h), Below.refl _ _⟩
 ·
  have HP := Lib.hid (show rPieces tl s = rGo tl (cuts 58 s) by unfold rPieces; rw [if_neg h0])
  have hne : s.isEmpty = false := by cases s with
   | nil => exact absurd rfl h0
   | cons a b => rfl
  have hn : (s = []) = False := eq_false h0
  obtain ⟨cs, hcse⟩ : ∃ cs, cs = cuts 58 s := ⟨_, rfl⟩
  rw [← hcse] at C1 HP HL hcl
  clear hcse h0
  go_enter Tryz.func105, Tryz.ntmps105
  go_wp2_with (go_at_call 100; go_must (go_fit C1.out); rintro e w1 ⟨v1, rfl, hown1, hb1⟩; obtain ⟨A1, c1, rfl, hc1, hm1, hr1⟩ := own_rdN hown1)
  clear hown1
  go_loopg [7, 8] cs.length (fun k s7 s8 wr => ∃ (i : Nat) (acc : List Nat) (A' : Option Addr) (c' : Nat), k = cs.length - i ∧ i ≤ cs.length ∧ s8 = .int .i64 (i : Int) ∧ s7 = .slice A' acc.length c' ∧
   wr.ownsRow w1.heap.size 23 1 (.slice A' acc.length c') acc.length (u16s acc) ∧ acc.length ≤ i ∧ Hid (rGo tl cs = (rGo tl (cs.drop i)).map (acc ++ ·)) ∧ Below w.heap.size w wr ∧ Below w1.heap.size w1 wr)
  case atStart => exact ⟨0, [], none, 0, rfl, Nat.zero_le _, rfl, rfl, World.ownsRow_nil _ _ _ _, Nat.le_refl _, by show rGo tl cs = (rGo tl cs).map ([] ++ ·); cases rGo tl cs <;> rfl, hb1, Below.refl _ _⟩
  case round =>
   obtain ⟨i, acc, A', c', rfl, hi, rfl, rfl, hown, hal, hinv, hbel, hbel1⟩ := hrel
   by_cases hlt : i < cs.length
   ·
    obtain ⟨b, off, p, rfl, hb', hc, hx⟩ := (hr1.below hbel1).str_at (k := i) hlt
    have hil : (i : Int) < (cs.length : Int) := by omega
    have hi0 : (0 : Int) ≤ (i : Int) := by omega
    have HST := Lib.hid (rGo_step hinv.out hx.out)
    have hpl := HL.out p (List.mem_of_getElem? hx.out)
    have hsz := str_size p
    have hgt := str_get p
    have CH := Lib.hid fun w => has6_any p 46 w (by omega)
    have h46 : ((46 : UInt8).toNat : Int) = 46 := rfl
    have hw1 : IntKind.i64.wrap ((cs.length : Int) - 1) = (cs.length : Int) - 1 := IntWalk.i64_in _ (by omega)
    clear hx
    cases tl with
    | false =>
     have HS := Lib.hid (HST.out.2 (fun h => by cases h.1))
     clear HST
     by_cases h1 : 1 ≤ p.length ∧ p.length ≤ 4
     ·
      have h1I : ¬ (p.length : Int) < 1 := by omega
      have h4I : ¬ (4 : Int) < (p.length : Int) := by omega
      go_wp2
      go_loopg [11, 12] p.length (fun k s11 s12 wx => ∃ k' : Nat, k = p.length - k' ∧ k' ≤ p.length ∧ s11 = .int .u16 ((hexN (tk p k') : Nat) : Int) ∧ s12 = .int .i64 (k' : Int) ∧ Hid ((tk p k').all hexOk = true) ∧ wr = wx)
      case atStart => exact ⟨0, rfl, Nat.zero_le _, rfl, rfl, rfl, rfl⟩
      case round =>
       obtain ⟨k, rfl, hk, rfl, rfl, hall, rfl⟩ := hrel
       obtain ⟨v, hv⟩ : ∃ v, v = hexN (tk p k) := ⟨_, rfl⟩
       have hvl : v < 16 ^ k := by
        have := hexN_lt (tk p k)
        rw [tk_len, Nat.min_eq_left hk] at this
        rw [hv]; exact this
       rw [← hv]
       by_cases hkl : k < p.length
       ·
        have hkI : (k : Int) < (p.length : Int) := by omega
        have hk0 : (0 : Int) ≤ (k : Int) := by omega
        have hd16 := hexV_lt16 (gb p k)
        have CX := Lib.hid (hex6_any (gb p k) wr)
        by_cases hd : 0 ≤ hexV (gb p k)
        ·
         have HA := Lib.hid (take_all_next hall.out hkl (decide_eq_true hd))
         obtain ⟨d, hde⟩ : ∃ d : Nat, d = (hexV (gb p k)).toNat := ⟨_, rfl⟩
         have hdI : hexV (gb p k) = (d : Int) := by omega
         have HU := Lib.hid (show hexN (tk p (k + 1)) = v * 16 + d by rw [hexN_next hkl, ← hv, ← hde])
         have hv4096 : v < 4096 := Nat.lt_of_lt_of_le hvl (Nat.le_trans (Nat.pow_le_pow_right (by decide) (show k ≤ 3 by omega)) (by decide))
         have w1' : IntKind.u16.wrap ((v : Int) * 16) = (v : Int) * 16 := IntWalk.u16_in _ (by omega)
         have w2' : IntKind.u16.wrap (d : Int) = (d : Int) := IntWalk.u16_in _ (by omega)
         have w3' := u16_hex hv4096 (show d < 16 by omega)
         have hdneg : ¬ (d : Int) < 0 := by omega
         rw [hdI] at CX
         clear hv hvl hd hde hdI hd16
         go_wp2_with (go_at_call 109; go_must (go_fit CX.out); rintro e w4 ⟨rfl, rfl⟩)
         go_roundg (p.length - (k + 1))
         case measure => omega
         case rel => exact ⟨k + 1, rfl, by omega, (by rw [HU.out]; go_num), by go_num, HA.out, rfl⟩
        ·
         have HN := Lib.hid (show rGo false cs = none from HS.out.1 (by
          unfold rPiece
          rw [if_neg (fun h => by rw [not_all_at hkl (decide_eq_false hd)] at h; cases h.2)]))
         have hdI : hexV (gb p k) < 0 := by omega
         clear hv hvl hd hd16
         go_wp2_with (go_at_call 109; go_must (go_fit CX.out); rintro e w4 ⟨rfl, rfl⟩)
         go_ret2
         rw [HP.out, HN.out]
         exact ⟨_, _, _, rfl, hbel⟩
       ·
        obtain rfl : k = p.length := by omega
        have hall' := hall.out
        rw [tk_whole] at hv hall'
        have HI := Lib.hid (HS.out.2 v (by unfold rPiece; rw [if_pos ⟨decide_eq_true h1, hall'⟩, hv]))
        have hkI : ¬ (p.length : Int) < (p.length : Int) := by omega
        have HO := Lib.hid hown
        clear hv hvl hall' hown
        go_wp2_with (at_builtin; go_loud (refine wpList_append_lit rfl _ _ _ rfl w1.heap.size _ _ 1 2 Tryz.underlying72 info_u16 rfl (by decide) _ _ _ rfl HO.out _ 1 1 _ rfl rfl (by simp [Value.oneCell']) (by omega) (by decide) (by have := hbel1.size; omega) ?_; intro A5 c5 w5 hc5 hm5 hown5 hb5 hg5))
        go_roundg (cs.length - (i + 1))
        case measure => omega
        case rel =>
         have el : (acc ++ [v]).length = acc.length + 1 := by rw [List.length_append]; rfl
         refine ⟨i + 1, acc ++ [v], A5, c5, rfl, by omega, by go_num, by rw [el], ?_, by rw [el]; omega, HI.out, hbel.trans (hb5.mono hb1.size), hbel1.trans hb5⟩
         rw [el]
         have e : u16s (acc ++ [v]) = u16s acc ++ #[Value.int .u16 (v : Int)].toList := by unfold u16s; rw [List.map_append]; rfl
         rw [e]; exact hown5
     ·
      have HN := Lib.hid (show rGo false cs = none from HS.out.1 (by
       unfold rPiece
       rw [if_neg (fun h => h1 (of_decide_eq_true h.1))]))
      by_cases h0 : 1 ≤ p.length
      ·
       have h1I : ¬ (p.length : Int) < 1 := by omega
       have h4I : (4 : Int) < (p.length : Int) := by omega
       clear h1
       go_wp2
       go_ret2
       rw [HP.out, HN.out]
       exact ⟨_, _, _, rfl, hbel⟩
      ·
       have h1I : (p.length : Int) < 1 := by omega
       clear h1
       go_wp2
       go_ret2
       rw [HP.out, HN.out]
       exact ⟨_, _, _, rfl, hbel⟩
    | true =>
     by_cases hl : i + 1 = cs.length
     ·
      have hlst : ((i : Int) == (cs.length : Int) - 1) = true := by rw [beq_iff_eq]; omega
      by_cases hd : (46 : UInt8) ∈ p
      ·
       have hct : p.contains 46 = true := by simpa using hd
       have HF := Lib.hid (HST.out.1 ⟨rfl, hl, hd⟩)
       rw [hct] at CH
       have C4 := Lib.hid (four6r_any p wr hpl)
       have HO := Lib.hid hown
       have hm1' := hbel1.size
       have hb1' := hb1.size
       clear hd hct HST hinv
       cases hF : rFour p with
       | none =>
        have HN := Lib.hid (show rPieces true s = none by rw [HP.out, HF.out, hF]; rfl)
        rw [hF] at C4
        have C4 := Lib.hid (show Calls Tryz.prog 134 #[.string (str p)] wr fun e w' => e = .returned (.tuple #[.slice none 0 0, .bool false]) ∧ Below wr.heap.size wr w' from C4.out)
        clear hF HF
        go_wp2_with (first
         | (go_at_call 68; go_must (go_fit (CH.out wr)); rintro e w3 ⟨rfl, rfl⟩)
         | (go_at_call 134; go_must (go_fit C4.out); rintro e w4 ⟨rfl, hb4⟩; have HO4 := own_below HO.out hb4 (Nat.le_refl _); have hq4 := hb4.size)
         | (at_builtin; go_loud (refine wpList_append_rd rfl _ _ _ rfl w1.heap.size _ _ 2 Tryz.underlying72 info_u16 rfl _ _ _ rfl HO4 0 none 0 0 [] rfl rfl Rd.nil (by simp) (by omega) (by decide) (by omega) ?_; intro A5 c5 w5 hc5 hm5 hown5 hb5 hg5)))
        go_ret2
        rw [HN.out]
        exact ⟨_, _, _, rfl, (hbel.trans (hb4.mono hbel.size)).trans (hb5.mono hb1.size)⟩
       | some m =>
        have HN := Lib.hid (show rPieces true s = some (acc ++ m) by rw [HP.out, HF.out, hF]; rfl)
        have hm2 : m.length = 2 := by
         unfold rFour at hF
         split at hF
         ·
          cases e : rBytes (cuts 46 p) with
          | none => rw [e] at hF; cases hF
          | some r =>
           rw [e] at hF
           injection hF with hF
           have hr4 : r.length = 4 := by
            have key : ∀ (l : List (List UInt8)) (r : List Nat), rBytes l = some r → r.length = l.length := by
             intro l
             induction l with
             | nil => intro r h; injection h with h; rw [← h]; rfl
             | cons a l ih =>
              intro r h
              rw [rBytes] at h
              cases e1 : rByte a with
              | none => rw [e1] at h; cases h
              | some n =>
               rw [e1] at h
               cases e2 : rBytes l with
               | none => rw [e2] at h; cases h
               | some r2 =>
                rw [e2] at h
                injection h with h
                rw [← h, List.length_cons, ih r2 e2, List.length_cons]
            rw [key _ _ e]; assumption
           match r, hr4 with
           | [a, b, c, d], _ => rw [← hF]; rfl
         · cases hF
        rw [hF] at C4
        have C4 := Lib.hid (show Calls Tryz.prog 134 #[.string (str p)] wr fun e w' => ∃ g c, e = .returned (.tuple #[.slice (some ⟨g, 0, none⟩) m.length c, .bool true]) ∧ Rd w' w'.heap.size (some ⟨g, 0, none⟩) (u16s m) ∧ wr.heap.size ≤ g ∧ Below wr.heap.size wr w' from C4.out)
        rw [hm2] at C4
        clear hF HF
        go_wp2_with (first
         | (go_at_call 68; go_must (go_fit (CH.out wr)); rintro e w3 ⟨rfl, rfl⟩)
         | (go_at_call 134; go_must (go_fit C4.out); rintro e w4 ⟨g4, c4, rfl, hr4, hg4, hb4⟩; have HO4 := own_below HO.out hb4 (Nat.le_refl _); have hq4 := hb4.size)
         | (at_builtin; go_loud (refine wpList_append_rd rfl _ _ _ rfl w1.heap.size _ _ 2 Tryz.underlying72 info_u16 rfl _ _ _ rfl HO4 _ _ 2 _ (u16s m) rfl (by rw [u16s_len, hm2]) hr4 (u16s_one m) (by omega) (by decide) (by omega) ?_; intro A5 c5 w5 hc5 hm5 hown5 hb5 hg5)))
        have hbk := Lib.hid fun k (h : (Value.slice A5 (acc.length + 2) c5).ownBlock = some k) => Nat.le_trans hb1.size (hown5.lt k h).1
        obtain ⟨A6, c6, e6, hc6, hm6, hx6⟩ := own_rdN hown5
        injection e6 with e6 _ e7
        subst e6 e7
        go_ret2
        rw [HN.out]
        have el : (acc ++ m).length = acc.length + 2 := by rw [List.length_append, hm2]
        refine ⟨A5, c5, by rw [el]; rfl, ?_, by rw [el]; exact hc5, hm5, by rw [el]; exact hbk.out, (hbel.trans (hb4.mono hbel.size)).trans (hb5.mono hb1.size)⟩
        have e : u16s (acc ++ m) = u16s acc ++ u16s m := by unfold u16s; rw [List.map_append]
        rw [e]; exact hx6
      ·
       have hct : p.contains 46 = false := by
        rw [Bool.eq_false_iff]; intro h; exact hd (by simpa using h)
       have HS := Lib.hid (HST.out.2 (fun h => hd h.2.2))
       rw [hct] at CH
       clear HST hd hct
       by_cases h1 : 1 ≤ p.length ∧ p.length ≤ 4
       ·
        have h1I : ¬ (p.length : Int) < 1 := by omega
        have h4I : ¬ (4 : Int) < (p.length : Int) := by omega
        (go_wp2_with (go_at_call 68; go_must (go_fit (CH.out wr)); rintro e w3 ⟨rfl, rfl⟩))
        go_loopg [11, 12] p.length (fun k s11 s12 wx => ∃ k' : Nat, k = p.length - k' ∧ k' ≤ p.length ∧ s11 = .int .u16 ((hexN (tk p k') : Nat) : Int) ∧ s12 = .int .i64 (k' : Int) ∧ Hid ((tk p k').all hexOk = true) ∧ wr = wx)
        case atStart => exact ⟨0, rfl, Nat.zero_le _, rfl, rfl, rfl, rfl⟩
        case round =>
         obtain ⟨k, rfl, hk, rfl, rfl, hall, rfl⟩ := hrel
         obtain ⟨v, hv⟩ : ∃ v, v = hexN (tk p k) := ⟨_, rfl⟩
         have hvl : v < 16 ^ k := by
          have := hexN_lt (tk p k)
          rw [tk_len, Nat.min_eq_left hk] at this
          rw [hv]; exact this
         rw [← hv]
         by_cases hkl : k < p.length
         ·
          have hkI : (k : Int) < (p.length : Int) := by omega
          have hk0 : (0 : Int) ≤ (k : Int) := by omega
          have hd16 := hexV_lt16 (gb p k)
          have CX := Lib.hid (hex6_any (gb p k) wr)
          by_cases hd : 0 ≤ hexV (gb p k)
          ·
           have HA := Lib.hid (take_all_next hall.out hkl (decide_eq_true hd))
           obtain ⟨d, hde⟩ : ∃ d : Nat, d = (hexV (gb p k)).toNat := ⟨_, rfl⟩
           have hdI : hexV (gb p k) = (d : Int) := by omega
           have HU := Lib.hid (show hexN (tk p (k + 1)) = v * 16 + d by rw [hexN_next hkl, ← hv, ← hde])
           have hv4096 : v < 4096 := Nat.lt_of_lt_of_le hvl (Nat.le_trans (Nat.pow_le_pow_right (by decide) (show k ≤ 3 by omega)) (by decide))
           have w1' : IntKind.u16.wrap ((v : Int) * 16) = (v : Int) * 16 := IntWalk.u16_in _ (by omega)
           have w2' : IntKind.u16.wrap (d : Int) = (d : Int) := IntWalk.u16_in _ (by omega)
           have w3' := u16_hex hv4096 (show d < 16 by omega)
           have hdneg : ¬ (d : Int) < 0 := by omega
           rw [hdI] at CX
           clear hv hvl hd hde hdI hd16
           go_wp2_with (go_at_call 109; go_must (go_fit CX.out); rintro e w4 ⟨rfl, rfl⟩)
           go_roundg (p.length - (k + 1))
           case measure => omega
           case rel => exact ⟨k + 1, rfl, by omega, (by rw [HU.out]; go_num), by go_num, HA.out, rfl⟩
          ·
           have HN := Lib.hid (show rGo true cs = none from HS.out.1 (by
            unfold rPiece
            rw [if_neg (fun h => by rw [not_all_at hkl (decide_eq_false hd)] at h; cases h.2)]))
           have hdI : hexV (gb p k) < 0 := by omega
           clear hv hvl hd hd16
           go_wp2_with (go_at_call 109; go_must (go_fit CX.out); rintro e w4 ⟨rfl, rfl⟩)
           go_ret2
           rw [HP.out, HN.out]
           exact ⟨_, _, _, rfl, hbel⟩
         ·
          obtain rfl : k = p.length := by omega
          have hall' := hall.out
          rw [tk_whole] at hv hall'
          have HI := Lib.hid (HS.out.2 v (by unfold rPiece; rw [if_pos ⟨decide_eq_true h1, hall'⟩, hv]))
          have hkI : ¬ (p.length : Int) < (p.length : Int) := by omega
          have HO := Lib.hid hown
          clear hv hvl hall' hown
          go_wp2_with (at_builtin; go_loud (refine wpList_append_lit rfl _ _ _ rfl w1.heap.size _ _ 1 2 Tryz.underlying72 info_u16 rfl (by decide) _ _ _ rfl HO.out _ 1 1 _ rfl rfl (by simp [Value.oneCell']) (by omega) (by decide) (by have := hbel1.size; omega) ?_; intro A5 c5 w5 hc5 hm5 hown5 hb5 hg5))
          go_roundg (cs.length - (i + 1))
          case measure => omega
          case rel =>
           have el : (acc ++ [v]).length = acc.length + 1 := by rw [List.length_append]; rfl
           refine ⟨i + 1, acc ++ [v], A5, c5, rfl, by omega, by go_num, by rw [el], ?_, by rw [el]; omega, HI.out, hbel.trans (hb5.mono hb1.size), hbel1.trans hb5⟩
           rw [el]
           have e : u16s (acc ++ [v]) = u16s acc ++ #[Value.int .u16 (v : Int)].toList := by unfold u16s; rw [List.map_append]; rfl
           rw [e]; exact hown5
       ·
        have HN := Lib.hid (show rGo true cs = none from HS.out.1 (by
         unfold rPiece
         rw [if_neg (fun h => h1 (of_decide_eq_true h.1))]))
        by_cases h0 : 1 ≤ p.length
        ·
         have h1I : ¬ (p.length : Int) < 1 := by omega
         have h4I : (4 : Int) < (p.length : Int) := by omega
         clear h1
         (go_wp2_with (go_at_call 68; go_must (go_fit (CH.out wr)); rintro e w3 ⟨rfl, rfl⟩))
         go_ret2
         rw [HP.out, HN.out]
         exact ⟨_, _, _, rfl, hbel⟩
        ·
         have h1I : (p.length : Int) < 1 := by omega
         clear h1
         (go_wp2_with (go_at_call 68; go_must (go_fit (CH.out wr)); rintro e w3 ⟨rfl, rfl⟩))
         go_ret2
         rw [HP.out, HN.out]
         exact ⟨_, _, _, rfl, hbel⟩
     ·
      have hlst : ((i : Int) == (cs.length : Int) - 1) = false := by rw [beq_eq_false_iff_ne]; omega
      have HS := Lib.hid (HST.out.2 (fun h => hl h.2.1))
      clear HST
      by_cases h1 : 1 ≤ p.length ∧ p.length ≤ 4
      ·
       have h1I : ¬ (p.length : Int) < 1 := by omega
       have h4I : ¬ (4 : Int) < (p.length : Int) := by omega
       go_wp2
       go_loopg [11, 12] p.length (fun k s11 s12 wx => ∃ k' : Nat, k = p.length - k' ∧ k' ≤ p.length ∧ s11 = .int .u16 ((hexN (tk p k') : Nat) : Int) ∧ s12 = .int .i64 (k' : Int) ∧ Hid ((tk p k').all hexOk = true) ∧ wr = wx)
       case atStart => exact ⟨0, rfl, Nat.zero_le _, rfl, rfl, rfl, rfl⟩
       case round =>
        obtain ⟨k, rfl, hk, rfl, rfl, hall, rfl⟩ := hrel
        obtain ⟨v, hv⟩ : ∃ v, v = hexN (tk p k) := ⟨_, rfl⟩
        have hvl : v < 16 ^ k := by
         have := hexN_lt (tk p k)
         rw [tk_len, Nat.min_eq_left hk] at this
         rw [hv]; exact this
        rw [← hv]
        by_cases hkl : k < p.length
        ·
         have hkI : (k : Int) < (p.length : Int) := by omega
         have hk0 : (0 : Int) ≤ (k : Int) := by omega
         have hd16 := hexV_lt16 (gb p k)
         have CX := Lib.hid (hex6_any (gb p k) wr)
         by_cases hd : 0 ≤ hexV (gb p k)
         ·
          have HA := Lib.hid (take_all_next hall.out hkl (decide_eq_true hd))
          obtain ⟨d, hde⟩ : ∃ d : Nat, d = (hexV (gb p k)).toNat := ⟨_, rfl⟩
          have hdI : hexV (gb p k) = (d : Int) := by omega
          have HU := Lib.hid (show hexN (tk p (k + 1)) = v * 16 + d by rw [hexN_next hkl, ← hv, ← hde])
          have hv4096 : v < 4096 := Nat.lt_of_lt_of_le hvl (Nat.le_trans (Nat.pow_le_pow_right (by decide) (show k ≤ 3 by omega)) (by decide))
          have w1' : IntKind.u16.wrap ((v : Int) * 16) = (v : Int) * 16 := IntWalk.u16_in _ (by omega)
          have w2' : IntKind.u16.wrap (d : Int) = (d : Int) := IntWalk.u16_in _ (by omega)
          have w3' := u16_hex hv4096 (show d < 16 by omega)
          have hdneg : ¬ (d : Int) < 0 := by omega
          rw [hdI] at CX
          clear hv hvl hd hde hdI hd16
          go_wp2_with (go_at_call 109; go_must (go_fit CX.out); rintro e w4 ⟨rfl, rfl⟩)
          go_roundg (p.length - (k + 1))
          case measure => omega
          case rel => exact ⟨k + 1, rfl, by omega, (by rw [HU.out]; go_num), by go_num, HA.out, rfl⟩
         ·
          have HN := Lib.hid (show rGo true cs = none from HS.out.1 (by
           unfold rPiece
           rw [if_neg (fun h => by rw [not_all_at hkl (decide_eq_false hd)] at h; cases h.2)]))
          have hdI : hexV (gb p k) < 0 := by omega
          clear hv hvl hd hd16
          go_wp2_with (go_at_call 109; go_must (go_fit CX.out); rintro e w4 ⟨rfl, rfl⟩)
          go_ret2
          rw [HP.out, HN.out]
          exact ⟨_, _, _, rfl, hbel⟩
        ·
         obtain rfl : k = p.length := by omega
         have hall' := hall.out
         rw [tk_whole] at hv hall'
         have HI := Lib.hid (HS.out.2 v (by unfold rPiece; rw [if_pos ⟨decide_eq_true h1, hall'⟩, hv]))
         have hkI : ¬ (p.length : Int) < (p.length : Int) := by omega
         have HO := Lib.hid hown
         clear hv hvl hall' hown
         go_wp2_with (at_builtin; go_loud (refine wpList_append_lit rfl _ _ _ rfl w1.heap.size _ _ 1 2 Tryz.underlying72 info_u16 rfl (by decide) _ _ _ rfl HO.out _ 1 1 _ rfl rfl (by simp [Value.oneCell']) (by omega) (by decide) (by have := hbel1.size; omega) ?_; intro A5 c5 w5 hc5 hm5 hown5 hb5 hg5))
         go_roundg (cs.length - (i + 1))
         case measure => omega
         case rel =>
          have el : (acc ++ [v]).length = acc.length + 1 := by rw [List.length_append]; rfl
          refine ⟨i + 1, acc ++ [v], A5, c5, rfl, by omega, by go_num, by rw [el], ?_, by rw [el]; omega, HI.out, hbel.trans (hb5.mono hb1.size), hbel1.trans hb5⟩
          rw [el]
          have e : u16s (acc ++ [v]) = u16s acc ++ #[Value.int .u16 (v : Int)].toList := by unfold u16s; rw [List.map_append]; rfl
          rw [e]; exact hown5
      ·
       have HN := Lib.hid (show rGo true cs = none from HS.out.1 (by
        unfold rPiece
        rw [if_neg (fun h => h1 (of_decide_eq_true h.1))]))
       by_cases h0 : 1 ≤ p.length
       ·
        have h1I : ¬ (p.length : Int) < 1 := by omega
        have h4I : (4 : Int) < (p.length : Int) := by omega
        clear h1
        go_wp2
        go_ret2
        rw [HP.out, HN.out]
        exact ⟨_, _, _, rfl, hbel⟩
       ·
        have h1I : (p.length : Int) < 1 := by omega
        clear h1
        go_wp2
        go_ret2
        rw [HP.out, HN.out]
        exact ⟨_, _, _, rfl, hbel⟩
   ·
    obtain rfl : i = cs.length := by omega
    have HN := Lib.hid (show rGo tl cs = some acc by rw [hinv.out, List.drop_length]; show some (acc ++ []) = some acc; rw [List.append_nil])
    have hbk := Lib.hid fun k (h : (Value.slice A' acc.length c').ownBlock = some k) => Nat.le_trans hb1.size (hown.lt k h).1
    obtain ⟨A6, c6, e6, hc6, hm6, hx6⟩ := own_rdN hown
    injection e6 with e6 _ e7
    subst e6 e7
    go_wp2
    go_ret2
    rw [HP.out, HN.out]
    exact ⟨_, _, rfl, hx6, hc6, hm6, hbk.out, hbel⟩
end Go.Proofs.YtoapelcofjjdnaaGreatDoor
namespace Go.Proofs.YtoapelcofjjdnaaGreatDoor
set_option linter.all false
open Go.RowKit
def PQ (w : World) (o : Option (List Nat)) (b : Bool) (e : Ending) (w' : World) : Prop :=
 ∃ A n c, e = .returned (.tuple #[.slice A n c, .bool b]) ∧ Below w.heap.size w w' ∧ Hid (∀ l, o = some l → n = l.length ∧ Rd w' w'.heap.size A (u16s l) ∧ n ≤ c ∧ c ≤ maxLen ∧ ∀ k, (Value.slice A n c).ownBlock = some k → w.heap.size ≤ k)
theorem pieces_pq (s : List UInt8) (tl : Bool) (w : World) (hs : s.length ≤ 1000) {b : Bool} (hb : (rPieces tl s).isSome = b) :
  Calls Tryz.prog 105 #[.string (str s), .bool tl] w (PQ w (rPieces tl s) b) := by
 refine (pieces6r_any s tl w hs).mono fun e w' h => ?_
 cases ho : rPieces tl s with
 | none =>
  rw [ho] at h hb
  obtain ⟨A, n, c, he, hbl⟩ := h
  subst hb
  exact ⟨A, n, c, he, hbl, fun l h => by cases h⟩
 | some m =>
  rw [ho] at h hb
  obtain ⟨A, c, he, hr, h1, h2, h3, hbl⟩ := h
  subst hb
  exact ⟨A, _, c, he, hbl, fun l h => by injection h with h; subst h; exact ⟨rfl, hr, h1, h2, h3⟩⟩
theorem rd_on {w w' : World} {A : Option Addr} {xs : List Value} (h : Rd w w.heap.size A xs) (hb : Below w.heap.size w w') : Rd w' w'.heap.size A xs := (h.below hb).mono hb.size
theorem rd_row {w w' : World} {A : Option Addr} {n c : Nat} {xs : List Value} {row : Option Nat} (h : Rd w w.heap.size A xs) (hg : w.grownBy w' row) (hne : ∀ k, (Value.slice A n c).ownBlock = some k → row ≠ some k) : Rd w' w'.heap.size A xs := fun hn => by
 obtain ⟨b, o, rfl, hb, hc⟩ := h hn
 exact ⟨b, o, rfl, Nat.lt_of_lt_of_le hb hg.size, fun j u hu => hg.cell (hc j u hu) (fun e => hne b rfl e.symm)⟩
theorem oFacts {n o : Nat} (h : n ≤ 8) (h0 : n ≠ 0) (e : o = 8 - n) : o + n = 8 ∧ (8 : Int) - (n : Int) = (o : Int) ∧ wrap64 ((8 : Int) - (n : Int)) = (o : Int) ∧ IntKind.i64.wrap ((8 : Int) - (n : Int)) = (o : Int) ∧ wrap64 (o : Int) = (o : Int) ∧ IntKind.i64.wrap (o : Int) = (o : Int) ∧ (o : Int) ≤ 8 ∧ (0 : Int) ≤ (o : Int) ∧ (o = 8) = False ∧ (8 = o) = False := by
 have h1 : (8 : Int) - (n : Int) = (o : Int) := by omega
 have h2 : wrap64 (o : Int) = (o : Int) := IntWalk.wrap64_in _ (by omega)
 have h3 : IntKind.i64.wrap (o : Int) = (o : Int) := IntWalk.i64_in _ (by omega)
 exact ⟨by omega, h1, by rw [h1]; exact h2, by rw [h1]; exact h3, h2, h3, by clear h2 h3; omega, by clear h2 h3; omega, eq_false (by clear h2 h3; omega), eq_false (by clear h2 h3; omega)⟩
theorem sum_big {l m : List Nat} {n k : Nat} (h1 : n = l.length) (h2 : k = m.length) (h : ¬ l.length + m.length ≤ 7) : (7 : Int) < (n : Int) + (k : Int) := by omega
theorem sum_small {l m : List Nat} {n k : Nat} (h1 : n = l.length) (h2 : k = m.length) (h : l.length + m.length ≤ 7) : ¬ (7 : Int) < (n : Int) + (k : Int) := by omega
theorem rBytes_len : ∀ (l : List (List UInt8)) (r : List Nat), rBytes l = some r → r.length = l.length := by
 intro l
 induction l with
 | nil => intro r h; injection h with h; rw [← h]; rfl
 | cons a l ih =>
  intro r h
  rw [rBytes] at h
  cases e1 : rByte a with
  | none => rw [e1] at h; cases h
  | some n =>
   rw [e1] at h
   cases e2 : rBytes l with
   | none => rw [e2] at h; cases h
   | some r2 =>
    rw [e2] at h
    injection h with h
    rw [← h, List.length_cons, ih r2 e2, List.length_cons]
theorem rFour_len {p : List UInt8} {m : List Nat} (hF : rFour p = some m) : m.length = 2 := by
 unfold rFour at hF
 split at hF
 ·
  rename_i h4
  cases e : rBytes (cuts 46 p) with
  | none => rw [e] at hF; cases hF
  | some r =>
   rw [e] at hF
   injection hF with hF
   have hr4 : r.length = 4 := by rw [rBytes_len _ _ e]; exact h4
   match r, hr4 with
   | [a, b, c, d], _ => rw [← hF]; rfl
 · cases hF
theorem rGo_len (tl : Bool) : ∀ (L : List (List UInt8)) (l : List Nat), rGo tl L = some l → l.length ≤ L.length + 1 := by
 intro L
 induction L with
 | nil => intro l h; injection h with h; subst h; simp
 | cons p r ih =>
  intro l h
  rw [rGo] at h
  split at h
  ·
   have := rFour_len h
   simp only [List.length_cons]; omega
  ·
   cases e1 : rPiece p with
   | none => rw [e1] at h; cases h
   | some n =>
    rw [e1] at h
    cases e2 : rGo tl r with
    | none => rw [e2] at h; cases h
    | some r2 =>
     rw [e2] at h
     injection h with h
     have := ih r2 e2
     rw [← h]
     simp only [List.length_cons]; omega
theorem rPieces_len {tl : Bool} {s : List UInt8} {l : List Nat} (h : rPieces tl s = some l) : l.length ≤ s.length + 2 := by
 unfold rPieces at h
 split at h
 · injection h with h; subst h; simp
 ·
  have h1 := rGo_len _ _ _ h
  have h2 := cuts_le 58 s
  omega
theorem sum_wrap {l m : List Nat} {n k : Nat} (h1 : n = l.length) (h2 : k = m.length) (h3 : l.length ≤ 2000 ∧ m.length ≤ 2000) : IntKind.i64.wrap ((n : Int) + (k : Int)) = (n : Int) + (k : Int) := IntWalk.i64_in _ (by omega)
theorem gap_no {s : List UInt8} {i : Nat} (h : gap2 s = (gap2 (s.drop i)).map fun q => (s.take i ++ q.1, q.2)) (hi : i < s.length) (hn : ¬ (gb s i = 58 ∧ i + 1 < s.length ∧ gb s (i + 1) = 58)) :
  gap2 s = (gap2 (s.drop (i + 1))).map fun q => (s.take (i + 1) ++ q.1, q.2) := by
 obtain ⟨hj, e⟩ := List.getElem?_eq_some_iff.1 (gb_some hi)
 rw [List.drop_eq_getElem_cons hi, e, gap2, if_neg] at h
 ·
  rw [h, take_snoc' s i hi, e]
  cases gap2 (s.drop (i + 1)) with
  | none => rfl
  | some q => simp
 ·
  rintro ⟨h1, h2⟩
  rw [List.head?_drop] at h2
  by_cases h3 : i + 1 < s.length
  ·
   rw [gb_some h3] at h2
   injection h2 with h2
   exact hn ⟨h1, h3, h2⟩
  · rw [List.getElem?_eq_none (by omega)] at h2; cases h2
theorem gap_yes {s : List UInt8} {i : Nat} (h : gap2 s = (gap2 (s.drop i)).map fun q => (s.take i ++ q.1, q.2)) (hi : i + 1 < s.length) (h1 : gb s i = 58) (h2 : gb s (i + 1) = 58) : gap2 s = some (tk s i, dr s (i + 2)) := by
 obtain ⟨hj, e⟩ := List.getElem?_eq_some_iff.1 (gb_some (show i < s.length by omega))
 obtain ⟨hj2, e2⟩ := List.getElem?_eq_some_iff.1 (gb_some hi)
 rw [List.drop_eq_getElem_cons (by omega), e, List.drop_eq_getElem_cons hi, e2, h1, h2, gap2_at] at h
 rw [h]
 simp [tk, dr]
theorem gap_end {s : List UInt8} {i : Nat} (h : gap2 s = (gap2 (s.drop i)).map fun q => (s.take i ++ q.1, q.2)) (hi : ¬ i + 1 < s.length) : gap2 s = none := by
 rw [h]
 have hl : (s.drop i).length ≤ 1 := by rw [List.length_drop]; omega
 match s.drop i, hl with
 | [], _ => rfl
 | [c], _ => rw [gap2, if_neg (fun e => by cases e.2)]; rfl
theorem lay_full {l : List Nat} (h : l.length = 8) : lay (noughts 8) 0 l = l := by
 unfold lay noughts
 rw [List.take_zero, List.nil_append, List.drop_of_length_le (by rw [List.length_replicate]; omega), List.append_nil]
theorem lay0_len {l : List Nat} (h : l.length ≤ 8) : (lay (noughts 8) 0 l).length = 8 := by rw [lay_len (by simp [noughts]; omega)]; rfl
theorem lay_gap {l m : List Nat} (h : l.length + m.length ≤ 7) : lay (lay (noughts 8) 0 l) (8 - m.length) m = l ++ noughts (8 - l.length - m.length) ++ m := by
 have e1 : lay (noughts 8) 0 l = l ++ noughts (8 - l.length) := by
  unfold lay noughts
  rw [List.take_zero, List.nil_append, List.drop_replicate]; congr 2; omega
 rw [e1]
 unfold lay noughts
 rw [List.take_append, List.take_of_length_le (by omega), List.take_replicate, List.drop_of_length_le (by simp; omega), List.append_nil]
 congr 3; omega
set_option maxRecDepth 100000 in
set_option maxHeartbeats 16000000 in
theorem rparse6_none (s : List UInt8) (w : World) (hs : s.length ≤ 1000) (hG : gap2 s = none) :
  Calls Tryz.prog 67 #[.string (str s)] w fun e w' => e = ret6 (rParse6 s) ∧ Below w.heap.size w w' := by
 have hsz := str_size s
 have hgt := str_get s
 have HP := Lib.hid (show rParse6 s = match gap2 s with
  | some (x, y) => match rPieces false x, rPieces true y with
   | some l, some m => if l.length + m.length ≤ 7 then some (l ++ noughts (8 - l.length - m.length) ++ m) else none
   | _, _ => none
  | none => match rPieces true s with
   | some l => if l.length = 8 then some l else none
   | none => none from rfl)
 have hA0 : Row (w.alloc (.cells #[.int .u16 0, .int .u16 0, .int .u16 0, .int .u16 0, .int .u16 0, .int .u16 0, .int .u16 0, .int .u16 0] 24)) w.heap.size (u16s (noughts 8)) := Row.made w #[.int .u16 0, .int .u16 0, .int .u16 0, .int .u16 0, .int .u16 0, .int .u16 0, .int .u16 0, .int .u16 0] 24
 have hB1 : Below w.heap.size w (w.alloc (.cells #[.int .u16 0, .int .u16 0, .int .u16 0, .int .u16 0, .int .u16 0, .int .u16 0, .int .u16 0, .int .u16 0] 24)) := (Below.refl _ _).alloc (Nat.le_refl _) _
 have hz1 : (w.alloc (.cells #[.int .u16 0, .int .u16 0, .int .u16 0, .int .u16 0, .int .u16 0, .int .u16 0, .int .u16 0, .int .u16 0] 24)).heap.size = w.heap.size + 1 := by simp
 obtain ⟨wA, hwA⟩ : ∃ wA, wA = w.alloc (.cells #[.int .u16 0, .int .u16 0, .int .u16 0, .int .u16 0, .int .u16 0, .int .u16 0, .int .u16 0, .int .u16 0] 24) := ⟨_, rfl⟩
 rw [← hwA] at hA0 hB1 hz1
 have hX0 : Row (wA.alloc (.cells #[.int .u16 0, .int .u16 0, .int .u16 0, .int .u16 0, .int .u16 0, .int .u16 0, .int .u16 0, .int .u16 0] 24)) (w.heap.size + 1) (u16s (noughts 8)) := by rw [← hz1]; exact Row.made wA #[.int .u16 0, .int .u16 0, .int .u16 0, .int .u16 0, .int .u16 0, .int .u16 0, .int .u16 0, .int .u16 0] 24
 have hR0 : Row (wA.alloc (.cells #[.int .u16 0, .int .u16 0, .int .u16 0, .int .u16 0, .int .u16 0, .int .u16 0, .int .u16 0, .int .u16 0] 24)) w.heap.size (u16s (noughts 8)) := hA0.far _
 have hB0 : Below w.heap.size w (wA.alloc (.cells #[.int .u16 0, .int .u16 0, .int .u16 0, .int .u16 0, .int .u16 0, .int .u16 0, .int .u16 0, .int .u16 0] 24)) := bnew hB1 _
 have hz0 : (wA.alloc (.cells #[.int .u16 0, .int .u16 0, .int .u16 0, .int .u16 0, .int .u16 0, .int .u16 0, .int .u16 0, .int .u16 0] 24)).heap.size = w.heap.size + 2 := by simp [hz1]
 rw [hwA] at hX0 hR0 hB0 hz0
 obtain ⟨w0, hw0⟩ : ∃ w0, w0 = (w.alloc (.cells #[.int .u16 0, .int .u16 0, .int .u16 0, .int .u16 0, .int .u16 0, .int .u16 0, .int .u16 0, .int .u16 0] 24)).alloc (.cells #[.int .u16 0, .int .u16 0, .int .u16 0, .int .u16 0, .int .u16 0, .int .u16 0, .int .u16 0, .int .u16 0] 24) := ⟨_, rfl⟩
 rw [← hw0] at hX0 hR0 hB0 hz0
 have HW := Lib.hid hw0
 clear hwA hA0 hB1 hz1 hw0
 have HGG := Lib.hid hG
 clear hG
 go_enter Tryz.func67, Tryz.ntmps67
 go_wp2
 rw [← HW.out]
 go_loopg [5] s.length (fun k s5 wr => ∃ i : Nat, k = s.length - i ∧ i ≤ s.length ∧ s5 = .int .i64 (i : Int) ∧ Hid (gap2 s = (gap2 (s.drop i)).map fun q => (s.take i ++ q.1, q.2)) ∧ w0 = wr)
 case atStart => exact ⟨0, rfl, Nat.zero_le _, rfl, by show gap2 s = (gap2 s).map fun q => ([] ++ q.1, q.2); cases gap2 s <;> rfl, rfl⟩
 case round =>
  obtain ⟨i, rfl, hi, rfl, hinv, rfl⟩ := hrel
  have hw1 : IntKind.i64.wrap ((i : Int) + 1) = (i : Int) + 1 := IntWalk.i64_in _ (by omega)
  have hw2 : IntKind.i64.wrap ((i : Int) + 2) = (i : Int) + 2 := IntWalk.i64_in _ (by omega)
  have hi0 : (0 : Int) ≤ (i : Int) := by omega
  by_cases hlt : i + 1 < s.length
  ·
   have hltI : (i : Int) + 1 < (s.length : Int) := by omega
   have hltJ : (i : Int) < (s.length : Int) := by omega
   by_cases h1 : gb s i = 58
   ·
    by_cases h2 : gb s (i + 1) = 58
    ·
     have HG := Lib.hid (gap_yes hinv.out hlt h1 h2)
     exfalso
     have h := HG.out
     rw [HGG.out] at h
     cases h
    ·
     have hnb : ((((gb s (i + 1)).toNat : Int)) != 58) = true := by simp; exact fun e => h2 (byte_ext (by show _ = 58; omega))
     have HI := Lib.hid (gap_no hinv.out (by omega) (fun e => h2 e.2.2))
     have hnb1 : ((((gb s i).toNat : Int)) != 58) = false := by rw [h1]; rfl
     clear h2 h1
     go_wp2
     go_roundg (s.length - (i + 1))
     case measure => omega
     case rel => exact ⟨i + 1, rfl, by omega, by go_num, HI.out, rfl⟩
   ·
    have hnb : ((((gb s i).toNat : Int)) != 58) = true := by simp; exact fun e => h1 (byte_ext (by show _ = 58; omega))
    have HI := Lib.hid (gap_no hinv.out (by omega) (fun e => h1 e.1))
    clear h1
    go_wp2
    go_roundg (s.length - (i + 1))
    case measure => omega
    case rel => exact ⟨i + 1, rfl, by omega, by go_num, HI.out, rfl⟩
  ·
   have hltI : ¬ (i : Int) + 1 < (s.length : Int) := by omega
   have HG := Lib.hid (gap_end hinv.out hlt)
   have HP2 := Lib.hid (show rParse6 s = match rPieces true s with
    | some l => if l.length = 8 then some l else none
    | none => none by rw [HP.out, HG.out])
   cases ho : rPieces true s with
   | none =>
    have HN := Lib.hid (show rParse6 s = none by rw [HP2.out, ho])
    have C := Lib.hid (pieces_pq s true w0 hs (b := false) (by simp [ho]))
    clear ho HP HP2
    go_wp2_with (go_at_call 105; go_must (go_fit C.out); rintro e w1 ⟨A, n, c, rfl, hb1, hq⟩; have hR1 := hR0.below hb1 hR0.2.2; have hB1 := bnext hB0 hb1; have z0 : w1.cell? ⟨w.heap.size, 0, none⟩ = some (.int .u16 0) := hR1.1 0 _ rfl; have y0 : w1.frozen? ⟨w.heap.size, 0, none⟩ = false := hR1.2.1 0 (by decide); have z1 : w1.cell? ⟨w.heap.size, 1, none⟩ = some (.int .u16 0) := hR1.1 1 _ rfl; have y1 : w1.frozen? ⟨w.heap.size, 1, none⟩ = false := hR1.2.1 1 (by decide); have z2 : w1.cell? ⟨w.heap.size, 2, none⟩ = some (.int .u16 0) := hR1.1 2 _ rfl; have y2 : w1.frozen? ⟨w.heap.size, 2, none⟩ = false := hR1.2.1 2 (by decide); have z3 : w1.cell? ⟨w.heap.size, 3, none⟩ = some (.int .u16 0) := hR1.1 3 _ rfl; have y3 : w1.frozen? ⟨w.heap.size, 3, none⟩ = false := hR1.2.1 3 (by decide); have z4 : w1.cell? ⟨w.heap.size, 4, none⟩ = some (.int .u16 0) := hR1.1 4 _ rfl; have y4 : w1.frozen? ⟨w.heap.size, 4, none⟩ = false := hR1.2.1 4 (by decide); have z5 : w1.cell? ⟨w.heap.size, 5, none⟩ = some (.int .u16 0) := hR1.1 5 _ rfl; have y5 : w1.frozen? ⟨w.heap.size, 5, none⟩ = false := hR1.2.1 5 (by decide); have z6 : w1.cell? ⟨w.heap.size, 6, none⟩ = some (.int .u16 0) := hR1.1 6 _ rfl; have y6 : w1.frozen? ⟨w.heap.size, 6, none⟩ = false := hR1.2.1 6 (by decide); have z7 : w1.cell? ⟨w.heap.size, 7, none⟩ = some (.int .u16 0) := hR1.1 7 _ rfl; have y7 : w1.frozen? ⟨w.heap.size, 7, none⟩ = false := hR1.2.1 7 (by decide))
    (try simp only [Exit.inBlock, Exit.then])
    refine bodyPost_ret (results_row (R := w.heap.size) (us := #[.int .u16 0, .int .u16 0, .int .u16 0, .int .u16 0, .int .u16 0, .int .u16 0, .int .u16 0, .int .u16 0].toList) (d := .array 8 23) rfl rfl (by exact (Row.set (Row.set (Row.set (Row.set (Row.set (Row.set (Row.set (Row.set hR1 (j := 0) (by simp [u16s, noughts]) (.int .u16 0)) (j := 1) (by simp [u16s, noughts]) (.int .u16 0)) (j := 2) (by simp [u16s, noughts]) (.int .u16 0)) (j := 3) (by simp [u16s, noughts]) (.int .u16 0)) (j := 4) (by simp [u16s, noughts]) (.int .u16 0)) (j := 5) (by simp [u16s, noughts]) (.int .u16 0)) (j := 6) (by simp [u16s, noughts]) (.int .u16 0)) (j := 7) (by simp [u16s, noughts]) (.int .u16 0))) Tryz.underlying24 rfl info_arr8) rfl ?_
    rw [HN.out, ret6_none]
    exact ⟨rfl, (Below.setCell (Below.setCell (Below.setCell (Below.setCell (Below.setCell (Below.setCell (Below.setCell (Below.setCell hB1 (p := ⟨w.heap.size, 0, none⟩) (Nat.le_refl _) (.int .u16 0)) (p := ⟨w.heap.size, 1, none⟩) (Nat.le_refl _) (.int .u16 0)) (p := ⟨w.heap.size, 2, none⟩) (Nat.le_refl _) (.int .u16 0)) (p := ⟨w.heap.size, 3, none⟩) (Nat.le_refl _) (.int .u16 0)) (p := ⟨w.heap.size, 4, none⟩) (Nat.le_refl _) (.int .u16 0)) (p := ⟨w.heap.size, 5, none⟩) (Nat.le_refl _) (.int .u16 0)) (p := ⟨w.heap.size, 6, none⟩) (Nat.le_refl _) (.int .u16 0)) (p := ⟨w.heap.size, 7, none⟩) (Nat.le_refl _) (.int .u16 0))⟩
   | some l =>
    have C := Lib.hid (pieces_pq s true w0 hs (b := true) (by simp [ho]))
    rw [ho] at C
    by_cases h8 : l.length = 8
    ·
     have HN := Lib.hid (show rParse6 s = some l by rw [HP2.out, ho]; exact if_pos h8)
     have HM8 := Lib.hid h8
     have HLF := Lib.hid (lay_full h8)
     clear ho HP HP2
     go_wp2_with (first
      | (go_at_call 105; go_must (go_fit C.out); rintro e w1 ⟨A, n, c, rfl, hb1, hq⟩; have hR1 := hR0.below hb1 hR0.2.2; have hX1 := hX0.below hb1 hX0.2.2; have hB1 := bnext hB0 hb1; obtain ⟨hn8, hr1, hnc, hcm, _⟩ := hq.out l rfl; rw [HM8.out] at hn8; subst hn8)
      | ((with_reducible show wpList _ _ _ ((Oper.mk _ (Op.call { callee := Callee.builtin Builtin.copy, args := _, argTypes := _ }) _ _ _ _) :: _) _ _); refine wpList_copy_row rfl _ _ 72 72 rfl 23 Tryz.underlying72 info_u16s _ 8 8 rfl _ _ _ rfl (w.heap.size + 1) 0 (u16s (noughts 8)) hX1 _ (u16s l) hr1 (by rw [u16s_len, HM8.out]) (fun _ => rfl) (by omega) (by rw [u16s_len]; simp [noughts]) (u16s_one _) ?_; intro w5 hX5 hg5; have hR5 := Row.grown hR1 hg5 (fun e => by injection e with e; omega); have hB5 := hB1.grown hg5 (by have := hR1.2.2; omega) (fun j e => by injection e with e; omega); rw [u16s_lay, HLF.out] at hX5; obtain ⟨a0, a1, a2, a3, a4, a5, a6, a7, hM⟩ := eight HM8.out; rw [hM] at hX5 HN; have z0 : w5.cell? ⟨w.heap.size, 0, none⟩ = some (.int .u16 0) := hR5.1 0 _ rfl; have y0 : w5.frozen? ⟨w.heap.size, 0, none⟩ = false := hR5.2.1 0 (by decide); have z1 : w5.cell? ⟨w.heap.size, 1, none⟩ = some (.int .u16 0) := hR5.1 1 _ rfl; have y1 : w5.frozen? ⟨w.heap.size, 1, none⟩ = false := hR5.2.1 1 (by decide); have z2 : w5.cell? ⟨w.heap.size, 2, none⟩ = some (.int .u16 0) := hR5.1 2 _ rfl; have y2 : w5.frozen? ⟨w.heap.size, 2, none⟩ = false := hR5.2.1 2 (by decide); have z3 : w5.cell? ⟨w.heap.size, 3, none⟩ = some (.int .u16 0) := hR5.1 3 _ rfl; have y3 : w5.frozen? ⟨w.heap.size, 3, none⟩ = false := hR5.2.1 3 (by decide); have z4 : w5.cell? ⟨w.heap.size, 4, none⟩ = some (.int .u16 0) := hR5.1 4 _ rfl; have y4 : w5.frozen? ⟨w.heap.size, 4, none⟩ = false := hR5.2.1 4 (by decide); have z5 : w5.cell? ⟨w.heap.size, 5, none⟩ = some (.int .u16 0) := hR5.1 5 _ rfl; have y5 : w5.frozen? ⟨w.heap.size, 5, none⟩ = false := hR5.2.1 5 (by decide); have z6 : w5.cell? ⟨w.heap.size, 6, none⟩ = some (.int .u16 0) := hR5.1 6 _ rfl; have y6 : w5.frozen? ⟨w.heap.size, 6, none⟩ = false := hR5.2.1 6 (by decide); have z7 : w5.cell? ⟨w.heap.size, 7, none⟩ = some (.int .u16 0) := hR5.1 7 _ rfl; have y7 : w5.frozen? ⟨w.heap.size, 7, none⟩ = false := hR5.2.1 7 (by decide); have x0 : w5.cell? ⟨w.heap.size + 1, 0, none⟩ = some (.int .u16 (a0 : Int)) := hX5.1 0 _ rfl; have x1 : w5.cell? ⟨w.heap.size + 1, 1, none⟩ = some (.int .u16 (a1 : Int)) := hX5.1 1 _ rfl; have x2 : w5.cell? ⟨w.heap.size + 1, 2, none⟩ = some (.int .u16 (a2 : Int)) := hX5.1 2 _ rfl; have x3 : w5.cell? ⟨w.heap.size + 1, 3, none⟩ = some (.int .u16 (a3 : Int)) := hX5.1 3 _ rfl; have x4 : w5.cell? ⟨w.heap.size + 1, 4, none⟩ = some (.int .u16 (a4 : Int)) := hX5.1 4 _ rfl; have x5 : w5.cell? ⟨w.heap.size + 1, 5, none⟩ = some (.int .u16 (a5 : Int)) := hX5.1 5 _ rfl; have x6 : w5.cell? ⟨w.heap.size + 1, 6, none⟩ = some (.int .u16 (a6 : Int)) := hX5.1 6 _ rfl; have x7 : w5.cell? ⟨w.heap.size + 1, 7, none⟩ = some (.int .u16 (a7 : Int)) := hX5.1 7 _ rfl; clear hM hX1 hX0 hR1 hR0 hB1 hB0 hr1 hg5 hX5 hq))
     (try simp only [Exit.inBlock, Exit.then])
     refine bodyPost_ret (results_row (R := w.heap.size) (us := #[.int .u16 (a0 : Int), .int .u16 (a1 : Int), .int .u16 (a2 : Int), .int .u16 (a3 : Int), .int .u16 (a4 : Int), .int .u16 (a5 : Int), .int .u16 (a6 : Int), .int .u16 (a7 : Int)].toList) (d := .array 8 23) rfl rfl (by exact (Row.set (Row.set (Row.set (Row.set (Row.set (Row.set (Row.set (Row.set hR5 (j := 0) (by simp [u16s, noughts]) (.int .u16 (a0 : Int))) (j := 1) (by simp [u16s, noughts]) (.int .u16 (a1 : Int))) (j := 2) (by simp [u16s, noughts]) (.int .u16 (a2 : Int))) (j := 3) (by simp [u16s, noughts]) (.int .u16 (a3 : Int))) (j := 4) (by simp [u16s, noughts]) (.int .u16 (a4 : Int))) (j := 5) (by simp [u16s, noughts]) (.int .u16 (a5 : Int))) (j := 6) (by simp [u16s, noughts]) (.int .u16 (a6 : Int))) (j := 7) (by simp [u16s, noughts]) (.int .u16 (a7 : Int)))) Tryz.underlying24 rfl info_arr8) rfl ?_
     rw [HN.out]
     exact ⟨rfl, (Below.setCell (Below.setCell (Below.setCell (Below.setCell (Below.setCell (Below.setCell (Below.setCell (Below.setCell hB5 (p := ⟨w.heap.size, 0, none⟩) (Nat.le_refl _) (.int .u16 (a0 : Int))) (p := ⟨w.heap.size, 1, none⟩) (Nat.le_refl _) (.int .u16 (a1 : Int))) (p := ⟨w.heap.size, 2, none⟩) (Nat.le_refl _) (.int .u16 (a2 : Int))) (p := ⟨w.heap.size, 3, none⟩) (Nat.le_refl _) (.int .u16 (a3 : Int))) (p := ⟨w.heap.size, 4, none⟩) (Nat.le_refl _) (.int .u16 (a4 : Int))) (p := ⟨w.heap.size, 5, none⟩) (Nat.le_refl _) (.int .u16 (a5 : Int))) (p := ⟨w.heap.size, 6, none⟩) (Nat.le_refl _) (.int .u16 (a6 : Int))) (p := ⟨w.heap.size, 7, none⟩) (Nat.le_refl _) (.int .u16 (a7 : Int)))⟩
    ·
     have HN := Lib.hid (show rParse6 s = none by rw [HP2.out, ho]; exact if_neg h8)
     clear ho HP HP2
     have H8 := Lib.hid h8
     go_wp2_with (go_at_call 105; go_must (go_fit C.out); rintro e w1 ⟨A, n, c, rfl, hb1, hq⟩; have hR1 := hR0.below hb1 hR0.2.2; have hB1 := bnext hB0 hb1; have z0 : w1.cell? ⟨w.heap.size, 0, none⟩ = some (.int .u16 0) := hR1.1 0 _ rfl; have y0 : w1.frozen? ⟨w.heap.size, 0, none⟩ = false := hR1.2.1 0 (by decide); have z1 : w1.cell? ⟨w.heap.size, 1, none⟩ = some (.int .u16 0) := hR1.1 1 _ rfl; have y1 : w1.frozen? ⟨w.heap.size, 1, none⟩ = false := hR1.2.1 1 (by decide); have z2 : w1.cell? ⟨w.heap.size, 2, none⟩ = some (.int .u16 0) := hR1.1 2 _ rfl; have y2 : w1.frozen? ⟨w.heap.size, 2, none⟩ = false := hR1.2.1 2 (by decide); have z3 : w1.cell? ⟨w.heap.size, 3, none⟩ = some (.int .u16 0) := hR1.1 3 _ rfl; have y3 : w1.frozen? ⟨w.heap.size, 3, none⟩ = false := hR1.2.1 3 (by decide); have z4 : w1.cell? ⟨w.heap.size, 4, none⟩ = some (.int .u16 0) := hR1.1 4 _ rfl; have y4 : w1.frozen? ⟨w.heap.size, 4, none⟩ = false := hR1.2.1 4 (by decide); have z5 : w1.cell? ⟨w.heap.size, 5, none⟩ = some (.int .u16 0) := hR1.1 5 _ rfl; have y5 : w1.frozen? ⟨w.heap.size, 5, none⟩ = false := hR1.2.1 5 (by decide); have z6 : w1.cell? ⟨w.heap.size, 6, none⟩ = some (.int .u16 0) := hR1.1 6 _ rfl; have y6 : w1.frozen? ⟨w.heap.size, 6, none⟩ = false := hR1.2.1 6 (by decide); have z7 : w1.cell? ⟨w.heap.size, 7, none⟩ = some (.int .u16 0) := hR1.1 7 _ rfl; have y7 : w1.frozen? ⟨w.heap.size, 7, none⟩ = false := hR1.2.1 7 (by decide); have hn8 : ((n : Int) != 8) = true := by (have := (hq.out l rfl).1; have := H8.out; simp; omega))
     (try simp only [Exit.inBlock, Exit.then])
     refine bodyPost_ret (results_row (R := w.heap.size) (us := #[.int .u16 0, .int .u16 0, .int .u16 0, .int .u16 0, .int .u16 0, .int .u16 0, .int .u16 0, .int .u16 0].toList) (d := .array 8 23) rfl rfl (by exact (Row.set (Row.set (Row.set (Row.set (Row.set (Row.set (Row.set (Row.set hR1 (j := 0) (by simp [u16s, noughts]) (.int .u16 0)) (j := 1) (by simp [u16s, noughts]) (.int .u16 0)) (j := 2) (by simp [u16s, noughts]) (.int .u16 0)) (j := 3) (by simp [u16s, noughts]) (.int .u16 0)) (j := 4) (by simp [u16s, noughts]) (.int .u16 0)) (j := 5) (by simp [u16s, noughts]) (.int .u16 0)) (j := 6) (by simp [u16s, noughts]) (.int .u16 0)) (j := 7) (by simp [u16s, noughts]) (.int .u16 0))) Tryz.underlying24 rfl info_arr8) rfl ?_
     rw [HN.out, ret6_none]
     exact ⟨rfl, (Below.setCell (Below.setCell (Below.setCell (Below.setCell (Below.setCell (Below.setCell (Below.setCell (Below.setCell hB1 (p := ⟨w.heap.size, 0, none⟩) (Nat.le_refl _) (.int .u16 0)) (p := ⟨w.heap.size, 1, none⟩) (Nat.le_refl _) (.int .u16 0)) (p := ⟨w.heap.size, 2, none⟩) (Nat.le_refl _) (.int .u16 0)) (p := ⟨w.heap.size, 3, none⟩) (Nat.le_refl _) (.int .u16 0)) (p := ⟨w.heap.size, 4, none⟩) (Nat.le_refl _) (.int .u16 0)) (p := ⟨w.heap.size, 5, none⟩) (Nat.le_refl _) (.int .u16 0)) (p := ⟨w.heap.size, 6, none⟩) (Nat.le_refl _) (.int .u16 0)) (p := ⟨w.heap.size, 7, none⟩) (Nat.le_refl _) (.int .u16 0))⟩
set_option maxRecDepth 100000 in
set_option maxHeartbeats 16000000 in
theorem rparse6_bad (s : List UInt8) (w : World) (hs : s.length ≤ 1000) {x y : List UInt8} (hG : gap2 s = some (x, y)) (hbad : ∀ l m, rPieces false x = some l → rPieces true y = some m → ¬ l.length + m.length ≤ 7) :
  Calls Tryz.prog 67 #[.string (str s)] w fun e w' => e = ret6 (rParse6 s) ∧ Below w.heap.size w w' := by
 have hsz := str_size s
 have hgt := str_get s
 have HP := Lib.hid (show rParse6 s = match gap2 s with
  | some (x, y) => match rPieces false x, rPieces true y with
   | some l, some m => if l.length + m.length ≤ 7 then some (l ++ noughts (8 - l.length - m.length) ++ m) else none
   | _, _ => none
  | none => match rPieces true s with
   | some l => if l.length = 8 then some l else none
   | none => none from rfl)
 have hA0 : Row (w.alloc (.cells #[.int .u16 0, .int .u16 0, .int .u16 0, .int .u16 0, .int .u16 0, .int .u16 0, .int .u16 0, .int .u16 0] 24)) w.heap.size (u16s (noughts 8)) := Row.made w #[.int .u16 0, .int .u16 0, .int .u16 0, .int .u16 0, .int .u16 0, .int .u16 0, .int .u16 0, .int .u16 0] 24
 have hB1 : Below w.heap.size w (w.alloc (.cells #[.int .u16 0, .int .u16 0, .int .u16 0, .int .u16 0, .int .u16 0, .int .u16 0, .int .u16 0, .int .u16 0] 24)) := (Below.refl _ _).alloc (Nat.le_refl _) _
 have hz1 : (w.alloc (.cells #[.int .u16 0, .int .u16 0, .int .u16 0, .int .u16 0, .int .u16 0, .int .u16 0, .int .u16 0, .int .u16 0] 24)).heap.size = w.heap.size + 1 := by simp
 obtain ⟨wA, hwA⟩ : ∃ wA, wA = w.alloc (.cells #[.int .u16 0, .int .u16 0, .int .u16 0, .int .u16 0, .int .u16 0, .int .u16 0, .int .u16 0, .int .u16 0] 24) := ⟨_, rfl⟩
 rw [← hwA] at hA0 hB1 hz1
 have hX0 : Row (wA.alloc (.cells #[.int .u16 0, .int .u16 0, .int .u16 0, .int .u16 0, .int .u16 0, .int .u16 0, .int .u16 0, .int .u16 0] 24)) (w.heap.size + 1) (u16s (noughts 8)) := by rw [← hz1]; exact Row.made wA #[.int .u16 0, .int .u16 0, .int .u16 0, .int .u16 0, .int .u16 0, .int .u16 0, .int .u16 0, .int .u16 0] 24
 have hR0 : Row (wA.alloc (.cells #[.int .u16 0, .int .u16 0, .int .u16 0, .int .u16 0, .int .u16 0, .int .u16 0, .int .u16 0, .int .u16 0] 24)) w.heap.size (u16s (noughts 8)) := hA0.far _
 have hB0 : Below w.heap.size w (wA.alloc (.cells #[.int .u16 0, .int .u16 0, .int .u16 0, .int .u16 0, .int .u16 0, .int .u16 0, .int .u16 0, .int .u16 0] 24)) := bnew hB1 _
 have hz0 : (wA.alloc (.cells #[.int .u16 0, .int .u16 0, .int .u16 0, .int .u16 0, .int .u16 0, .int .u16 0, .int .u16 0, .int .u16 0] 24)).heap.size = w.heap.size + 2 := by simp [hz1]
 rw [hwA] at hX0 hR0 hB0 hz0
 obtain ⟨w0, hw0⟩ : ∃ w0, w0 = (w.alloc (.cells #[.int .u16 0, .int .u16 0, .int .u16 0, .int .u16 0, .int .u16 0, .int .u16 0, .int .u16 0, .int .u16 0] 24)).alloc (.cells #[.int .u16 0, .int .u16 0, .int .u16 0, .int .u16 0, .int .u16 0, .int .u16 0, .int .u16 0, .int .u16 0] 24) := ⟨_, rfl⟩
 rw [← hw0] at hX0 hR0 hB0 hz0
 have HW := Lib.hid hw0
 clear hwA hA0 hB1 hz1 hw0
 have HGG := Lib.hid hG
 clear hG
 go_enter Tryz.func67, Tryz.ntmps67
 go_wp2
 rw [← HW.out]
 go_loopg [5] s.length (fun k s5 wr => ∃ i : Nat, k = s.length - i ∧ i ≤ s.length ∧ s5 = .int .i64 (i : Int) ∧ Hid (gap2 s = (gap2 (s.drop i)).map fun q => (s.take i ++ q.1, q.2)) ∧ w0 = wr)
 case atStart => exact ⟨0, rfl, Nat.zero_le _, rfl, by show gap2 s = (gap2 s).map fun q => ([] ++ q.1, q.2); cases gap2 s <;> rfl, rfl⟩
 case round =>
  obtain ⟨i, rfl, hi, rfl, hinv, rfl⟩ := hrel
  have hw1 : IntKind.i64.wrap ((i : Int) + 1) = (i : Int) + 1 := IntWalk.i64_in _ (by omega)
  have hw2 : IntKind.i64.wrap ((i : Int) + 2) = (i : Int) + 2 := IntWalk.i64_in _ (by omega)
  have hi0 : (0 : Int) ≤ (i : Int) := by omega
  by_cases hlt : i + 1 < s.length
  ·
   have hltI : (i : Int) + 1 < (s.length : Int) := by omega
   have hltJ : (i : Int) < (s.length : Int) := by omega
   by_cases h1 : gb s i = 58
   ·
    by_cases h2 : gb s (i + 1) = 58
    ·
     have HG := Lib.hid (gap_yes hinv.out hlt h1 h2)
     have e1 : (str s).extract 0 i = str (tk s i) := str_front s i
     have e2 : (str s).extract (i + 2) s.length = str (dr s (i + 2)) := str_end s (i + 2)
     have hltK : (i : Int) + 2 ≤ (s.length : Int) := by omega
     have lx : (tk s i).length ≤ 1000 := by rw [tk_len]; omega
     have ly : (dr s (i + 2)).length ≤ 1000 := by rw [dr_len]; omega
     have hxy := HG.out
     rw [HGG.out] at hxy
     injection hxy with hxy
     injection hxy with hx hy
     rw [← hx] at e1 lx
     rw [← hy] at e2 ly
     clear hx hy hinv
     cases ho : rPieces false x with
     | none =>
      have HN := Lib.hid (show rParse6 s = none by rw [HP.out, HGG.out]; show (match rPieces false x, rPieces true y with | some l, some m => _ | _, _ => none) = none; rw [ho])
      have CX := Lib.hid (pieces_pq x false w0 lx (b := false) (by simp [ho]))
      have CY := Lib.hid fun w => pieces_pq y true w ly rfl
      obtain ⟨by', hby⟩ : ∃ b, b = (rPieces true y).isSome := ⟨_, rfl⟩
      rw [← hby] at CY
      clear ho hby HP HG hbad
      go_wp2_with (first
       | (go_at_call 105; go_fit CX.out; rintro e w1 ⟨A, n, c, rfl, hb1, hq⟩; have hR1 := hR0.below hb1 hR0.2.2; have hB1 := bnext hB0 hb1)
       | (go_at_call 105; go_must (go_fit (CY.out w1)); rintro e w2 ⟨A2, n2, c2, rfl, hb2, hq2⟩; have hR2 := hR1.below hb2 hR1.2.2; have hB2 := bnext hB1 hb2; have z0 : w2.cell? ⟨w.heap.size, 0, none⟩ = some (.int .u16 0) := hR2.1 0 _ rfl; have y0 : w2.frozen? ⟨w.heap.size, 0, none⟩ = false := hR2.2.1 0 (by decide); have z1 : w2.cell? ⟨w.heap.size, 1, none⟩ = some (.int .u16 0) := hR2.1 1 _ rfl; have y1 : w2.frozen? ⟨w.heap.size, 1, none⟩ = false := hR2.2.1 1 (by decide); have z2 : w2.cell? ⟨w.heap.size, 2, none⟩ = some (.int .u16 0) := hR2.1 2 _ rfl; have y2 : w2.frozen? ⟨w.heap.size, 2, none⟩ = false := hR2.2.1 2 (by decide); have z3 : w2.cell? ⟨w.heap.size, 3, none⟩ = some (.int .u16 0) := hR2.1 3 _ rfl; have y3 : w2.frozen? ⟨w.heap.size, 3, none⟩ = false := hR2.2.1 3 (by decide); have z4 : w2.cell? ⟨w.heap.size, 4, none⟩ = some (.int .u16 0) := hR2.1 4 _ rfl; have y4 : w2.frozen? ⟨w.heap.size, 4, none⟩ = false := hR2.2.1 4 (by decide); have z5 : w2.cell? ⟨w.heap.size, 5, none⟩ = some (.int .u16 0) := hR2.1 5 _ rfl; have y5 : w2.frozen? ⟨w.heap.size, 5, none⟩ = false := hR2.2.1 5 (by decide); have z6 : w2.cell? ⟨w.heap.size, 6, none⟩ = some (.int .u16 0) := hR2.1 6 _ rfl; have y6 : w2.frozen? ⟨w.heap.size, 6, none⟩ = false := hR2.2.1 6 (by decide); have z7 : w2.cell? ⟨w.heap.size, 7, none⟩ = some (.int .u16 0) := hR2.1 7 _ rfl; have y7 : w2.frozen? ⟨w.heap.size, 7, none⟩ = false := hR2.2.1 7 (by decide)))
      (try simp only [Exit.inBlock, Exit.then])
      refine bodyPost_ret (results_row (R := w.heap.size) (us := #[.int .u16 0, .int .u16 0, .int .u16 0, .int .u16 0, .int .u16 0, .int .u16 0, .int .u16 0, .int .u16 0].toList) (d := .array 8 23) rfl rfl (by exact (Row.set (Row.set (Row.set (Row.set (Row.set (Row.set (Row.set (Row.set hR2 (j := 0) (by simp [u16s, noughts]) (.int .u16 0)) (j := 1) (by simp [u16s, noughts]) (.int .u16 0)) (j := 2) (by simp [u16s, noughts]) (.int .u16 0)) (j := 3) (by simp [u16s, noughts]) (.int .u16 0)) (j := 4) (by simp [u16s, noughts]) (.int .u16 0)) (j := 5) (by simp [u16s, noughts]) (.int .u16 0)) (j := 6) (by simp [u16s, noughts]) (.int .u16 0)) (j := 7) (by simp [u16s, noughts]) (.int .u16 0))) Tryz.underlying24 rfl info_arr8) rfl ?_
      rw [HN.out, ret6_none]
      exact ⟨rfl, (Below.setCell (Below.setCell (Below.setCell (Below.setCell (Below.setCell (Below.setCell (Below.setCell (Below.setCell hB2 (p := ⟨w.heap.size, 0, none⟩) (Nat.le_refl _) (.int .u16 0)) (p := ⟨w.heap.size, 1, none⟩) (Nat.le_refl _) (.int .u16 0)) (p := ⟨w.heap.size, 2, none⟩) (Nat.le_refl _) (.int .u16 0)) (p := ⟨w.heap.size, 3, none⟩) (Nat.le_refl _) (.int .u16 0)) (p := ⟨w.heap.size, 4, none⟩) (Nat.le_refl _) (.int .u16 0)) (p := ⟨w.heap.size, 5, none⟩) (Nat.le_refl _) (.int .u16 0)) (p := ⟨w.heap.size, 6, none⟩) (Nat.le_refl _) (.int .u16 0)) (p := ⟨w.heap.size, 7, none⟩) (Nat.le_refl _) (.int .u16 0))⟩
     | some l =>
      have CX := Lib.hid (pieces_pq x false w0 lx (b := true) (by simp [ho]))
      cases ho2 : rPieces true y with
      | none =>
       have HN := Lib.hid (show rParse6 s = none by rw [HP.out, HGG.out]; show (match rPieces false x, rPieces true y with | some l, some m => _ | _, _ => none) = none; rw [ho, ho2])
       have CY := Lib.hid fun w => pieces_pq y true w ly (b := false) (by simp [ho2])
       clear ho ho2 HP HG hbad
       go_wp2_with (first
        | (go_at_call 105; go_fit CX.out; rintro e w1 ⟨A, n, c, rfl, hb1, hq⟩; have hR1 := hR0.below hb1 hR0.2.2; have hB1 := bnext hB0 hb1)
        | (go_at_call 105; go_must (go_fit (CY.out w1)); rintro e w2 ⟨A2, n2, c2, rfl, hb2, hq2⟩; have hR2 := hR1.below hb2 hR1.2.2; have hB2 := bnext hB1 hb2; have z0 : w2.cell? ⟨w.heap.size, 0, none⟩ = some (.int .u16 0) := hR2.1 0 _ rfl; have y0 : w2.frozen? ⟨w.heap.size, 0, none⟩ = false := hR2.2.1 0 (by decide); have z1 : w2.cell? ⟨w.heap.size, 1, none⟩ = some (.int .u16 0) := hR2.1 1 _ rfl; have y1 : w2.frozen? ⟨w.heap.size, 1, none⟩ = false := hR2.2.1 1 (by decide); have z2 : w2.cell? ⟨w.heap.size, 2, none⟩ = some (.int .u16 0) := hR2.1 2 _ rfl; have y2 : w2.frozen? ⟨w.heap.size, 2, none⟩ = false := hR2.2.1 2 (by decide); have z3 : w2.cell? ⟨w.heap.size, 3, none⟩ = some (.int .u16 0) := hR2.1 3 _ rfl; have y3 : w2.frozen? ⟨w.heap.size, 3, none⟩ = false := hR2.2.1 3 (by decide); have z4 : w2.cell? ⟨w.heap.size, 4, none⟩ = some (.int .u16 0) := hR2.1 4 _ rfl; have y4 : w2.frozen? ⟨w.heap.size, 4, none⟩ = false := hR2.2.1 4 (by decide); have z5 : w2.cell? ⟨w.heap.size, 5, none⟩ = some (.int .u16 0) := hR2.1 5 _ rfl; have y5 : w2.frozen? ⟨w.heap.size, 5, none⟩ = false := hR2.2.1 5 (by decide); have z6 : w2.cell? ⟨w.heap.size, 6, none⟩ = some (.int .u16 0) := hR2.1 6 _ rfl; have y6 : w2.frozen? ⟨w.heap.size, 6, none⟩ = false := hR2.2.1 6 (by decide); have z7 : w2.cell? ⟨w.heap.size, 7, none⟩ = some (.int .u16 0) := hR2.1 7 _ rfl; have y7 : w2.frozen? ⟨w.heap.size, 7, none⟩ = false := hR2.2.1 7 (by decide)))
       (try simp only [Exit.inBlock, Exit.then])
       refine bodyPost_ret (results_row (R := w.heap.size) (us := #[.int .u16 0, .int .u16 0, .int .u16 0, .int .u16 0, .int .u16 0, .int .u16 0, .int .u16 0, .int .u16 0].toList) (d := .array 8 23) rfl rfl (by exact (Row.set (Row.set (Row.set (Row.set (Row.set (Row.set (Row.set (Row.set hR2 (j := 0) (by simp [u16s, noughts]) (.int .u16 0)) (j := 1) (by simp [u16s, noughts]) (.int .u16 0)) (j := 2) (by simp [u16s, noughts]) (.int .u16 0)) (j := 3) (by simp [u16s, noughts]) (.int .u16 0)) (j := 4) (by simp [u16s, noughts]) (.int .u16 0)) (j := 5) (by simp [u16s, noughts]) (.int .u16 0)) (j := 6) (by simp [u16s, noughts]) (.int .u16 0)) (j := 7) (by simp [u16s, noughts]) (.int .u16 0))) Tryz.underlying24 rfl info_arr8) rfl ?_
       rw [HN.out, ret6_none]
       exact ⟨rfl, (Below.setCell (Below.setCell (Below.setCell (Below.setCell (Below.setCell (Below.setCell (Below.setCell (Below.setCell hB2 (p := ⟨w.heap.size, 0, none⟩) (Nat.le_refl _) (.int .u16 0)) (p := ⟨w.heap.size, 1, none⟩) (Nat.le_refl _) (.int .u16 0)) (p := ⟨w.heap.size, 2, none⟩) (Nat.le_refl _) (.int .u16 0)) (p := ⟨w.heap.size, 3, none⟩) (Nat.le_refl _) (.int .u16 0)) (p := ⟨w.heap.size, 4, none⟩) (Nat.le_refl _) (.int .u16 0)) (p := ⟨w.heap.size, 5, none⟩) (Nat.le_refl _) (.int .u16 0)) (p := ⟨w.heap.size, 6, none⟩) (Nat.le_refl _) (.int .u16 0)) (p := ⟨w.heap.size, 7, none⟩) (Nat.le_refl _) (.int .u16 0))⟩
      | some m =>
       have h7 := hbad l m ho ho2
       have CY := Lib.hid fun w => pieces_pq y true w ly (b := true) (by simp [ho2])
       have HLN := Lib.hid (show l.length ≤ 2000 ∧ m.length ≤ 2000 from ⟨by have := rPieces_len ho; omega, by have := rPieces_len ho2; omega⟩)
       have HN := Lib.hid (show rParse6 s = none by
        rw [HP.out, HGG.out]
        show (match rPieces false x, rPieces true y with | some l, some m => if l.length + m.length ≤ 7 then some (l ++ noughts (8 - l.length - m.length) ++ m) else none | _, _ => none) = none
        rw [ho, ho2]; exact if_neg h7)
       rw [ho] at CX
       rw [ho2] at CY
       clear ho ho2 HP HG hbad
       have H7 := Lib.hid h7
       go_wp2_with (first
        | (go_at_call 105; go_fit CX.out; rintro e w1 ⟨A, n, c, rfl, hb1, hq⟩; have hR1 := hR0.below hb1 hR0.2.2; have hB1 := bnext hB0 hb1)
        | (go_at_call 105; go_must (go_fit (CY.out w1)); rintro e w2 ⟨A2, n2, c2, rfl, hb2, hq2⟩; have hR2 := hR1.below hb2 hR1.2.2; have hB2 := bnext hB1 hb2; have z0 : w2.cell? ⟨w.heap.size, 0, none⟩ = some (.int .u16 0) := hR2.1 0 _ rfl; have y0 : w2.frozen? ⟨w.heap.size, 0, none⟩ = false := hR2.2.1 0 (by decide); have z1 : w2.cell? ⟨w.heap.size, 1, none⟩ = some (.int .u16 0) := hR2.1 1 _ rfl; have y1 : w2.frozen? ⟨w.heap.size, 1, none⟩ = false := hR2.2.1 1 (by decide); have z2 : w2.cell? ⟨w.heap.size, 2, none⟩ = some (.int .u16 0) := hR2.1 2 _ rfl; have y2 : w2.frozen? ⟨w.heap.size, 2, none⟩ = false := hR2.2.1 2 (by decide); have z3 : w2.cell? ⟨w.heap.size, 3, none⟩ = some (.int .u16 0) := hR2.1 3 _ rfl; have y3 : w2.frozen? ⟨w.heap.size, 3, none⟩ = false := hR2.2.1 3 (by decide); have z4 : w2.cell? ⟨w.heap.size, 4, none⟩ = some (.int .u16 0) := hR2.1 4 _ rfl; have y4 : w2.frozen? ⟨w.heap.size, 4, none⟩ = false := hR2.2.1 4 (by decide); have z5 : w2.cell? ⟨w.heap.size, 5, none⟩ = some (.int .u16 0) := hR2.1 5 _ rfl; have y5 : w2.frozen? ⟨w.heap.size, 5, none⟩ = false := hR2.2.1 5 (by decide); have z6 : w2.cell? ⟨w.heap.size, 6, none⟩ = some (.int .u16 0) := hR2.1 6 _ rfl; have y6 : w2.frozen? ⟨w.heap.size, 6, none⟩ = false := hR2.2.1 6 (by decide); have z7 : w2.cell? ⟨w.heap.size, 7, none⟩ = some (.int .u16 0) := hR2.1 7 _ rfl; have y7 : w2.frozen? ⟨w.heap.size, 7, none⟩ = false := hR2.2.1 7 (by decide); have hs7 := sum_big (hq.out l rfl).1 (hq2.out m rfl).1 H7.out; have hws := sum_wrap (hq.out l rfl).1 (hq2.out m rfl).1 HLN.out))
       (try simp only [Exit.inBlock, Exit.then])
       refine bodyPost_ret (results_row (R := w.heap.size) (us := #[.int .u16 0, .int .u16 0, .int .u16 0, .int .u16 0, .int .u16 0, .int .u16 0, .int .u16 0, .int .u16 0].toList) (d := .array 8 23) rfl rfl (by exact (Row.set (Row.set (Row.set (Row.set (Row.set (Row.set (Row.set (Row.set hR2 (j := 0) (by simp [u16s, noughts]) (.int .u16 0)) (j := 1) (by simp [u16s, noughts]) (.int .u16 0)) (j := 2) (by simp [u16s, noughts]) (.int .u16 0)) (j := 3) (by simp [u16s, noughts]) (.int .u16 0)) (j := 4) (by simp [u16s, noughts]) (.int .u16 0)) (j := 5) (by simp [u16s, noughts]) (.int .u16 0)) (j := 6) (by simp [u16s, noughts]) (.int .u16 0)) (j := 7) (by simp [u16s, noughts]) (.int .u16 0))) Tryz.underlying24 rfl info_arr8) rfl ?_
       rw [HN.out, ret6_none]
       exact ⟨rfl, (Below.setCell (Below.setCell (Below.setCell (Below.setCell (Below.setCell (Below.setCell (Below.setCell (Below.setCell hB2 (p := ⟨w.heap.size, 0, none⟩) (Nat.le_refl _) (.int .u16 0)) (p := ⟨w.heap.size, 1, none⟩) (Nat.le_refl _) (.int .u16 0)) (p := ⟨w.heap.size, 2, none⟩) (Nat.le_refl _) (.int .u16 0)) (p := ⟨w.heap.size, 3, none⟩) (Nat.le_refl _) (.int .u16 0)) (p := ⟨w.heap.size, 4, none⟩) (Nat.le_refl _) (.int .u16 0)) (p := ⟨w.heap.size, 5, none⟩) (Nat.le_refl _) (.int .u16 0)) (p := ⟨w.heap.size, 6, none⟩) (Nat.le_refl _) (.int .u16 0)) (p := ⟨w.heap.size, 7, none⟩) (Nat.le_refl _) (.int .u16 0))⟩
    ·
     have hnb : ((((gb s (i + 1)).toNat : Int)) != 58) = true := by simp; exact fun e => h2 (byte_ext (by show _ = 58; omega))
     have HI := Lib.hid (gap_no hinv.out (by omega) (fun e => h2 e.2.2))
     have hnb1 : ((((gb s i).toNat : Int)) != 58) = false := by rw [h1]; rfl
     clear h2 h1
     go_wp2
     go_roundg (s.length - (i + 1))
     case measure => omega
     case rel => exact ⟨i + 1, rfl, by omega, by go_num, HI.out, rfl⟩
   ·
    have hnb : ((((gb s i).toNat : Int)) != 58) = true := by simp; exact fun e => h1 (byte_ext (by show _ = 58; omega))
    have HI := Lib.hid (gap_no hinv.out (by omega) (fun e => h1 e.1))
    clear h1
    go_wp2
    go_roundg (s.length - (i + 1))
    case measure => omega
    case rel => exact ⟨i + 1, rfl, by omega, by go_num, HI.out, rfl⟩
  ·
   have hltI : ¬ (i : Int) + 1 < (s.length : Int) := by omega
   have HG := Lib.hid (gap_end hinv.out hlt)
   exfalso
   have h := HG.out
   rw [HGG.out] at h
   cases h
set_option maxRecDepth 100000 in
set_option maxHeartbeats 16000000 in
theorem rparse6_nil (s : List UInt8) (w : World) (hs : s.length ≤ 1000) {x y : List UInt8} (hG : gap2 s = some (x, y)) {l m : List Nat} (ho : rPieces false x = some l) (ho2 : rPieces true y = some m) (h7 : l.length + m.length ≤ 7) (hm0 : m.length = 0) :
  Calls Tryz.prog 67 #[.string (str s)] w fun e w' => e = ret6 (rParse6 s) ∧ Below w.heap.size w w' := by
 have hsz := str_size s
 have hgt := str_get s
 have HP := Lib.hid (show rParse6 s = match gap2 s with
  | some (x, y) => match rPieces false x, rPieces true y with
   | some l, some m => if l.length + m.length ≤ 7 then some (l ++ noughts (8 - l.length - m.length) ++ m) else none
   | _, _ => none
  | none => match rPieces true s with
   | some l => if l.length = 8 then some l else none
   | none => none from rfl)
 have hA0 : Row (w.alloc (.cells #[.int .u16 0, .int .u16 0, .int .u16 0, .int .u16 0, .int .u16 0, .int .u16 0, .int .u16 0, .int .u16 0] 24)) w.heap.size (u16s (noughts 8)) := Row.made w #[.int .u16 0, .int .u16 0, .int .u16 0, .int .u16 0, .int .u16 0, .int .u16 0, .int .u16 0, .int .u16 0] 24
 have hB1 : Below w.heap.size w (w.alloc (.cells #[.int .u16 0, .int .u16 0, .int .u16 0, .int .u16 0, .int .u16 0, .int .u16 0, .int .u16 0, .int .u16 0] 24)) := (Below.refl _ _).alloc (Nat.le_refl _) _
 have hz1 : (w.alloc (.cells #[.int .u16 0, .int .u16 0, .int .u16 0, .int .u16 0, .int .u16 0, .int .u16 0, .int .u16 0, .int .u16 0] 24)).heap.size = w.heap.size + 1 := by simp
 obtain ⟨wA, hwA⟩ : ∃ wA, wA = w.alloc (.cells #[.int .u16 0, .int .u16 0, .int .u16 0, .int .u16 0, .int .u16 0, .int .u16 0, .int .u16 0, .int .u16 0] 24) := ⟨_, rfl⟩
 rw [← hwA] at hA0 hB1 hz1
 have hX0 : Row (wA.alloc (.cells #[.int .u16 0, .int .u16 0, .int .u16 0, .int .u16 0, .int .u16 0, .int .u16 0, .int .u16 0, .int .u16 0] 24)) (w.heap.size + 1) (u16s (noughts 8)) := by rw [← hz1]; exact Row.made wA #[.int .u16 0, .int .u16 0, .int .u16 0, .int .u16 0, .int .u16 0, .int .u16 0, .int .u16 0, .int .u16 0] 24
 have hR0 : Row (wA.alloc (.cells #[.int .u16 0, .int .u16 0, .int .u16 0, .int .u16 0, .int .u16 0, .int .u16 0, .int .u16 0, .int .u16 0] 24)) w.heap.size (u16s (noughts 8)) := hA0.far _
 have hB0 : Below w.heap.size w (wA.alloc (.cells #[.int .u16 0, .int .u16 0, .int .u16 0, .int .u16 0, .int .u16 0, .int .u16 0, .int .u16 0, .int .u16 0] 24)) := bnew hB1 _
 have hz0 : (wA.alloc (.cells #[.int .u16 0, .int .u16 0, .int .u16 0, .int .u16 0, .int .u16 0, .int .u16 0, .int .u16 0, .int .u16 0] 24)).heap.size = w.heap.size + 2 := by simp [hz1]
 rw [hwA] at hX0 hR0 hB0 hz0
 obtain ⟨w0, hw0⟩ : ∃ w0, w0 = (w.alloc (.cells #[.int .u16 0, .int .u16 0, .int .u16 0, .int .u16 0, .int .u16 0, .int .u16 0, .int .u16 0, .int .u16 0] 24)).alloc (.cells #[.int .u16 0, .int .u16 0, .int .u16 0, .int .u16 0, .int .u16 0, .int .u16 0, .int .u16 0, .int .u16 0] 24) := ⟨_, rfl⟩
 rw [← hw0] at hX0 hR0 hB0 hz0
 have HW := Lib.hid hw0
 clear hwA hA0 hB1 hz1 hw0
 have HGG := Lib.hid hG
 clear hG
 go_enter Tryz.func67, Tryz.ntmps67
 go_wp2
 rw [← HW.out]
 go_loopg [5] s.length (fun k s5 wr => ∃ i : Nat, k = s.length - i ∧ i ≤ s.length ∧ s5 = .int .i64 (i : Int) ∧ Hid (gap2 s = (gap2 (s.drop i)).map fun q => (s.take i ++ q.1, q.2)) ∧ w0 = wr)
 case atStart => exact ⟨0, rfl, Nat.zero_le _, rfl, by show gap2 s = (gap2 s).map fun q => ([] ++ q.1, q.2); cases gap2 s <;> rfl, rfl⟩
 case round =>
  obtain ⟨i, rfl, hi, rfl, hinv, rfl⟩ := hrel
  have hw1 : IntKind.i64.wrap ((i : Int) + 1) = (i : Int) + 1 := IntWalk.i64_in _ (by omega)
  have hw2 : IntKind.i64.wrap ((i : Int) + 2) = (i : Int) + 2 := IntWalk.i64_in _ (by omega)
  have hi0 : (0 : Int) ≤ (i : Int) := by omega
  by_cases hlt : i + 1 < s.length
  ·
   have hltI : (i : Int) + 1 < (s.length : Int) := by omega
   have hltJ : (i : Int) < (s.length : Int) := by omega
   by_cases h1 : gb s i = 58
   ·
    by_cases h2 : gb s (i + 1) = 58
    ·
     have HG := Lib.hid (gap_yes hinv.out hlt h1 h2)
     have e1 : (str s).extract 0 i = str (tk s i) := str_front s i
     have e2 : (str s).extract (i + 2) s.length = str (dr s (i + 2)) := str_end s (i + 2)
     have hltK : (i : Int) + 2 ≤ (s.length : Int) := by omega
     have lx : (tk s i).length ≤ 1000 := by rw [tk_len]; omega
     have ly : (dr s (i + 2)).length ≤ 1000 := by rw [dr_len]; omega
     have hxy := HG.out
     rw [HGG.out] at hxy
     injection hxy with hxy
     injection hxy with hx hy
     rw [← hx] at e1 lx
     rw [← hy] at e2 ly
     clear hx hy hinv
     have CX := Lib.hid (pieces_pq x false w0 lx (b := true) (by simp [ho]))
     have CY := Lib.hid fun w => pieces_pq y true w ly (b := true) (by simp [ho2])
     have HLN := Lib.hid (show l.length ≤ 2000 ∧ m.length ≤ 2000 from ⟨by have := rPieces_len ho; omega, by have := rPieces_len ho2; omega⟩)
     have HN := Lib.hid (show rParse6 s = some (l ++ noughts (8 - l.length - m.length) ++ m) by
      rw [HP.out, HGG.out]
      show (match rPieces false x, rPieces true y with | some l, some m => if l.length + m.length ≤ 7 then some (l ++ noughts (8 - l.length - m.length) ++ m) else none | _, _ => none) = _
      rw [ho, ho2]; exact if_pos h7)
     rw [ho] at CX
     rw [ho2] at CY
     have HM8 := Lib.hid (show (l ++ noughts (8 - l.length - m.length) ++ m).length = 8 by simp [noughts]; omega)
     have HLG := Lib.hid (lay_gap h7)
     have H7 := Lib.hid h7
     have HL8 := Lib.hid (lay0_len (l := l) (by omega))
     clear ho ho2 HP HG
     obtain rfl : m = [] := List.eq_nil_of_length_eq_zero hm0
     have hw8 : wrap64 8 = 8 := IntWalk.wrap64_in _ (by omega)
     have hw88 : IntKind.i64.wrap 8 = 8 := by decide
     have HLG := Lib.hid (show lay (lay (noughts 8) 0 l) 8 [] = l ++ noughts (8 - l.length - ([] : List Nat).length) ++ [] from HLG.out)
     clear hm0 h7
     go_wp2_with (first
      | (go_at_call 105; go_fit CX.out; rintro e w1 ⟨A, n, c, rfl, hb1, hq⟩; have hR1 := hR0.below hb1 hR0.2.2; have hX1 := hX0.below hb1 hX0.2.2; have hB1 := bnext hB0 hb1)
      | (go_at_call 105; go_must (go_fit (CY.out w1)); rintro e w2 ⟨A2, n2, c2, rfl, hb2, hq2⟩; have hR2 := hR1.below hb2 hR1.2.2; have hX2 := hX1.below hb2 hX1.2.2; have hB2 := bnext hB1 hb2; have hs7 := sum_small (hq.out l rfl).1 (hq2.out [] rfl).1 H7.out; have hws := sum_wrap (hq.out l rfl).1 (hq2.out [] rfl).1 HLN.out; obtain ⟨hn, hr1, hnc, hcm, _⟩ := hq.out l rfl; obtain ⟨hn2, hr2, hnc2, hcm2, hbk2⟩ := hq2.out [] rfl; have hr1' := rd_on hr1 hb2; subst hn; subst hn2)
      | ((with_reducible show wpList _ _ _ ((Oper.mk _ (Op.call { callee := Callee.builtin Builtin.copy, args := _, argTypes := _ }) _ _ _ _) :: _) _ _); refine wpList_copy_row rfl _ _ 72 72 rfl 23 Tryz.underlying72 info_u16s _ 8 8 rfl _ _ _ rfl (w.heap.size + 1) 0 (u16s (noughts 8)) hX2 _ (u16s l) hr1' (by rw [u16s_len]) (fun _ => rfl) (by have := H7.out; ((try clear hwo); (try clear hwo2); (try clear hwo3); (try clear hwo4); (try clear hws); (try clear hs7); (try clear hw1); (try clear hw2); omega)) (by rw [u16s_len]; have := H7.out; simp [noughts]; ((try clear hwo); (try clear hwo2); (try clear hwo3); (try clear hwo4); (try clear hws); (try clear hs7); (try clear hw1); (try clear hw2); omega)) (u16s_one _) ?_; intro w5 hX5 hg5; have hR5 := Row.grown hR2 hg5 (fun e => by injection e with e; ((try clear hwo); (try clear hwo2); (try clear hwo3); (try clear hwo4); (try clear hws); (try clear hs7); (try clear hw1); (try clear hw2); omega)); have hB5 := hB2.grown hg5 (by have := hR2.2.2; ((try clear hwo); (try clear hwo2); (try clear hwo3); (try clear hwo4); (try clear hws); (try clear hs7); (try clear hw1); (try clear hw2); omega)) (fun j e => by injection e with e; ((try clear hwo); (try clear hwo2); (try clear hwo3); (try clear hwo4); (try clear hws); (try clear hs7); (try clear hw1); (try clear hw2); omega)); have hr25 := rd_row (n := ([] : List Nat).length) (c := c2) hr2 hg5 (fun k h e => by have := hbk2 k h; have := hX1.2.2; injection e with e; ((try clear hwo); (try clear hwo2); (try clear hwo3); (try clear hwo4); (try clear hws); (try clear hs7); (try clear hw1); (try clear hw2); omega)); rw [u16s_lay] at hX5; try obtain ⟨hom, hoI, hwo, hwo2, hwo3, hwo4, ho8I, ho0I, hc1, hc2⟩ := HO.out)
      | ((with_reducible show wpList _ _ _ ((Oper.mk _ (Op.call { callee := Callee.builtin Builtin.copy, args := _, argTypes := _ }) _ _ _ _) :: _) _ _); refine wpList_copy_row rfl _ _ 72 72 rfl 23 Tryz.underlying72 info_u16s _ _ _ rfl _ _ _ rfl (w.heap.size + 1) 8 (u16s (lay (noughts 8) 0 l)) hX5 _ (u16s []) hr25 (by rw [u16s_len]; first | rfl | skip) (fun h => absurd h (by decide)) (by first | ((try clear hwo); (try clear hwo2); (try clear hwo3); (try clear hwo4); (try clear hws); (try clear hs7); (try clear hw1); (try clear hw2); omega) | simp) (by rw [u16s_len, HL8.out]; first | ((try clear hwo); (try clear hwo2); (try clear hwo3); (try clear hwo4); (try clear hws); (try clear hs7); (try clear hw1); (try clear hw2); omega) | simp) (u16s_one _) ?_; intro w6 hX6 hg6; have hR6 := Row.grown hR5 hg6 (fun e => by injection e with e; ((try clear hwo); (try clear hwo2); (try clear hwo3); (try clear hwo4); (try clear hws); (try clear hs7); (try clear hw1); (try clear hw2); omega)); have hB6 := hB5.grown hg6 (by have := hR5.2.2; ((try clear hwo); (try clear hwo2); (try clear hwo3); (try clear hwo4); (try clear hws); (try clear hs7); (try clear hw1); (try clear hw2); omega)) (fun j e => by injection e with e; ((try clear hwo); (try clear hwo2); (try clear hwo3); (try clear hwo4); (try clear hws); (try clear hs7); (try clear hw1); (try clear hw2); omega)); rw [u16s_lay, HLG.out] at hX6; obtain ⟨a0, a1, a2, a3, a4, a5, a6, a7, hM⟩ := eight HM8.out; rw [hM] at hX6 HN; have z0 : w6.cell? ⟨w.heap.size, 0, none⟩ = some (.int .u16 0) := hR6.1 0 _ rfl; have y0 : w6.frozen? ⟨w.heap.size, 0, none⟩ = false := hR6.2.1 0 (by decide); have z1 : w6.cell? ⟨w.heap.size, 1, none⟩ = some (.int .u16 0) := hR6.1 1 _ rfl; have y1 : w6.frozen? ⟨w.heap.size, 1, none⟩ = false := hR6.2.1 1 (by decide); have z2 : w6.cell? ⟨w.heap.size, 2, none⟩ = some (.int .u16 0) := hR6.1 2 _ rfl; have y2 : w6.frozen? ⟨w.heap.size, 2, none⟩ = false := hR6.2.1 2 (by decide); have z3 : w6.cell? ⟨w.heap.size, 3, none⟩ = some (.int .u16 0) := hR6.1 3 _ rfl; have y3 : w6.frozen? ⟨w.heap.size, 3, none⟩ = false := hR6.2.1 3 (by decide); have z4 : w6.cell? ⟨w.heap.size, 4, none⟩ = some (.int .u16 0) := hR6.1 4 _ rfl; have y4 : w6.frozen? ⟨w.heap.size, 4, none⟩ = false := hR6.2.1 4 (by decide); have z5 : w6.cell? ⟨w.heap.size, 5, none⟩ = some (.int .u16 0) := hR6.1 5 _ rfl; have y5 : w6.frozen? ⟨w.heap.size, 5, none⟩ = false := hR6.2.1 5 (by decide); have z6 : w6.cell? ⟨w.heap.size, 6, none⟩ = some (.int .u16 0) := hR6.1 6 _ rfl; have y6 : w6.frozen? ⟨w.heap.size, 6, none⟩ = false := hR6.2.1 6 (by decide); have z7 : w6.cell? ⟨w.heap.size, 7, none⟩ = some (.int .u16 0) := hR6.1 7 _ rfl; have y7 : w6.frozen? ⟨w.heap.size, 7, none⟩ = false := hR6.2.1 7 (by decide); have x0 : w6.cell? ⟨w.heap.size + 1, 0, none⟩ = some (.int .u16 (a0 : Int)) := hX6.1 0 _ rfl; have x1 : w6.cell? ⟨w.heap.size + 1, 1, none⟩ = some (.int .u16 (a1 : Int)) := hX6.1 1 _ rfl; have x2 : w6.cell? ⟨w.heap.size + 1, 2, none⟩ = some (.int .u16 (a2 : Int)) := hX6.1 2 _ rfl; have x3 : w6.cell? ⟨w.heap.size + 1, 3, none⟩ = some (.int .u16 (a3 : Int)) := hX6.1 3 _ rfl; have x4 : w6.cell? ⟨w.heap.size + 1, 4, none⟩ = some (.int .u16 (a4 : Int)) := hX6.1 4 _ rfl; have x5 : w6.cell? ⟨w.heap.size + 1, 5, none⟩ = some (.int .u16 (a5 : Int)) := hX6.1 5 _ rfl; have x6 : w6.cell? ⟨w.heap.size + 1, 6, none⟩ = some (.int .u16 (a6 : Int)) := hX6.1 6 _ rfl; have x7 : w6.cell? ⟨w.heap.size + 1, 7, none⟩ = some (.int .u16 (a7 : Int)) := hX6.1 7 _ rfl; clear hM hX5 hX2 hX1 hX0 hR5 hR2 hR1 hR0 hB5 hB2 hB1 hB0 hr25 hr2 hr1' hr1 hg5 hg6 hX6 hq hq2 hbk2))
     (try simp only [Exit.inBlock, Exit.then])
     refine bodyPost_ret (results_row (R := w.heap.size) (us := #[.int .u16 (a0 : Int), .int .u16 (a1 : Int), .int .u16 (a2 : Int), .int .u16 (a3 : Int), .int .u16 (a4 : Int), .int .u16 (a5 : Int), .int .u16 (a6 : Int), .int .u16 (a7 : Int)].toList) (d := .array 8 23) rfl rfl (by exact (Row.set (Row.set (Row.set (Row.set (Row.set (Row.set (Row.set (Row.set hR6 (j := 0) (by simp [u16s, noughts]) (.int .u16 (a0 : Int))) (j := 1) (by simp [u16s, noughts]) (.int .u16 (a1 : Int))) (j := 2) (by simp [u16s, noughts]) (.int .u16 (a2 : Int))) (j := 3) (by simp [u16s, noughts]) (.int .u16 (a3 : Int))) (j := 4) (by simp [u16s, noughts]) (.int .u16 (a4 : Int))) (j := 5) (by simp [u16s, noughts]) (.int .u16 (a5 : Int))) (j := 6) (by simp [u16s, noughts]) (.int .u16 (a6 : Int))) (j := 7) (by simp [u16s, noughts]) (.int .u16 (a7 : Int)))) Tryz.underlying24 rfl info_arr8) rfl ?_
     rw [HN.out]
     exact ⟨rfl, (Below.setCell (Below.setCell (Below.setCell (Below.setCell (Below.setCell (Below.setCell (Below.setCell (Below.setCell hB6 (p := ⟨w.heap.size, 0, none⟩) (Nat.le_refl _) (.int .u16 (a0 : Int))) (p := ⟨w.heap.size, 1, none⟩) (Nat.le_refl _) (.int .u16 (a1 : Int))) (p := ⟨w.heap.size, 2, none⟩) (Nat.le_refl _) (.int .u16 (a2 : Int))) (p := ⟨w.heap.size, 3, none⟩) (Nat.le_refl _) (.int .u16 (a3 : Int))) (p := ⟨w.heap.size, 4, none⟩) (Nat.le_refl _) (.int .u16 (a4 : Int))) (p := ⟨w.heap.size, 5, none⟩) (Nat.le_refl _) (.int .u16 (a5 : Int))) (p := ⟨w.heap.size, 6, none⟩) (Nat.le_refl _) (.int .u16 (a6 : Int))) (p := ⟨w.heap.size, 7, none⟩) (Nat.le_refl _) (.int .u16 (a7 : Int)))⟩
    ·
     have hnb : ((((gb s (i + 1)).toNat : Int)) != 58) = true := by simp; exact fun e => h2 (byte_ext (by show _ = 58; omega))
     have HI := Lib.hid (gap_no hinv.out (by omega) (fun e => h2 e.2.2))
     have hnb1 : ((((gb s i).toNat : Int)) != 58) = false := by rw [h1]; rfl
     clear h2 h1
     go_wp2
     go_roundg (s.length - (i + 1))
     case measure => omega
     case rel => exact ⟨i + 1, rfl, by omega, by go_num, HI.out, rfl⟩
   ·
    have hnb : ((((gb s i).toNat : Int)) != 58) = true := by simp; exact fun e => h1 (byte_ext (by show _ = 58; omega))
    have HI := Lib.hid (gap_no hinv.out (by omega) (fun e => h1 e.1))
    clear h1
    go_wp2
    go_roundg (s.length - (i + 1))
    case measure => omega
    case rel => exact ⟨i + 1, rfl, by omega, by go_num, HI.out, rfl⟩
  ·
   have hltI : ¬ (i : Int) + 1 < (s.length : Int) := by omega
   have HG := Lib.hid (gap_end hinv.out hlt)
   exfalso
   have h := HG.out
   rw [HGG.out] at h
   cases h
set_option maxRecDepth 100000 in
set_option maxHeartbeats 16000000 in
theorem rparse6_two (s : List UInt8) (w : World) (hs : s.length ≤ 1000) {x y : List UInt8} (hG : gap2 s = some (x, y)) {l m : List Nat} (ho : rPieces false x = some l) (ho2 : rPieces true y = some m) (h7 : l.length + m.length ≤ 7) (hm0 : m.length ≠ 0) :
  Calls Tryz.prog 67 #[.string (str s)] w fun e w' => e = ret6 (rParse6 s) ∧ Below w.heap.size w w' := by
 have hsz := str_size s
 have hgt := str_get s
 have HP := Lib.hid (show rParse6 s = match gap2 s with
  | some (x, y) => match rPieces false x, rPieces true y with
   | some l, some m => if l.length + m.length ≤ 7 then some (l ++ noughts (8 - l.length - m.length) ++ m) else none
   | _, _ => none
  | none => match rPieces true s with
   | some l => if l.length = 8 then some l else none
   | none => none from rfl)
 have hA0 : Row (w.alloc (.cells #[.int .u16 0, .int .u16 0, .int .u16 0, .int .u16 0, .int .u16 0, .int .u16 0, .int .u16 0, .int .u16 0] 24)) w.heap.size (u16s (noughts 8)) := Row.made w #[.int .u16 0, .int .u16 0, .int .u16 0, .int .u16 0, .int .u16 0, .int .u16 0, .int .u16 0, .int .u16 0] 24
 have hB1 : Below w.heap.size w (w.alloc (.cells #[.int .u16 0, .int .u16 0, .int .u16 0, .int .u16 0, .int .u16 0, .int .u16 0, .int .u16 0, .int .u16 0] 24)) := (Below.refl _ _).alloc (Nat.le_refl _) _
 have hz1 : (w.alloc (.cells #[.int .u16 0, .int .u16 0, .int .u16 0, .int .u16 0, .int .u16 0, .int .u16 0, .int .u16 0, .int .u16 0] 24)).heap.size = w.heap.size + 1 := by simp
 obtain ⟨wA, hwA⟩ : ∃ wA, wA = w.alloc (.cells #[.int .u16 0, .int .u16 0, .int .u16 0, .int .u16 0, .int .u16 0, .int .u16 0, .int .u16 0, .int .u16 0] 24) := ⟨_, rfl⟩
 rw [← hwA] at hA0 hB1 hz1
 have hX0 : Row (wA.alloc (.cells #[.int .u16 0, .int .u16 0, .int .u16 0, .int .u16 0, .int .u16 0, .int .u16 0, .int .u16 0, .int .u16 0] 24)) (w.heap.size + 1) (u16s (noughts 8)) := by rw [← hz1]; exact Row.made wA #[.int .u16 0, .int .u16 0, .int .u16 0, .int .u16 0, .int .u16 0, .int .u16 0, .int .u16 0, .int .u16 0] 24
 have hR0 : Row (wA.alloc (.cells #[.int .u16 0, .int .u16 0, .int .u16 0, .int .u16 0, .int .u16 0, .int .u16 0, .int .u16 0, .int .u16 0] 24)) w.heap.size (u16s (noughts 8)) := hA0.far _
 have hB0 : Below w.heap.size w (wA.alloc (.cells #[.int .u16 0, .int .u16 0, .int .u16 0, .int .u16 0, .int .u16 0, .int .u16 0, .int .u16 0, .int .u16 0] 24)) := bnew hB1 _
 have hz0 : (wA.alloc (.cells #[.int .u16 0, .int .u16 0, .int .u16 0, .int .u16 0, .int .u16 0, .int .u16 0, .int .u16 0, .int .u16 0] 24)).heap.size = w.heap.size + 2 := by simp [hz1]
 rw [hwA] at hX0 hR0 hB0 hz0
 obtain ⟨w0, hw0⟩ : ∃ w0, w0 = (w.alloc (.cells #[.int .u16 0, .int .u16 0, .int .u16 0, .int .u16 0, .int .u16 0, .int .u16 0, .int .u16 0, .int .u16 0] 24)).alloc (.cells #[.int .u16 0, .int .u16 0, .int .u16 0, .int .u16 0, .int .u16 0, .int .u16 0, .int .u16 0, .int .u16 0] 24) := ⟨_, rfl⟩
 rw [← hw0] at hX0 hR0 hB0 hz0
 have HW := Lib.hid hw0
 clear hwA hA0 hB1 hz1 hw0
 have HGG := Lib.hid hG
 clear hG
 go_enter Tryz.func67, Tryz.ntmps67
 go_wp2
 rw [← HW.out]
 go_loopg [5] s.length (fun k s5 wr => ∃ i : Nat, k = s.length - i ∧ i ≤ s.length ∧ s5 = .int .i64 (i : Int) ∧ Hid (gap2 s = (gap2 (s.drop i)).map fun q => (s.take i ++ q.1, q.2)) ∧ w0 = wr)
 case atStart => exact ⟨0, rfl, Nat.zero_le _, rfl, by show gap2 s = (gap2 s).map fun q => ([] ++ q.1, q.2); cases gap2 s <;> rfl, rfl⟩
 case round =>
  obtain ⟨i, rfl, hi, rfl, hinv, rfl⟩ := hrel
  have hw1 : IntKind.i64.wrap ((i : Int) + 1) = (i : Int) + 1 := IntWalk.i64_in _ (by omega)
  have hw2 : IntKind.i64.wrap ((i : Int) + 2) = (i : Int) + 2 := IntWalk.i64_in _ (by omega)
  have hi0 : (0 : Int) ≤ (i : Int) := by omega
  by_cases hlt : i + 1 < s.length
  ·
   have hltI : (i : Int) + 1 < (s.length : Int) := by omega
   have hltJ : (i : Int) < (s.length : Int) := by omega
   by_cases h1 : gb s i = 58
   ·
    by_cases h2 : gb s (i + 1) = 58
    ·
     have HG := Lib.hid (gap_yes hinv.out hlt h1 h2)
     have e1 : (str s).extract 0 i = str (tk s i) := str_front s i
     have e2 : (str s).extract (i + 2) s.length = str (dr s (i + 2)) := str_end s (i + 2)
     have hltK : (i : Int) + 2 ≤ (s.length : Int) := by omega
     have lx : (tk s i).length ≤ 1000 := by rw [tk_len]; omega
     have ly : (dr s (i + 2)).length ≤ 1000 := by rw [dr_len]; omega
     have hxy := HG.out
     rw [HGG.out] at hxy
     injection hxy with hxy
     injection hxy with hx hy
     rw [← hx] at e1 lx
     rw [← hy] at e2 ly
     clear hx hy hinv
     have CX := Lib.hid (pieces_pq x false w0 lx (b := true) (by simp [ho]))
     have CY := Lib.hid fun w => pieces_pq y true w ly (b := true) (by simp [ho2])
     have HLN := Lib.hid (show l.length ≤ 2000 ∧ m.length ≤ 2000 from ⟨by have := rPieces_len ho; omega, by have := rPieces_len ho2; omega⟩)
     have HN := Lib.hid (show rParse6 s = some (l ++ noughts (8 - l.length - m.length) ++ m) by
      rw [HP.out, HGG.out]
      show (match rPieces false x, rPieces true y with | some l, some m => if l.length + m.length ≤ 7 then some (l ++ noughts (8 - l.length - m.length) ++ m) else none | _, _ => none) = _
      rw [ho, ho2]; exact if_pos h7)
     rw [ho] at CX
     rw [ho2] at CY
     have HM8 := Lib.hid (show (l ++ noughts (8 - l.length - m.length) ++ m).length = 8 by simp [noughts]; omega)
     have HLG := Lib.hid (lay_gap h7)
     have H7 := Lib.hid h7
     have HL8 := Lib.hid (lay0_len (l := l) (by omega))
     clear ho ho2 HP HG
     obtain ⟨o, ho⟩ : ∃ o, o = 8 - m.length := ⟨_, rfl⟩
     have hm7 : m.length ≤ 8 := by omega
     have HO := Lib.hid (oFacts hm7 hm0 ho)
     rw [← ho] at HLG
     clear hm0 hm7 ho
     go_wp2_with (first
      | (go_at_call 105; go_fit CX.out; rintro e w1 ⟨A, n, c, rfl, hb1, hq⟩; have hR1 := hR0.below hb1 hR0.2.2; have hX1 := hX0.below hb1 hX0.2.2; have hB1 := bnext hB0 hb1)
      | (go_at_call 105; go_must (go_fit (CY.out w1)); rintro e w2 ⟨A2, n2, c2, rfl, hb2, hq2⟩; have hR2 := hR1.below hb2 hR1.2.2; have hX2 := hX1.below hb2 hX1.2.2; have hB2 := bnext hB1 hb2; have hs7 := sum_small (hq.out l rfl).1 (hq2.out m rfl).1 H7.out; have hws := sum_wrap (hq.out l rfl).1 (hq2.out m rfl).1 HLN.out; obtain ⟨hn, hr1, hnc, hcm, _⟩ := hq.out l rfl; obtain ⟨hn2, hr2, hnc2, hcm2, hbk2⟩ := hq2.out m rfl; have hr1' := rd_on hr1 hb2; subst hn; subst hn2)
      | ((with_reducible show wpList _ _ _ ((Oper.mk _ (Op.call { callee := Callee.builtin Builtin.copy, args := _, argTypes := _ }) _ _ _ _) :: _) _ _); refine wpList_copy_row rfl _ _ 72 72 rfl 23 Tryz.underlying72 info_u16s _ 8 8 rfl _ _ _ rfl (w.heap.size + 1) 0 (u16s (noughts 8)) hX2 _ (u16s l) hr1' (by rw [u16s_len]) (fun _ => rfl) (by have := H7.out; ((try clear hwo); (try clear hwo2); (try clear hwo3); (try clear hwo4); (try clear hws); (try clear hs7); (try clear hw1); (try clear hw2); omega)) (by rw [u16s_len]; have := H7.out; simp [noughts]; ((try clear hwo); (try clear hwo2); (try clear hwo3); (try clear hwo4); (try clear hws); (try clear hs7); (try clear hw1); (try clear hw2); omega)) (u16s_one _) ?_; intro w5 hX5 hg5; have hR5 := Row.grown hR2 hg5 (fun e => by injection e with e; ((try clear hwo); (try clear hwo2); (try clear hwo3); (try clear hwo4); (try clear hws); (try clear hs7); (try clear hw1); (try clear hw2); omega)); have hB5 := hB2.grown hg5 (by have := hR2.2.2; ((try clear hwo); (try clear hwo2); (try clear hwo3); (try clear hwo4); (try clear hws); (try clear hs7); (try clear hw1); (try clear hw2); omega)) (fun j e => by injection e with e; ((try clear hwo); (try clear hwo2); (try clear hwo3); (try clear hwo4); (try clear hws); (try clear hs7); (try clear hw1); (try clear hw2); omega)); have hr25 := rd_row (n := (m : List Nat).length) (c := c2) hr2 hg5 (fun k h e => by have := hbk2 k h; have := hX1.2.2; injection e with e; ((try clear hwo); (try clear hwo2); (try clear hwo3); (try clear hwo4); (try clear hws); (try clear hs7); (try clear hw1); (try clear hw2); omega)); rw [u16s_lay] at hX5; try obtain ⟨hom, hoI, hwo, hwo2, hwo3, hwo4, ho8I, ho0I, hc1, hc2⟩ := HO.out)
      | ((with_reducible show wpList _ _ _ ((Oper.mk _ (Op.call { callee := Callee.builtin Builtin.copy, args := _, argTypes := _ }) _ _ _ _) :: _) _ _); refine wpList_copy_row rfl _ _ 72 72 rfl 23 Tryz.underlying72 info_u16s _ _ _ rfl _ _ _ rfl (w.heap.size + 1) o (u16s (lay (noughts 8) 0 l)) hX5 _ (u16s m) hr25 (by rw [u16s_len]; first | rfl | skip) (fun _ => rfl) (by first | ((try clear hwo); (try clear hwo2); (try clear hwo3); (try clear hwo4); (try clear hws); (try clear hs7); (try clear hw1); (try clear hw2); omega) | simp) (by rw [u16s_len, HL8.out]; first | ((try clear hwo); (try clear hwo2); (try clear hwo3); (try clear hwo4); (try clear hws); (try clear hs7); (try clear hw1); (try clear hw2); omega) | simp) (u16s_one _) ?_; intro w6 hX6 hg6; have hR6 := Row.grown hR5 hg6 (fun e => by injection e with e; ((try clear hwo); (try clear hwo2); (try clear hwo3); (try clear hwo4); (try clear hws); (try clear hs7); (try clear hw1); (try clear hw2); omega)); have hB6 := hB5.grown hg6 (by have := hR5.2.2; ((try clear hwo); (try clear hwo2); (try clear hwo3); (try clear hwo4); (try clear hws); (try clear hs7); (try clear hw1); (try clear hw2); omega)) (fun j e => by injection e with e; ((try clear hwo); (try clear hwo2); (try clear hwo3); (try clear hwo4); (try clear hws); (try clear hs7); (try clear hw1); (try clear hw2); omega)); rw [u16s_lay, HLG.out] at hX6; obtain ⟨a0, a1, a2, a3, a4, a5, a6, a7, hM⟩ := eight HM8.out; rw [hM] at hX6 HN; have z0 : w6.cell? ⟨w.heap.size, 0, none⟩ = some (.int .u16 0) := hR6.1 0 _ rfl; have y0 : w6.frozen? ⟨w.heap.size, 0, none⟩ = false := hR6.2.1 0 (by decide); have z1 : w6.cell? ⟨w.heap.size, 1, none⟩ = some (.int .u16 0) := hR6.1 1 _ rfl; have y1 : w6.frozen? ⟨w.heap.size, 1, none⟩ = false := hR6.2.1 1 (by decide); have z2 : w6.cell? ⟨w.heap.size, 2, none⟩ = some (.int .u16 0) := hR6.1 2 _ rfl; have y2 : w6.frozen? ⟨w.heap.size, 2, none⟩ = false := hR6.2.1 2 (by decide); have z3 : w6.cell? ⟨w.heap.size, 3, none⟩ = some (.int .u16 0) := hR6.1 3 _ rfl; have y3 : w6.frozen? ⟨w.heap.size, 3, none⟩ = false := hR6.2.1 3 (by decide); have z4 : w6.cell? ⟨w.heap.size, 4, none⟩ = some (.int .u16 0) := hR6.1 4 _ rfl; have y4 : w6.frozen? ⟨w.heap.size, 4, none⟩ = false := hR6.2.1 4 (by decide); have z5 : w6.cell? ⟨w.heap.size, 5, none⟩ = some (.int .u16 0) := hR6.1 5 _ rfl; have y5 : w6.frozen? ⟨w.heap.size, 5, none⟩ = false := hR6.2.1 5 (by decide); have z6 : w6.cell? ⟨w.heap.size, 6, none⟩ = some (.int .u16 0) := hR6.1 6 _ rfl; have y6 : w6.frozen? ⟨w.heap.size, 6, none⟩ = false := hR6.2.1 6 (by decide); have z7 : w6.cell? ⟨w.heap.size, 7, none⟩ = some (.int .u16 0) := hR6.1 7 _ rfl; have y7 : w6.frozen? ⟨w.heap.size, 7, none⟩ = false := hR6.2.1 7 (by decide); have x0 : w6.cell? ⟨w.heap.size + 1, 0, none⟩ = some (.int .u16 (a0 : Int)) := hX6.1 0 _ rfl; have x1 : w6.cell? ⟨w.heap.size + 1, 1, none⟩ = some (.int .u16 (a1 : Int)) := hX6.1 1 _ rfl; have x2 : w6.cell? ⟨w.heap.size + 1, 2, none⟩ = some (.int .u16 (a2 : Int)) := hX6.1 2 _ rfl; have x3 : w6.cell? ⟨w.heap.size + 1, 3, none⟩ = some (.int .u16 (a3 : Int)) := hX6.1 3 _ rfl; have x4 : w6.cell? ⟨w.heap.size + 1, 4, none⟩ = some (.int .u16 (a4 : Int)) := hX6.1 4 _ rfl; have x5 : w6.cell? ⟨w.heap.size + 1, 5, none⟩ = some (.int .u16 (a5 : Int)) := hX6.1 5 _ rfl; have x6 : w6.cell? ⟨w.heap.size + 1, 6, none⟩ = some (.int .u16 (a6 : Int)) := hX6.1 6 _ rfl; have x7 : w6.cell? ⟨w.heap.size + 1, 7, none⟩ = some (.int .u16 (a7 : Int)) := hX6.1 7 _ rfl; clear hM hX5 hX2 hX1 hX0 hR5 hR2 hR1 hR0 hB5 hB2 hB1 hB0 hr25 hr2 hr1' hr1 hg5 hg6 hX6 hq hq2 hbk2))
     (try simp only [Exit.inBlock, Exit.then])
     refine bodyPost_ret (results_row (R := w.heap.size) (us := #[.int .u16 (a0 : Int), .int .u16 (a1 : Int), .int .u16 (a2 : Int), .int .u16 (a3 : Int), .int .u16 (a4 : Int), .int .u16 (a5 : Int), .int .u16 (a6 : Int), .int .u16 (a7 : Int)].toList) (d := .array 8 23) rfl rfl (by exact (Row.set (Row.set (Row.set (Row.set (Row.set (Row.set (Row.set (Row.set hR6 (j := 0) (by simp [u16s, noughts]) (.int .u16 (a0 : Int))) (j := 1) (by simp [u16s, noughts]) (.int .u16 (a1 : Int))) (j := 2) (by simp [u16s, noughts]) (.int .u16 (a2 : Int))) (j := 3) (by simp [u16s, noughts]) (.int .u16 (a3 : Int))) (j := 4) (by simp [u16s, noughts]) (.int .u16 (a4 : Int))) (j := 5) (by simp [u16s, noughts]) (.int .u16 (a5 : Int))) (j := 6) (by simp [u16s, noughts]) (.int .u16 (a6 : Int))) (j := 7) (by simp [u16s, noughts]) (.int .u16 (a7 : Int)))) Tryz.underlying24 rfl info_arr8) rfl ?_
     rw [HN.out]
     exact ⟨rfl, (Below.setCell (Below.setCell (Below.setCell (Below.setCell (Below.setCell (Below.setCell (Below.setCell (Below.setCell hB6 (p := ⟨w.heap.size, 0, none⟩) (Nat.le_refl _) (.int .u16 (a0 : Int))) (p := ⟨w.heap.size, 1, none⟩) (Nat.le_refl _) (.int .u16 (a1 : Int))) (p := ⟨w.heap.size, 2, none⟩) (Nat.le_refl _) (.int .u16 (a2 : Int))) (p := ⟨w.heap.size, 3, none⟩) (Nat.le_refl _) (.int .u16 (a3 : Int))) (p := ⟨w.heap.size, 4, none⟩) (Nat.le_refl _) (.int .u16 (a4 : Int))) (p := ⟨w.heap.size, 5, none⟩) (Nat.le_refl _) (.int .u16 (a5 : Int))) (p := ⟨w.heap.size, 6, none⟩) (Nat.le_refl _) (.int .u16 (a6 : Int))) (p := ⟨w.heap.size, 7, none⟩) (Nat.le_refl _) (.int .u16 (a7 : Int)))⟩
    ·
     have hnb : ((((gb s (i + 1)).toNat : Int)) != 58) = true := by simp; exact fun e => h2 (byte_ext (by show _ = 58; omega))
     have HI := Lib.hid (gap_no hinv.out (by omega) (fun e => h2 e.2.2))
     have hnb1 : ((((gb s i).toNat : Int)) != 58) = false := by rw [h1]; rfl
     clear h2 h1
     go_wp2
     go_roundg (s.length - (i + 1))
     case measure => omega
     case rel => exact ⟨i + 1, rfl, by omega, by go_num, HI.out, rfl⟩
   ·
    have hnb : ((((gb s i).toNat : Int)) != 58) = true := by simp; exact fun e => h1 (byte_ext (by show _ = 58; omega))
    have HI := Lib.hid (gap_no hinv.out (by omega) (fun e => h1 e.1))
    clear h1
    go_wp2
    go_roundg (s.length - (i + 1))
    case measure => omega
    case rel => exact ⟨i + 1, rfl, by omega, by go_num, HI.out, rfl⟩
  ·
   have hltI : ¬ (i : Int) + 1 < (s.length : Int) := by omega
   have HG := Lib.hid (gap_end hinv.out hlt)
   exfalso
   have h := HG.out
   rw [HGG.out] at h
   cases h
theorem rparse6_any (s : List UInt8) (w : World) (hs : s.length ≤ 1000) :
  Calls Tryz.prog 67 #[.string (str s)] w fun e w' => e = ret6 (rParse6 s) ∧ Below w.heap.size w w' := by
 cases hG : gap2 s with
 | none => exact rparse6_none s w hs hG
 | some q =>
  obtain ⟨x, y⟩ := q
  cases ho : rPieces false x with
  | none => exact rparse6_bad s w hs hG fun l m h1 _ => by rw [ho] at h1; cases h1
  | some l =>
   cases ho2 : rPieces true y with
   | none => exact rparse6_bad s w hs hG fun l m _ h2 => by rw [ho2] at h2; cases h2
   | some m =>
    by_cases h7 : l.length + m.length ≤ 7
    ·
     by_cases hm0 : m.length = 0
     · exact rparse6_nil s w hs hG ho ho2 h7 hm0
     · exact rparse6_two s w hs hG ho ho2 h7 hm0
    ·
     refine rparse6_bad s w hs hG fun l' m' h1 h2 => ?_
     rw [ho] at h1
     rw [ho2] at h2
     injection h1 with h1
     injection h2 with h2
     subst h1
     subst h2
     exact h7
end Go.Proofs.YtoapelcofjjdnaaGreatDoor
