/- ip6.Parse. -/
import Derived.Test.YtaglbcniomcfnaaDoorSixE
import Derived.Laws.IdiomCopy
import Derived.Deep.MidRow
import Derived.StillTailTactics
import Derived.Shelf.Spec.SlicesInsert
namespace Go.Proofs.YtaglbcniomcfnaaDoor
set_option linter.all false
open Go.RowKit

/-- A list laid over another one, from a place on. -/
def lay {α : Type} (xs : List α) (o : Nat) (vs : List α) : List α := xs.take o ++ vs ++ xs.drop (o + vs.length)
theorem lay_nil {α : Type} (xs : List α) (o : Nat) : lay xs o [] = xs := by simp [lay]
theorem lay_cons {α : Type} {xs : List α} {o : Nat} (v : α) (r : List α) (h : o < xs.length) : lay (xs.set o v) (o + 1) r = lay xs o (v :: r) := by
  unfold lay
  rw [take_snoc' _ o (by rw [List.length_set]; exact h), List.take_set, List.set_eq_of_length_le (by rw [List.length_take]; omega), List.drop_set, if_pos (by omega), List.length_cons, show o + 1 + r.length = o + (r.length + 1) by omega]
  simp
theorem lay_len {α : Type} {xs vs : List α} {o : Nat} (h : o + vs.length ≤ xs.length) : (lay xs o vs).length = xs.length := by
  unfold lay; simp; omega
theorem Row.sets {g : Nat} : ∀ (vs : List Value) (o : Nat) (xs : List Value) (w : World), Row w g xs → o + vs.length ≤ xs.length → Row (w.setCells g o vs) g (lay xs o vs) := by
  intro vs
  induction vs with
  | nil => intro o xs w h _; rw [lay_nil]; exact h
  | cons v r ih =>
    intro o xs w h hl
    simp only [List.length_cons] at hl
    rw [← lay_cons v r (by omega)]
    exact ih _ _ _ (h.set (by omega) v) (by rw [List.length_set]; omega)
theorem sets_gb {g : Nat} : ∀ (vs : List Value) (o : Nat) (w : World), w.grownBy (w.setCells g o vs) (some g) := by
  intro vs
  induction vs with
  | nil => intro o w; exact World.grownBy.refl _ _
  | cons v r ih => intro o w; exact (set_gb w g o v).trans (ih _ _)

section
variable {P : Program} {w : World} {ops : Array Oper} {rest : List Oper} {o : Oper} {a : Act} {Q : Exit → Act → World → Prop}
/-- copy(d, s): d a part of a row, s a slice that reads. -/
theorem wpList_copy_row (hgd : o.guard = none) (d s : Operand) (dT sT : TypeId)
    (ho : o.op = .call { callee := .builtin .copy, args := #[d, s], argTypes := #[dT, sT] }) (elem : TypeId) (hu : P.underlying dT = some (.slice elem)) (hsz : (P.info? elem).map (·.size) = some 1)
    (dp : Option Addr) (dLen dCap : Nat) (hd : a.eval d = .slice dp dLen dCap) (A : Option Addr) (m c : Nat) (hs : a.eval s = .slice A m c)
    (X off : Nat) (xs : List Value) (hr : Row w X xs) (B : Nat) (cs : List Value) (hcs : Rd w B A cs) (hm : cs.length = m) (hdp : 0 < m → dp = some ⟨X, off, none⟩) (hle : m ≤ dLen) (hfit : off + m ≤ xs.length) (h1 : ∀ v ∈ cs, v.oneCell' = true)
    (h : ∀ w', Row w' X (lay xs off cs) → w.grownBy w' (some X) → wpList P ops Q rest (a.put o.dst (.int .i64 (m : Int))) w') : wpList P ops Q (o :: rest) a w := by
  subst hm
  rcases Nat.eq_zero_or_pos cs.length with h0 | h0
  · have e : cs = [] := List.eq_nil_of_length_eq_zero h0
    subst e
    have hrun := run_copy_none (P := P) w dT sT o.type elem dp A dLen dCap 0 c hu hsz (by simp)
    exact wpList_copy_runI w hgd d s dT sT ho _ _ hd hs hrun (h w (by rw [lay_nil]; exact hr) (World.grownBy.refl _ _))
  · obtain rfl := hdp h0
    obtain ⟨b, o2, rfl, hb, hc⟩ := hcs h0
    have hrun := run_copy_cells (P := P) w dT sT o.type elem X off dLen dCap ⟨b, o2, none⟩ cs.length c cs hu hsz (by simp [Nat.min_def]; omega) (fun j v hv => by rw [Addr.add_lit]; exact hc j v hv)
      (fun j hj => by rw [hr.1 (off + j) _ (List.getElem?_eq_getElem (by omega))]; rfl) (fun j hj => hr.2.1 _ (by omega)) h1
    exact wpList_copy_runI w hgd d s dT sT ho _ _ hd hs hrun (h _ (Row.sets cs off xs w hr (by omega)) (sets_gb _ _ _))
end

def adr (o : Option (List Nat)) : Value := .agg (u16s (o.getD (noughts 8))).toArray
def ret6 (o : Option (List Nat)) : Ending := .returned (.tuple #[adr o, .int .i64 (if o.isSome = true then 0 else 5)])

theorem Row.range {w : World} {X : Nat} {xs : List Value} (h : Row w X xs) : w.rangeAt X 0 xs := fun j v hv => by rw [Nat.zero_add]; exact h.1 j v hv
theorem results_row {P : Program} {fn : Func} {t u : Tmp} {ty : TypeId} (h : fn.results = #[.cell t ty, .tmp u]) {tmps : Array Value} {w : World} {R : Nat} {us : List Value} {d : TypeDesc}
    (ht : tmps.getD t undef = .pointer (some ⟨R, 0, none⟩)) (hR : Row w R us) (hu : P.underlying ty = some d) (hd : d.isRow = true) (hi : (P.info? ty).map (·.size) = some us.length) :
    (results fn tmps).run P w = .ok (.tuple #[.agg us.toArray, tmps.getD u undef]) w := by
  have hl := run_loadVar_mid (P := P) w R 0 ty us d hR.range hu hd hi
  have ht2 : tmps[t]?.getD undef = .pointer (some ⟨R, 0, none⟩) := by rw [← Array.getD_eq_getD_getElem?]; exact ht
  simp [results, h, ht2, asAddr, hl]
theorem info_arr8 : (Tryd.prog.info? 39).map (·.size) = some 8 := by kernel_rfl
-- The end of Parse: what block R holds is handed on.
theorem ret6_none : ret6 none = .returned (.tuple #[.agg #[.int .u16 0, .int .u16 0, .int .u16 0, .int .u16 0, .int .u16 0, .int .u16 0, .int .u16 0, .int .u16 0], .int .i64 5]) := by rfl
theorem end_no {g : Option Nat} {l : List Nat} (h : (g = none ∧ l.length ≠ 8) ∨ (g ≠ none ∧ 7 < l.length)) : sEnd (l, g) = none := by
  rcases h with ⟨rfl, h⟩ | ⟨h, h7⟩
  · exact if_neg h
  · cases g with
    | none => exact absurd rfl h
    | some k => exact if_neg (by omega)
theorem own_farU {w w' : World} {B X m : Nat} {e : TypeId} {u : Value} {xs : List Value} (hown : w.ownsRow B e 1 u m xs) (hg : w.grownBy w' (some X)) (hX : u.ownBlock ≠ some X) : w'.ownsRow B e 1 u m xs := hown.kept hg (.inr hX)
theorem u16s_take (l : List Nat) (k : Nat) : (u16s l).take k = u16s (l.take k) := by unfold u16s; rw [List.map_take]
theorem u16s_drop (l : List Nat) (k : Nat) : (u16s l).drop k = u16s (l.drop k) := by unfold u16s; rw [List.map_drop]
theorem u16s_lay (xs vs : List Nat) (o : Nat) : lay (u16s xs) o (u16s vs) = u16s (lay xs o vs) := by
  unfold lay; rw [u16s_append, u16s_append, u16s_take, u16s_len, u16s_drop]
theorem u16s_one (l : List Nat) : ∀ u ∈ u16s l, u.oneCell' = true := by
  intro u hu
  obtain ⟨c, _, rfl⟩ := List.mem_map.1 hu
  rfl
theorem lay_two {l : List Nat} {k : Nat} (hk : k ≤ l.length) (h8 : l.length ≤ 8) : lay (lay (noughts 8) 0 (l.take k)) (k + (8 - l.length)) (l.drop k) = l.take k ++ noughts (8 - l.length) ++ l.drop k := by
  have e1 : lay (noughts 8) 0 (l.take k) = l.take k ++ noughts (8 - k) := by
    unfold lay noughts
    rw [List.take_zero, List.nil_append, List.drop_replicate, Nat.zero_add, List.length_take, Nat.min_eq_left hk]
  rw [e1]
  unfold lay noughts
  have hl1 : (l.take k).length = k := by rw [List.length_take]; omega
  rw [List.take_append, List.drop_append, hl1, List.take_replicate, List.drop_replicate, List.length_drop, List.take_of_length_le (l := l.take k) (i := k + (8 - l.length)) (by rw [hl1]; omega), List.drop_eq_nil_of_le (show (l.take k).length ≤ _ by rw [hl1]; omega), List.nil_append,
    show min (k + (8 - l.length) - k) (8 - k) = 8 - l.length by omega, show 8 - k - (k + (8 - l.length) + (l.length - k) - k) = 0 by omega]
  simp
theorem info_u16s : (Tryd.prog.info? 38).map (·.size) = some 1 := by kernel_rfl
theorem eight {l : List Nat} (h : l.length = 8) : ∃ a b c d e f g i, l = [a, b, c, d, e, f, g, i] := by
  match l, h with
  | [a, b, c, d, e, f, g, i], _ => exact ⟨a, b, c, d, e, f, g, i, rfl⟩
-- The way to a number: K the number of pieces ahead of the gap (an integer), PRE what stands ahead of the copies.
-- The way to a number. WY: the world ahead of the copies; K: how many pieces stand ahead, as the walk has it; DA, DL: where the second copy begins, and how much room is there; SA, SC: its source.
-- The way to a number. WY: the world ahead of the copies; K: how many pieces stand ahead, as the walk has it; DA: where the second copy begins; SA: its source.
set_option maxRecDepth 100000 in
set_option maxHeartbeats 8000000 in
theorem parse6_bad (s : List UInt8) (hON : pParse6 s = none) (w : World) (hev : EV w) (hs : s.length ≤ 1000) :
    Calls Tryd.prog 24 #[.string (str s)] w fun e w' => e = ret6 (pParse6 s) ∧ Below w.heap.size w w' := by
  have hev2 := (hev.next ((Below.refl w.heap.size w).alloc (Nat.le_refl _) (.cells #[.int .u16 0, .int .u16 0, .int .u16 0, .int .u16 0, .int .u16 0, .int .u16 0, .int .u16 0, .int .u16 0] 39)))
  have hlow : Low (w.heap.size + 1) := by
    obtain ⟨⟨e1, h1, _⟩, e2, h2, _⟩ := hev
    have := World.block_lt_of_cell? _ _ h1
    have := World.block_lt_of_cell? _ _ h2
    exact ⟨by simp only at *; omega, by simp only at *; omega⟩
  obtain ⟨wA, hwA⟩ : ∃ wA, wA = w.alloc (.cells #[.int .u16 0, .int .u16 0, .int .u16 0, .int .u16 0, .int .u16 0, .int .u16 0, .int .u16 0, .int .u16 0] 39) := ⟨_, rfl⟩
  have hR0 : Row wA w.heap.size #[.int .u16 0, .int .u16 0, .int .u16 0, .int .u16 0, .int .u16 0, .int .u16 0, .int .u16 0, .int .u16 0].toList := by rw [hwA]; exact Row.made _ _ _
  have hbA : Below w.heap.size w wA := by rw [hwA]; exact (Below.refl _ _).alloc (Nat.le_refl _) _
  rw [← hwA] at hev2
  have hzA : wA.heap.size = w.heap.size + 1 := by rw [hwA]; simp
  have HB := Lib.hid (show RD (wA.alloc (.cells #[.string (str s), .bool true, .slice none 0 0, .int .i64 (-1)] 61)) (w.heap.size + 1) s true [] (-1) from ⟨.slice none 0 0, by have := heap_alloc_new wA (.cells #[.string (str s), .bool true, .slice none 0 0, .int .i64 (-1)] 61); rw [hzA] at this; exact this, World.ownsRow_nil _ _ _ _⟩)
  have CA := all6_any (w.heap.size + 1) s _ HB.out (hev2.next ((Below.refl wA.heap.size wA).alloc (Nat.le_refl _) _)) hlow hs
  rw [hwA] at CA
  have HP := Lib.hid (show pParse6 s = (sAll s).bind sEnd from rfl)
  obtain ⟨T, hT⟩ : ∃ T, T = sAll s := ⟨_, rfl⟩
  obtain ⟨O, hO⟩ : ∃ O, O = pParse6 s := ⟨_, rfl⟩
  rw [← hT] at CA HP
  rw [← hO] at HP hON ⊢
  clear hT hO
  go_enter Tryd.func24, Tryd.ntmps24
  go_wp2_with (go_at_call 36; go_must (go_fit CA); rintro e w1 ⟨rfl, hA⟩; revert hA)
  intro hA
  rw [← hwA] at hA
  unfold AllPost at hA
  obtain ⟨r, ok, l, gap, h1, hl16, hl20, hg0, hg1, hAI, hb1⟩ := hA
  have c0 := h1.c0
  have c1 := h1.c1
  have c3 := h1.c3
  obtain ⟨A, cc, c2, hcc, hmm⟩ := h1.c2
  have htl := str_toL r
  have hR1 : Row w1 w.heap.size #[.int .u16 0, .int .u16 0, .int .u16 0, .int .u16 0, .int .u16 0, .int .u16 0, .int .u16 0, .int .u16 0].toList := (hR0.below ((Below.refl wA.heap.size wA).alloc (Nat.le_refl _) _) (by rw [hzA]; omega)).below hb1 (Nat.lt_succ_self _)
  have hbw : Below w.heap.size w w1 := (hbA.trans ((Below.refl wA.heap.size wA).alloc (Nat.le_refl _) (.cells #[.string (str s), .bool true, .slice none 0 0, .int .i64 (-1)] 61) |>.mono (by rw [hzA]; omega))).trans (hb1.mono (Nat.le_succ _))
  rcases hAI with ⟨m, go, hT, rfl, rfl, rfl, rfl, hgk⟩ | ⟨hT, hbad⟩
  · have e0 := HP.out
    rw [hT] at e0
    replace e0 : O = sEnd (l, go) := e0
    have hre : ([] : List UInt8).isEmpty = true := rfl
    cases go with
    | none =>
      have hgi : gapI none = -1 := rfl
      rw [hgi] at c3
      by_cases h8 : l.length = 8
      · have q1 : (8 : Int) - (l.length : Int) = 0 := by omega
        have hz1 : (w1.setCell ⟨w.heap.size + 1, 3, none⟩ (.int .i64 0)).heap.size = w1.heap.size := by simp
        have hX0 : Row ((w1.setCell ⟨w.heap.size + 1, 3, none⟩ (.int .i64 0)).alloc (.cells #[.int .u16 0, .int .u16 0, .int .u16 0, .int .u16 0, .int .u16 0, .int .u16 0, .int .u16 0, .int .u16 0] 39)) w1.heap.size (u16s (noughts 8)) := by rw [← hz1]; exact Row.made _ #[.int .u16 0, .int .u16 0, .int .u16 0, .int .u16 0, .int .u16 0, .int .u16 0, .int .u16 0, .int .u16 0] 39
        have d2a := fun o => (h1.next ((Below.refl w1.heap.size w1).alloc (Nat.le_refl _) o)).c3
        have d3a := fun o => (h1.next ((Below.refl w1.heap.size w1).alloc (Nat.le_refl _) o)).fr 3
        rw [hgi] at d2a
        replace e0 := e0.trans (if_pos h8)
        obtain ⟨M, hM⟩ : ∃ M, M = l := ⟨_, rfl⟩
        have HM := Lib.hid (show M = l.take 0 ++ noughts (8 - l.length) ++ l.drop 0 by rw [hM, h8]; simp [noughts])
        rw [← hM] at e0
        clear hM
        subst e0
        have hlt1 := h1.lt
        obtain ⟨v, hr1, ho1⟩ := id h1
        obtain rfl : v = .slice A l.length cc := by
          have := hr1.c2
          rw [c2] at this
          injection this with this
          exact this.symm
        have hvX : (Value.slice A l.length cc).ownBlock ≠ some w1.heap.size := by
          intro e
          have := (ho1.lt _ e).2
          omega
        have al : Below w1.heap.size (w1.setCell ⟨w.heap.size + 1, 3, none⟩ (.int .i64 0)) ((w1.setCell ⟨w.heap.size + 1, 3, none⟩ (.int .i64 0)).alloc (.cells #[.int .u16 0, .int .u16 0, .int .u16 0, .int .u16 0, .int .u16 0, .int .u16 0, .int .u16 0, .int .u16 0] 39)) := (Below.refl w1.heap.size (w1.setCell ⟨w.heap.size + 1, 3, none⟩ (.int .i64 0))).alloc (by rw [hz1]; exact Nat.le_refl _) _
        have hrW := hr1.s3 0
        have hoW := own_setU (j := 3) (z := .int .i64 0) ho1
        have hs1 : Rd (w1.setCell ⟨w.heap.size + 1, 3, none⟩ (.int .i64 0)) w1.heap.size A (u16s l) := by
          obtain ⟨A', c', e1, _, _, _, hr⟩ := Rd.of_own hoW
          injection e1 with e1
          rw [e1, ← hz1]; exact hr
        have hrY := hrW.next (by rw [hz1]; exact al)
        have hoY := hoW.alloc (.cells #[.int .u16 0, .int .u16 0, .int .u16 0, .int .u16 0, .int .u16 0, .int .u16 0, .int .u16 0, .int .u16 0] 39)
        have hsY := hs1.below al
        have hRY := (Row.grown hR1 (set_gb w1 (w.heap.size + 1) 3 (.int .i64 0)) (fun e => by injection e with e; omega)).below al (by omega)
        have hbY := (hbw.setCell (p := ⟨w.heap.size + 1, 3, none⟩) (by simp) (.int .i64 0)).trans (al.mono (by omega))
        obtain ⟨b, rfl⟩ : ∃ b, A = some ⟨b, 0, none⟩ := by
          rcases ho1.2 with ⟨e1, e2⟩ | ⟨b, cap, cur, e1, _⟩
          · injection e1 with e1 e2 e3
            omega
          · injection e1 with e1
            exact ⟨b, e1⟩
        clear hs1 hr1 ho1 al hrW hoW hz1
        have h8e : l.length ≤ 8 := by omega
        have hkl : 0 ≤ l.length := by omega
        have hc1 : (cc = 0) = False := eq_false (by omega)
        have hc2 : (0 = cc) = False := eq_false (by omega)
        have hc3 : (0 : Int) ≤ (cc : Int) := by omega
        have hw0 : IntKind.i64.wrap 0 = 0 := by decide
        have hws : wrap64 (8 - (l.length : Int)) = 0 := by rw [IntWalk.wrap64_in _ (by omega)]; omega
        have HOO := Lib.hid (show 0 = 0 + (8 - l.length) by omega)
        have HDL := Lib.hid (show l.length ≤ 8 - 0 ∧ 0 + l.length ≤ 8 from ⟨by omega, by omega⟩)
        clear h8
        cases hON
      · replace e0 := e0.trans (end_no (.inl ⟨rfl, h8⟩))
        subst e0
        rcases Nat.lt_or_gt_of_ne h8 with h8 | h8
        · have q1 : (0 : Int) < 8 - (l.length : Int) := by omega
          have q2 : ¬ (8 : Int) - (l.length : Int) < 0 := by omega
          clear hON
          have hws : wrap64 (8 - (l.length : Int)) = 8 - (l.length : Int) := IntWalk.wrap64_in _ (by omega)
          have x0 : w1.cell? ⟨w.heap.size, 0, none⟩ = some (.int .u16 0) := hR1.1 0 _ rfl
          have y0 : w1.frozen? ⟨w.heap.size, 0, none⟩ = false := hR1.2.1 0 (by decide)
          have x1 : w1.cell? ⟨w.heap.size, 1, none⟩ = some (.int .u16 0) := hR1.1 1 _ rfl
          have y1 : w1.frozen? ⟨w.heap.size, 1, none⟩ = false := hR1.2.1 1 (by decide)
          have x2 : w1.cell? ⟨w.heap.size, 2, none⟩ = some (.int .u16 0) := hR1.1 2 _ rfl
          have y2 : w1.frozen? ⟨w.heap.size, 2, none⟩ = false := hR1.2.1 2 (by decide)
          have x3 : w1.cell? ⟨w.heap.size, 3, none⟩ = some (.int .u16 0) := hR1.1 3 _ rfl
          have y3 : w1.frozen? ⟨w.heap.size, 3, none⟩ = false := hR1.2.1 3 (by decide)
          have x4 : w1.cell? ⟨w.heap.size, 4, none⟩ = some (.int .u16 0) := hR1.1 4 _ rfl
          have y4 : w1.frozen? ⟨w.heap.size, 4, none⟩ = false := hR1.2.1 4 (by decide)
          have x5 : w1.cell? ⟨w.heap.size, 5, none⟩ = some (.int .u16 0) := hR1.1 5 _ rfl
          have y5 : w1.frozen? ⟨w.heap.size, 5, none⟩ = false := hR1.2.1 5 (by decide)
          have x6 : w1.cell? ⟨w.heap.size, 6, none⟩ = some (.int .u16 0) := hR1.1 6 _ rfl
          have y6 : w1.frozen? ⟨w.heap.size, 6, none⟩ = false := hR1.2.1 6 (by decide)
          have x7 : w1.cell? ⟨w.heap.size, 7, none⟩ = some (.int .u16 0) := hR1.1 7 _ rfl
          have y7 : w1.frozen? ⟨w.heap.size, 7, none⟩ = false := hR1.2.1 7 (by decide)
          clear hwA hR0 hbA hzA HB CA hev hev2 hlow HP hl16 hl20 hg0 hg1 hT
          go_wp2
          (try simp only [Exit.inBlock, Exit.then])
          refine bodyPost_ret (results_row (R := w.heap.size) (us := #[.int .u16 0, .int .u16 0, .int .u16 0, .int .u16 0, .int .u16 0, .int .u16 0, .int .u16 0, .int .u16 0].toList) (d := .array 8 38) rfl rfl (by exact (Row.set (Row.set (Row.set (Row.set (Row.set (Row.set (Row.set (Row.set hR1 (j := 0) (by decide) (.int .u16 0)) (j := 1) (by decide) (.int .u16 0)) (j := 2) (by decide) (.int .u16 0)) (j := 3) (by decide) (.int .u16 0)) (j := 4) (by decide) (.int .u16 0)) (j := 5) (by decide) (.int .u16 0)) (j := 6) (by decide) (.int .u16 0)) (j := 7) (by decide) (.int .u16 0))) Tryd.underlying39 rfl info_arr8) rfl ?_
          exact ⟨rfl, (Below.setCell (Below.setCell (Below.setCell (Below.setCell (Below.setCell (Below.setCell (Below.setCell (Below.setCell hbw (p := ⟨w.heap.size, 0, none⟩) (Nat.le_refl _) (.int .u16 0)) (p := ⟨w.heap.size, 1, none⟩) (Nat.le_refl _) (.int .u16 0)) (p := ⟨w.heap.size, 2, none⟩) (Nat.le_refl _) (.int .u16 0)) (p := ⟨w.heap.size, 3, none⟩) (Nat.le_refl _) (.int .u16 0)) (p := ⟨w.heap.size, 4, none⟩) (Nat.le_refl _) (.int .u16 0)) (p := ⟨w.heap.size, 5, none⟩) (Nat.le_refl _) (.int .u16 0)) (p := ⟨w.heap.size, 6, none⟩) (Nat.le_refl _) (.int .u16 0)) (p := ⟨w.heap.size, 7, none⟩) (Nat.le_refl _) (.int .u16 0))⟩
        · have q2 : (8 : Int) - (l.length : Int) < 0 := by omega
          clear hON
          have hws : wrap64 (8 - (l.length : Int)) = 8 - (l.length : Int) := IntWalk.wrap64_in _ (by omega)
          have x0 : w1.cell? ⟨w.heap.size, 0, none⟩ = some (.int .u16 0) := hR1.1 0 _ rfl
          have y0 : w1.frozen? ⟨w.heap.size, 0, none⟩ = false := hR1.2.1 0 (by decide)
          have x1 : w1.cell? ⟨w.heap.size, 1, none⟩ = some (.int .u16 0) := hR1.1 1 _ rfl
          have y1 : w1.frozen? ⟨w.heap.size, 1, none⟩ = false := hR1.2.1 1 (by decide)
          have x2 : w1.cell? ⟨w.heap.size, 2, none⟩ = some (.int .u16 0) := hR1.1 2 _ rfl
          have y2 : w1.frozen? ⟨w.heap.size, 2, none⟩ = false := hR1.2.1 2 (by decide)
          have x3 : w1.cell? ⟨w.heap.size, 3, none⟩ = some (.int .u16 0) := hR1.1 3 _ rfl
          have y3 : w1.frozen? ⟨w.heap.size, 3, none⟩ = false := hR1.2.1 3 (by decide)
          have x4 : w1.cell? ⟨w.heap.size, 4, none⟩ = some (.int .u16 0) := hR1.1 4 _ rfl
          have y4 : w1.frozen? ⟨w.heap.size, 4, none⟩ = false := hR1.2.1 4 (by decide)
          have x5 : w1.cell? ⟨w.heap.size, 5, none⟩ = some (.int .u16 0) := hR1.1 5 _ rfl
          have y5 : w1.frozen? ⟨w.heap.size, 5, none⟩ = false := hR1.2.1 5 (by decide)
          have x6 : w1.cell? ⟨w.heap.size, 6, none⟩ = some (.int .u16 0) := hR1.1 6 _ rfl
          have y6 : w1.frozen? ⟨w.heap.size, 6, none⟩ = false := hR1.2.1 6 (by decide)
          have x7 : w1.cell? ⟨w.heap.size, 7, none⟩ = some (.int .u16 0) := hR1.1 7 _ rfl
          have y7 : w1.frozen? ⟨w.heap.size, 7, none⟩ = false := hR1.2.1 7 (by decide)
          clear hwA hR0 hbA hzA HB CA hev hev2 hlow HP hl16 hl20 hg0 hg1 hT
          go_wp2
          (try simp only [Exit.inBlock, Exit.then])
          refine bodyPost_ret (results_row (R := w.heap.size) (us := #[.int .u16 0, .int .u16 0, .int .u16 0, .int .u16 0, .int .u16 0, .int .u16 0, .int .u16 0, .int .u16 0].toList) (d := .array 8 38) rfl rfl (by exact (Row.set (Row.set (Row.set (Row.set (Row.set (Row.set (Row.set (Row.set hR1 (j := 0) (by decide) (.int .u16 0)) (j := 1) (by decide) (.int .u16 0)) (j := 2) (by decide) (.int .u16 0)) (j := 3) (by decide) (.int .u16 0)) (j := 4) (by decide) (.int .u16 0)) (j := 5) (by decide) (.int .u16 0)) (j := 6) (by decide) (.int .u16 0)) (j := 7) (by decide) (.int .u16 0))) Tryd.underlying39 rfl info_arr8) rfl ?_
          exact ⟨rfl, (Below.setCell (Below.setCell (Below.setCell (Below.setCell (Below.setCell (Below.setCell (Below.setCell (Below.setCell hbw (p := ⟨w.heap.size, 0, none⟩) (Nat.le_refl _) (.int .u16 0)) (p := ⟨w.heap.size, 1, none⟩) (Nat.le_refl _) (.int .u16 0)) (p := ⟨w.heap.size, 2, none⟩) (Nat.le_refl _) (.int .u16 0)) (p := ⟨w.heap.size, 3, none⟩) (Nat.le_refl _) (.int .u16 0)) (p := ⟨w.heap.size, 4, none⟩) (Nat.le_refl _) (.int .u16 0)) (p := ⟨w.heap.size, 5, none⟩) (Nat.le_refl _) (.int .u16 0)) (p := ⟨w.heap.size, 6, none⟩) (Nat.le_refl _) (.int .u16 0)) (p := ⟨w.heap.size, 7, none⟩) (Nat.le_refl _) (.int .u16 0))⟩
    | some k =>
      have hgi : gapI (some k) = (k : Int) := rfl
      rw [hgi] at c3
      have hkl := hgk k rfl
      by_cases h8 : l.length ≤ 7
      · obtain ⟨oo, hoo⟩ : ∃ oo, oo = k + (8 - l.length) := ⟨_, rfl⟩
        have q1 : (0 : Int) < 8 - (l.length : Int) := by omega
        have q2 : ¬ (8 : Int) - (l.length : Int) < 0 := by omega
        have q3 : (0 : Int) ≤ (k : Int) := by omega
        have q4 : ¬ (k : Int) < 0 := by omega
        have q5 : (l.length : Int) < 8 := by omega
        have hX0 : Row (w1.alloc (.cells #[.int .u16 0, .int .u16 0, .int .u16 0, .int .u16 0, .int .u16 0, .int .u16 0, .int .u16 0, .int .u16 0] 39)) w1.heap.size (u16s (noughts 8)) := Row.made w1 #[.int .u16 0, .int .u16 0, .int .u16 0, .int .u16 0, .int .u16 0, .int .u16 0, .int .u16 0, .int .u16 0] 39
        have d2a := fun o => (h1.next ((Below.refl w1.heap.size w1).alloc (Nat.le_refl _) o)).c3
        rw [hgi] at d2a
        replace e0 := e0.trans (if_pos h8)
        obtain ⟨M, hM⟩ : ∃ M, M = l.take k ++ noughts (8 - l.length) ++ l.drop k := ⟨_, rfl⟩
        rw [← hM] at e0
        have HM := Lib.hid hM
        clear hM
        subst e0
        have hlt1 := h1.lt
        obtain ⟨v, hr1, ho1⟩ := id h1
        obtain rfl : v = .slice A l.length cc := by
          have := hr1.c2
          rw [c2] at this
          injection this with this
          exact this.symm
        have hvX : (Value.slice A l.length cc).ownBlock ≠ some w1.heap.size := by
          intro e
          have := (ho1.lt _ e).2
          omega
        have al := (Below.refl w1.heap.size w1).alloc (Nat.le_refl _) (.cells #[.int .u16 0, .int .u16 0, .int .u16 0, .int .u16 0, .int .u16 0, .int .u16 0, .int .u16 0, .int .u16 0] 39)
        have hs1 : Rd w1 w1.heap.size A (u16s l) := by
          obtain ⟨A', c', e1, _, _, _, hr⟩ := Rd.of_own ho1
          injection e1 with e1
          rw [e1]; exact hr
        have hrY := hr1.next al
        rw [hgi] at hrY
        have hoY := ho1.alloc (.cells #[.int .u16 0, .int .u16 0, .int .u16 0, .int .u16 0, .int .u16 0, .int .u16 0, .int .u16 0, .int .u16 0] 39)
        have hsY := hs1.below al
        have hRY := hR1.below al (by omega)
        have hbY := hbw.trans (al.mono (by omega))
        have hA' : (A = none ∧ l.length = 0 ∧ cc = 0) ∨ ∃ b, A = some ⟨b, 0, none⟩ := by
          rcases ho1.2 with ⟨e1, e2⟩ | ⟨b, cap, cur, e1, _⟩
          · injection e1 with e1 e2 e3
            exact .inl ⟨e1, e2, e3⟩
          · injection e1 with e1
            exact .inr ⟨b, e1⟩
        clear hs1 hr1 ho1 al
        have h8e : l.length ≤ 8 := by omega
        have hkc : k ≤ cc := by omega
        have hoi : (oo : Int) ≤ 8 := by omega
        have hoi0 : (0 : Int) ≤ (oo : Int) := by omega
        have hoi8 : oo ≤ 8 := by omega
        have hklI : (k : Int) ≤ (l.length : Int) := by omega
        have hkcI : (k : Int) ≤ (cc : Int) := by omega
        have hws : wrap64 (8 - (l.length : Int)) = 8 - (l.length : Int) := IntWalk.wrap64_in _ (by omega)
        have hwo1 : wrap64 ((k : Int) + (8 - (l.length : Int))) = (oo : Int) := by rw [IntWalk.wrap64_in _ (by omega)]; omega
        have hwo2 : IntKind.i64.wrap ((k : Int) + (8 - (l.length : Int))) = (oo : Int) := by rw [IntWalk.i64_in _ (by omega)]; omega
        have HOO := Lib.hid hoo
        have HDL := Lib.hid (show l.length - k ≤ 8 - oo ∧ oo + (l.length - k) ≤ 8 from ⟨by omega, by omega⟩)
        by_cases hck : cc = k
        · have hkl2 : k = l.length := by omega
          have hc1 : (cc = k) = True := eq_true hck
          have hc2 : (k = cc) = True := eq_true hck.symm
          have ho1 : (oo = 8) = True := eq_true (by omega)
          have ho2 : (8 = oo) = True := eq_true (by omega)
          have HNL := Lib.hid (show l.length - k = 0 by omega)
          have HSR := Lib.hid fun (w5 : World) (A : Option Addr) => (show Rd w5 w1.heap.size A (u16s (l.drop k)) by rw [List.drop_eq_nil_of_le (by omega)]; exact Rd.nil)
          clear hoo hck hkl2 hA'
          cases hON
        · rcases hA' with ⟨hA', hl0⟩ | ⟨b, rfl⟩
          · exact absurd (by omega) hck
          · have hc1 : (cc = k) = False := eq_false hck
            have hc2 : (k = cc) = False := eq_false (fun e => hck e.symm)
            by_cases hkl2 : k = l.length
            · have ho1 : (oo = 8) = True := eq_true (by omega)
              have ho2 : (8 = oo) = True := eq_true (by omega)
              have HNL := Lib.hid (show l.length - k = 0 by omega)
              have HSR := Lib.hid fun (w5 : World) (A : Option Addr) => (show Rd w5 w1.heap.size A (u16s (l.drop k)) by rw [List.drop_eq_nil_of_le (by omega)]; exact Rd.nil)
              clear hoo hck hkl2
              cases hON
            · have ho1 : (oo = 8) = False := eq_false (by omega)
              have ho2 : (8 = oo) = False := eq_false (by omega)
              clear hoo hck hkl2
              cases hON
      · replace e0 := e0.trans (end_no (.inr ⟨by simp, by omega⟩))
        subst e0
        have hk0 : (0 : Int) ≤ (k : Int) := by omega
        by_cases h9 : l.length = 8
        · have q1 : (8 : Int) - (l.length : Int) = 0 := by omega
          clear h9 h8
          clear hON
          have hws : wrap64 (8 - (l.length : Int)) = 8 - (l.length : Int) := IntWalk.wrap64_in _ (by omega)
          have x0 : w1.cell? ⟨w.heap.size, 0, none⟩ = some (.int .u16 0) := hR1.1 0 _ rfl
          have y0 : w1.frozen? ⟨w.heap.size, 0, none⟩ = false := hR1.2.1 0 (by decide)
          have x1 : w1.cell? ⟨w.heap.size, 1, none⟩ = some (.int .u16 0) := hR1.1 1 _ rfl
          have y1 : w1.frozen? ⟨w.heap.size, 1, none⟩ = false := hR1.2.1 1 (by decide)
          have x2 : w1.cell? ⟨w.heap.size, 2, none⟩ = some (.int .u16 0) := hR1.1 2 _ rfl
          have y2 : w1.frozen? ⟨w.heap.size, 2, none⟩ = false := hR1.2.1 2 (by decide)
          have x3 : w1.cell? ⟨w.heap.size, 3, none⟩ = some (.int .u16 0) := hR1.1 3 _ rfl
          have y3 : w1.frozen? ⟨w.heap.size, 3, none⟩ = false := hR1.2.1 3 (by decide)
          have x4 : w1.cell? ⟨w.heap.size, 4, none⟩ = some (.int .u16 0) := hR1.1 4 _ rfl
          have y4 : w1.frozen? ⟨w.heap.size, 4, none⟩ = false := hR1.2.1 4 (by decide)
          have x5 : w1.cell? ⟨w.heap.size, 5, none⟩ = some (.int .u16 0) := hR1.1 5 _ rfl
          have y5 : w1.frozen? ⟨w.heap.size, 5, none⟩ = false := hR1.2.1 5 (by decide)
          have x6 : w1.cell? ⟨w.heap.size, 6, none⟩ = some (.int .u16 0) := hR1.1 6 _ rfl
          have y6 : w1.frozen? ⟨w.heap.size, 6, none⟩ = false := hR1.2.1 6 (by decide)
          have x7 : w1.cell? ⟨w.heap.size, 7, none⟩ = some (.int .u16 0) := hR1.1 7 _ rfl
          have y7 : w1.frozen? ⟨w.heap.size, 7, none⟩ = false := hR1.2.1 7 (by decide)
          clear hwA hR0 hbA hzA HB CA hev hev2 hlow HP hl16 hl20 hg0 hg1 hT
          go_wp2
          (try simp only [Exit.inBlock, Exit.then])
          refine bodyPost_ret (results_row (R := w.heap.size) (us := #[.int .u16 0, .int .u16 0, .int .u16 0, .int .u16 0, .int .u16 0, .int .u16 0, .int .u16 0, .int .u16 0].toList) (d := .array 8 38) rfl rfl (by exact (Row.set (Row.set (Row.set (Row.set (Row.set (Row.set (Row.set (Row.set hR1 (j := 0) (by decide) (.int .u16 0)) (j := 1) (by decide) (.int .u16 0)) (j := 2) (by decide) (.int .u16 0)) (j := 3) (by decide) (.int .u16 0)) (j := 4) (by decide) (.int .u16 0)) (j := 5) (by decide) (.int .u16 0)) (j := 6) (by decide) (.int .u16 0)) (j := 7) (by decide) (.int .u16 0))) Tryd.underlying39 rfl info_arr8) rfl ?_
          exact ⟨rfl, (Below.setCell (Below.setCell (Below.setCell (Below.setCell (Below.setCell (Below.setCell (Below.setCell (Below.setCell hbw (p := ⟨w.heap.size, 0, none⟩) (Nat.le_refl _) (.int .u16 0)) (p := ⟨w.heap.size, 1, none⟩) (Nat.le_refl _) (.int .u16 0)) (p := ⟨w.heap.size, 2, none⟩) (Nat.le_refl _) (.int .u16 0)) (p := ⟨w.heap.size, 3, none⟩) (Nat.le_refl _) (.int .u16 0)) (p := ⟨w.heap.size, 4, none⟩) (Nat.le_refl _) (.int .u16 0)) (p := ⟨w.heap.size, 5, none⟩) (Nat.le_refl _) (.int .u16 0)) (p := ⟨w.heap.size, 6, none⟩) (Nat.le_refl _) (.int .u16 0)) (p := ⟨w.heap.size, 7, none⟩) (Nat.le_refl _) (.int .u16 0))⟩
        · have q2 : (8 : Int) - (l.length : Int) < 0 := by omega
          clear hON
          have hws : wrap64 (8 - (l.length : Int)) = 8 - (l.length : Int) := IntWalk.wrap64_in _ (by omega)
          have x0 : w1.cell? ⟨w.heap.size, 0, none⟩ = some (.int .u16 0) := hR1.1 0 _ rfl
          have y0 : w1.frozen? ⟨w.heap.size, 0, none⟩ = false := hR1.2.1 0 (by decide)
          have x1 : w1.cell? ⟨w.heap.size, 1, none⟩ = some (.int .u16 0) := hR1.1 1 _ rfl
          have y1 : w1.frozen? ⟨w.heap.size, 1, none⟩ = false := hR1.2.1 1 (by decide)
          have x2 : w1.cell? ⟨w.heap.size, 2, none⟩ = some (.int .u16 0) := hR1.1 2 _ rfl
          have y2 : w1.frozen? ⟨w.heap.size, 2, none⟩ = false := hR1.2.1 2 (by decide)
          have x3 : w1.cell? ⟨w.heap.size, 3, none⟩ = some (.int .u16 0) := hR1.1 3 _ rfl
          have y3 : w1.frozen? ⟨w.heap.size, 3, none⟩ = false := hR1.2.1 3 (by decide)
          have x4 : w1.cell? ⟨w.heap.size, 4, none⟩ = some (.int .u16 0) := hR1.1 4 _ rfl
          have y4 : w1.frozen? ⟨w.heap.size, 4, none⟩ = false := hR1.2.1 4 (by decide)
          have x5 : w1.cell? ⟨w.heap.size, 5, none⟩ = some (.int .u16 0) := hR1.1 5 _ rfl
          have y5 : w1.frozen? ⟨w.heap.size, 5, none⟩ = false := hR1.2.1 5 (by decide)
          have x6 : w1.cell? ⟨w.heap.size, 6, none⟩ = some (.int .u16 0) := hR1.1 6 _ rfl
          have y6 : w1.frozen? ⟨w.heap.size, 6, none⟩ = false := hR1.2.1 6 (by decide)
          have x7 : w1.cell? ⟨w.heap.size, 7, none⟩ = some (.int .u16 0) := hR1.1 7 _ rfl
          have y7 : w1.frozen? ⟨w.heap.size, 7, none⟩ = false := hR1.2.1 7 (by decide)
          clear hwA hR0 hbA hzA HB CA hev hev2 hlow HP hl16 hl20 hg0 hg1 hT
          go_wp2
          (try simp only [Exit.inBlock, Exit.then])
          refine bodyPost_ret (results_row (R := w.heap.size) (us := #[.int .u16 0, .int .u16 0, .int .u16 0, .int .u16 0, .int .u16 0, .int .u16 0, .int .u16 0, .int .u16 0].toList) (d := .array 8 38) rfl rfl (by exact (Row.set (Row.set (Row.set (Row.set (Row.set (Row.set (Row.set (Row.set hR1 (j := 0) (by decide) (.int .u16 0)) (j := 1) (by decide) (.int .u16 0)) (j := 2) (by decide) (.int .u16 0)) (j := 3) (by decide) (.int .u16 0)) (j := 4) (by decide) (.int .u16 0)) (j := 5) (by decide) (.int .u16 0)) (j := 6) (by decide) (.int .u16 0)) (j := 7) (by decide) (.int .u16 0))) Tryd.underlying39 rfl info_arr8) rfl ?_
          exact ⟨rfl, (Below.setCell (Below.setCell (Below.setCell (Below.setCell (Below.setCell (Below.setCell (Below.setCell (Below.setCell hbw (p := ⟨w.heap.size, 0, none⟩) (Nat.le_refl _) (.int .u16 0)) (p := ⟨w.heap.size, 1, none⟩) (Nat.le_refl _) (.int .u16 0)) (p := ⟨w.heap.size, 2, none⟩) (Nat.le_refl _) (.int .u16 0)) (p := ⟨w.heap.size, 3, none⟩) (Nat.le_refl _) (.int .u16 0)) (p := ⟨w.heap.size, 4, none⟩) (Nat.le_refl _) (.int .u16 0)) (p := ⟨w.heap.size, 5, none⟩) (Nat.le_refl _) (.int .u16 0)) (p := ⟨w.heap.size, 6, none⟩) (Nat.le_refl _) (.int .u16 0)) (p := ⟨w.heap.size, 7, none⟩) (Nat.le_refl _) (.int .u16 0))⟩
  · have e := HP.out
    rw [hT] at e
    have e : O = none := e
    subst e
    clear e
    rcases hbad with rfl | hr | h8
    · skip
      clear hON
      have hws : wrap64 (8 - (l.length : Int)) = 8 - (l.length : Int) := IntWalk.wrap64_in _ (by omega)
      have x0 : w1.cell? ⟨w.heap.size, 0, none⟩ = some (.int .u16 0) := hR1.1 0 _ rfl
      have y0 : w1.frozen? ⟨w.heap.size, 0, none⟩ = false := hR1.2.1 0 (by decide)
      have x1 : w1.cell? ⟨w.heap.size, 1, none⟩ = some (.int .u16 0) := hR1.1 1 _ rfl
      have y1 : w1.frozen? ⟨w.heap.size, 1, none⟩ = false := hR1.2.1 1 (by decide)
      have x2 : w1.cell? ⟨w.heap.size, 2, none⟩ = some (.int .u16 0) := hR1.1 2 _ rfl
      have y2 : w1.frozen? ⟨w.heap.size, 2, none⟩ = false := hR1.2.1 2 (by decide)
      have x3 : w1.cell? ⟨w.heap.size, 3, none⟩ = some (.int .u16 0) := hR1.1 3 _ rfl
      have y3 : w1.frozen? ⟨w.heap.size, 3, none⟩ = false := hR1.2.1 3 (by decide)
      have x4 : w1.cell? ⟨w.heap.size, 4, none⟩ = some (.int .u16 0) := hR1.1 4 _ rfl
      have y4 : w1.frozen? ⟨w.heap.size, 4, none⟩ = false := hR1.2.1 4 (by decide)
      have x5 : w1.cell? ⟨w.heap.size, 5, none⟩ = some (.int .u16 0) := hR1.1 5 _ rfl
      have y5 : w1.frozen? ⟨w.heap.size, 5, none⟩ = false := hR1.2.1 5 (by decide)
      have x6 : w1.cell? ⟨w.heap.size, 6, none⟩ = some (.int .u16 0) := hR1.1 6 _ rfl
      have y6 : w1.frozen? ⟨w.heap.size, 6, none⟩ = false := hR1.2.1 6 (by decide)
      have x7 : w1.cell? ⟨w.heap.size, 7, none⟩ = some (.int .u16 0) := hR1.1 7 _ rfl
      have y7 : w1.frozen? ⟨w.heap.size, 7, none⟩ = false := hR1.2.1 7 (by decide)
      clear hwA hR0 hbA hzA HB CA hev hev2 hlow HP hl16 hl20 hg0 hg1 hT
      go_wp2
      (try simp only [Exit.inBlock, Exit.then])
      refine bodyPost_ret (results_row (R := w.heap.size) (us := #[.int .u16 0, .int .u16 0, .int .u16 0, .int .u16 0, .int .u16 0, .int .u16 0, .int .u16 0, .int .u16 0].toList) (d := .array 8 38) rfl rfl (by exact (Row.set (Row.set (Row.set (Row.set (Row.set (Row.set (Row.set (Row.set hR1 (j := 0) (by decide) (.int .u16 0)) (j := 1) (by decide) (.int .u16 0)) (j := 2) (by decide) (.int .u16 0)) (j := 3) (by decide) (.int .u16 0)) (j := 4) (by decide) (.int .u16 0)) (j := 5) (by decide) (.int .u16 0)) (j := 6) (by decide) (.int .u16 0)) (j := 7) (by decide) (.int .u16 0))) Tryd.underlying39 rfl info_arr8) rfl ?_
      exact ⟨rfl, (Below.setCell (Below.setCell (Below.setCell (Below.setCell (Below.setCell (Below.setCell (Below.setCell (Below.setCell hbw (p := ⟨w.heap.size, 0, none⟩) (Nat.le_refl _) (.int .u16 0)) (p := ⟨w.heap.size, 1, none⟩) (Nat.le_refl _) (.int .u16 0)) (p := ⟨w.heap.size, 2, none⟩) (Nat.le_refl _) (.int .u16 0)) (p := ⟨w.heap.size, 3, none⟩) (Nat.le_refl _) (.int .u16 0)) (p := ⟨w.heap.size, 4, none⟩) (Nat.le_refl _) (.int .u16 0)) (p := ⟨w.heap.size, 5, none⟩) (Nat.le_refl _) (.int .u16 0)) (p := ⟨w.heap.size, 6, none⟩) (Nat.le_refl _) (.int .u16 0)) (p := ⟨w.heap.size, 7, none⟩) (Nat.le_refl _) (.int .u16 0))⟩
    · have hre : r.isEmpty = false := by cases r with | nil => exact absurd rfl hr | cons _ _ => rfl
      clear hr
      cases ok with
      | true =>
        clear hON
        have hws : wrap64 (8 - (l.length : Int)) = 8 - (l.length : Int) := IntWalk.wrap64_in _ (by omega)
        have x0 : w1.cell? ⟨w.heap.size, 0, none⟩ = some (.int .u16 0) := hR1.1 0 _ rfl
        have y0 : w1.frozen? ⟨w.heap.size, 0, none⟩ = false := hR1.2.1 0 (by decide)
        have x1 : w1.cell? ⟨w.heap.size, 1, none⟩ = some (.int .u16 0) := hR1.1 1 _ rfl
        have y1 : w1.frozen? ⟨w.heap.size, 1, none⟩ = false := hR1.2.1 1 (by decide)
        have x2 : w1.cell? ⟨w.heap.size, 2, none⟩ = some (.int .u16 0) := hR1.1 2 _ rfl
        have y2 : w1.frozen? ⟨w.heap.size, 2, none⟩ = false := hR1.2.1 2 (by decide)
        have x3 : w1.cell? ⟨w.heap.size, 3, none⟩ = some (.int .u16 0) := hR1.1 3 _ rfl
        have y3 : w1.frozen? ⟨w.heap.size, 3, none⟩ = false := hR1.2.1 3 (by decide)
        have x4 : w1.cell? ⟨w.heap.size, 4, none⟩ = some (.int .u16 0) := hR1.1 4 _ rfl
        have y4 : w1.frozen? ⟨w.heap.size, 4, none⟩ = false := hR1.2.1 4 (by decide)
        have x5 : w1.cell? ⟨w.heap.size, 5, none⟩ = some (.int .u16 0) := hR1.1 5 _ rfl
        have y5 : w1.frozen? ⟨w.heap.size, 5, none⟩ = false := hR1.2.1 5 (by decide)
        have x6 : w1.cell? ⟨w.heap.size, 6, none⟩ = some (.int .u16 0) := hR1.1 6 _ rfl
        have y6 : w1.frozen? ⟨w.heap.size, 6, none⟩ = false := hR1.2.1 6 (by decide)
        have x7 : w1.cell? ⟨w.heap.size, 7, none⟩ = some (.int .u16 0) := hR1.1 7 _ rfl
        have y7 : w1.frozen? ⟨w.heap.size, 7, none⟩ = false := hR1.2.1 7 (by decide)
        clear hwA hR0 hbA hzA HB CA hev hev2 hlow HP hl16 hl20 hg0 hg1 hT
        go_wp2
        (try simp only [Exit.inBlock, Exit.then])
        refine bodyPost_ret (results_row (R := w.heap.size) (us := #[.int .u16 0, .int .u16 0, .int .u16 0, .int .u16 0, .int .u16 0, .int .u16 0, .int .u16 0, .int .u16 0].toList) (d := .array 8 38) rfl rfl (by exact (Row.set (Row.set (Row.set (Row.set (Row.set (Row.set (Row.set (Row.set hR1 (j := 0) (by decide) (.int .u16 0)) (j := 1) (by decide) (.int .u16 0)) (j := 2) (by decide) (.int .u16 0)) (j := 3) (by decide) (.int .u16 0)) (j := 4) (by decide) (.int .u16 0)) (j := 5) (by decide) (.int .u16 0)) (j := 6) (by decide) (.int .u16 0)) (j := 7) (by decide) (.int .u16 0))) Tryd.underlying39 rfl info_arr8) rfl ?_
        exact ⟨rfl, (Below.setCell (Below.setCell (Below.setCell (Below.setCell (Below.setCell (Below.setCell (Below.setCell (Below.setCell hbw (p := ⟨w.heap.size, 0, none⟩) (Nat.le_refl _) (.int .u16 0)) (p := ⟨w.heap.size, 1, none⟩) (Nat.le_refl _) (.int .u16 0)) (p := ⟨w.heap.size, 2, none⟩) (Nat.le_refl _) (.int .u16 0)) (p := ⟨w.heap.size, 3, none⟩) (Nat.le_refl _) (.int .u16 0)) (p := ⟨w.heap.size, 4, none⟩) (Nat.le_refl _) (.int .u16 0)) (p := ⟨w.heap.size, 5, none⟩) (Nat.le_refl _) (.int .u16 0)) (p := ⟨w.heap.size, 6, none⟩) (Nat.le_refl _) (.int .u16 0)) (p := ⟨w.heap.size, 7, none⟩) (Nat.le_refl _) (.int .u16 0))⟩
      | false =>
        clear hON
        have hws : wrap64 (8 - (l.length : Int)) = 8 - (l.length : Int) := IntWalk.wrap64_in _ (by omega)
        have x0 : w1.cell? ⟨w.heap.size, 0, none⟩ = some (.int .u16 0) := hR1.1 0 _ rfl
        have y0 : w1.frozen? ⟨w.heap.size, 0, none⟩ = false := hR1.2.1 0 (by decide)
        have x1 : w1.cell? ⟨w.heap.size, 1, none⟩ = some (.int .u16 0) := hR1.1 1 _ rfl
        have y1 : w1.frozen? ⟨w.heap.size, 1, none⟩ = false := hR1.2.1 1 (by decide)
        have x2 : w1.cell? ⟨w.heap.size, 2, none⟩ = some (.int .u16 0) := hR1.1 2 _ rfl
        have y2 : w1.frozen? ⟨w.heap.size, 2, none⟩ = false := hR1.2.1 2 (by decide)
        have x3 : w1.cell? ⟨w.heap.size, 3, none⟩ = some (.int .u16 0) := hR1.1 3 _ rfl
        have y3 : w1.frozen? ⟨w.heap.size, 3, none⟩ = false := hR1.2.1 3 (by decide)
        have x4 : w1.cell? ⟨w.heap.size, 4, none⟩ = some (.int .u16 0) := hR1.1 4 _ rfl
        have y4 : w1.frozen? ⟨w.heap.size, 4, none⟩ = false := hR1.2.1 4 (by decide)
        have x5 : w1.cell? ⟨w.heap.size, 5, none⟩ = some (.int .u16 0) := hR1.1 5 _ rfl
        have y5 : w1.frozen? ⟨w.heap.size, 5, none⟩ = false := hR1.2.1 5 (by decide)
        have x6 : w1.cell? ⟨w.heap.size, 6, none⟩ = some (.int .u16 0) := hR1.1 6 _ rfl
        have y6 : w1.frozen? ⟨w.heap.size, 6, none⟩ = false := hR1.2.1 6 (by decide)
        have x7 : w1.cell? ⟨w.heap.size, 7, none⟩ = some (.int .u16 0) := hR1.1 7 _ rfl
        have y7 : w1.frozen? ⟨w.heap.size, 7, none⟩ = false := hR1.2.1 7 (by decide)
        clear hwA hR0 hbA hzA HB CA hev hev2 hlow HP hl16 hl20 hg0 hg1 hT
        go_wp2
        (try simp only [Exit.inBlock, Exit.then])
        refine bodyPost_ret (results_row (R := w.heap.size) (us := #[.int .u16 0, .int .u16 0, .int .u16 0, .int .u16 0, .int .u16 0, .int .u16 0, .int .u16 0, .int .u16 0].toList) (d := .array 8 38) rfl rfl (by exact (Row.set (Row.set (Row.set (Row.set (Row.set (Row.set (Row.set (Row.set hR1 (j := 0) (by decide) (.int .u16 0)) (j := 1) (by decide) (.int .u16 0)) (j := 2) (by decide) (.int .u16 0)) (j := 3) (by decide) (.int .u16 0)) (j := 4) (by decide) (.int .u16 0)) (j := 5) (by decide) (.int .u16 0)) (j := 6) (by decide) (.int .u16 0)) (j := 7) (by decide) (.int .u16 0))) Tryd.underlying39 rfl info_arr8) rfl ?_
        exact ⟨rfl, (Below.setCell (Below.setCell (Below.setCell (Below.setCell (Below.setCell (Below.setCell (Below.setCell (Below.setCell hbw (p := ⟨w.heap.size, 0, none⟩) (Nat.le_refl _) (.int .u16 0)) (p := ⟨w.heap.size, 1, none⟩) (Nat.le_refl _) (.int .u16 0)) (p := ⟨w.heap.size, 2, none⟩) (Nat.le_refl _) (.int .u16 0)) (p := ⟨w.heap.size, 3, none⟩) (Nat.le_refl _) (.int .u16 0)) (p := ⟨w.heap.size, 4, none⟩) (Nat.le_refl _) (.int .u16 0)) (p := ⟨w.heap.size, 5, none⟩) (Nat.le_refl _) (.int .u16 0)) (p := ⟨w.heap.size, 6, none⟩) (Nat.le_refl _) (.int .u16 0)) (p := ⟨w.heap.size, 7, none⟩) (Nat.le_refl _) (.int .u16 0))⟩
    · have h8' : (8 : Int) - (l.length : Int) < 0 := by omega
      cases ok with
      | true =>
        cases hre : r.isEmpty with
        | true =>
          clear hON
          have hws : wrap64 (8 - (l.length : Int)) = 8 - (l.length : Int) := IntWalk.wrap64_in _ (by omega)
          have x0 : w1.cell? ⟨w.heap.size, 0, none⟩ = some (.int .u16 0) := hR1.1 0 _ rfl
          have y0 : w1.frozen? ⟨w.heap.size, 0, none⟩ = false := hR1.2.1 0 (by decide)
          have x1 : w1.cell? ⟨w.heap.size, 1, none⟩ = some (.int .u16 0) := hR1.1 1 _ rfl
          have y1 : w1.frozen? ⟨w.heap.size, 1, none⟩ = false := hR1.2.1 1 (by decide)
          have x2 : w1.cell? ⟨w.heap.size, 2, none⟩ = some (.int .u16 0) := hR1.1 2 _ rfl
          have y2 : w1.frozen? ⟨w.heap.size, 2, none⟩ = false := hR1.2.1 2 (by decide)
          have x3 : w1.cell? ⟨w.heap.size, 3, none⟩ = some (.int .u16 0) := hR1.1 3 _ rfl
          have y3 : w1.frozen? ⟨w.heap.size, 3, none⟩ = false := hR1.2.1 3 (by decide)
          have x4 : w1.cell? ⟨w.heap.size, 4, none⟩ = some (.int .u16 0) := hR1.1 4 _ rfl
          have y4 : w1.frozen? ⟨w.heap.size, 4, none⟩ = false := hR1.2.1 4 (by decide)
          have x5 : w1.cell? ⟨w.heap.size, 5, none⟩ = some (.int .u16 0) := hR1.1 5 _ rfl
          have y5 : w1.frozen? ⟨w.heap.size, 5, none⟩ = false := hR1.2.1 5 (by decide)
          have x6 : w1.cell? ⟨w.heap.size, 6, none⟩ = some (.int .u16 0) := hR1.1 6 _ rfl
          have y6 : w1.frozen? ⟨w.heap.size, 6, none⟩ = false := hR1.2.1 6 (by decide)
          have x7 : w1.cell? ⟨w.heap.size, 7, none⟩ = some (.int .u16 0) := hR1.1 7 _ rfl
          have y7 : w1.frozen? ⟨w.heap.size, 7, none⟩ = false := hR1.2.1 7 (by decide)
          clear hwA hR0 hbA hzA HB CA hev hev2 hlow HP hl16 hl20 hg0 hg1 hT
          go_wp2
          (try simp only [Exit.inBlock, Exit.then])
          refine bodyPost_ret (results_row (R := w.heap.size) (us := #[.int .u16 0, .int .u16 0, .int .u16 0, .int .u16 0, .int .u16 0, .int .u16 0, .int .u16 0, .int .u16 0].toList) (d := .array 8 38) rfl rfl (by exact (Row.set (Row.set (Row.set (Row.set (Row.set (Row.set (Row.set (Row.set hR1 (j := 0) (by decide) (.int .u16 0)) (j := 1) (by decide) (.int .u16 0)) (j := 2) (by decide) (.int .u16 0)) (j := 3) (by decide) (.int .u16 0)) (j := 4) (by decide) (.int .u16 0)) (j := 5) (by decide) (.int .u16 0)) (j := 6) (by decide) (.int .u16 0)) (j := 7) (by decide) (.int .u16 0))) Tryd.underlying39 rfl info_arr8) rfl ?_
          exact ⟨rfl, (Below.setCell (Below.setCell (Below.setCell (Below.setCell (Below.setCell (Below.setCell (Below.setCell (Below.setCell hbw (p := ⟨w.heap.size, 0, none⟩) (Nat.le_refl _) (.int .u16 0)) (p := ⟨w.heap.size, 1, none⟩) (Nat.le_refl _) (.int .u16 0)) (p := ⟨w.heap.size, 2, none⟩) (Nat.le_refl _) (.int .u16 0)) (p := ⟨w.heap.size, 3, none⟩) (Nat.le_refl _) (.int .u16 0)) (p := ⟨w.heap.size, 4, none⟩) (Nat.le_refl _) (.int .u16 0)) (p := ⟨w.heap.size, 5, none⟩) (Nat.le_refl _) (.int .u16 0)) (p := ⟨w.heap.size, 6, none⟩) (Nat.le_refl _) (.int .u16 0)) (p := ⟨w.heap.size, 7, none⟩) (Nat.le_refl _) (.int .u16 0))⟩
        | false =>
          clear hON
          have hws : wrap64 (8 - (l.length : Int)) = 8 - (l.length : Int) := IntWalk.wrap64_in _ (by omega)
          have x0 : w1.cell? ⟨w.heap.size, 0, none⟩ = some (.int .u16 0) := hR1.1 0 _ rfl
          have y0 : w1.frozen? ⟨w.heap.size, 0, none⟩ = false := hR1.2.1 0 (by decide)
          have x1 : w1.cell? ⟨w.heap.size, 1, none⟩ = some (.int .u16 0) := hR1.1 1 _ rfl
          have y1 : w1.frozen? ⟨w.heap.size, 1, none⟩ = false := hR1.2.1 1 (by decide)
          have x2 : w1.cell? ⟨w.heap.size, 2, none⟩ = some (.int .u16 0) := hR1.1 2 _ rfl
          have y2 : w1.frozen? ⟨w.heap.size, 2, none⟩ = false := hR1.2.1 2 (by decide)
          have x3 : w1.cell? ⟨w.heap.size, 3, none⟩ = some (.int .u16 0) := hR1.1 3 _ rfl
          have y3 : w1.frozen? ⟨w.heap.size, 3, none⟩ = false := hR1.2.1 3 (by decide)
          have x4 : w1.cell? ⟨w.heap.size, 4, none⟩ = some (.int .u16 0) := hR1.1 4 _ rfl
          have y4 : w1.frozen? ⟨w.heap.size, 4, none⟩ = false := hR1.2.1 4 (by decide)
          have x5 : w1.cell? ⟨w.heap.size, 5, none⟩ = some (.int .u16 0) := hR1.1 5 _ rfl
          have y5 : w1.frozen? ⟨w.heap.size, 5, none⟩ = false := hR1.2.1 5 (by decide)
          have x6 : w1.cell? ⟨w.heap.size, 6, none⟩ = some (.int .u16 0) := hR1.1 6 _ rfl
          have y6 : w1.frozen? ⟨w.heap.size, 6, none⟩ = false := hR1.2.1 6 (by decide)
          have x7 : w1.cell? ⟨w.heap.size, 7, none⟩ = some (.int .u16 0) := hR1.1 7 _ rfl
          have y7 : w1.frozen? ⟨w.heap.size, 7, none⟩ = false := hR1.2.1 7 (by decide)
          clear hwA hR0 hbA hzA HB CA hev hev2 hlow HP hl16 hl20 hg0 hg1 hT
          go_wp2
          (try simp only [Exit.inBlock, Exit.then])
          refine bodyPost_ret (results_row (R := w.heap.size) (us := #[.int .u16 0, .int .u16 0, .int .u16 0, .int .u16 0, .int .u16 0, .int .u16 0, .int .u16 0, .int .u16 0].toList) (d := .array 8 38) rfl rfl (by exact (Row.set (Row.set (Row.set (Row.set (Row.set (Row.set (Row.set (Row.set hR1 (j := 0) (by decide) (.int .u16 0)) (j := 1) (by decide) (.int .u16 0)) (j := 2) (by decide) (.int .u16 0)) (j := 3) (by decide) (.int .u16 0)) (j := 4) (by decide) (.int .u16 0)) (j := 5) (by decide) (.int .u16 0)) (j := 6) (by decide) (.int .u16 0)) (j := 7) (by decide) (.int .u16 0))) Tryd.underlying39 rfl info_arr8) rfl ?_
          exact ⟨rfl, (Below.setCell (Below.setCell (Below.setCell (Below.setCell (Below.setCell (Below.setCell (Below.setCell (Below.setCell hbw (p := ⟨w.heap.size, 0, none⟩) (Nat.le_refl _) (.int .u16 0)) (p := ⟨w.heap.size, 1, none⟩) (Nat.le_refl _) (.int .u16 0)) (p := ⟨w.heap.size, 2, none⟩) (Nat.le_refl _) (.int .u16 0)) (p := ⟨w.heap.size, 3, none⟩) (Nat.le_refl _) (.int .u16 0)) (p := ⟨w.heap.size, 4, none⟩) (Nat.le_refl _) (.int .u16 0)) (p := ⟨w.heap.size, 5, none⟩) (Nat.le_refl _) (.int .u16 0)) (p := ⟨w.heap.size, 6, none⟩) (Nat.le_refl _) (.int .u16 0)) (p := ⟨w.heap.size, 7, none⟩) (Nat.le_refl _) (.int .u16 0))⟩
      | false =>
        clear hON
        have hws : wrap64 (8 - (l.length : Int)) = 8 - (l.length : Int) := IntWalk.wrap64_in _ (by omega)
        have x0 : w1.cell? ⟨w.heap.size, 0, none⟩ = some (.int .u16 0) := hR1.1 0 _ rfl
        have y0 : w1.frozen? ⟨w.heap.size, 0, none⟩ = false := hR1.2.1 0 (by decide)
        have x1 : w1.cell? ⟨w.heap.size, 1, none⟩ = some (.int .u16 0) := hR1.1 1 _ rfl
        have y1 : w1.frozen? ⟨w.heap.size, 1, none⟩ = false := hR1.2.1 1 (by decide)
        have x2 : w1.cell? ⟨w.heap.size, 2, none⟩ = some (.int .u16 0) := hR1.1 2 _ rfl
        have y2 : w1.frozen? ⟨w.heap.size, 2, none⟩ = false := hR1.2.1 2 (by decide)
        have x3 : w1.cell? ⟨w.heap.size, 3, none⟩ = some (.int .u16 0) := hR1.1 3 _ rfl
        have y3 : w1.frozen? ⟨w.heap.size, 3, none⟩ = false := hR1.2.1 3 (by decide)
        have x4 : w1.cell? ⟨w.heap.size, 4, none⟩ = some (.int .u16 0) := hR1.1 4 _ rfl
        have y4 : w1.frozen? ⟨w.heap.size, 4, none⟩ = false := hR1.2.1 4 (by decide)
        have x5 : w1.cell? ⟨w.heap.size, 5, none⟩ = some (.int .u16 0) := hR1.1 5 _ rfl
        have y5 : w1.frozen? ⟨w.heap.size, 5, none⟩ = false := hR1.2.1 5 (by decide)
        have x6 : w1.cell? ⟨w.heap.size, 6, none⟩ = some (.int .u16 0) := hR1.1 6 _ rfl
        have y6 : w1.frozen? ⟨w.heap.size, 6, none⟩ = false := hR1.2.1 6 (by decide)
        have x7 : w1.cell? ⟨w.heap.size, 7, none⟩ = some (.int .u16 0) := hR1.1 7 _ rfl
        have y7 : w1.frozen? ⟨w.heap.size, 7, none⟩ = false := hR1.2.1 7 (by decide)
        clear hwA hR0 hbA hzA HB CA hev hev2 hlow HP hl16 hl20 hg0 hg1 hT
        go_wp2
        (try simp only [Exit.inBlock, Exit.then])
        refine bodyPost_ret (results_row (R := w.heap.size) (us := #[.int .u16 0, .int .u16 0, .int .u16 0, .int .u16 0, .int .u16 0, .int .u16 0, .int .u16 0, .int .u16 0].toList) (d := .array 8 38) rfl rfl (by exact (Row.set (Row.set (Row.set (Row.set (Row.set (Row.set (Row.set (Row.set hR1 (j := 0) (by decide) (.int .u16 0)) (j := 1) (by decide) (.int .u16 0)) (j := 2) (by decide) (.int .u16 0)) (j := 3) (by decide) (.int .u16 0)) (j := 4) (by decide) (.int .u16 0)) (j := 5) (by decide) (.int .u16 0)) (j := 6) (by decide) (.int .u16 0)) (j := 7) (by decide) (.int .u16 0))) Tryd.underlying39 rfl info_arr8) rfl ?_
        exact ⟨rfl, (Below.setCell (Below.setCell (Below.setCell (Below.setCell (Below.setCell (Below.setCell (Below.setCell (Below.setCell hbw (p := ⟨w.heap.size, 0, none⟩) (Nat.le_refl _) (.int .u16 0)) (p := ⟨w.heap.size, 1, none⟩) (Nat.le_refl _) (.int .u16 0)) (p := ⟨w.heap.size, 2, none⟩) (Nat.le_refl _) (.int .u16 0)) (p := ⟨w.heap.size, 3, none⟩) (Nat.le_refl _) (.int .u16 0)) (p := ⟨w.heap.size, 4, none⟩) (Nat.le_refl _) (.int .u16 0)) (p := ⟨w.heap.size, 5, none⟩) (Nat.le_refl _) (.int .u16 0)) (p := ⟨w.heap.size, 6, none⟩) (Nat.le_refl _) (.int .u16 0)) (p := ⟨w.heap.size, 7, none⟩) (Nat.le_refl _) (.int .u16 0))⟩
end Go.Proofs.YtaglbcniomcfnaaDoor

