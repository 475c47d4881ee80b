/- slices.Insert of one code point into a row that is ours: its law. -/
import Derived.Test.YtalpkjdbennicaaPunyH
namespace Go.Proofs.Ytalpkjdbennicaa
set_option linter.all false
open Go.RowKit Go.Lib

theorem runes_ins (l : List Int) (i : Nat) (x : Int) : runes (l.take i ++ x :: l.drop i) = (runes l).take i ++ Value.int .i32 x :: (runes l).drop i := by
  unfold runes; rw [List.map_append, List.map_cons, List.map_take, List.map_drop]
theorem shape_row {w : World} {g : Nat} {cs : Array Value} {t : TypeId} {fr : Nat × Nat} (h : w.heap[g]? = some (.cells cs t fr)) : w.shape? g = some (t, cs.size) := by
  simp [World.shape?, h]

def InsP (base : Nat) (l : List Int) (i : Nat) (x : Int) (w : World) (e : Ending) (w' : World) : Prop :=
  ∃ v', e = .returned v' ∧ w'.ownsRow base 21 1 v' (l.length + 1) (runes (l.take i ++ x :: l.drop i)) ∧ Below base w w'


set_option maxRecDepth 100000 in
set_option maxHeartbeats 4000000 in
theorem insert_end (base vb : Nat) (v : Value) (l : List Int) (x : Int) (w : World) (hown : w.ownsRow base 21 1 v l.length (runes l)) (hl : l.length ≤ 10000)
    (hrow : w.heap[vb]? = some (.cells #[.int .i32 x] 21 (0, 0))) (hbase : base ≤ w.heap.size) :
    Calls Try.prog 75 #[v, .int .i64 l.length, .slice (some ⟨vb, 0, none⟩) 1 1] w (InsP base l l.length x w) := by
  obtain ⟨i0, hi0, hz0, hzs, hzb⟩ := info_parts info_i32u
  have hnews : ∀ j u, [Value.int .i32 x][j]? = some u → w.cell? ((⟨vb, 0, none⟩ : Addr).add j) = some u := fun j u h => by
    rw [Addr.add_lit, Nat.zero_add, cell_of_row w vb j _ _ _ hrow]
    rw [← h]; cases j <;> simp
  have hB := fun k (hk : v.ownBlock = some k) => (hown.lt k hk).1
  rcases hown.2 with ⟨rfl, h0⟩ | ⟨g, cap, cur, rfl, hg, hgr, hn, hcap, hsz, htk⟩
  · have : l = [] := List.eq_nil_of_length_eq_zero h0
    subst this
    clear hB h0
    go_enter Try.func75, Try.ntmps75
    go_wp2_with (at_builtin; refine wpList_append_own _ rfl _ _ _ rfl base _ i0 _ 1 4 Try.underlying26 hi0 hz0 hzs hzb rfl (by decide) _ _ _ rfl hown ⟨vb, 0, none⟩ 1 1 [.int .i32 x] rfl rfl hnews (by simp [Value.oneCell']) (by unfold maxLen; omega) (by omega) hbase ?_; intro v' w1 hown1 hg1 hx1)
    all_goals go_ret
    exact ⟨v', rfl, hown1, (Below.refl _ _).grown hg1 hbase (fun k hk => by cases hk)⟩
  · clear hgr hsz htk
    have HB := Lib.hid hB
    clear hB
    go_enter Try.func75, Try.ntmps75
    go_wp2_with (at_builtin; refine wpList_append_own _ rfl _ _ _ rfl base _ i0 _ 1 4 Try.underlying26 hi0 hz0 hzs hzb rfl (by decide) _ _ _ rfl hown ⟨vb, 0, none⟩ 1 1 [.int .i32 x] rfl rfl hnews (by simp [Value.oneCell']) (by unfold maxLen; omega) (by omega) hbase ?_; intro v' w1 hown1 hg1 hx1)
    all_goals go_ret
    all_goals exact ⟨v', rfl, own_as hown1 rfl (by rw [List.take_length, List.drop_length, runes_append]; rfl), (Below.refl _ _).grown hg1 hbase (fun k hk => HB.out k hk)⟩

theorem insert_any (base vb i : Nat) (v : Value) (l : List Int) (x : Int) (w : World) (hown : w.ownsRow base 21 1 v l.length (runes l)) (hi : i ≤ l.length) (hl : l.length ≤ 10000)
    (hrow : w.heap[vb]? = some (.cells #[.int .i32 x] 21 (0, 0))) (hv : v.ownBlock ≠ some vb) (hbase : base ≤ w.heap.size) :
    Calls Try.prog 75 #[v, .int .i64 i, .slice (some ⟨vb, 0, none⟩) 1 1] w (InsP base l i x w) := by
  rcases Nat.lt_or_ge l.length (i + 1) with hge | hlt
  · obtain rfl : i = l.length := by omega
    exact insert_end base vb v l x w hown hl hrow hbase
  have hrl : (runes l).length = l.length := runes_len l
  rcases hown.2 with ⟨rfl, h0⟩ | ⟨g, cap, cur, rfl, hg, hgr, hn, hcap, hsz, htk⟩
  · omega
  have hvb : vb ≠ g := fun e => hv (by simp [Value.ownBlock, e])
  have hcs : ∀ j u, (runes l)[j]? = some u → w.cell? ⟨g, j, none⟩ = some u := fun j u h => by
    rw [cell_of_row w g j _ _ _ hgr, ← Array.getElem?_toList]
    rw [← htk, List.getElem?_take] at h
    split at h
    · exact h
    · cases h
  have hcs0 : ∀ j u, (runes l)[j]? = some u → w.cell? ⟨g, 0 + j, none⟩ = some u := fun j u h => by rw [Nat.zero_add]; exact hcs j u h
  have hsome : ∀ j, j < cap → (w.cell? ⟨g, j, none⟩).isSome = true := fun j hj => by
    rw [cell_of_row w g j _ _ _ hgr, Array.getElem?_eq_getElem (by omega)]; rfl
  have hnews : ∀ j u, [Value.int .i32 x][j]? = some u → w.cell? ⟨vb, 0 + j, none⟩ = some u := fun j u h => by
    rw [Nat.zero_add, cell_of_row w vb j _ _ _ hrow]
    rw [← h]; cases j <;> simp
  have hone : ∀ u ∈ [Value.int .i32 x], u.oneCell' = true := by simp [Value.oneCell']
  have hilen : (runes l).length - i = ((runes l).drop i).length := (List.length_drop ..).symm
  by_cases hroom : l.length + 1 ≤ cap
  · refine (insert_shift g 0 l.length cap i vb 0 1 1 (runes l) [.int .i32 x] w hlt (by decide) hroom (by unfold maxLen at hcap; omega) hvb hrl rfl hcs0 (fun j hj => by rw [Nat.zero_add]; exact hsome j (by omega))
      (fun j _ => frozen_of_row w g _ _ _ hgr) hnews (runes_one l) hone _ _ _ _ (shape_row hrow) (shape_row hgr) (by omega) (frozen_of_row w vb _ _ _ hrow) (frozen_of_row w vb _ _ _ hrow)).mono ?_
    rintro e w' ⟨rfl, rfl⟩
    refine ⟨_, rfl, own_cells (by rw [runes_len]; simp; omega) hg (CellsOf.sets _ _ _ (CellsOf.sets _ _ _ ⟨cur, hgr, by omega⟩)) hroom hcap ?_, below_sets hg _ _ _ _ (below_sets hg _ _ _ _ (Below.refl _ _).drew)⟩
    intro j u hu
    rw [runes_ins] at hu
    have hs1 : ∀ k, k < cap → ((w.drew.setCells g (0 + (i + 1)) ((runes l).drop i)).cell? ⟨g, k, none⟩).isSome = true := fun k hk =>
      isSome_setCells g ((runes l).drop i) (0 + (i + 1)) w.drew (fun t ht => hsome _ (by rw [← hilen] at ht; omega)) k (hsome k hk)
    rcases ins_get (by omega) _ hu with ⟨h1, h2⟩ | ⟨h1, h2⟩ | ⟨h1, h2, h3⟩
    · rw [World.cell?_setCells_out _ _ _ _ _ (fun _ _ => .inl (by show j < 0 + i; omega)), World.cell?_setCells_out _ _ _ _ _ (fun _ _ => .inl (by show j < 0 + (i + 1); omega))]
      exact hcs j u h2
    · subst h1; subst h2
      have := World.cell?_setCells_in g [Value.int .i32 x] (0 + j) (w.drew.setCells g (0 + (j + 1)) ((runes l).drop j)) (fun t ht => by simp at ht; subst ht; exact hs1 _ (by omega)) 0 (by simp)
      simpa using this
    · rw [World.cell?_setCells_out _ _ _ _ _ (fun _ _ => .inr (by show 0 + i + 1 ≤ j; omega))]
      have := World.cell?_setCells_in g ((runes l).drop i) (0 + (i + 1)) w.drew (fun t ht => hsome _ (by rw [← hilen] at ht; omega)) (j - (i + 1)) h3
      rw [show 0 + (i + 1) + (j - (i + 1)) = j from by omega] at this
      rw [this, ← h2, List.getElem?_eq_getElem h3]
  · refine (insert_grow g 0 l.length cap i vb 0 1 1 (runes l) [.int .i32 x] w hlt (by decide) hn (by omega) (by omega) hrl rfl hcs0 hnews (runes_one l) hone).mono ?_
    rintro e w' ⟨rfl, rfl⟩
    have hGn := grownCap_ge w (l.length + 1) cap 21
    have hGm := grownCap_le_maxLen w (l.length + 1) cap 21 (by unfold maxLen; omega)
    generalize grownCap w (l.length + 1) cap 21 = G at *
    obtain ⟨ROW, hROW⟩ : ∃ ROW : Array Value, ROW = ((runes l).take i).toArray ++ Builtin.zeroCells (Value.int .i32 0).cells (l.length + 1 - i) ++ Builtin.zeroCells (Value.int .i32 0).cells (G - (l.length + 1)) := ⟨_, rfl⟩
    have hRs : ROW.size = G := by
      rw [hROW]; simp [Builtin.zeroCells, Value.cells]; omega
    have hRg : ∀ j u, j < i → (runes l)[j]? = some u → ROW[j]? = some u := fun j u h1 h2 => by
      rw [hROW, Array.append_assoc, Array.getElem?_append_left (by simp; omega)]
      simp only [List.getElem?_toArray]
      rw [List.getElem?_take, if_pos h1]; exact h2
    rw [← hROW]
    obtain ⟨W1, hW1⟩ : ∃ W1, W1 = (w.alloc (.cells ROW 21)).drew := ⟨_, rfl⟩
    have hH : W1.heap[w.heap.size]? = some (.cells ROW 21 (0, 0)) := by rw [hW1]; exact heap_alloc_new w _
    have hBel : Below base w W1 := by rw [hW1]; exact ((Below.refl base w).alloc hbase _).drew
    rw [← hW1]
    have hsome1 : ∀ j, j < G → (W1.cell? ⟨w.heap.size, j, none⟩).isSome = true := fun j hj => by
      rw [cell_of_row W1 _ j _ _ _ hH, Array.getElem?_eq_getElem (by omega)]; rfl
    have hs1 : ∀ k, k < G → (((W1.setCells w.heap.size i [Value.int .i32 x]).drew).cell? ⟨w.heap.size, k, none⟩).isSome = true := fun k hk =>
      isSome_setCells _ [Value.int .i32 x] i W1 (fun t ht => hsome1 _ (by simp at ht; omega)) k (hsome1 k hk)
    refine ⟨_, rfl, own_cells (by rw [runes_len]; simp; omega) hbase (CellsOf.sets _ _ _ (CellsOf.sets _ _ W1 ⟨ROW, hH, hRs⟩)) hGn hGm ?_, below_sets hbase _ _ _ _ (below_sets hbase _ _ _ _ hBel).drew⟩
    intro j u hu
    rw [runes_ins] at hu
    rcases ins_get (by omega) _ hu with ⟨h1, h2⟩ | ⟨h1, h2⟩ | ⟨h1, h2, h3⟩
    · rw [World.cell?_setCells_out _ _ _ _ _ (fun _ _ => .inl (by show j < i + 1; omega))]
      refine (World.cell?_setCells_out _ _ _ W1 _ (fun _ _ => .inl (by show j < i; omega))).trans ?_
      rw [cell_of_row W1 _ j _ _ _ hH]
      exact hRg j u h1 h2
    · subst h1; subst h2
      rw [World.cell?_setCells_out _ _ _ _ _ (fun _ _ => .inl (by show j < j + 1; omega))]
      have := World.cell?_setCells_in w.heap.size [Value.int .i32 x] j W1 (fun t ht => by simp at ht; subst ht; exact hsome1 _ (by omega)) 0 (by simp)
      refine Eq.trans ?_ (this.trans (by simp))
      simp
    · have := World.cell?_setCells_in w.heap.size ((runes l).drop i) (i + 1) ((W1.setCells w.heap.size i [Value.int .i32 x]).drew) (fun t ht => hs1 _ (by rw [← hilen] at ht; omega)) (j - (i + 1)) h3
      rw [show (i + 1) + (j - (i + 1)) = j from by omega] at this
      rw [this, ← h2, List.getElem?_eq_getElem h3]
end Go.Proofs.Ytalpkjdbennicaa
