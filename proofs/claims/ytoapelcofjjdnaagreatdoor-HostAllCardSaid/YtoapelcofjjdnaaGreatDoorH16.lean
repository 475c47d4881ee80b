/- A part of the proof. -/
import Derived.Test.YtoapelcofjjdnaaGreatDoorH10
import Derived.Shelf.Spec.SlicesInsertGrow
namespace Go.Proofs.YtoapelcofjjdnaaGreatDoor
set_option linter.all false
open Go.RowKit Go.Lib
def CellsOf (w : World) (g : Nat) (e : TypeId) (cap : Nat) : Prop := ∃ cur, w.heap[g]? = some (.cells cur e (0, 0)) ∧ cur.size = cap
theorem CellsOf.set {w : World} {g : Nat} {e : TypeId} {cap : Nat} (h : CellsOf w g e cap) (j : Nat) (v : Value) : CellsOf (w.setCell ⟨g, j, none⟩ v) g e cap := by
 obtain ⟨cur, h1, h2⟩ := h
 exact ⟨cur.setIfInBounds j v, heap_setCell_same w g j cur e v h1, by rw [Array.size_setIfInBounds, h2]⟩
theorem CellsOf.sets {g : Nat} {e : TypeId} {cap : Nat} : ∀ (vs : List Value) (o : Nat) (w : World), CellsOf w g e cap → CellsOf (w.setCells g o vs) g e cap
 | [], _, _, h => h
 | v :: r, o, w, h => CellsOf.sets r (o + 1) _ (h.set o v)
theorem below_sets {B g : Nat} (hg : B ≤ g) : ∀ (vs : List Value) (o : Nat) (a w : World), Below B a w → Below B a (w.setCells g o vs)
 | [], _, _, _, h => h
 | v :: r, o, a, w, h => below_sets hg r (o + 1) a _ (h.setCell hg v)
theorem own_cells {w : World} {base g : Nat} {e : TypeId} {n cap : Nat} {xs : List Value} (hx : xs.length = n) (hb : base ≤ g) (hobj : CellsOf w g e cap) (hn : n ≤ cap) (hm : cap ≤ maxLen)
  (hc : ∀ j v, xs[j]? = some v → w.cell? ⟨g, j, none⟩ = some v) : w.ownsRow base e 1 (.slice (some ⟨g, 0, none⟩) n cap) n xs := by
 obtain ⟨cur, h1, h2⟩ := hobj
 refine ⟨by omega, .inr ⟨g, cap, cur, rfl, hb, h1, hn, hm, by omega, ?_⟩⟩
 refine List.ext_getElem? fun j => ?_
 rw [Nat.mul_one, List.getElem?_take]
 by_cases hj : j < n
 ·
  rw [if_pos hj]
  have hx' : xs[j]? = some xs[j] := List.getElem?_eq_getElem (by omega)
  have := hc j _ hx'
  rw [cell_of_row w g j cur e _ h1] at this
  rw [hx', ← this, Array.getElem?_toList]
 · rw [if_neg hj, List.getElem?_eq_none (by omega)]
theorem ins_get {α : Type} {cs : List α} {i : Nat} (hi : i ≤ cs.length) (x : α) {j : Nat} {v : α} (h : (cs.take i ++ x :: cs.drop i)[j]? = some v) :
  (j < i ∧ cs[j]? = some v) ∨ (j = i ∧ v = x) ∨ (i < j ∧ (cs.drop i)[j - (i + 1)]? = some v ∧ j - (i + 1) < (cs.drop i).length) := by
 have hl : (cs.take i).length = i := by rw [List.length_take]; omega
 rcases Nat.lt_trichotomy j i with h1 | h1 | h1
 ·
  left
  rw [List.getElem?_append_left (by omega), List.getElem?_take, if_pos h1] at h
  exact ⟨h1, h⟩
 ·
  right; left
  rw [List.getElem?_append_right (by omega), hl, h1, Nat.sub_self] at h
  exact ⟨h1, (Option.some.inj h).symm⟩
 ·
  right; right
  rw [List.getElem?_append_right (by omega), hl, show j - i = (j - (i + 1)) + 1 from by omega, List.getElem?_cons_succ] at h
  exact ⟨h1, h, (List.getElem?_eq_some_iff.1 h).1⟩
theorem z32 : ∀ w : World, (Go.sizeOf 21).run Tryz.prog w = .ok 1 w := fun w => by kernel_rfl
set_option maxRecDepth 100000 in
set_option maxHeartbeats 4000000 in
theorem insert_shift (b off n c i vb voff m vc : Nat) (cs vs : List Value) (w : World) (hi : i < n) (hm : 0 < m) (hroom : n + m ≤ c) (hc63 : c ≤ 9223372036854775807) (hvb : vb ≠ b)
  (hcl : cs.length = n) (hvl : vs.length = m)
  (hcs : ∀ j v, cs[j]? = some v → w.cell? ⟨b, off + j, none⟩ = some v) (hsp : ∀ j, j < n + m → (w.cell? ⟨b, off + j, none⟩).isSome = true) (hfz : ∀ j, j < n + m → w.frozen? ⟨b, off + j, none⟩ = false)
  (hvs : ∀ j v, vs[j]? = some v → w.cell? ⟨vb, voff + j, none⟩ = some v) (h1c : ∀ v ∈ cs, v.oneCell' = true) (h1v : ∀ v ∈ vs, v.oneCell' = true)
  (tA tB : TypeId) (kA kB : Nat) (hsa : w.shape? vb = some (tA, kA)) (hsb : w.shape? b = some (tB, kB)) (hkB : kB ≠ 0) (hfa : w.frozen? ⟨vb, voff, none⟩ = false) (hfe : w.frozen? ⟨vb, kA, none⟩ = false) :
  Calls Tryz.prog 197 #[.slice (some ⟨b, off, none⟩) n c, .int .i64 i, .slice (some ⟨vb, voff, none⟩) m vc] w fun e w' =>
   e = .returned (.slice (some ⟨b, off, none⟩) (n + m) c) ∧ w' = (w.drew.setCells b (off + (i + m)) (cs.drop i)).setCells b (off + i) vs := by
 have hz1 : ¬ ((m : Int) = 0) := by omega
 have hz2 : ¬ ((i : Int) = (n : Int)) := by omega
 have hsz : (Tryz.prog.info? 21).map (·.size) = some 1 := by
  obtain ⟨i0, hi0, h0, h1, h2⟩ := info_parts info_i32u
  rw [hi0]; simp [h1]
 have hov : ∀ lb cb, (callFunc 216 #[.slice (some ⟨vb, voff, none⟩) m vc, .slice (some ⟨b, off + (i + m), none⟩) lb cb]).run Tryz.prog w = .ok (.value (.bool false)) w := fun lb cb => by
  rw [run_callFunc_extern Tryz.func216 (by kernel_rfl) (by kernel_rfl) (by kernel_rfl) (e := Extern.SlicesOverlaps.overlaps #[127, 127] #[4]) (by kernel_rfl),
   Lib.run_overlaps_apart w 127 4 21 Tryz.underlying127 1 z32 ⟨vb, voff, none⟩ ⟨b, off + (i + m), none⟩ m vc lb cb hvb tA tB kA kB hsa hsb hkB hfa hfe]
  rfl
 have hdl : (cs.drop i).length = n - i := by rw [List.length_drop, hcl]
 have mixed : Tryz.prog.follows Departure.mixedOrders = true := by kernel_rfl
 have hw1 : IntKind.i64.wrap ((i : Int) + (m : Int)) = (i : Int) + (m : Int) := by rw [IntKind.wrap_i64]; omega
 have hb1 : (0 : Int) ≤ (i : Int) + (m : Int) := by omega
 have hin : i ≤ n := by omega
 have htn : ((i : Int) + (m : Int)).toNat = i + m := by omega
 have hb2 : ¬ (c = i + m) := by omega
 have hb3 : (i : Int) ≤ (n : Int) + (m : Int) := by omega
 have hb4 : ¬ (c = i) := by omega
 have hcp1 : ∀ ty dc sc, (Builtin.copy_ #[127, 127] ty #[.slice (some ⟨b, off + (i + m), none⟩) (n + m - (i + m)) dc, .slice (some ⟨b, off + i, none⟩) (n + m - i) sc]).run Tryz.prog w.drew = .ok (goInt (cs.drop i).length) (w.drew.setCells b (off + (i + m)) (cs.drop i)) := fun ty dc sc =>
  run_copy_cells w.drew _ _ ty 21 b (off + (i + m)) (n + m - (i + m)) dc ⟨b, off + i, none⟩ (n + m - i) sc (cs.drop i) Tryz.underlying127 hsz (by rw [hdl]; simp only [Nat.min_def]; split <;> omega)
   (fun j v hj => by rw [Addr.add_lit, Nat.add_assoc]; exact hcs (i + j) v (by rwa [List.getElem?_drop] at hj))
   (fun j hj => by rw [Nat.add_assoc]; exact hsp _ (by omega)) (fun j hj => by rw [Nat.add_assoc]; exact hfz _ (by omega)) (fun v hv => h1c v (List.mem_of_mem_drop hv))
 obtain ⟨W1, hW1⟩ : ∃ W1, W1 = w.drew.setCells b (off + (i + m)) (cs.drop i) := ⟨_, rfl⟩
 have hsp1 : ∀ k, k < n + m → (W1.cell? ⟨b, off + k, none⟩).isSome = true := fun k hk => by
  rw [hW1]
  exact isSome_setCells b _ _ _ (fun j hj => by rw [Nat.add_assoc]; exact hsp _ (by omega)) _ (hsp k hk)
 have hcp2 : ∀ (W : World), (∀ x, W.cell? x = W1.cell? x) → (∀ x, W.frozen? x = W1.frozen? x) → ∀ ty dc, (Builtin.copy_ #[127, 127] ty #[.slice (some ⟨b, off + i, none⟩) (n + m - i) dc, .slice (some ⟨vb, voff, none⟩) m vc]).run Tryz.prog W = .ok (goInt vs.length) (W.setCells b (off + i) vs) := fun W hWc hWf ty dc =>
  run_copy_cells W _ _ ty 21 b (off + i) (n + m - i) dc ⟨vb, voff, none⟩ m vc vs Tryz.underlying127 hsz (by rw [hvl]; simp only [Nat.min_def]; split <;> omega)
   (fun j v hj => by
    rw [Addr.add_lit, hWc, hW1, World.cell?_setCells_out b _ _ _ _ (fun h _ => absurd h hvb)]
    exact hvs j v hj)
   (fun j hj => by rw [hWc, Nat.add_assoc]; exact hsp1 _ (by omega)) (fun j hj => by rw [hWf, hW1, World.frozen?_setCells, Nat.add_assoc]; exact hfz _ (by omega)) h1v
 rw [← hW1] at hcp1
 go_enter Tryz.func197, Tryz.ntmps197
 go_wp2_with (simp only [hov])
 go_region_law_o (refine step_copy_runI rfl _ _ 127 127 rfl _ _ (by simp [Act.eval, Act.put]) (by simp [Act.eval, Act.put]) (hcp1 _ _ _) ?_)
 go_wp2_with (at_builtin; refine wpList_copy_runI _ rfl _ _ 127 127 rfl _ _ rfl rfl (hcp2 _ (fun _ => rfl) (fun _ => rfl) _ _) ?_)
 go_ret
 first | exact ⟨rfl, rfl⟩ | exact ⟨rfl, by rw [hW1]⟩
set_option maxRecDepth 100000 in
set_option maxHeartbeats 4000000 in
theorem insert_grow (b off n c i vb voff m vc : Nat) (cs vs : List Value) (w : World) (hi : i < n) (hm : 0 < m) (hnc : n ≤ c) (hroom : c < n + m) (hbig : (n + m) * 4 ≤ 140737488355328)
  (hcl : cs.length = n) (hvl : vs.length = m)
  (hcs : ∀ j v, cs[j]? = some v → w.cell? ⟨b, off + j, none⟩ = some v)
  (hvs : ∀ j v, vs[j]? = some v → w.cell? ⟨vb, voff + j, none⟩ = some v) (h1c : ∀ v ∈ cs, v.oneCell' = true) (h1v : ∀ v ∈ vs, v.oneCell' = true) :
  Calls Tryz.prog 197 #[.slice (some ⟨b, off, none⟩) n c, .int .i64 i, .slice (some ⟨vb, voff, none⟩) m vc] w fun e w' =>
   e = .returned (.slice (some ⟨w.heap.size, 0, none⟩) (n + m) (grownCap w (n + m) c 21)) ∧
   w' = (((w.alloc (.cells ((cs.take i).toArray ++ Builtin.zeroCells (Value.int .i32 0).cells (n + m - i) ++ Builtin.zeroCells (Value.int .i32 0).cells (grownCap w (n + m) c 21 - (n + m))) 21)).drew.setCells w.heap.size i vs).drew).setCells w.heap.size (i + m) (cs.drop i) := by
 have mixed : Tryz.prog.follows Departure.mixedOrders = true := by kernel_rfl
 obtain ⟨i0, hi0, hz0, hzs, hzb⟩ := info_parts info_i32u
 have hz1 : ¬ ((m : Int) = 0) := by omega
 have hz2 : ¬ ((i : Int) = (n : Int)) := by omega
 have hz3 : (c : Int) < (n : Int) + (m : Int) := by omega
 have hsz : (Tryz.prog.info? 21).map (·.size) = some 1 := by rw [hi0]; simp [hzs]
 have hbw : b < w.heap.size := block_lt_of_cell (hcs 0 _ (List.getElem?_eq_getElem (by omega)))
 have hvw : vb < w.heap.size := block_lt_of_cell (hvs 0 _ (List.getElem?_eq_getElem (by omega)))
 have hkk : (n : Int) + (m : Int) - (i : Int) = ((n + m - i : Nat) : Int) := by omega
 have hik : i + (n + m - i) = n + m := by omega
 have hold : (Builtin.firstCells i0.size i (.slice (some ⟨b, off, none⟩) i c)).run Tryz.prog w.drew = .ok (cs.take i).toArray w.drew := by
  rw [hzs]
  exact run_firstCells_some w.drew 1 i ⟨b, off, none⟩ i c (cs.take i) (by rw [List.length_take]; omega) (fun j v hj => by
   rw [Addr.add_lit]
   rw [List.getElem?_take] at hj
   split at hj
   · exact hcs j v hj
   · cases hj)
 have hrz : ∀ ty, (Builtin.append_ #[127, 3] ty #[.slice (some ⟨b, off, none⟩) i c, .int .i64 ((n : Int) + (m : Int) - (i : Int))]).run Tryz.prog w =
   .ok (.slice (some ⟨w.heap.size, 0, none⟩) (n + m) (grownCap w (n + m) c 21)) (w.drew.alloc (.cells ((cs.take i).toArray ++ Builtin.zeroCells (Value.int .i32 0).cells (n + m - i) ++ Builtin.zeroCells (Value.int .i32 0).cells (grownCap w (n + m) c 21 - (n + m))) 21)) := fun ty => by
  have h := Lib.run_append_grow_zeros w 127 3 ty 21 i0 _ .i64 .i64 Tryz.underlying127 Tryz.underlying3 hi0 hz0 (some ⟨b, off, none⟩) i c (cs.take i) hold (n + m - i) (by omega) (by omega) (by omega) (by omega) (by rw [hzb]; omega) (by rw [hzb, hik]; exact growslice_fits hroom hbig)
  rw [hik] at h
  rw [hkk]
  exact h
 obtain ⟨G, hG⟩ : ∃ G, G = grownCap w (n + m) c 21 := ⟨_, rfl⟩
 obtain ⟨ROW, hROW⟩ : ∃ ROW : Array Value, ROW = (cs.take i).toArray ++ Builtin.zeroCells (Value.int .i32 0).cells (n + m - i) ++ Builtin.zeroCells (Value.int .i32 0).cells (G - (n + m)) := ⟨_, rfl⟩
 rw [← hG] at hrz ⊢
 rw [← hROW] at hrz ⊢
 have hRl : n + m ≤ ROW.size := by
  rw [hROW]
  simp [Builtin.zeroCells, Value.cells]
  omega
 obtain ⟨W1, hW1⟩ : ∃ W1, W1 = w.drew.alloc (.cells ROW 21) := ⟨_, rfl⟩
 rw [← hW1] at hrz
 have hN : ∀ j, j < n + m → (W1.cell? ⟨w.heap.size, j, none⟩).isSome = true := fun j hj => by
  rw [hW1, World.cell?_alloc_at (w := w.drew) ROW _ w.heap.size j rfl, Array.getElem?_eq_getElem (by omega)]; rfl
 have hNf : ∀ j, W1.frozen? ⟨w.heap.size, j, none⟩ = false := fun j => by rw [hW1]; exact World.frozen?_alloc_at (w := w.drew) ROW _ w.heap.size j rfl
 have hOb : ∀ j v, w.cell? ⟨b, j, none⟩ = some v → W1.cell? ⟨b, j, none⟩ = some v := fun j v h => by rw [hW1, World.cell?_alloc_past (w := w.drew) _ b j hbw]; exact h
 have hOv : ∀ j v, w.cell? ⟨vb, j, none⟩ = some v → W1.cell? ⟨vb, j, none⟩ = some v := fun j v h => by rw [hW1, World.cell?_alloc_past (w := w.drew) _ vb j hvw]; exact h
 have hcpA : ∀ (W : World), (∀ x, W.cell? x = W1.cell? x) → (∀ x, W.frozen? x = W1.frozen? x) → ∀ ty dc, (Builtin.copy_ #[127, 127] ty #[.slice (some ⟨w.heap.size, i, none⟩) (n + m - i) dc, .slice (some ⟨vb, voff, none⟩) m vc]).run Tryz.prog W = .ok (goInt vs.length) (W.setCells w.heap.size i vs) := fun W hWc hWf ty dc =>
  run_copy_cells W _ _ ty 21 w.heap.size i (n + m - i) dc ⟨vb, voff, none⟩ m vc vs Tryz.underlying127 hsz (by rw [hvl]; simp only [Nat.min_def]; split <;> omega)
   (fun j v hj => by rw [Addr.add_lit, hWc]; exact hOv _ v (hvs j v hj))
   (fun j hj => by rw [hWc]; exact hN _ (by omega)) (fun j hj => by rw [hWf]; exact hNf _) h1v
 have hGn : n + m ≤ G := by rw [hG]; exact grownCap_ge w _ _ _
 have hG63 : G ≤ 9223372036854775807 := by
  have := grownCap_le_maxLen w (n + m) c 21 (by unfold maxLen; omega)
  rw [← hG] at this
  unfold maxLen at this
  omega
 have hGi : ¬ (G = i) := by omega
 have hGim : ¬ (G = i + m) := by omega
 have hci : ¬ (c = i) := by omega
 have hbN : b ≠ w.heap.size := by omega
 have hdl : (cs.drop i).length = n - i := by rw [List.length_drop, hcl]
 have hcpB : ∀ (W : World), (∀ x, W.cell? x = (W1.setCells w.heap.size i vs).cell? x) → (∀ x, W.frozen? x = (W1.setCells w.heap.size i vs).frozen? x) → ∀ ty dc sc, (Builtin.copy_ #[127, 127] ty #[.slice (some ⟨w.heap.size, i + m, none⟩) (n + m - (i + m)) dc, .slice (some ⟨b, off + i, none⟩) (n - i) sc]).run Tryz.prog W = .ok (goInt (cs.drop i).length) (W.setCells w.heap.size (i + m) (cs.drop i)) := fun W hWc hWf ty dc sc =>
  run_copy_cells W _ _ ty 21 w.heap.size (i + m) (n + m - (i + m)) dc ⟨b, off + i, none⟩ (n - i) sc (cs.drop i) Tryz.underlying127 hsz (by rw [hdl]; simp only [Nat.min_def]; split <;> omega)
   (fun j v hj => by
    rw [Addr.add_lit, hWc, World.cell?_setCells_out _ _ _ _ _ (fun h _ => absurd h hbN), Nat.add_assoc]
    exact hOb _ v (hcs (i + j) v (by rwa [List.getElem?_drop] at hj)))
   (fun j hj => by rw [hWc]; exact isSome_setCells _ _ _ _ (fun t ht => hN _ (by omega)) _ (hN _ (by omega)))
   (fun j hj => by rw [hWf, World.frozen?_setCells]; exact hNf _) (fun v hv => h1c v (List.mem_of_mem_drop hv))
 subst hW1
 have hE1 : ∀ x, ((w.alloc (.cells ROW 21)).drew).cell? x = (w.drew.alloc (.cells ROW 21)).cell? x := fun x => rfl
 have hE2 : ∀ x, ((w.alloc (.cells ROW 21)).drew).frozen? x = (w.drew.alloc (.cells ROW 21)).frozen? x := fun x => rfl
 have hF1 : ∀ x, (((w.alloc (.cells ROW 21)).drew.setCells w.heap.size i vs).drew).cell? x = ((w.drew.alloc (.cells ROW 21)).setCells w.heap.size i vs).cell? x := fun x => rfl
 have hF2 : ∀ x, (((w.alloc (.cells ROW 21)).drew.setCells w.heap.size i vs).drew).frozen? x = ((w.drew.alloc (.cells ROW 21)).setCells w.heap.size i vs).frozen? x := fun x => rfl
 have hw1 : IntKind.i64.wrap ((i : Int) + (m : Int)) = (i : Int) + (m : Int) := by rw [IntKind.wrap_i64]; omega
 have hb1 : (0 : Int) ≤ (i : Int) + (m : Int) := by omega
 have hin : i ≤ n := by omega
 have htn : ((i : Int) + (m : Int)).toNat = i + m := by omega
 have hb3 : (i : Int) ≤ (n : Int) := by omega
 clear hkk hik hold hROW hG hRl
 go_enter Tryz.func197, Tryz.ntmps197
 go_wp2_with (first
  | (at_builtin; refine Lib.wpList_append_run _ rfl _ _ _ _ rfl _ _ rfl rfl _ _ (hrz _) ?_)
  | (at_builtin; refine wpList_copy_runI _ rfl _ _ 127 127 rfl _ _ rfl rfl (hcpA _ hE1 hE2 _ _) ?_)
  | (at_builtin; refine wpList_copy_runI _ rfl _ _ 127 127 rfl _ _ rfl rfl (hcpB _ (fun _ => rfl) (fun _ => rfl) _ _ _) ?_))
 go_region_law_o (refine step_copy_runI rfl _ _ 127 127 rfl (.slice (some ⟨w.heap.size, i + m, none⟩) (n + m - (i + m)) (G - (i + m))) (.slice (some ⟨b, off + i, none⟩) (n - i) (c - i)) (by simp [Act.eval, Act.put]) (by simp [Act.eval, Act.put]) (hcpB _ hF1 hF2 3 (G - (i + m)) (c - i)) ?_)
 go_wp2
 go_ret
 exact ⟨rfl, rfl⟩
end Go.Proofs.YtoapelcofjjdnaaGreatDoor
namespace Go.Proofs.YtoapelcofjjdnaaGreatDoor
set_option linter.all false
open Go.RowKit Go.Lib
theorem runes_ins (l : List Int) (i : Nat) (x : Int) : runes (l.take i ++ x :: l.drop i) = (runes l).take i ++ Value.int .i32 x :: (runes l).drop i := by
 unfold runes; rw [List.map_append, List.map_cons, List.map_take, List.map_drop]
theorem shape_row {w : World} {g : Nat} {cs : Array Value} {t : TypeId} {fr : Nat × Nat} (h : w.heap[g]? = some (.cells cs t fr)) : w.shape? g = some (t, cs.size) := by
 simp [World.shape?, h]
def InsP (base : Nat) (l : List Int) (i : Nat) (x : Int) (w : World) (e : Ending) (w' : World) : Prop :=
 ∃ v', e = .returned v' ∧ w'.ownsRow base 21 1 v' (l.length + 1) (runes (l.take i ++ x :: l.drop i)) ∧ Below base w w'
set_option maxRecDepth 100000 in
set_option maxHeartbeats 4000000 in
theorem insert_end (base vb : Nat) (v : Value) (l : List Int) (x : Int) (w : World) (hown : w.ownsRow base 21 1 v l.length (runes l)) (hl : l.length ≤ 10000)
  (hrow : w.heap[vb]? = some (.cells #[.int .i32 x] 21 (0, 0))) (hbase : base ≤ w.heap.size) :
  Calls Tryz.prog 197 #[v, .int .i64 l.length, .slice (some ⟨vb, 0, none⟩) 1 1] w (InsP base l l.length x w) := by
 obtain ⟨i0, hi0, hz0, hzs, hzb⟩ := info_parts info_i32u
 have hnews : ∀ j u, [Value.int .i32 x][j]? = some u → w.cell? ((⟨vb, 0, none⟩ : Addr).add j) = some u := fun j u h => by
  rw [Addr.add_lit, Nat.zero_add, cell_of_row w vb j _ _ _ hrow]
  rw [← h]; cases j <;> simp
 have hB := fun k (hk : v.ownBlock = some k) => (hown.lt k hk).1
 rcases hown.2 with ⟨rfl, h0⟩ | ⟨g, cap, cur, rfl, hg, hgr, hn, hcap, hsz, htk⟩
 ·
  have : l = [] := List.eq_nil_of_length_eq_zero h0
  subst this
  clear hB h0
  go_enter Tryz.func197, Tryz.ntmps197
  go_wp2_with (at_builtin; refine wpList_append_own _ rfl _ _ _ rfl base _ i0 _ 1 4 Tryz.underlying127 hi0 hz0 hzs hzb rfl (by decide) _ _ _ rfl hown ⟨vb, 0, none⟩ 1 1 [.int .i32 x] rfl rfl hnews (by simp [Value.oneCell']) (by unfold maxLen; omega) (by omega) hbase ?_; intro v' w1 hown1 hg1 hx1)
  all_goals go_ret
  exact ⟨v', rfl, hown1, (Below.refl _ _).grown hg1 hbase (fun k hk => by cases hk)⟩
 ·
  clear hgr hsz htk
  have HB := Lib.hid hB
  clear hB
  go_enter Tryz.func197, Tryz.ntmps197
  go_wp2_with (at_builtin; refine wpList_append_own _ rfl _ _ _ rfl base _ i0 _ 1 4 Tryz.underlying127 hi0 hz0 hzs hzb rfl (by decide) _ _ _ rfl hown ⟨vb, 0, none⟩ 1 1 [.int .i32 x] rfl rfl hnews (by simp [Value.oneCell']) (by unfold maxLen; omega) (by omega) hbase ?_; intro v' w1 hown1 hg1 hx1)
  all_goals go_ret
  all_goals exact ⟨v', rfl, own_as hown1 rfl (by rw [List.take_length, List.drop_length, runes_append]; rfl), (Below.refl _ _).grown hg1 hbase (fun k hk => HB.out k hk)⟩
theorem insert_any (base vb i : Nat) (v : Value) (l : List Int) (x : Int) (w : World) (hown : w.ownsRow base 21 1 v l.length (runes l)) (hi : i ≤ l.length) (hl : l.length ≤ 10000)
  (hrow : w.heap[vb]? = some (.cells #[.int .i32 x] 21 (0, 0))) (hv : v.ownBlock ≠ some vb) (hbase : base ≤ w.heap.size) :
  Calls Tryz.prog 197 #[v, .int .i64 i, .slice (some ⟨vb, 0, none⟩) 1 1] w (InsP base l i x w) := by
 rcases Nat.lt_or_ge l.length (i + 1) with hge | hlt
 ·
  obtain rfl : i = l.length := by omega
  exact insert_end base vb v l x w hown hl hrow hbase
 have hrl : (runes l).length = l.length := runes_len l
 rcases hown.2 with ⟨rfl, h0⟩ | ⟨g, cap, cur, rfl, hg, hgr, hn, hcap, hsz, htk⟩
 · omega
 have hvb : vb ≠ g := fun e => hv (by simp [Value.ownBlock, e])
 have hcs : ∀ j u, (runes l)[j]? = some u → w.cell? ⟨g, j, none⟩ = some u := fun j u h => by
  rw [cell_of_row w g j _ _ _ hgr, ← Array.getElem?_toList]
  rw [← htk, List.getElem?_take] at h
  split at h
  · exact h
  · cases h
 have hcs0 : ∀ j u, (runes l)[j]? = some u → w.cell? ⟨g, 0 + j, none⟩ = some u := fun j u h => by rw [Nat.zero_add]; exact hcs j u h
 have hsome : ∀ j, j < cap → (w.cell? ⟨g, j, none⟩).isSome = true := fun j hj => by
  rw [cell_of_row w g j _ _ _ hgr, Array.getElem?_eq_getElem (by omega)]; rfl
 have hnews : ∀ j u, [Value.int .i32 x][j]? = some u → w.cell? ⟨vb, 0 + j, none⟩ = some u := fun j u h => by
  rw [Nat.zero_add, cell_of_row w vb j _ _ _ hrow]
  rw [← h]; cases j <;> simp
 have hone : ∀ u ∈ [Value.int .i32 x], u.oneCell' = true := by simp [Value.oneCell']
 have hilen : (runes l).length - i = ((runes l).drop i).length := (List.length_drop ..).symm
 by_cases hroom : l.length + 1 ≤ cap
 ·
  refine (insert_shift g 0 l.length cap i vb 0 1 1 (runes l) [.int .i32 x] w hlt (by decide) hroom (by unfold maxLen at hcap; omega) hvb hrl rfl hcs0 (fun j hj => by rw [Nat.zero_add]; exact hsome j (by omega))
   (fun j _ => frozen_of_row w g _ _ _ hgr) hnews (runes_one l) hone _ _ _ _ (shape_row hrow) (shape_row hgr) (by omega) (frozen_of_row w vb _ _ _ hrow) (frozen_of_row w vb _ _ _ hrow)).mono ?_
  rintro e w' ⟨rfl, rfl⟩
  refine ⟨_, rfl, own_cells (by rw [runes_len]; simp; omega) hg (CellsOf.sets _ _ _ (CellsOf.sets _ _ _ ⟨cur, hgr, by omega⟩)) hroom hcap ?_, below_sets hg _ _ _ _ (below_sets hg _ _ _ _ (Below.refl _ _).drew)⟩
  intro j u hu
  rw [runes_ins] at hu
  have hs1 : ∀ k, k < cap → ((w.drew.setCells g (0 + (i + 1)) ((runes l).drop i)).cell? ⟨g, k, none⟩).isSome = true := fun k hk =>
   isSome_setCells g ((runes l).drop i) (0 + (i + 1)) w.drew (fun t ht => hsome _ (by rw [← hilen] at ht; omega)) k (hsome k hk)
  rcases ins_get (by omega) _ hu with ⟨h1, h2⟩ | ⟨h1, h2⟩ | ⟨h1, h2, h3⟩
  ·
   rw [World.cell?_setCells_out _ _ _ _ _ (fun _ _ => .inl (by show j < 0 + i; omega)), World.cell?_setCells_out _ _ _ _ _ (fun _ _ => .inl (by show j < 0 + (i + 1); omega))]
   exact hcs j u h2
  ·
   subst h1; subst h2
   have := World.cell?_setCells_in g [Value.int .i32 x] (0 + j) (w.drew.setCells g (0 + (j + 1)) ((runes l).drop j)) (fun t ht => by simp at ht; subst ht; exact hs1 _ (by omega)) 0 (by simp)
   simpa using this
  ·
   rw [World.cell?_setCells_out _ _ _ _ _ (fun _ _ => .inr (by show 0 + i + 1 ≤ j; omega))]
   have := World.cell?_setCells_in g ((runes l).drop i) (0 + (i + 1)) w.drew (fun t ht => hsome _ (by rw [← hilen] at ht; omega)) (j - (i + 1)) h3
   rw [show 0 + (i + 1) + (j - (i + 1)) = j from by omega] at this
   rw [this, ← h2, List.getElem?_eq_getElem h3]
 ·
  refine (insert_grow g 0 l.length cap i vb 0 1 1 (runes l) [.int .i32 x] w hlt (by decide) hn (by omega) (by omega) hrl rfl hcs0 hnews (runes_one l) hone).mono ?_
  rintro e w' ⟨rfl, rfl⟩
  have hGn := grownCap_ge w (l.length + 1) cap 21
  have hGm := grownCap_le_maxLen w (l.length + 1) cap 21 (by unfold maxLen; omega)
  generalize grownCap w (l.length + 1) cap 21 = G at *
  obtain ⟨ROW, hROW⟩ : ∃ ROW : Array Value, ROW = ((runes l).take i).toArray ++ Builtin.zeroCells (Value.int .i32 0).cells (l.length + 1 - i) ++ Builtin.zeroCells (Value.int .i32 0).cells (G - (l.length + 1)) := ⟨_, rfl⟩
  have hRs : ROW.size = G := by
   rw [hROW]; simp [Builtin.zeroCells, Value.cells]; omega
  have hRg : ∀ j u, j < i → (runes l)[j]? = some u → ROW[j]? = some u := fun j u h1 h2 => by
   rw [hROW, Array.append_assoc, Array.getElem?_append_left (by simp; omega)]
   simp only [List.getElem?_toArray]
   rw [List.getElem?_take, if_pos h1]; exact h2
  rw [← hROW]
  obtain ⟨W1, hW1⟩ : ∃ W1, W1 = (w.alloc (.cells ROW 21)).drew := ⟨_, rfl⟩
  have hH : W1.heap[w.heap.size]? = some (.cells ROW 21 (0, 0)) := by rw [hW1]; exact heap_alloc_new w _
  have hBel : Below base w W1 := by rw [hW1]; exact ((Below.refl base w).alloc hbase _).drew
  rw [← hW1]
  have hsome1 : ∀ j, j < G → (W1.cell? ⟨w.heap.size, j, none⟩).isSome = true := fun j hj => by
   rw [cell_of_row W1 _ j _ _ _ hH, Array.getElem?_eq_getElem (by omega)]; rfl
  have hs1 : ∀ k, k < G → (((W1.setCells w.heap.size i [Value.int .i32 x]).drew).cell? ⟨w.heap.size, k, none⟩).isSome = true := fun k hk =>
   isSome_setCells _ [Value.int .i32 x] i W1 (fun t ht => hsome1 _ (by simp at ht; omega)) k (hsome1 k hk)
  refine ⟨_, rfl, own_cells (by rw [runes_len]; simp; omega) hbase (CellsOf.sets _ _ _ (CellsOf.sets _ _ W1 ⟨ROW, hH, hRs⟩)) hGn hGm ?_, below_sets hbase _ _ _ _ (below_sets hbase _ _ _ _ hBel).drew⟩
  intro j u hu
  rw [runes_ins] at hu
  rcases ins_get (by omega) _ hu with ⟨h1, h2⟩ | ⟨h1, h2⟩ | ⟨h1, h2, h3⟩
  ·
   rw [World.cell?_setCells_out _ _ _ _ _ (fun _ _ => .inl (by show j < i + 1; omega))]
   refine (World.cell?_setCells_out _ _ _ W1 _ (fun _ _ => .inl (by show j < i; omega))).trans ?_
   rw [cell_of_row W1 _ j _ _ _ hH]
   exact hRg j u h1 h2
  ·
   subst h1; subst h2
   rw [World.cell?_setCells_out _ _ _ _ _ (fun _ _ => .inl (by show j < j + 1; omega))]
   have := World.cell?_setCells_in w.heap.size [Value.int .i32 x] j W1 (fun t ht => by simp at ht; subst ht; exact hsome1 _ (by omega)) 0 (by simp)
   refine Eq.trans ?_ (this.trans (by simp))
   simp
  ·
   have := World.cell?_setCells_in w.heap.size ((runes l).drop i) (i + 1) ((W1.setCells w.heap.size i [Value.int .i32 x]).drew) (fun t ht => hs1 _ (by rw [← hilen] at ht; omega)) (j - (i + 1)) h3
   rw [show (i + 1) + (j - (i + 1)) = j from by omega] at this
   rw [this, ← h2, List.getElem?_eq_getElem h3]
end Go.Proofs.YtoapelcofjjdnaaGreatDoor
