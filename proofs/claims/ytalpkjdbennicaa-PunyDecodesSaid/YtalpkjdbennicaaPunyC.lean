/- The walks of puny's writer. -/
import Derived.Test.YtalpkjdbennicaaPunyA
import Derived.Test.YtalpkjdbennicaaStep
import Derived.StillTailTactics
namespace Go.Proofs.Ytalpkjdbennicaa
set_option linter.all false
open Go.RowKit

/-- Block g is the writer, with these fields. -/
def Wr (w : World) (g : Nat) (v : Value) (n d b k bs : Int) : Prop := w.heap[g]? = some (.cells #[v, .int .i32 n, .int .i64 d, .int .i64 b, .int .i64 k, .int .i64 bs] 85 (0, 0))
section
variable {w w' : World} {g : Nat} {v : Value} {n d b k bs : Int}
theorem Wr.lt (h : Wr w g v n d b k bs) : g < w.heap.size := lt_of_block h
theorem Wr.c0 (h : Wr w g v n d b k bs) : w.cell? ⟨g, 0, none⟩ = some v := cell_of_row _ _ 0 _ _ _ h
theorem Wr.c1 (h : Wr w g v n d b k bs) : w.cell? ⟨g, 1, none⟩ = some (.int .i32 n) := cell_of_row _ _ 1 _ _ _ h
theorem Wr.c2 (h : Wr w g v n d b k bs) : w.cell? ⟨g, 2, none⟩ = some (.int .i64 d) := cell_of_row _ _ 2 _ _ _ h
theorem Wr.c3 (h : Wr w g v n d b k bs) : w.cell? ⟨g, 3, none⟩ = some (.int .i64 b) := cell_of_row _ _ 3 _ _ _ h
theorem Wr.c4 (h : Wr w g v n d b k bs) : w.cell? ⟨g, 4, none⟩ = some (.int .i64 k) := cell_of_row _ _ 4 _ _ _ h
theorem Wr.c5 (h : Wr w g v n d b k bs) : w.cell? ⟨g, 5, none⟩ = some (.int .i64 bs) := cell_of_row _ _ 5 _ _ _ h
theorem Wr.fr (h : Wr w g v n d b k bs) (j : Nat) : w.frozen? ⟨g, j, none⟩ = false := Lib.frozen_of_heap h j
theorem Wr.keep (h : Wr w g v n d b k bs) (hk : w'.heap[g]? = w.heap[g]?) : Wr w' g v n d b k bs := hk.trans h
theorem Wr.alloc (h : Wr w g v n d b k bs) (o : Obj) : Wr (w.alloc o) g v n d b k bs := h.keep (Lib.alloc_old w o g h.lt)
theorem Wr.drew (h : Wr w g v n d b k bs) : Wr w.drew g v n d b k bs := h
theorem Wr.grown (h : Wr w g v n d b k bs) {row : Option Nat} (hg : w.grownBy w' row) (hr : row ≠ some g) : Wr w' g v n d b k bs := h.keep (hg.block g h.lt (fun e => hr e.symm))
theorem Wr.s0 (h : Wr w g v n d b k bs) (u : Value) : Wr (w.setCell ⟨g, 0, none⟩ u) g u n d b k bs := by
  unfold Wr at h ⊢; unfold World.setCell; simp only [Array.getElem?_modify, if_true, h]; rfl
theorem Wr.s1 (h : Wr w g v n d b k bs) (u : Int) : Wr (w.setCell ⟨g, 1, none⟩ (.int .i32 u)) g v u d b k bs := by
  unfold Wr at h ⊢; unfold World.setCell; simp only [Array.getElem?_modify, if_true, h]; rfl
theorem Wr.s2 (h : Wr w g v n d b k bs) (u : Int) : Wr (w.setCell ⟨g, 2, none⟩ (.int .i64 u)) g v n u b k bs := by
  unfold Wr at h ⊢; unfold World.setCell; simp only [Array.getElem?_modify, if_true, h]; rfl
theorem Wr.s3 (h : Wr w g v n d b k bs) (u : Int) : Wr (w.setCell ⟨g, 3, none⟩ (.int .i64 u)) g v n d u k bs := by
  unfold Wr at h ⊢; unfold World.setCell; simp only [Array.getElem?_modify, if_true, h]; rfl
theorem Wr.s4 (h : Wr w g v n d b k bs) (u : Int) : Wr (w.setCell ⟨g, 4, none⟩ (.int .i64 u)) g v n d b u bs := by
  unfold Wr at h ⊢; unfold World.setCell; simp only [Array.getElem?_modify, if_true, h]; rfl
theorem Wr.s5 (h : Wr w g v n d b k bs) (u : Int) : Wr (w.setCell ⟨g, 5, none⟩ (.int .i64 u)) g v n d b k u := by
  unfold Wr at h ⊢; unfold World.setCell; simp only [Array.getElem?_modify, if_true, h]; rfl
theorem Wr.apart (h : Wr w g v n d b k bs) {m : Nat} {xs : List Value} {u : Value} (hown : w.ownsRow (g + 1) 5 1 u m xs) : u.ownBlock ≠ some g := by
  intro e
  have := (hown.lt g e).1
  omega
theorem own_set {m : Nat} {xs : List Value} {u z : Value} {j : Nat} (hown : w.ownsRow (g + 1) 5 1 u m xs) : (w.setCell ⟨g, j, none⟩ z).ownsRow (g + 1) 5 1 u m xs := by
  refine hown.kept (row := some g) ⟨rfl, rfl, rfl, by simp [World.setCell], fun k _ hk => Below.heap_setCell _ _ _ _ (fun e => hk (by simp [e]))⟩ ?_
  right
  intro e
  have := (hown.lt g e).1
  omega
end

theorem letter_fin : ∀ k : Fin 36, (ByteArray.mk #[97, 98, 99, 100, 101, 102, 103, 104, 105, 106, 107, 108, 109, 110, 111, 112, 113, 114, 115, 116, 117, 118, 119, 120, 121, 122, 48, 49, 50, 51, 52, 53, 54, 55, 56, 57]).data[k.val]? = some (letter k.val) := by decide +kernel
theorem letter_at {x : Int} (h0 : 0 ≤ x) (h1 : x < 36) (h : x.toNat < (ByteArray.mk #[97, 98, 99, 100, 101, 102, 103, 104, 105, 106, 107, 108, 109, 110, 111, 112, 113, 114, 115, 116, 117, 118, 119, 120, 121, 122, 48, 49, 50, 51, 52, 53, 54, 55, 56, 57]).size) :
    (ByteArray.mk #[97, 98, 99, 100, 101, 102, 103, 104, 105, 106, 107, 108, 109, 110, 111, 112, 113, 114, 115, 116, 117, 118, 119, 120, 121, 122, 48, 49, 50, 51, 52, 53, 54, 55, 56, 57])[x.toNat]'h = letter x := by
  obtain ⟨m, rfl⟩ : ∃ m : Nat, x = m := ⟨x.toNat, by omega⟩
  have h1 := letter_fin ⟨m, by omega⟩
  have h2 : (ByteArray.mk #[97, 98, 99, 100, 101, 102, 103, 104, 105, 106, 107, 108, 109, 110, 111, 112, 113, 114, 115, 116, 117, 118, 119, 120, 121, 122, 48, 49, 50, 51, 52, 53, 54, 55, 56, 57]).data[m]? = some _ := Array.getElem?_eq_getElem (i := m) h
  rw [h2] at h1
  exact Option.some.inj h1

theorem quot_ten {q t : Int} (h : t ≤ q) (t1 : 1 ≤ t) (t2 : t ≤ 26) : 10 * ((q - t) / (36 - t)) ≤ q := by
  have h0 := (num_less h t1 t2).1
  have h1 : (q - t) / (36 - t) * (36 - t) ≤ q - t := Int.ediv_mul_le _ (by omega)
  have h2 : (q - t) / (36 - t) * 10 ≤ (q - t) / (36 - t) * (36 - t) := Int.mul_le_mul_of_nonneg_left (by omega) h0
  omega
theorem ten_step {c : Nat} {q d t : Int} (hp : (10 : Int) ^ c * q ≤ d) (h : t ≤ q) (t1 : 1 ≤ t) (t2 : t ≤ 26) : (10 : Int) ^ (c + 1) * ((q - t) / (36 - t)) ≤ d := by
  have h1 := quot_ten h t1 t2
  have h2 : (0 : Int) ≤ 10 ^ c := by exact Int.le_of_lt (Int.pow_pos (by decide))
  have h3 : (10 : Int) ^ c * (10 * ((q - t) / (36 - t))) ≤ 10 ^ c * q := Int.mul_le_mul_of_nonneg_left h1 h2
  rw [Int.pow_succ, Int.mul_assoc]; omega
theorem ten_count {c : Nat} {q d : Int} (hp : (10 : Int) ^ c * q ≤ d) (hq : 1 ≤ q) (hd : d ≤ 10000000000) : c ≤ 10 := by
  rcases Nat.lt_or_ge c 11 with h | h
  · omega
  · exfalso
    have h1 : (10 : Int) ^ 11 ≤ 10 ^ c := by
      have := Nat.pow_le_pow_right (n := 10) (by decide) h
      exact_mod_cast this
    have h2 : (10 : Int) ^ c * 1 ≤ 10 ^ c * q := Int.mul_le_mul_of_nonneg_left hq (Int.le_of_lt (Int.pow_pos (by decide)))
    omega


set_option maxRecDepth 100000 in
set_option maxHeartbeats 8000000 in
theorem number_any (g : Nat) (v : Value) (n d b k bs : Int) (out : List UInt8) (w : World) (hwr : Wr w g v n d b k bs) (hown : w.ownsRow (g + 1) 5 1 v (bytes out).length (bytes out))
    (hd0 : 0 ≤ d) (hd1 : d ≤ 10000000000) (hb0 : 0 ≤ b) (hb1 : b ≤ 100000000000) (hk0 : 0 ≤ k) (hk1 : k ≤ 100000) (hl : (bytes out).length ≤ 900000) :
    Calls Try.prog 81 #[.pointer (some ⟨g, 0, none⟩)] w fun e w' => e = .returned (.tuple #[]) ∧
      ∃ v', Wr w' g v' n 0 (pAdapt d (k + 1) (decide (k = bs))) (k + 1) bs ∧ w'.ownsRow (g + 1) 5 1 v' (bytes (out ++ num d 36 b)).length (bytes (out ++ num d 36 b)) ∧ Below g w w' := by
  have c2 := hwr.c2
  have c3 := hwr.c3
  have hgw := hwr.lt
  go_enter Try.func81, Try.ntmps81
  go_wp2
  clear c2 c3
  go_loopg [2, 3] (d.toNat) (fun m s2 s3 wr => ∃ (q kk : Int) (cnt : Nat) (v' : Value) (out' : List UInt8), m = q.toNat ∧ s2 = .int .i64 q ∧ s3 = .int .i64 kk ∧ 0 ≤ q ∧ q ≤ d ∧ 0 ≤ kk ∧ kk ≤ 36 + 36 * cnt ∧ cnt ≤ 11 ∧ (bytes out').length = (bytes out).length + cnt ∧ Hid (out ++ num d 36 b = out' ++ num q kk b ∧ (10 : Int) ^ cnt * q ≤ d) ∧ Wr wr g v' n d b k bs ∧ wr.ownsRow (g + 1) 5 1 v' (bytes out').length (bytes out') ∧ Below g w wr)
  case atStart => exact ⟨d, 36, 0, v, out, rfl, rfl, rfl, hd0, Int.le_refl _, by omega, by omega, by omega, rfl, ⟨rfl, by omega⟩, hwr, hown, Below.refl _ _⟩
  case round =>
    obtain ⟨q, kk, cnt, v', out', rfl, rfl, rfl, q1, q2, k1, k2, hcnt, hlen, hrec, hwr', hown', hbel⟩ := hrel
    have hlen' : (bytes out').length ≤ 900011 := by omega
    have HL := Lib.hid hlen
    clear hlen
    have c0 := hwr'.c0
    have c3 := hwr'.c3
    have c0a := fun o => (hwr'.alloc o).c0
    have hgr := hwr'.lt
    have hbz := hbel.size
    have ht := edge_range kk b
    obtain ⟨t, hte⟩ : ∃ t, t = edge kk b := ⟨_, rfl⟩
    have CB := Lib.hid fun w => bound_any kk b w (by omega) (by omega) (by omega) (by omega)
    rw [← hte] at CB ht
    obtain ⟨t1, t2⟩ := ht
    by_cases hlt : q < t
    · have HE := Lib.hid (num_end (q := q) (k := kk) (bias := b) (by rw [← hte]; exact hlt))
      have hq36 : q < 36 := by omega
      clear hte
      go_wp2_with (go_at_call 84; go_must (go_fit (CB.out _)); rintro e w1 ⟨rfl, rfl⟩)
      go_region_law (refine step_append_cells rfl _ _ _ rfl (g + 1) _ _ 1 1 Try.underlying30 info_byte rfl (by decide) _ _ _ rfl (hown'.alloc _) wr.heap.size _ 1 1 5 (0, 0) rfl (heap_alloc_new wr _) rfl (by simp [Value.oneCell']) (by omega) (by decide) (by simp; omega) ?_; intro A2 c2 w2 hc2 hm2 hown2 hb2' hg2; have hW2 := Wr.grown (row := v'.ownBlock) (Wr.drew (hwr'.alloc _)) hg2 (hwr'.apart hown'); have f0 := hW2.c0; have fr0 := hW2.fr 0)
      all_goals (try go_wp2)
      all_goals
        have hW3 := hW2.s0 (.slice A2 ((bytes out').length + 1) c2)
        have hown3 := own_set (j := 0) (z := .slice A2 ((bytes out').length + 1) c2) hown2
        have hb3 := hbel.trans (((((Below.refl g wr).alloc (by omega) _).drew).trans (hb2'.mono (Nat.le_succ g))).setCell (p := ⟨g, 0, none⟩) (Nat.le_refl g) (.slice A2 ((bytes out').length + 1) c2))
        generalize w2.setCell ⟨g, 0, none⟩ (.slice A2 ((bytes out').length + 1) c2) = w3 at *
        have hW3d := Wr.drew hW3
        have e2 := hW3d.c2
        have e3 := hW3d.c3
        have e4 := hW3d.c4
        have e5 := hW3d.c5
        have fr2 := hW3d.fr 2
        have fr3 := hW3d.fr 3
        have fr4 := hW3d.fr 4
        have hk1' : IntKind.i64.wrap (k + 1) = k + 1 := IntWalk.i64_in _ (by omega)
        clear c0 c3 c0a f0 fr0 hg2 hb2' hown2
        refine wp_region_still_tail 22 (by kernel_rfl) (by kernel_rfl) ?_
        change wpStill _ _ w3.drew _ _ _
        simp only [List.take_succ_cons, List.take_zero, List.drop_succ_cons, List.drop_zero]
        repeat still_step
        still_call ((adapt_any d (k + 1) (k == bs) _ (by omega) (by omega) (by omega) (by omega)).mono fun e w' h => ⟨h.1, h.2.symm⟩)
        repeat still_step
        refine wpStill_nil ?_
        change wpList _ _ _ _ _ w3.drew
        clear hk1' e2 e3 e4 e5 fr2 fr3 fr4
        have e2 := hW3.c2
        have e3 := hW3.c3
        have e4 := hW3.c4
        have fr2 := hW3.fr 2
        have fr3 := hW3.fr 3
        have fr4 := hW3.fr 4
        go_wp2
        go_end0
        refine ⟨rfl, _, ((hW3d.s3 _).s2 0).s4 _, own_set (own_set (own_set (own_as hown3 ?_ ?_))), ((hb3.drew.setCell (p := ⟨g, 3, none⟩) (Nat.le_refl g) _).setCell (p := ⟨g, 2, none⟩) (Nat.le_refl g) _).setCell (p := ⟨g, 4, none⟩) (Nat.le_refl g) _⟩
        · rw [hrec.out.1, HE.out, bytes_append, List.length_append]; rfl
        · rw [hrec.out.1, HE.out, bytes_append, letter_at (x := q) q1 hq36]; rfl
    · have hge : t ≤ q := by omega
      have HC := ten_count hrec.out.2 (by omega) hd1
      have HE := Lib.hid (num_step (q := q) (k := kk) (bias := b) (by rw [← hte]; exact hge))
      rw [← hte] at HE
      have HT := Lib.hid (ten_step hrec.out.2 hge t1 t2)
      obtain ⟨l1, l2⟩ := num_less hge t1 t2
      clear hte
      have s1 : IntKind.i64.wrap (q - t) = q - t := IntWalk.i64_in _ (by omega)
      have s2 : IntKind.i64.wrap (36 - t) = 36 - t := IntWalk.i64_in _ (by omega)
      have s3 : (q - t).tmod (36 - t) = (q - t) % (36 - t) := Int.tmod_eq_emod_of_nonneg (by omega)
      have r0 : 0 ≤ (q - t) % (36 - t) := Int.emod_nonneg _ (by omega)
      have r1 : (q - t) % (36 - t) < 36 - t := Int.emod_lt_of_pos _ (by omega)
      have s4 : IntKind.i64.wrap (t + (q - t) % (36 - t)) = t + (q - t) % (36 - t) := IntWalk.i64_in _ (by omega)
      have r2 : 0 ≤ t + (q - t) % (36 - t) := by omega
      have r3 : t + (q - t) % (36 - t) < 36 := by omega
      have z0 : ((36 : Int) - t == 0) = false := by rw [beq_eq_false_iff_ne]; omega
      have z1 : ¬ (36 : Int) - t = 0 := by omega
      go_wp2_with (go_at_call 84; go_must (go_fit (CB.out _)); rintro e w1 ⟨rfl, rfl⟩)
      go_region_law (refine step_append_cells rfl _ _ _ rfl (g + 1) _ _ 1 1 Try.underlying30 info_byte rfl (by decide) _ _ _ rfl (hown'.alloc _) wr.heap.size _ 1 1 5 (0, 0) rfl (heap_alloc_new wr _) rfl (by simp [Value.oneCell']) (by omega) (by decide) (by simp; omega) ?_; intro A2 c2 w2 hc2 hm2 hown2 hb2' hg2; have hW2 := Wr.grown (row := v'.ownBlock) (Wr.drew (hwr'.alloc _)) hg2 (hwr'.apart hown'); have f0 := hW2.c0; have fr0 := hW2.fr 0)
      all_goals (try go_wp2)
      all_goals
        have hW3 := hW2.s0 (.slice A2 ((bytes out').length + 1) c2)
        have hown3 := own_set (j := 0) (z := .slice A2 ((bytes out').length + 1) c2) hown2
        have hb3 := hbel.trans (((((Below.refl g wr).alloc (by omega) _).drew).trans (hb2'.mono (Nat.le_succ g))).setCell (p := ⟨g, 0, none⟩) (Nat.le_refl g) (.slice A2 ((bytes out').length + 1) c2))
        go_roundg (((q - t) / (36 - t)).toNat)
        case measure => omega
        case rel =>
          refine ⟨(q - t) / (36 - t), kk + 36, cnt + 1, _, out' ++ [letter (t + (q - t) % (36 - t))], rfl, rfl, by go_num, l1, by omega, by omega, by omega, by have := HC; omega, ?_, ⟨?_, HT.out⟩, hW3, own_as hown3 ?_ ?_, hb3⟩
          · rw [bytes_append, List.length_append, HL.out, Nat.add_assoc]; rfl
          · rw [hrec.out.1, HE.out]; simp
          · rw [bytes_append, List.length_append]; rfl
          · rw [bytes_append, letter_at r2 r3]; rfl
end Go.Proofs.Ytalpkjdbennicaa
