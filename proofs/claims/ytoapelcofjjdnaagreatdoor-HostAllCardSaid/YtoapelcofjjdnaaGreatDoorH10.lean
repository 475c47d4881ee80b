/- A part of the proof. -/
import Derived.Test.YtoapelcofjjdnaaGreatDoorH08
import Derived.Test.YtoapelcofjjdnaaGreatDoorH04
import Derived.StillTailTactics
import Derived.Test.YtoapelcofjjdnaaGreatDoorH00
import Derived.Lib.LastIndexByte
import Derived.Test.YtoapelcofjjdnaaGreatDoorH03
namespace Go.Proofs.YtoapelcofjjdnaaGreatDoor
set_option linter.all false
open Go.RowKit
def Wr (w : World) (g : Nat) (v : Value) (n d b k bs : Int) : Prop := w.heap[g]? = some (.cells #[v, .int .i32 n, .int .i64 d, .int .i64 b, .int .i64 k, .int .i64 bs] 202 (0, 0))
section
variable {w w' : World} {g : Nat} {v : Value} {n d b k bs : Int}
theorem Wr.lt (h : Wr w g v n d b k bs) : g < w.heap.size := lt_of_block h
theorem Wr.c0 (h : Wr w g v n d b k bs) : w.cell? ⟨g, 0, none⟩ = some v := cell_of_row _ _ 0 _ _ _ h
theorem Wr.c1 (h : Wr w g v n d b k bs) : w.cell? ⟨g, 1, none⟩ = some (.int .i32 n) := cell_of_row _ _ 1 _ _ _ h
theorem Wr.c2 (h : Wr w g v n d b k bs) : w.cell? ⟨g, 2, none⟩ = some (.int .i64 d) := cell_of_row _ _ 2 _ _ _ h
theorem Wr.c3 (h : Wr w g v n d b k bs) : w.cell? ⟨g, 3, none⟩ = some (.int .i64 b) := cell_of_row _ _ 3 _ _ _ h
theorem Wr.c4 (h : Wr w g v n d b k bs) : w.cell? ⟨g, 4, none⟩ = some (.int .i64 k) := cell_of_row _ _ 4 _ _ _ h
theorem Wr.c5 (h : Wr w g v n d b k bs) : w.cell? ⟨g, 5, none⟩ = some (.int .i64 bs) := cell_of_row _ _ 5 _ _ _ h
theorem Wr.fr (h : Wr w g v n d b k bs) (j : Nat) : w.frozen? ⟨g, j, none⟩ = false := Lib.frozen_of_heap h j
theorem Wr.keep (h : Wr w g v n d b k bs) (hk : w'.heap[g]? = w.heap[g]?) : Wr w' g v n d b k bs := hk.trans h
theorem Wr.alloc (h : Wr w g v n d b k bs) (o : Obj) : Wr (w.alloc o) g v n d b k bs := h.keep (Lib.alloc_old w o g h.lt)
theorem Wr.drew (h : Wr w g v n d b k bs) : Wr w.drew g v n d b k bs := h
theorem Wr.grown (h : Wr w g v n d b k bs) {row : Option Nat} (hg : w.grownBy w' row) (hr : row ≠ some g) : Wr w' g v n d b k bs := h.keep (hg.block g h.lt (fun e => hr e.symm))
theorem Wr.s0 (h : Wr w g v n d b k bs) (u : Value) : Wr (w.setCell ⟨g, 0, none⟩ u) g u n d b k bs := by
 unfold Wr at h ⊢; unfold World.setCell; simp only [Array.getElem?_modify, if_true, h]; rfl
theorem Wr.s1 (h : Wr w g v n d b k bs) (u : Int) : Wr (w.setCell ⟨g, 1, none⟩ (.int .i32 u)) g v u d b k bs := by
 unfold Wr at h ⊢; unfold World.setCell; simp only [Array.getElem?_modify, if_true, h]; rfl
theorem Wr.s2 (h : Wr w g v n d b k bs) (u : Int) : Wr (w.setCell ⟨g, 2, none⟩ (.int .i64 u)) g v n u b k bs := by
 unfold Wr at h ⊢; unfold World.setCell; simp only [Array.getElem?_modify, if_true, h]; rfl
theorem Wr.s3 (h : Wr w g v n d b k bs) (u : Int) : Wr (w.setCell ⟨g, 3, none⟩ (.int .i64 u)) g v n d u k bs := by
 unfold Wr at h ⊢; unfold World.setCell; simp only [Array.getElem?_modify, if_true, h]; rfl
theorem Wr.s4 (h : Wr w g v n d b k bs) (u : Int) : Wr (w.setCell ⟨g, 4, none⟩ (.int .i64 u)) g v n d b u bs := by
 unfold Wr at h ⊢; unfold World.setCell; simp only [Array.getElem?_modify, if_true, h]; rfl
theorem Wr.s5 (h : Wr w g v n d b k bs) (u : Int) : Wr (w.setCell ⟨g, 5, none⟩ (.int .i64 u)) g v n d b k u := by
 unfold Wr at h ⊢; unfold World.setCell; simp only [Array.getElem?_modify, if_true, h]; rfl
theorem Wr.apart (h : Wr w g v n d b k bs) {m : Nat} {xs : List Value} {u : Value} (hown : w.ownsRow (g + 1) 5 1 u m xs) : u.ownBlock ≠ some g := by
 intro e
 have := (hown.lt g e).1
 omega
theorem own_set {m : Nat} {xs : List Value} {u z : Value} {j : Nat} (hown : w.ownsRow (g + 1) 5 1 u m xs) : (w.setCell ⟨g, j, none⟩ z).ownsRow (g + 1) 5 1 u m xs := by
 refine hown.kept (row := some g) ⟨rfl, rfl, rfl, by simp [World.setCell], fun k _ hk => Below.heap_setCell _ _ _ _ (fun e => hk (by simp [e]))⟩ ?_
 right
 intro e
 have := (hown.lt g e).1
 omega
end
theorem letter_fin : ∀ k : Fin 36, (ByteArray.mk #[97, 98, 99, 100, 101, 102, 103, 104, 105, 106, 107, 108, 109, 110, 111, 112, 113, 114, 115, 116, 117, 118, 119, 120, 121, 122, 48, 49, 50, 51, 52, 53, 54, 55, 56, 57]).data[k.val]? = some (letter k.val) := by decide +kernel
theorem letter_at {x : Int} (h0 : 0 ≤ x) (h1 : x < 36) (h : x.toNat < (ByteArray.mk #[97, 98, 99, 100, 101, 102, 103, 104, 105, 106, 107, 108, 109, 110, 111, 112, 113, 114, 115, 116, 117, 118, 119, 120, 121, 122, 48, 49, 50, 51, 52, 53, 54, 55, 56, 57]).size) :
  (ByteArray.mk #[97, 98, 99, 100, 101, 102, 103, 104, 105, 106, 107, 108, 109, 110, 111, 112, 113, 114, 115, 116, 117, 118, 119, 120, 121, 122, 48, 49, 50, 51, 52, 53, 54, 55, 56, 57])[x.toNat]'h = letter x := by
 obtain ⟨m, rfl⟩ : ∃ m : Nat, x = m := ⟨x.toNat, by omega⟩
 have h1 := letter_fin ⟨m, by omega⟩
 have h2 : (ByteArray.mk #[97, 98, 99, 100, 101, 102, 103, 104, 105, 106, 107, 108, 109, 110, 111, 112, 113, 114, 115, 116, 117, 118, 119, 120, 121, 122, 48, 49, 50, 51, 52, 53, 54, 55, 56, 57]).data[m]? = some _ := Array.getElem?_eq_getElem (i := m) h
 rw [h2] at h1
 exact Option.some.inj h1
theorem quot_ten {q t : Int} (h : t ≤ q) (t1 : 1 ≤ t) (t2 : t ≤ 26) : 10 * ((q - t) / (36 - t)) ≤ q := by
 have h0 := (num_less h t1 t2).1
 have h1 : (q - t) / (36 - t) * (36 - t) ≤ q - t := Int.ediv_mul_le _ (by omega)
 have h2 : (q - t) / (36 - t) * 10 ≤ (q - t) / (36 - t) * (36 - t) := Int.mul_le_mul_of_nonneg_left (by omega) h0
 omega
theorem ten_step {c : Nat} {q d t : Int} (hp : (10 : Int) ^ c * q ≤ d) (h : t ≤ q) (t1 : 1 ≤ t) (t2 : t ≤ 26) : (10 : Int) ^ (c + 1) * ((q - t) / (36 - t)) ≤ d := by
 have h1 := quot_ten h t1 t2
 have h2 : (0 : Int) ≤ 10 ^ c := by exact Int.le_of_lt (Int.pow_pos (by decide))
 have h3 : (10 : Int) ^ c * (10 * ((q - t) / (36 - t))) ≤ 10 ^ c * q := Int.mul_le_mul_of_nonneg_left h1 h2
 rw [Int.pow_succ, Int.mul_assoc]; omega
theorem ten_count {c : Nat} {q d : Int} (hp : (10 : Int) ^ c * q ≤ d) (hq : 1 ≤ q) (hd : d ≤ 10000000000) : c ≤ 10 := by
 rcases Nat.lt_or_ge c 11 with h | h
 · omega
 ·
  exfalso
  have h1 : (10 : Int) ^ 11 ≤ 10 ^ c := by
   have := Nat.pow_le_pow_right (n := 10) (by decide) h
   exact_mod_cast this
  have h2 : (10 : Int) ^ c * 1 ≤ 10 ^ c * q := Int.mul_le_mul_of_nonneg_left hq (Int.le_of_lt (Int.pow_pos (by decide)))
  omega
set_option maxRecDepth 100000 in
set_option maxHeartbeats 8000000 in
theorem number_any (g : Nat) (v : Value) (n d b k bs : Int) (out : List UInt8) (w : World) (hwr : Wr w g v n d b k bs) (hown : w.ownsRow (g + 1) 5 1 v (bytes out).length (bytes out))
  (hd0 : 0 ≤ d) (hd1 : d ≤ 10000000000) (hb0 : 0 ≤ b) (hb1 : b ≤ 100000000000) (hk0 : 0 ≤ k) (hk1 : k ≤ 100000) (hl : (bytes out).length ≤ 900000) :
  Calls Tryz.prog 212 #[.pointer (some ⟨g, 0, none⟩)] w fun e w' => e = .returned (.tuple #[]) ∧
   ∃ v', Wr w' g v' n 0 (pAdapt d (k + 1) (decide (k = bs))) (k + 1) bs ∧ w'.ownsRow (g + 1) 5 1 v' (bytes (out ++ num d 36 b)).length (bytes (out ++ num d 36 b)) ∧ Below g w w' := by
 have c2 := hwr.c2
 have c3 := hwr.c3
 have hgw := hwr.lt
 go_enter Tryz.func212, Tryz.ntmps212
 go_wp2
 clear c2 c3
 go_loopg [2, 3] (d.toNat) (fun m s2 s3 wr => ∃ (q kk : Int) (cnt : Nat) (v' : Value) (out' : List UInt8), m = q.toNat ∧ s2 = .int .i64 q ∧ s3 = .int .i64 kk ∧ 0 ≤ q ∧ q ≤ d ∧ 0 ≤ kk ∧ kk ≤ 36 + 36 * cnt ∧ cnt ≤ 11 ∧ (bytes out').length = (bytes out).length + cnt ∧ Hid (out ++ num d 36 b = out' ++ num q kk b ∧ (10 : Int) ^ cnt * q ≤ d) ∧ Wr wr g v' n d b k bs ∧ wr.ownsRow (g + 1) 5 1 v' (bytes out').length (bytes out') ∧ Below g w wr)
 case atStart => exact ⟨d, 36, 0, v, out, rfl, rfl, rfl, hd0, Int.le_refl _, by omega, by omega, by omega, rfl, ⟨rfl, by omega⟩, hwr, hown, Below.refl _ _⟩
 case round =>
  obtain ⟨q, kk, cnt, v', out', rfl, rfl, rfl, q1, q2, k1, k2, hcnt, hlen, hrec, hwr', hown', hbel⟩ := hrel
  have hlen' : (bytes out').length ≤ 900011 := by omega
  have HL := Lib.hid hlen
  clear hlen
  have c0 := hwr'.c0
  have c3 := hwr'.c3
  have c0a := fun o => (hwr'.alloc o).c0
  have hgr := hwr'.lt
  have hbz := hbel.size
  have ht := edge_range kk b
  obtain ⟨t, hte⟩ : ∃ t, t = edge kk b := ⟨_, rfl⟩
  have CB := Lib.hid fun w => bound_any kk b w (by omega) (by omega) (by omega) (by omega)
  rw [← hte] at CB ht
  obtain ⟨t1, t2⟩ := ht
  by_cases hlt : q < t
  ·
   have HE := Lib.hid (num_end (q := q) (k := kk) (bias := b) (by rw [← hte]; exact hlt))
   have hq36 : q < 36 := by omega
   clear hte
   go_wp2_with (go_at_call 215; go_must (go_fit (CB.out _)); rintro e w1 ⟨rfl, rfl⟩)
   go_region_law (refine step_append_cells rfl _ _ _ rfl (g + 1) _ _ 1 1 Tryz.underlying58 info_byte rfl (by decide) _ _ _ rfl (hown'.alloc _) wr.heap.size _ 1 1 5 (0, 0) rfl (heap_alloc_new wr _) rfl (by simp [Value.oneCell']) (by omega) (by decide) (by simp; omega) ?_; intro A2 c2 w2 hc2 hm2 hown2 hb2' hg2; have hW2 := Wr.grown (row := v'.ownBlock) (Wr.drew (hwr'.alloc _)) hg2 (hwr'.apart hown'); have f0 := hW2.c0; have fr0 := hW2.fr 0)
   all_goals (try go_wp2)
   all_goals
    have hW3 := hW2.s0 (.slice A2 ((bytes out').length + 1) c2)
    have hown3 := own_set (j := 0) (z := .slice A2 ((bytes out').length + 1) c2) hown2
    have hb3 := hbel.trans (((((Below.refl g wr).alloc (by omega) _).drew).trans (hb2'.mono (Nat.le_succ g))).setCell (p := ⟨g, 0, none⟩) (Nat.le_refl g) (.slice A2 ((bytes out').length + 1) c2))
    generalize w2.setCell ⟨g, 0, none⟩ (.slice A2 ((bytes out').length + 1) c2) = w3 at *
    have hW3d := Wr.drew hW3
    have e2 := hW3d.c2
    have e3 := hW3d.c3
    have e4 := hW3d.c4
    have e5 := hW3d.c5
    have fr2 := hW3d.fr 2
    have fr3 := hW3d.fr 3
    have fr4 := hW3d.fr 4
    have hk1' : IntKind.i64.wrap (k + 1) = k + 1 := IntWalk.i64_in _ (by omega)
    clear c0 c3 c0a f0 fr0 hg2 hb2' hown2
    refine wp_region_still_tail 22 (by kernel_rfl) (by kernel_rfl) ?_
    change wpStill _ _ w3.drew _ _ _
    simp only [List.take_succ_cons, List.take_zero, List.drop_succ_cons, List.drop_zero]
    repeat still_step
    still_call ((adapt_any d (k + 1) (k == bs) _ (by omega) (by omega) (by omega) (by omega)).mono fun e w' h => ⟨h.1, h.2.symm⟩)
    repeat still_step
    refine wpStill_nil ?_
    change wpList _ _ _ _ _ w3.drew
    clear hk1' e2 e3 e4 e5 fr2 fr3 fr4
    have e2 := hW3.c2
    have e3 := hW3.c3
    have e4 := hW3.c4
    have fr2 := hW3.fr 2
    have fr3 := hW3.fr 3
    have fr4 := hW3.fr 4
    go_wp2
    go_end0
    refine ⟨rfl, _, ((hW3d.s3 _).s2 0).s4 _, own_set (own_set (own_set (own_as hown3 ?_ ?_))), ((hb3.drew.setCell (p := ⟨g, 3, none⟩) (Nat.le_refl g) _).setCell (p := ⟨g, 2, none⟩) (Nat.le_refl g) _).setCell (p := ⟨g, 4, none⟩) (Nat.le_refl g) _⟩
    · rw [hrec.out.1, HE.out, bytes_append, List.length_append]; rfl
    · rw [hrec.out.1, HE.out, bytes_append, letter_at (x := q) q1 hq36]; rfl
  ·
   have hge : t ≤ q := by omega
   have HC := ten_count hrec.out.2 (by omega) hd1
   have HE := Lib.hid (num_step (q := q) (k := kk) (bias := b) (by rw [← hte]; exact hge))
   rw [← hte] at HE
   have HT := Lib.hid (ten_step hrec.out.2 hge t1 t2)
   obtain ⟨l1, l2⟩ := num_less hge t1 t2
   clear hte
   have s1 : IntKind.i64.wrap (q - t) = q - t := IntWalk.i64_in _ (by omega)
   have s2 : IntKind.i64.wrap (36 - t) = 36 - t := IntWalk.i64_in _ (by omega)
   have s3 : (q - t).tmod (36 - t) = (q - t) % (36 - t) := Int.tmod_eq_emod_of_nonneg (by omega)
   have r0 : 0 ≤ (q - t) % (36 - t) := Int.emod_nonneg _ (by omega)
   have r1 : (q - t) % (36 - t) < 36 - t := Int.emod_lt_of_pos _ (by omega)
   have s4 : IntKind.i64.wrap (t + (q - t) % (36 - t)) = t + (q - t) % (36 - t) := IntWalk.i64_in _ (by omega)
   have r2 : 0 ≤ t + (q - t) % (36 - t) := by omega
   have r3 : t + (q - t) % (36 - t) < 36 := by omega
   have z0 : ((36 : Int) - t == 0) = false := by rw [beq_eq_false_iff_ne]; omega
   have z1 : ¬ (36 : Int) - t = 0 := by omega
   go_wp2_with (go_at_call 215; go_must (go_fit (CB.out _)); rintro e w1 ⟨rfl, rfl⟩)
   go_region_law (refine step_append_cells rfl _ _ _ rfl (g + 1) _ _ 1 1 Tryz.underlying58 info_byte rfl (by decide) _ _ _ rfl (hown'.alloc _) wr.heap.size _ 1 1 5 (0, 0) rfl (heap_alloc_new wr _) rfl (by simp [Value.oneCell']) (by omega) (by decide) (by simp; omega) ?_; intro A2 c2 w2 hc2 hm2 hown2 hb2' hg2; have hW2 := Wr.grown (row := v'.ownBlock) (Wr.drew (hwr'.alloc _)) hg2 (hwr'.apart hown'); have f0 := hW2.c0; have fr0 := hW2.fr 0)
   all_goals (try go_wp2)
   all_goals
    have hW3 := hW2.s0 (.slice A2 ((bytes out').length + 1) c2)
    have hown3 := own_set (j := 0) (z := .slice A2 ((bytes out').length + 1) c2) hown2
    have hb3 := hbel.trans (((((Below.refl g wr).alloc (by omega) _).drew).trans (hb2'.mono (Nat.le_succ g))).setCell (p := ⟨g, 0, none⟩) (Nat.le_refl g) (.slice A2 ((bytes out').length + 1) c2))
    go_roundg (((q - t) / (36 - t)).toNat)
    case measure => omega
    case rel =>
     refine ⟨(q - t) / (36 - t), kk + 36, cnt + 1, _, out' ++ [letter (t + (q - t) % (36 - t))], rfl, rfl, by go_num, l1, by omega, by omega, by omega, by have := HC; omega, ?_, ⟨?_, HT.out⟩, hW3, own_as hown3 ?_ ?_, hb3⟩
     · rw [bytes_append, List.length_append, HL.out, Nat.add_assoc]; rfl
     · rw [hrec.out.1, HE.out]; simp
     · rw [bytes_append, List.length_append]; rfl
     · rw [bytes_append, letter_at r2 r3]; rfl
end Go.Proofs.YtoapelcofjjdnaaGreatDoor
namespace Go.Proofs.YtoapelcofjjdnaaGreatDoor
set_option linter.all false
open Go.RowKit
theorem i32_eq {a b : Int} (h : a = b) : Value.int .i32 a = .int .i32 b := by rw [h]
theorem eOne_lt {n bs r : Int} {s : ES} (h : r < n) : eOne n bs s r = { s with delta := s.delta + 1 } := if_pos h
theorem eOne_eq {n bs : Int} {s : ES} : eOne n bs s n = { out := s.out ++ num s.delta 36 s.bias, delta := 0, bias := pAdapt s.delta (s.done + 1) (decide (s.done = bs)), done := s.done + 1 } := by
 unfold eOne; rw [if_neg (by omega), if_pos rfl]
theorem eOne_gt {n bs r : Int} {s : ES} (h : n < r) : eOne n bs s r = s := by
 unfold eOne; rw [if_neg (by omega), if_neg (by omega)]
theorem least_lo {n : Int} {l : List Int} (h0 : 0 ≤ n) : 0 ≤ least n 1114111 l ∧ least n 1114111 l ≤ 1114111 := by
 obtain ⟨h1, _, h3⟩ := least_spec n 1114111 l
 refine ⟨?_, h1⟩
 rcases h3 with h3 | h3 <;> omega
set_option maxRecDepth 100000 in
set_option maxHeartbeats 8000000 in
theorem next_any (g : Nat) (v : Value) (n d b k bs : Int) (out : List UInt8) (L : Nat) (A : Option Addr) (c : Nat) (l : List Int) (w : World) (hwr : Wr w g v n d b k bs) (hown : w.ownsRow (g + 1) 5 1 v (bytes out).length (bytes out))
  (hr : Rd w g A (runes l)) (hcp : ∀ x ∈ l, 0 ≤ x ∧ x ≤ 1114111) (hl : l.length ≤ 63) (hn0 : 128 ≤ n) (hn1 : n ≤ 1114112) (hnm : n ≤ least n 1114111 l) (heb : EB ⟨out, d, b, k⟩ 1000000000 100 L) (hL : L ≤ 800000) :
  Calls Tryz.prog 192 #[.pointer (some ⟨g, 0, none⟩), .slice A l.length c] w fun e w' => e = .returned (.tuple #[]) ∧
   ∃ v', Wr w' g v' (least n 1114111 l + 1) (eRound n bs ⟨out, d, b, k⟩ l).delta (eRound n bs ⟨out, d, b, k⟩ l).bias (eRound n bs ⟨out, d, b, k⟩ l).done bs ∧ w'.ownsRow (g + 1) 5 1 v' (bytes (eRound n bs ⟨out, d, b, k⟩ l).out).length (bytes (eRound n bs ⟨out, d, b, k⟩ l).out) ∧ Below g w w' := by
 have hgw := hwr.lt
 have CP := Lib.hid hcp
 clear hcp
 have c1 := hwr.c1
 obtain ⟨b1, b2, b3, b4, b5, b6, b7⟩ := heb
 simp only [] at b1 b2 b3 b4 b5 b6 b7
 go_enter Tryz.func192, Tryz.ntmps192
 go_wp2
 go_loopg [4, 11] (l.length) (fun m s4 i wr => ∃ j : Nat, m = l.length - j ∧ j ≤ l.length ∧ i = .int .i64 j ∧ s4 = .int .i32 (least n 1114111 (l.take j)) ∧ w = wr)
 case atStart => exact ⟨0, rfl, Nat.zero_le _, rfl, rfl, rfl⟩
 case round =>
  obtain ⟨j, rfl, hj, rfl, rfl, rfl⟩ := hrel
  obtain ⟨p1, p2⟩ := least_lo (n := n) (l := l.take j) (by omega)
  by_cases hlt : j < l.length
  ·
   obtain ⟨bk, off, x, rfl, hb, hc, hx⟩ := hr.rune_at hlt
   have hlt1 : (j : Int) < (l.length : Int) := by omega
   have hj0 : (0 : Int) ≤ (j : Int) := by omega
   have HS := Lib.hid (least_snoc (n := n) (top := 1114111) hx.out)
   obtain ⟨M, hM⟩ : ∃ M, M = least n 1114111 (l.take j) := ⟨_, rfl⟩
   rw [← hM] at HS p1 p2 ⊢
   clear hM
   by_cases hnx : n ≤ x
   ·
    rw [if_pos hnx] at HS
    go_wp2
    all_goals go_roundg (l.length - (j + 1))
    all_goals
     first
     | (case measure => omega)
     | (case rel => exact ⟨j + 1, rfl, by omega, by go_num, i32_eq (by first | (rw [HS.out]; done) | (rw [HS.out]; omega)), rfl⟩)
   ·
    rw [if_neg hnx] at HS
    go_wp2
    all_goals go_roundg (l.length - (j + 1))
    all_goals
     first
     | (case measure => omega)
     | (case rel => exact ⟨j + 1, rfl, by omega, by go_num, i32_eq (by rw [HS.out]), rfl⟩)
  ·
   obtain rfl : j = l.length := by omega
   rw [List.take_length] at p1 p2 ⊢
   obtain ⟨M, hM⟩ : ∃ M, M = least n 1114111 l := ⟨_, rfl⟩
   rw [← hM] at p1 p2 hnm ⊢
   have HM := Lib.hid hM
   clear hM
   go_wp2
   obtain ⟨P, hP⟩ : ∃ P, P = (M - n) * (k + 1) := ⟨_, rfl⟩
   have P0 : 0 ≤ P := by rw [hP]; exact Int.mul_nonneg (by omega) (by omega)
   have P1 : P ≤ 1113983 * (k + 1) := by rw [hP]; exact Int.mul_le_mul_of_nonneg_right (by omega) (by omega)
   have s1 : IntKind.i32.wrap (M - n) = M - n := IntWalk.i32_in _ (by omega)
   have s2 : IntKind.i64.wrap (k + 1) = k + 1 := IntWalk.i64_in _ (by omega)
   have s3 : IntKind.i64.wrap ((M - n) * (k + 1)) = P := by rw [← hP]; exact IntWalk.i64_in _ (by omega)
   have s4 : IntKind.i64.wrap (d + P) = d + P := IntWalk.i64_in _ (by omega)
   have s5 : IntKind.i64.wrap (M - n) = M - n := IntWalk.i64_in _ (by omega)
   have HP := Lib.hid hP
   clear hP
   have hW := Wr.drew hwr
   have e1 := hW.c1
   have e2 := hW.c2
   have e4 := hW.c4
   refine wp_region_still_tail 20 (by kernel_rfl) (by kernel_rfl) ?_
   change wpStill _ _ w.drew _ _ _
   simp only [List.take_succ_cons, List.take_zero, List.drop_succ_cons, List.drop_zero]
   repeat still_step
   refine wpStill_nil ?_
   change wpList _ _ _ _ _ w.drew
   clear e1 e2 e4 s1 s2 s3 s4 s5
   have e2 := hwr.c2
   have fr1 := hwr.fr 1
   have fr2 := hwr.fr 2
   go_wp2
   have hW4 : Wr ((w.setCell ⟨g, 2, none⟩ (.int .i64 (d + P))).setCell ⟨g, 1, none⟩ (.int .i32 M)).drew g v M (d + P) b k bs := (((hwr.s2 (d + P)).s1 M)).drew
   have hown4 : ((w.setCell ⟨g, 2, none⟩ (.int .i64 (d + P))).setCell ⟨g, 1, none⟩ (.int .i32 M)).drew.ownsRow (g + 1) 5 1 v (bytes out).length (bytes out) := own_set (own_set hown)
   have hb4 : Below g w ((w.setCell ⟨g, 2, none⟩ (.int .i64 (d + P))).setCell ⟨g, 1, none⟩ (.int .i32 M)).drew := (((Below.refl g w).setCell (p := ⟨g, 2, none⟩) (Nat.le_refl g) _).setCell (p := ⟨g, 1, none⟩) (Nat.le_refl g) _).drew
   generalize ((w.setCell ⟨g, 2, none⟩ (.int .i64 (d + P))).setCell ⟨g, 1, none⟩ (.int .i32 M)).drew = w4 at *
   clear e2 fr1 fr2 c1
   have hr4 := hr.below hb4
   have heb4 : EB ⟨out, d + P, b, k⟩ 2000000000 100 L := ⟨by show 0 ≤ d + P; omega, by show d + P ≤ _; omega, b3, b4, b5, b6, b7⟩
   have heb5 := Lib.hid fun j => heb4.pass M bs l (by omega) (by omega) j
   have hround : eRound n bs ⟨out, d, b, k⟩ l = { ePass M bs ⟨out, d + P, b, k⟩ l with delta := (ePass M bs ⟨out, d + P, b, k⟩ l).delta + 1 } := by
    unfold eRound; simp only []; rw [← HM.out, HP.out]
   have HR := Lib.hid hround
   obtain ⟨s0, hs0⟩ : ∃ s0 : ES, s0 = ⟨out, d + P, b, k⟩ := ⟨_, rfl⟩
   have HS0 := Lib.hid hs0
   clear hround heb4
   go_loopg [51] (l.length) (fun m i wr => ∃ (j : Nat) (s : ES) (v' : Value), m = l.length - j ∧ j ≤ l.length ∧ i = .int .i64 j ∧ Hid (s = ePass M bs s0 (l.take j)) ∧ Wr wr g v' M s.delta s.bias s.done bs ∧ wr.ownsRow (g + 1) 5 1 v' (bytes s.out).length (bytes s.out) ∧ Below g w4 wr)
   case atStart => exact ⟨0, s0, v, rfl, Nat.zero_le _, rfl, rfl, by rw [HS0.out]; exact hW4, by rw [HS0.out]; exact hown4, Below.refl _ _⟩
   case round =>
    obtain ⟨j, s, v', rfl, hj, rfl, hs, hws, howns, hbel⟩ := hrel
    have hbd : EB s (2000000000 + j) (100 + j) (L + 11 * j) := by rw [hs.out, HS0.out]; exact heb5.out j hj
    obtain ⟨z1, z2, z3, z4, z5, z6, z7⟩ := hbd
    have e1 := hws.c1
    have e2 := hws.c2
    have fr2 := hws.fr 2
    by_cases hlt : j < l.length
    ·
     obtain ⟨bk, off, x, rfl, hb, hc, hx⟩ := (hr4.below hbel).rune_at hlt
     obtain ⟨x0, x1⟩ := CP.out x (List.mem_of_getElem? hx.out)
     have hlt1 : (j : Int) < (l.length : Int) := by omega
     have hj0 : (0 : Int) ≤ (j : Int) := by omega
     have HN := Lib.hid (ePass_snoc (n := M) (bs := bs) (s := s0) hx.out)
     rw [← hs.out] at HN
     rcases Int.lt_trichotomy x M with h | h | h
     ·
      rw [eOne_lt h] at HN
      have hne : (x == M) = false := by rw [beq_eq_false_iff_ne]; omega
      go_wp2
      go_roundg (l.length - (j + 1))
      case measure => omega
      case rel => exact ⟨j + 1, { s with delta := s.delta + 1 }, v', rfl, by omega, by go_num, HN.out.symm, hws.s2 _, own_set howns, hbel.setCell (p := ⟨g, 2, none⟩) (Nat.le_refl g) _⟩
     ·
      subst h
      rw [eOne_eq] at HN
      have hne : (x == x) = true := by simp
      have hnl : ¬ x < x := by omega
      go_wp2_with (go_at_call 212; go_must (go_fit (number_any g v' x s.delta s.bias s.done bs s.out _ hws howns z1 (by omega) z3 z4 z5 (by omega) (by rw [bytes_len]; omega))); rintro e w5 ⟨rfl, v5, hW5, hown5, hb5⟩)
      go_roundg (l.length - (j + 1))
      case measure => omega
      case rel => exact ⟨j + 1, { out := s.out ++ num s.delta 36 s.bias, delta := 0, bias := pAdapt s.delta (s.done + 1) (decide (s.done = bs)), done := s.done + 1 }, v5, rfl, by omega, by go_num, HN.out.symm, hW5, hown5, hbel.trans hb5⟩
     ·
      rw [eOne_gt h] at HN
      have hne : (x == M) = false := by rw [beq_eq_false_iff_ne]; omega
      have hnl : ¬ x < M := by omega
      go_wp2
      go_roundg (l.length - (j + 1))
      case measure => omega
      case rel => exact ⟨j + 1, s, v', rfl, by omega, by go_num, HN.out.symm, hws, howns, hbel⟩
    ·
     obtain rfl : j = l.length := by omega
     have fr1 := hws.fr 1
     go_wp2
     go_end0
     have hfin : eRound n bs ⟨out, d, b, k⟩ l = { s with delta := s.delta + 1 } := by
      rw [HR.out, ← HS0.out, hs.out, List.take_length]
     refine ⟨rfl, v', ?_, ?_, ((hb4.trans hbel).setCell (p := ⟨g, 2, none⟩) (Nat.le_refl g) _).setCell (p := ⟨g, 1, none⟩) (Nat.le_refl g) _⟩
     · rw [hfin, ← HM.out]; exact (hws.s2 _).s1 _
     · rw [hfin]; exact own_set (own_set howns)
end Go.Proofs.YtoapelcofjjdnaaGreatDoor
namespace Go.Proofs.YtoapelcofjjdnaaGreatDoor
set_option linter.all false
open Go.RowKit
theorem any_take {P : Int → Bool} {l : List Int} {j : Nat} {x : Int} (h : l[j]? = some x) (hf : (l.take j).any P = false) (hx : P x = false) : (l.take (j + 1)).any P = false := by
 obtain ⟨hj, e⟩ := List.getElem?_eq_some_iff.1 h
 rw [take_snoc' l j hj, e, List.any_append, hf]; simp [hx]
theorem any_here {P : Int → Bool} {l : List Int} {j : Nat} {x : Int} (h : l[j]? = some x) (hx : P x = true) : l.any P = true :=
 List.any_eq_true.2 ⟨x, List.mem_of_getElem? h, hx⟩
def notCp (x : Int) : Bool := !cpOk x
def wideR (x : Int) : Bool := decide (128 ≤ x)
set_option maxRecDepth 100000 in
set_option maxHeartbeats 400000 in
theorem enc1f_any (x : Int) (w : World) : Calls Tryz.prog 190 #[.int .i32 x] w fun e w' => e = .returned (.bool (notCp x)) ∧ Below w.heap.size w w' := by
 go_enter Tryz.func190, Tryz.ntmps190
 go_wp2_with (go_at_call 191; go_must (go_fit (pis_any x w)); rintro e w1 ⟨rfl, hb1⟩)
 go_ret
 exact ⟨ret_bool rfl, hb1⟩
set_option maxRecDepth 100000 in
set_option maxHeartbeats 400000 in
theorem dec1f_any (x : Int) (w : World) : Calls Tryz.prog 194 #[.int .i32 x] w fun e w' => e = .returned (.bool (wideR x)) ∧ Below w.heap.size w w' := by
 go_enter Tryz.func194, Tryz.ntmps194
 go_wp2
 go_ret
 exact ⟨ret_bool (by unfold wideR; rfl), Below.refl _ _⟩
set_option maxRecDepth 100000 in
set_option maxHeartbeats 2000000 in
theorem idxNotCp (A : Option Addr) (c : Nat) (l : List Int) (w : World) (hr : Rd w w.heap.size A (runes l)) (hl : l.length ≤ 1000000) :
  Calls Tryz.prog 189 #[.slice A l.length c, .func (.func 190) #[] #[]] w fun e w' => ∃ i : Int, e = .returned (.int .i64 i) ∧ Hid (0 ≤ i ↔ l.any notCp = true) ∧ Below w.heap.size w w' := by
 go_enter Tryz.func189, Tryz.ntmps189
 go_wp2
 go_loopg [8] (l.length) (fun k i wr => ∃ j : Nat, k = l.length - j ∧ j ≤ l.length ∧ i = .int .i64 j ∧ Hid ((l.take j).any notCp = false) ∧ Below w.heap.size w wr)
 case atStart => exact ⟨0, rfl, Nat.zero_le _, rfl, rfl, Below.refl _ _⟩
 case round =>
  obtain ⟨j, rfl, hj, rfl, hn, hbel⟩ := hrel
  by_cases hlt : j < l.length
  ·
   obtain ⟨b, off, x, rfl, hb, hc, hx⟩ := (hr.below hbel).rune_at hlt
   have hlt1 : (j : Int) < (l.length : Int) := by omega
   have hj0 : (0 : Int) ≤ (j : Int) := by omega
   have C := Lib.hid fun w => enc1f_any x w
   by_cases hp : notCp x = true
   ·
    have HP := Lib.hid hp
    rw [hp] at C
    clear hp
    go_wp2_with (go_at_call 190; go_must (go_fit (C.out _)); rintro e w1 ⟨rfl, hb1⟩)
    go_ret
    exact ⟨_, rfl, ⟨fun _ => any_here hx.out HP.out, fun _ => by omega⟩, bnext hbel hb1⟩
   ·
    have hp := Bool.eq_false_iff.2 hp
    have HP := Lib.hid hp
    rw [hp] at C
    clear hp
    go_wp2_with (go_at_call 190; go_must (go_fit (C.out _)); rintro e w1 ⟨rfl, hb1⟩)
    go_roundg (l.length - (j + 1))
    case measure => omega
    case rel => exact ⟨j + 1, rfl, by omega, by go_num, any_take hx.out hn.out HP.out, bnext hbel hb1⟩
  ·
   obtain rfl : j = l.length := by omega
   go_wp2
   go_ret
   have h := hn.out
   rw [List.take_length] at h
   exact ⟨_, rfl, ⟨fun h1 => absurd h1 (by omega), fun h1 => by rw [h] at h1; cases h1⟩, hbel⟩
set_option maxRecDepth 100000 in
set_option maxHeartbeats 1000000 in
theorem hasNotCp (A : Option Addr) (c : Nat) (l : List Int) (w : World) (hr : Rd w w.heap.size A (runes l)) (hl : l.length ≤ 1000000) :
  Calls Tryz.prog 167 #[.slice A l.length c, .func (.func 190) #[] #[]] w fun e w' => e = .returned (.bool (l.any notCp)) ∧ Below w.heap.size w w' := by
 go_enter Tryz.func167, Tryz.ntmps167
 go_wp2_with (go_at_call 189; go_must (go_fit (idxNotCp A c l w hr hl)); rintro e w1 ⟨i, rfl, hi, hb1⟩)
 go_ret
 exact ⟨ret_bool (by rw [Bool.eq_iff_iff, decide_eq_true_eq]; exact hi.out), hb1⟩
set_option maxRecDepth 100000 in
set_option maxHeartbeats 2000000 in
theorem idxWide (A : Option Addr) (c : Nat) (l : List Int) (w : World) (hr : Rd w w.heap.size A (runes l)) (hl : l.length ≤ 1000000) :
  Calls Tryz.prog 189 #[.slice A l.length c, .func (.func 194) #[] #[]] w fun e w' => ∃ i : Int, e = .returned (.int .i64 i) ∧ Hid (0 ≤ i ↔ l.any wideR = true) ∧ Below w.heap.size w w' := by
 go_enter Tryz.func189, Tryz.ntmps189
 go_wp2
 go_loopg [8] (l.length) (fun k i wr => ∃ j : Nat, k = l.length - j ∧ j ≤ l.length ∧ i = .int .i64 j ∧ Hid ((l.take j).any wideR = false) ∧ Below w.heap.size w wr)
 case atStart => exact ⟨0, rfl, Nat.zero_le _, rfl, rfl, Below.refl _ _⟩
 case round =>
  obtain ⟨j, rfl, hj, rfl, hn, hbel⟩ := hrel
  by_cases hlt : j < l.length
  ·
   obtain ⟨b, off, x, rfl, hb, hc, hx⟩ := (hr.below hbel).rune_at hlt
   have hlt1 : (j : Int) < (l.length : Int) := by omega
   have hj0 : (0 : Int) ≤ (j : Int) := by omega
   have C := Lib.hid fun w => dec1f_any x w
   by_cases hp : wideR x = true
   ·
    have HP := Lib.hid hp
    rw [hp] at C
    clear hp
    go_wp2_with (go_at_call 194; go_must (go_fit (C.out _)); rintro e w1 ⟨rfl, hb1⟩)
    go_ret
    exact ⟨_, rfl, ⟨fun _ => any_here hx.out HP.out, fun _ => by omega⟩, bnext hbel hb1⟩
   ·
    have hp := Bool.eq_false_iff.2 hp
    have HP := Lib.hid hp
    rw [hp] at C
    clear hp
    go_wp2_with (go_at_call 194; go_must (go_fit (C.out _)); rintro e w1 ⟨rfl, hb1⟩)
    go_roundg (l.length - (j + 1))
    case measure => omega
    case rel => exact ⟨j + 1, rfl, by omega, by go_num, any_take hx.out hn.out HP.out, bnext hbel hb1⟩
  ·
   obtain rfl : j = l.length := by omega
   go_wp2
   go_ret
   have h := hn.out
   rw [List.take_length] at h
   exact ⟨_, rfl, ⟨fun h1 => absurd h1 (by omega), fun h1 => by rw [h] at h1; cases h1⟩, hbel⟩
set_option maxRecDepth 100000 in
set_option maxHeartbeats 1000000 in
theorem hasWide (A : Option Addr) (c : Nat) (l : List Int) (w : World) (hr : Rd w w.heap.size A (runes l)) (hl : l.length ≤ 1000000) :
  Calls Tryz.prog 167 #[.slice A l.length c, .func (.func 194) #[] #[]] w fun e w' => e = .returned (.bool (l.any wideR)) ∧ Below w.heap.size w w' := by
 go_enter Tryz.func167, Tryz.ntmps167
 go_wp2_with (go_at_call 189; go_must (go_fit (idxWide A c l w hr hl)); rintro e w1 ⟨i, rfl, hi, hb1⟩)
 go_ret
 exact ⟨ret_bool (by rw [Bool.eq_iff_iff, decide_eq_true_eq]; exact hi.out), hb1⟩
theorem any_notCp (l : List Int) : l.any notCp = !cpAll l := by
 unfold cpAll notCp
 induction l with
 | nil => rfl
 | cons x l ih => simp only [List.any_cons, List.all_cons, ih, Bool.not_and]
def punyV (o : Option (List UInt8)) : Value := match o with
 | some s => .tuple #[.string (str s), .int .i64 0]
 | none => .tuple #[.string (str []), .int .i64 1]
theorem puny_no {l : List Int} (h : ¬ (l.length ≤ 63 ∧ cpAll l = true)) : puny l = none := if_neg h
theorem puny_yes {l : List Int} (h : l.length ≤ 63) (h2 : cpAll l = true) : puny l = some (eLoop l.length 128 (basics l).length (eStart l) l).out := if_pos ⟨h, h2⟩
section
variable {P : Program} {w : World} {ops : Array Oper} {rest : List Oper} {o : Oper} {a : Act} {Q : Exit → Act → World → Prop}
theorem wpList_append_litN (sz : Nat) (hsz' : w.heap.size = sz) (hgd : o.guard = none) (s x : Operand) (t : TypeId)
  (ho : o.op = .call { callee := .builtin .append, args := #[s, x], argTypes := #[t, t] })
  (base : Nat) (e : TypeId) (z : Value) (size bytes : Nat) (ht : P.underlying t = some (.slice e))
  (hinfo : (P.info? e).map (fun i => (i.zero, i.size, i.bytes)) = some (some z, size, bytes)) (hzs : z.cells.size = size) (hsz : 0 < size)
  (v : Value) (n : Nat) (xs : List Value) (hs : a.eval s = v) (hown : w.ownsRow base e size v n xs)
  (us : Array Value) (m c : Nat) (e' : TypeId) (hx : a.eval x = .slice (some ⟨sz, 0, none⟩) m c) (hl : us.size = m * size) (h1 : ∀ u ∈ us.toList, u.oneCell' = true)
  (h63 : n + m ≤ 1000000) (hb : bytes ≤ 1000) (hbase : base ≤ w.heap.size)
  (h : ∀ A' c' w', n + m ≤ c' → c' ≤ maxLen → w'.ownsRow base e size (.slice A' (n + m) c') (n + m) (xs ++ us.toList) → Below base w w' → w.grownBy w' v.ownBlock → wpList P ops Q rest (a.put o.dst (.slice A' (n + m) c')) w') :
  wpList P ops Q (o :: rest) a (w.alloc (.cells us e')) := by
 subst hsz'
 exact wpList_append_lit hgd s x t ho base e z size bytes ht hinfo hzs hsz v n xs hs hown us m c e' hx hl h1 h63 hb hbase h
end
set_option maxRecDepth 100000 in
set_option maxHeartbeats 8000000 in
theorem pencode_ok (A : Option Addr) (c : Nat) (l : List Int) (w : World) (hr : Rd w w.heap.size A (runes l)) (h63 : (l.length : Int) ≤ 63) (hcp : cpAll l = true) :
  Calls Tryz.prog 170 #[.slice A l.length c] w fun e w' => e = .returned (punyV (puny l)) ∧ Below w.heap.size w w' := by
 have CH := Lib.hid fun w (h : Rd w w.heap.size A (runes l)) => hasNotCp A c l w h (by omega)
 have e : l.any notCp = false := by rw [any_notCp, hcp]; rfl
 rw [e] at CH
 have HC := Lib.hid hcp
 have hpy := Lib.hid (puny_yes (by omega) hcp)
 have HX := Lib.hid fun x (hx : x ∈ l) => cpOk_iff.1 (cpAll_iff.1 hcp x hx)
 have hst := Lib.hid (start_round hcp)
 clear e hcp
 go_enter Tryz.func170, Tryz.ntmps170
 go_wp2_with (go_at_call 167; go_must (go_fit (CH.out w hr)); rintro e w1 ⟨rfl, hb1⟩)
 obtain ⟨g, hg⟩ : ∃ g, g = w1.heap.size := ⟨_, rfl⟩
 have hW0 : Wr (w1.alloc (.cells #[.slice none 0 0, .int .i32 128, .int .i64 0, .int .i64 72, .int .i64 0, .int .i64 0] 202)) g (.slice none 0 0) 128 0 72 0 0 := by rw [hg]; exact heap_alloc_new w1 _
 have hgw : w.heap.size ≤ g := by rw [hg]; exact hb1.size
 have hr2 : Rd (w1.alloc (.cells #[.slice none 0 0, .int .i32 128, .int .i64 0, .int .i64 72, .int .i64 0, .int .i64 0] 202)) g A (runes l) := ((hr.below hb1).alloc hb1.size _).mono hgw
 have hb12 := bnew hb1 (.cells #[.slice none 0 0, .int .i32 128, .int .i64 0, .int .i64 72, .int .i64 0, .int .i64 0] 202)
 rw [← hg]
 generalize w1.alloc (.cells #[.slice none 0 0, .int .i32 128, .int .i64 0, .int .i64 72, .int .i64 0, .int .i64 0] 202) = w2 at *
 clear hg
 have hg2 := hW0.lt
 go_loopg [18] (l.length) (fun k i wr => ∃ (j : Nat) (v' : Value), k = l.length - j ∧ j ≤ l.length ∧ i = .int .i64 j ∧ Wr wr g v' 128 0 72 0 0 ∧ wr.ownsRow (g + 1) 5 1 v' (bytes (basics (l.take j))).length (bytes (basics (l.take j))) ∧ Below g w2 wr)
 case atStart => exact ⟨0, .slice none 0 0, rfl, Nat.zero_le _, rfl, hW0, World.ownsRow_nil _ _ _ _, Below.refl _ _⟩
 case round =>
  obtain ⟨j, v', rfl, hj, rfl, hws, hown, hbel⟩ := hrel
  have hq := hbel.size
  have c0 := hws.c0
  have hty : (bytes (basics (l.take j))).length ≤ 100 := by
   rw [bytes_len, basics_len]
   have h1 := List.length_filter_le (fun r => decide (r < 128)) (l.take j)
   rw [List.length_take] at h1; omega
  by_cases hlt : j < l.length
  ·
   obtain ⟨b, off, x, rfl, hb, hc, hx⟩ := (hr2.below hbel).rune_at hlt
   obtain ⟨x0, x1, _⟩ := HX.out x (List.mem_of_getElem? hx.out)
   have hlt1 : (j : Int) < (l.length : Int) := by omega
   have hj0 : (0 : Int) ≤ (j : Int) := by omega
   have HB := Lib.hid (basics_snoc hx.out)
   by_cases hx128 : x < 128
   ·
    rw [if_pos hx128] at HB
    go_wp2_with (at_builtin; refine wpList_append_lit rfl _ _ _ rfl (g + 1) _ _ 1 1 Tryz.underlying58 info_byte rfl (by decide) _ _ _ rfl hown _ 1 1 _ rfl rfl (by simp [Value.oneCell']) (by omega) (by decide) (by first | omega | (simp; omega)) ?_; intro A2 c2 w3 hc2 hm2 hown3 hb3 hg3; have hW3 := Wr.grown hws hg3 (Wr.apart hws hown); have f0 := hW3.c0; have fr0 := hW3.fr 0)
    go_roundg (l.length - (j + 1))
    case measure => omega
    case rel => exact ⟨j + 1, _, rfl, by omega, by go_num, hW3.s0 _, own_set (own_as hown3 (by rw [HB.out, bytes_append, List.length_append]; rfl) (by rw [HB.out, bytes_append]; simp [bytes, cell_byteOf x0 (by omega)])), (hbel.trans (hb3.mono (Nat.le_succ g))).setCell (p := ⟨g, 0, none⟩) (Nat.le_refl g) _⟩
   ·
    rw [if_neg hx128] at HB
    go_wp2
    go_roundg (l.length - (j + 1))
    case measure => omega
    case rel => exact ⟨j + 1, v', rfl, by omega, by go_num, hws, by rw [HB.out]; exact hown, hbel⟩
  ·
   obtain rfl : j = l.length := by omega
   rw [List.take_length, bytes_len] at hty hown
   obtain ⟨A3, c3, rfl, hc3, hm3⟩ := own_shape hown
   obtain ⟨s0, hs0⟩ : ∃ s0, s0 = eStart l := ⟨_, rfl⟩
   have HS0 := Lib.hid hs0
   have hst' := hst
   rw [← hs0] at hst
   have fr0 := hws.fr 0
   have fr4 := hws.fr 4
   have fr5 := hws.fr 5
   have c4 := hws.c4
   have c5 := hws.c5
   by_cases h0 : 0 < (basics l).length
   ·
    have h0' : (0 : Int) < ((basics l).length : Int) := by omega
    have hX := (hws.s5 ((basics l).length : Int)).s4 ((basics l).length : Int)
    have hownX : ((wr.setCell ⟨g, 5, none⟩ (.int .i64 ((basics l).length : Int))).setCell ⟨g, 4, none⟩ (.int .i64 ((basics l).length : Int))).ownsRow (g + 1) 5 1 (.slice A3 (basics l).length c3) (basics l).length (bytes (basics l)) := own_set (own_set hown)
    go_wp2_with (at_builtin; refine wpList_append_litN _ (show _ = wr.heap.size by simp) rfl _ _ _ rfl (g + 1) _ _ 1 1 Tryz.underlying58 info_byte rfl (by decide) _ _ _ rfl hownX _ 1 1 _ rfl rfl (by simp [Value.oneCell']) (by omega) (by decide) (by first | omega | (simp; omega)) ?_; intro A2 c2 w3 hc2 hm2 hown3 hb3 hg3; have hW3 := Wr.grown hX hg3 (Wr.apart hX hownX); have f0 := hW3.c0; have fr0 := hW3.fr 0)
    have hout0 : s0.out = basics l ++ [45] := by rw [HS0.out]; unfold eStart; exact if_pos h0
    have hW5 : Wr (w3.setCell ⟨g, 0, none⟩ (.slice A2 ((basics l).length + 1) c2)) g (.slice A2 ((basics l).length + 1) c2) 128 s0.delta s0.bias s0.done (basics l).length := by rw [HS0.out]; exact hW3.s0 _
    have hown5 : (w3.setCell ⟨g, 0, none⟩ (.slice A2 ((basics l).length + 1) c2)).ownsRow (g + 1) 5 1 (.slice A2 ((basics l).length + 1) c2) (bytes s0.out).length (bytes s0.out) := own_set (own_as hown3 (by rw [hout0, bytes_len, List.length_append]; rfl) (by rw [hout0, bytes_append]; rfl))
    have hb5 : Below g w2 (w3.setCell ⟨g, 0, none⟩ (.slice A2 ((basics l).length + 1) c2)) := ((((hbel.setCell (p := ⟨g, 5, none⟩) (Nat.le_refl g) _).setCell (p := ⟨g, 4, none⟩) (Nat.le_refl g) _).trans (hb3.mono (Nat.le_succ g))).setCell (p := ⟨g, 0, none⟩) (Nat.le_refl g) _)
    generalize w3.setCell ⟨g, 0, none⟩ (.slice A2 ((basics l).length + 1) c2) = w5 at *
    obtain ⟨v5, hv5⟩ : ∃ v5, v5 = Value.slice A2 ((basics l).length + 1) c2 := ⟨_, rfl⟩
    rw [← hv5] at hW5 hown5
    clear f0 fr0 fr4 fr5 c4 c5 c0 hv5 hX hownX hown hws hW3 hown3 hg3 hb3 hs0 hst' hout0 hbel
    go_loopg [] ((l.length - (s0.done).toNat : Nat)) (fun m wr => ∃ (n : Int) (s : ES) (v' : Value) (f : Nat), m = (l.length - s.done.toNat : Nat) ∧ 128 ≤ n ∧ n ≤ 1114112 ∧ RB l s ∧ Hid ((∃ σ, AtRound n (basics l).length l s σ) ∧ eLoop l.length 128 (basics l).length s0 l = eLoop f n (basics l).length s l ∧ (l.length : Int) ≤ f + s.done) ∧ Wr wr g v' n s.delta s.bias s.done (basics l).length ∧ wr.ownsRow (g + 1) 5 1 v' (bytes s.out).length (bytes s.out) ∧ Below g w2 wr)
    case atStart => exact ⟨128, s0, v5, l.length, rfl, by omega, by omega, hst.out.2, ⟨hst.out.1, rfl, by have := hst.out.2.2.2.2.2.1; omega⟩, hW5, hown5, hb5⟩
    case round =>
     obtain ⟨n, s, v', f, rfl, n1, n2, hrb, hrec, hws, howns, hbel⟩ := hrel
     obtain ⟨z1, z2, z3, z4, z5, z6, z7⟩ := hrb
     have c4 := hws.c4
     have c0 := hws.c0
     have hq := hbel.size
     by_cases hlt : s.done < (l.length : Int)
     ·
      obtain ⟨r1, r2, r3, r4, r5⟩ := round_step n1 HC.out (by omega) hlt hrec.out.1 ⟨z1, z2, z3, z4, z5, z6, z7⟩
      unfold OL at z7
      obtain ⟨f', rfl⟩ : ∃ f', f = f' + 1 := ⟨f - 1, by have := hrec.out.2.2; omega⟩
      have HR := Lib.hid (And.intro r1 (And.intro ((hrec.out.2.1).trans (eLoop_next hlt)) r5))
      have H3 := hrec.out.2.2
      have hout : s.out.length ≤ 800000 := by omega
      clear r1 r5
      go_wp2_with (go_at_call 192; go_must (go_fit (next_any g v' n s.delta s.bias s.done _ s.out s.out.length A c l wr hws howns (hr2.below hbel) (fun x hx => ⟨(HX.out x hx).1, (HX.out x hx).2.1⟩) (by omega) n1 n2 r3 ⟨z1, by show s.delta ≤ _; omega, z3, z4, z5, by show s.done ≤ _; omega, Nat.le_refl _⟩ hout)); rintro e w6 ⟨rfl, v6, hW6, hown6, hb6⟩)
      go_roundg ((l.length - (eRound n (basics l).length s l).done.toNat : Nat))
      case measure => omega
      case rel => exact ⟨least n 1114111 l + 1, eRound n (basics l).length s l, v6, f', rfl, by omega, by omega, HR.out.2.2, ⟨HR.out.1, HR.out.2.1, by omega⟩, hW6, hown6, hbel.trans hb6⟩
     ·
      have hfin : eLoop l.length 128 (basics l).length s0 l = s := hrec.out.2.1.trans (eLoop_end hlt)
      have HF := Lib.hid hfin
      clear hfin
      rw [bytes_len] at howns
      obtain ⟨A6, c6, rfl, hc6, hm6, hx6⟩ := own_rd howns
      go_wp2_with (refine wpList_strL rfl _ _ _ _ rfl Tryz.underlying58 Tryz.underlying5 Tryz.underlying9 _ _ _ _ s.out rfl rfl hx6 ?_)
      go_ret2
      refine ⟨by rw [hpy.out, ← HS0.out, HF.out]; rfl, ?_⟩
      exact hb12.trans (hbel.mono hgw)
   ·
    have hB0 : (basics l).length = 0 := by omega
    have hbn : basics l = [] := List.eq_nil_of_length_eq_zero hB0
    have hout0 : s0.out = [] := by rw [HS0.out]; unfold eStart; exact if_neg h0
    have h0' : ¬ (0 : Int) < ((basics l).length : Int) := by omega
    have HB0 := Lib.hid hB0
    have HBN := Lib.hid hbn
    clear hB0 hbn
    go_wp2
    have hW5 : Wr ((wr.setCell ⟨g, 5, none⟩ (.int .i64 ((basics l).length : Int))).setCell ⟨g, 4, none⟩ (.int .i64 ((basics l).length : Int))) g (.slice A3 (basics l).length c3) 128 s0.delta s0.bias s0.done (basics l).length := by rw [HS0.out]; exact (hws.s5 _).s4 _
    have hown5 : ((wr.setCell ⟨g, 5, none⟩ (.int .i64 ((basics l).length : Int))).setCell ⟨g, 4, none⟩ (.int .i64 ((basics l).length : Int))).ownsRow (g + 1) 5 1 (.slice A3 (basics l).length c3) (bytes s0.out).length (bytes s0.out) := own_set (own_set (own_as hown (by rw [hout0, HB0.out]; rfl) (by rw [hout0, HBN.out])))
    have hb5 : Below g w2 ((wr.setCell ⟨g, 5, none⟩ (.int .i64 ((basics l).length : Int))).setCell ⟨g, 4, none⟩ (.int .i64 ((basics l).length : Int))) := (hbel.setCell (p := ⟨g, 5, none⟩) (Nat.le_refl g) _).setCell (p := ⟨g, 4, none⟩) (Nat.le_refl g) _
    generalize ((wr.setCell ⟨g, 5, none⟩ (.int .i64 ((basics l).length : Int))).setCell ⟨g, 4, none⟩ (.int .i64 ((basics l).length : Int))) = w5 at *
    obtain ⟨v5, hv5⟩ : ∃ v5, v5 = Value.slice A3 (basics l).length c3 := ⟨_, rfl⟩
    rw [← hv5] at hW5 hown5
    clear fr0 fr4 fr5 c4 c5 c0 hv5 hown hws hs0 hst' hout0 hbel
    go_loopg [] ((l.length - (s0.done).toNat : Nat)) (fun m wr => ∃ (n : Int) (s : ES) (v' : Value) (f : Nat), m = (l.length - s.done.toNat : Nat) ∧ 128 ≤ n ∧ n ≤ 1114112 ∧ RB l s ∧ Hid ((∃ σ, AtRound n (basics l).length l s σ) ∧ eLoop l.length 128 (basics l).length s0 l = eLoop f n (basics l).length s l ∧ (l.length : Int) ≤ f + s.done) ∧ Wr wr g v' n s.delta s.bias s.done (basics l).length ∧ wr.ownsRow (g + 1) 5 1 v' (bytes s.out).length (bytes s.out) ∧ Below g w2 wr)
    case atStart => exact ⟨128, s0, v5, l.length, rfl, by omega, by omega, hst.out.2, ⟨hst.out.1, rfl, by have := hst.out.2.2.2.2.2.1; omega⟩, hW5, hown5, hb5⟩
    case round =>
     obtain ⟨n, s, v', f, rfl, n1, n2, hrb, hrec, hws, howns, hbel⟩ := hrel
     obtain ⟨z1, z2, z3, z4, z5, z6, z7⟩ := hrb
     have c4 := hws.c4
     have c0 := hws.c0
     have hq := hbel.size
     by_cases hlt : s.done < (l.length : Int)
     ·
      obtain ⟨r1, r2, r3, r4, r5⟩ := round_step n1 HC.out (by omega) hlt hrec.out.1 ⟨z1, z2, z3, z4, z5, z6, z7⟩
      unfold OL at z7
      obtain ⟨f', rfl⟩ : ∃ f', f = f' + 1 := ⟨f - 1, by have := hrec.out.2.2; omega⟩
      have HR := Lib.hid (And.intro r1 (And.intro ((hrec.out.2.1).trans (eLoop_next hlt)) r5))
      have H3 := hrec.out.2.2
      have hout : s.out.length ≤ 800000 := by omega
      clear r1 r5
      go_wp2_with (go_at_call 192; go_must (go_fit (next_any g v' n s.delta s.bias s.done _ s.out s.out.length A c l wr hws howns (hr2.below hbel) (fun x hx => ⟨(HX.out x hx).1, (HX.out x hx).2.1⟩) (by omega) n1 n2 r3 ⟨z1, by show s.delta ≤ _; omega, z3, z4, z5, by show s.done ≤ _; omega, Nat.le_refl _⟩ hout)); rintro e w6 ⟨rfl, v6, hW6, hown6, hb6⟩)
      go_roundg ((l.length - (eRound n (basics l).length s l).done.toNat : Nat))
      case measure => omega
      case rel => exact ⟨least n 1114111 l + 1, eRound n (basics l).length s l, v6, f', rfl, by omega, by omega, HR.out.2.2, ⟨HR.out.1, HR.out.2.1, by omega⟩, hW6, hown6, hbel.trans hb6⟩
     ·
      have hfin : eLoop l.length 128 (basics l).length s0 l = s := hrec.out.2.1.trans (eLoop_end hlt)
      have HF := Lib.hid hfin
      clear hfin
      rw [bytes_len] at howns
      obtain ⟨A6, c6, rfl, hc6, hm6, hx6⟩ := own_rd howns
      go_wp2_with (refine wpList_strL rfl _ _ _ _ rfl Tryz.underlying58 Tryz.underlying5 Tryz.underlying9 _ _ _ _ s.out rfl rfl hx6 ?_)
      go_ret2
      refine ⟨by rw [hpy.out, ← HS0.out, HF.out]; rfl, ?_⟩
      exact hb12.trans (hbel.mono hgw)
set_option maxRecDepth 100000 in
set_option maxHeartbeats 1000000 in
theorem pencode_any (A : Option Addr) (c : Nat) (l : List Int) (w : World) (hr : Rd w w.heap.size A (runes l)) (hl : l.length ≤ 1000000) :
  Calls Tryz.prog 170 #[.slice A l.length c] w fun e w' => e = .returned (punyV (puny l)) ∧ Below w.heap.size w w' := by
 by_cases h63 : (l.length : Int) ≤ 63
 ·
  by_cases hcp : cpAll l = true
  · exact pencode_ok A c l w hr h63 hcp
  ·
   have CH := Lib.hid fun w (h : Rd w w.heap.size A (runes l)) => hasNotCp A c l w h hl
   have hcp := Bool.eq_false_iff.2 hcp
   have e : l.any notCp = true := by rw [any_notCp, hcp]; rfl
   have hpy := Lib.hid (puny_no (l := l) (fun h => by rw [hcp] at h; exact absurd h.2 (by decide)))
   rw [e] at CH
   rw [hpy.out]
   clear e hcp
   go_enter Tryz.func170, Tryz.ntmps170
   go_wp2_with (go_at_call 167; go_must (go_fit (CH.out w hr)); rintro e w1 ⟨rfl, hb1⟩)
   go_ret2
   exact ⟨rfl, hb1⟩
 ·
  have h63' : 63 < (l.length : Int) := by omega
  have hpy := Lib.hid (puny_no (l := l) (fun h => by omega))
  rw [hpy.out]
  clear h63
  go_enter Tryz.func170, Tryz.ntmps170
  go_wp2
  go_ret2
  exact ⟨rfl, Below.refl _ _⟩
end Go.Proofs.YtoapelcofjjdnaaGreatDoor
namespace Go.Proofs.YtoapelcofjjdnaaGreatDoor
set_option linter.all false
open Go.RowKit
def numL : List UInt8 → Int → Int → Int → Int → Int × List UInt8 × Bool
 | [], _, _, _, _ => (0, [], false)
 | c :: s, k, bias, w, n =>
  if digitOf c < 0 then (0, s, false)
  else if 1099511627776 < n + digitOf c * w then (0, s, false)
  else if digitOf c < edge k bias then (n + digitOf c * w, s, true)
  else numL s (k + 36) bias (if 1099511627776 < w * (36 - edge k bias) then 1099511627776 else w * (36 - edge k bias)) (n + digitOf c * w)
theorem numL_nil (t : List UInt8) (k b w n : Int) (h : ¬ 0 < t.length) : numL t k b w n = (0, t, false) := by
 rw [List.eq_nil_of_length_eq_zero (by omega : t.length = 0)]; rfl
theorem numL_at {t : List UInt8} (h : 0 < t.length) (k b w n : Int) : numL t k b w n = (if digitOf (gb t 0) < 0 then (0, dr t 1, false)
  else if 1099511627776 < n + digitOf (gb t 0) * w then (0, dr t 1, false)
  else if digitOf (gb t 0) < edge k b then (n + digitOf (gb t 0) * w, dr t 1, true)
  else numL (dr t 1) (k + 36) b (if 1099511627776 < w * (36 - edge k b) then 1099511627776 else w * (36 - edge k b)) (n + digitOf (gb t 0) * w)) := by
 cases t with
 | nil => cases h
 | cons c t => rfl
theorem rdNum_ge : ∀ (s : List UInt8) (k b w n d : Int) (r : List UInt8), 0 ≤ w → rdNum s k b w n = some (d, r) → n ≤ d := by
 intro s
 induction s with
 | nil => intro k b w n d r _ h; simp [rdNum] at h
 | cons c s ih =>
  intro k b w n d r hw h
  have he := edge_range k b
  unfold rdNum at h
  by_cases h1 : digitOf c < 0
  · rw [if_pos h1] at h; cases h
  rw [if_neg h1] at h
  have hp : 0 ≤ digitOf c * w := Int.mul_nonneg (by omega) hw
  by_cases h2 : digitOf c < edge k b
  ·
   rw [if_pos h2] at h
   injection h with h; injection h with h3 h4; omega
  ·
   rw [if_neg h2] at h
   have := ih _ _ _ _ _ _ (Int.mul_nonneg hw (by omega)) h
   omega
theorem numL_rd : ∀ (s : List UInt8) (k b w w' n : Int), 1 ≤ w → 0 ≤ n → (w' = w ∨ (w' = 1099511627776 ∧ 1099511627776 ≤ w ∧ 1 ≤ n)) →
  ((numL s k b w' n).2.2 = true → rdNum s k b w n = some ((numL s k b w' n).1, (numL s k b w' n).2.1) ∧ (numL s k b w' n).1 ≤ 1099511627776) ∧
  ((numL s k b w' n).2.2 = false → ∀ d r, rdNum s k b w n = some (d, r) → 1099511627776 < d) := by
 intro s
 induction s with
 | nil => intro k b w w' n _ _ _; exact ⟨fun h => (by cases h), fun _ d r h => by simp [rdNum] at h⟩
 | cons c s ih =>
  intro k b w w' n hw hn hww
  have he := edge_range k b
  have hd := digitOf_range c
  unfold numL rdNum
  by_cases h1 : digitOf c < 0
  ·
   rw [if_pos h1, if_pos h1]
   exact ⟨fun h => (by cases h), fun _ d r h => (by cases h)⟩
  rw [if_neg h1, if_neg h1]
  have hw1 : 1 ≤ w' := by rcases hww with h | h <;> omega
  have hwle : w' ≤ w := by rcases hww with h | h <;> omega
  have hp0 : 0 ≤ digitOf c * w' := Int.mul_nonneg (by omega) (by omega)
  have hple : digitOf c * w' ≤ digitOf c * w := Int.mul_le_mul_of_nonneg_left hwle (by omega)
  by_cases hbig : 1099511627776 < n + digitOf c * w'
  ·
   rw [if_pos hbig]
   refine ⟨fun h => (by cases h), fun _ d r h => ?_⟩
   split at h
   · injection h with h; injection h with h3 h4; omega
   ·
    have := rdNum_ge _ _ _ _ _ _ _ (Int.mul_nonneg (by omega) (by omega)) h
    omega
  rw [if_neg hbig]
  have hsame : digitOf c * w' = digitOf c * w := by
   rcases hww with h | ⟨h, h2, h3⟩
   · rw [h]
   ·
    rcases Int.lt_or_le 0 (digitOf c) with h4 | h4
    ·
     exfalso
     have : 1 * w' ≤ digitOf c * w' := Int.mul_le_mul_of_nonneg_right (by omega) (by omega)
     omega
    · rw [show digitOf c = 0 from by omega]; omega
  by_cases h2 : digitOf c < edge k b
  ·
   rw [if_pos h2, if_pos h2]
   exact ⟨fun _ => ⟨by rw [hsame], by omega⟩, fun h => by cases h⟩
  rw [if_neg h2, if_neg h2]
  have hpos : 1 * w' ≤ digitOf c * w' := Int.mul_le_mul_of_nonneg_right (by omega) (by omega)
  rw [← hsame]
  have hm1 : w' * (36 - edge k b) ≤ w * (36 - edge k b) := Int.mul_le_mul_of_nonneg_right hwle (by omega)
  have hm0 : w' * 1 ≤ w' * (36 - edge k b) := Int.mul_le_mul_of_nonneg_left (by omega) (by omega)
  refine ih _ _ _ _ _ (by omega) (by omega) ?_
  by_cases h3 : 1099511627776 < w' * (36 - edge k b)
  · rw [if_pos h3]; right; exact ⟨rfl, by omega, by omega⟩
  ·
   rw [if_neg h3]
   rcases hww with h | ⟨h, _, _⟩
   · left; rw [h]
   ·
    exfalso
    have : w' * 10 ≤ w' * (36 - edge k b) := Int.mul_le_mul_of_nonneg_left (by omega) (by omega)
    omega
theorem numL_nonneg : ∀ (s : List UInt8) (k b w n : Int), 0 ≤ w → 0 ≤ n → 0 ≤ (numL s k b w n).1 := by
 intro s
 induction s with
 | nil => intro k b w n _ _; exact Int.le_refl _
 | cons c s ih =>
  intro k b w n hw hn
  have he := edge_range k b
  unfold numL
  by_cases h1 : digitOf c < 0
  · rw [if_pos h1]; exact Int.le_refl _
  rw [if_neg h1]
  have hp : 0 ≤ digitOf c * w := Int.mul_nonneg (by omega) hw
  split
  · exact Int.le_refl _
  split
  · show 0 ≤ n + digitOf c * w; omega
  ·
   refine ih _ _ _ _ ?_ (by omega)
   split
   · omega
   · exact Int.mul_nonneg hw (by omega)
set_option maxRecDepth 100000 in
set_option maxHeartbeats 8000000 in
theorem pnumber_any (s : List UInt8) (bias : Int) (w : World) (hs : s.length ≤ 1000) (b0 : 0 ≤ bias) (b1 : bias ≤ 100000000000) :
  Calls Tryz.prog 195 #[.string (str s), .int .i64 bias] w fun e w' =>
   e = .returned (.tuple #[.int .i64 (numL s 36 bias 1 0).1, .string (str (numL s 36 bias 1 0).2.1), .bool (numL s 36 bias 1 0).2.2]) ∧ w = w' := by
 have hsz0 := str_size s
 go_enter Tryz.func195, Tryz.ntmps195
 go_wp2
 go_loopg [0, 4, 7, 8] (s.length) (fun m s0 s4 s7 s8 wr => ∃ (t : List UInt8) (k w1 n : Int), m = t.length ∧ s0 = .string (str t) ∧ s4 = .int .i64 n ∧ s7 = .int .i64 w1 ∧ s8 = .int .i64 k ∧ t.length ≤ 1000 ∧ 0 ≤ n ∧ n ≤ 1099511627776 ∧ 1 ≤ w1 ∧ w1 ≤ 1099511627776 ∧ 0 ≤ k ∧ k + 36 * t.length ≤ 36036 ∧ Hid (numL s 36 bias 1 0 = numL t k bias w1 n) ∧ w = wr)
 case atStart => exact ⟨s, 36, 1, 0, rfl, rfl, rfl, rfl, rfl, hs, by omega, by omega, by omega, by omega, by omega, by omega, rfl, rfl⟩
 case round =>
  obtain ⟨t, k, w1, n, rfl, rfl, rfl, rfl, rfl, ht, n0, n1, p0, p1, k0, k1, hn, rfl⟩ := hrel
  clear hsz0
  have hsz := str_size t
  by_cases h0 : 0 < t.length
  ·
   have h0' : (0 : Int) < (t.length : Int) := by omega
   have hg := str_get t
   have hend := str_end t 1
   have hdl := dr_len t 1
   have hd := digitOf_range (gb t 0)
   have HN := Lib.hid (numL_at h0 k bias w1 n)
   have CV := Lib.hid fun w => pvalue_any (gb t 0) w
   obtain ⟨d, hde⟩ : ∃ d, d = digitOf (gb t 0) := ⟨_, rfl⟩
   rw [← hde] at HN CV hd
   clear hde
   obtain ⟨d1, d2⟩ := hd
   by_cases hneg : d < 0
   ·
    rw [if_pos hneg] at HN
    go_wp2_with (go_at_call 214; go_must (go_fit (CV.out _)); rintro e w2 ⟨rfl, rfl⟩)
    go_ret3
    exact ⟨by rw [hn.out, HN.out]; rfl, rfl⟩
   rw [if_neg hneg] at HN
   have m0 : 0 ≤ d * w1 := Int.mul_nonneg (by omega) (by omega)
   have m1 : d * w1 ≤ 35 * w1 := Int.mul_le_mul_of_nonneg_right (by omega) (by omega)
   by_cases hbig : 1099511627776 < n + d * w1
   ·
    rw [if_pos hbig] at HN
    go_wp2_with (go_at_call 214; go_must (go_fit (CV.out _)); rintro e w2 ⟨rfl, rfl⟩)
    go_ret3
    exact ⟨by rw [hn.out, HN.out]; rfl, rfl⟩
   rw [if_neg hbig] at HN
   have he := edge_range k bias
   have CB := Lib.hid fun w => bound_any k bias w (by omega) (by omega) (by omega) (by omega)
   obtain ⟨tt, hte⟩ : ∃ tt, tt = edge k bias := ⟨_, rfl⟩
   rw [← hte] at HN CB he
   clear hte
   obtain ⟨e1, e2⟩ := he
   by_cases hlt : d < tt
   ·
    rw [if_pos hlt] at HN
    go_wp2_with (first
     | (go_at_call 214; go_must (go_fit (CV.out _)); rintro e w2 ⟨rfl, rfl⟩)
     | (go_at_call 215; go_must (go_fit (CB.out _)); rintro e w2 ⟨rfl, rfl⟩))
    go_ret3
    exact ⟨by rw [hn.out, HN.out]; rfl, rfl⟩
   rw [if_neg hlt] at HN
   have q0 : w1 * 1 ≤ w1 * (36 - tt) := Int.mul_le_mul_of_nonneg_left (by omega) (by omega)
   have q1 : w1 * (36 - tt) ≤ w1 * 35 := Int.mul_le_mul_of_nonneg_left (by omega) (by omega)
   by_cases hw : 1099511627776 < w1 * (36 - tt)
   ·
    rw [if_pos hw] at HN
    go_wp2_with (first
     | (go_at_call 214; go_must (go_fit (CV.out _)); rintro e w2 ⟨rfl, rfl⟩)
     | (go_at_call 215; go_must (go_fit (CB.out _)); rintro e w2 ⟨rfl, rfl⟩))
    go_roundg ((dr t 1).length)
    case measure => omega
    case rel => exact ⟨dr t 1, k + 36, 1099511627776, n + d * w1, rfl, rfl, rfl, rfl, by go_num, by omega, by omega, by omega, by omega, by omega, by omega, by omega, hn.out.trans HN.out, rfl⟩
   ·
    rw [if_neg hw] at HN
    go_wp2_with (first
     | (go_at_call 214; go_must (go_fit (CV.out _)); rintro e w2 ⟨rfl, rfl⟩)
     | (go_at_call 215; go_must (go_fit (CB.out _)); rintro e w2 ⟨rfl, rfl⟩))
    go_roundg ((dr t 1).length)
    case measure => omega
    case rel => exact ⟨dr t 1, k + 36, w1 * (36 - tt), n + d * w1, rfl, rfl, rfl, rfl, by go_num, by omega, by omega, by omega, by omega, by omega, by omega, by omega, hn.out.trans HN.out, rfl⟩
  ·
   have HN := Lib.hid (numL_nil t k bias w1 n h0)
   go_wp2
   go_ret3
   exact ⟨by rw [hn.out, HN.out]; rfl, rfl⟩
theorem dig_at : ∀ j : Fin 36, Lib.indexByte letterL (gb letterL j.val) = j.val := by decide +kernel
theorem dig_none_fin : ∀ c : Fin 256, (∀ j : Fin 36, gb letterL j.val ≠ UInt8.ofNat c.val) → Lib.indexByte letterL (UInt8.ofNat c.val) = -1 := by decide +kernel
theorem dig_none (c : UInt8) (h : ∀ j, j < 36 → gb letterL j ≠ c) : Lib.indexByte letterL c = -1 := by
 have := dig_none_fin ⟨c.toNat, byte_lt c⟩
 simp only [UInt8.ofNat_toNat] at this
 exact this fun j => h j.val j.isLt
theorem dbeq {a b : UInt8} (h : a = b) : ((a.toNat : Int) == (b.toNat : Int)) = true := by rw [h]; simp
theorem dbeq_no {a b : UInt8} (h : a ≠ b) : ((a.toNat : Int) == (b.toNat : Int)) = false := by
 rw [beq_eq_false_iff_ne]; intro e; exact h (byte_ext (by omega))
set_option maxRecDepth 100000 in
set_option maxHeartbeats 4000000 in
theorem rdigit_any (c : UInt8) (w : World) : Calls Tryz.prog 185 #[.int .u8 (c.toNat : Int)] w fun e w' => e = .returned (.int .i64 (digitOf c)) ∧ w = w' := by
 have hg : ∀ (k : Nat) (h : k < (⟨#[97, 98, 99, 100, 101, 102, 103, 104, 105, 106, 107, 108, 109, 110, 111, 112, 113, 114, 115, 116, 117, 118, 119, 120, 121, 122, 48, 49, 50, 51, 52, 53, 54, 55, 56, 57]⟩ : ByteArray).size), (⟨#[97, 98, 99, 100, 101, 102, 103, 104, 105, 106, 107, 108, 109, 110, 111, 112, 113, 114, 115, 116, 117, 118, 119, 120, 121, 122, 48, 49, 50, 51, 52, 53, 54, 55, 56, 57]⟩ : ByteArray)[k]'h = gb letterL k := str_get letterL
 have hsz : (⟨#[97, 98, 99, 100, 101, 102, 103, 104, 105, 106, 107, 108, 109, 110, 111, 112, 113, 114, 115, 116, 117, 118, 119, 120, 121, 122, 48, 49, 50, 51, 52, 53, 54, 55, 56, 57]⟩ : ByteArray).size = 36 := rfl
 by_cases h : 65 ≤ c.toNat ∧ c.toNat ≤ 90
 ·
  have hF := Lib.hid (idx_letL c h)
  obtain ⟨h1, h2⟩ := h
  have h3 : (65 : Int) ≤ (c.toNat : Int) := by omega
  have h4 : (c.toNat : Int) ≤ 90 := by omega
  obtain ⟨c', hc'⟩ : ∃ c', c' = UInt8.ofNat ((c.toNat : Int) + 32).toNat := ⟨_, rfl⟩
  have hcn : (c.toNat : Int) + 32 = (c'.toNat : Int) := by rw [hc', UInt8.toNat_ofNat']; omega
  rw [← hc'] at hF
  clear hc'
  go_enter Tryz.func185, Tryz.ntmps185
  go_wp2
  clear hcn h1 h2 h3 h4
  go_loopg [3] (36) (fun k i wr => ∃ j : Nat, k = 36 - j ∧ j ≤ 36 ∧ i = .int .i64 j ∧ Hid (∀ k, k < j → gb letterL k ≠ c') ∧ w = wr)
  case atStart => exact ⟨0, rfl, Nat.zero_le _, rfl, (fun k hk => by omega), rfl⟩
  case round =>
   obtain ⟨j, rfl, hj, rfl, hn, rfl⟩ := hrel
   by_cases hlt : j < 36
   ·
    have hlt1 : (j : Int) < 36 := by omega
    have hj0 : (0 : Int) ≤ (j : Int) := by omega
    by_cases he : gb letterL j = c'
    ·
     have hb := dbeq he
     have HE := Lib.hid he
     clear he
     go_wp2
     go_ret
     exact ⟨ret_int (by rw [← hF.out, ← HE.out]; exact (dig_at ⟨j, hlt⟩).symm), rfl⟩
    ·
     have hb := dbeq_no he
     have HE := Lib.hid he
     clear he
     go_wp2
     go_roundg (36 - (j + 1))
     case measure => omega
     case rel =>
      refine ⟨j + 1, rfl, by omega, by go_num, fun k hk => ?_, rfl⟩
      by_cases e : k = j
      · rw [e]; exact HE.out
      · exact hn.out k (by omega)
   ·
    obtain rfl : j = 36 := by omega
    go_wp2
    go_ret
    exact ⟨ret_int (by rw [← hF.out]; exact (dig_none _ hn.out).symm), rfl⟩
 ·
  have hF := Lib.hid (idx_letN c h)
  have h3 : (c.toNat : Int) < 65 ∨ 90 < (c.toNat : Int) := by omega
  rcases h3 with h3 | h3
  all_goals
   go_enter Tryz.func185, Tryz.ntmps185
   go_wp2
   clear h3
   go_loopg [3] (36) (fun k i wr => ∃ j : Nat, k = 36 - j ∧ j ≤ 36 ∧ i = .int .i64 j ∧ Hid (∀ k, k < j → gb letterL k ≠ c) ∧ w = wr)
   case atStart => exact ⟨0, rfl, Nat.zero_le _, rfl, (fun k hk => by omega), rfl⟩
   case round =>
    obtain ⟨j, rfl, hj, rfl, hn, rfl⟩ := hrel
    by_cases hlt : j < 36
    ·
     have hlt1 : (j : Int) < 36 := by omega
     have hj0 : (0 : Int) ≤ (j : Int) := by omega
     by_cases he : gb letterL j = c
     ·
      have hb := dbeq he
      have HE := Lib.hid he
      clear he
      go_wp2
      go_ret
      exact ⟨ret_int (by rw [← hF.out, ← HE.out]; exact (dig_at ⟨j, hlt⟩).symm), rfl⟩
     ·
      have hb := dbeq_no he
      have HE := Lib.hid he
      clear he
      go_wp2
      go_roundg (36 - (j + 1))
      case measure => omega
      case rel =>
       refine ⟨j + 1, rfl, by omega, by go_num, fun k hk => ?_, rfl⟩
       by_cases e : k = j
       · rw [e]; exact HE.out
       · exact hn.out k (by omega)
    ·
     obtain rfl : j = 36 := by omega
     go_wp2
     go_ret
     exact ⟨ret_int (by rw [← hF.out]; exact (dig_none _ hn.out).symm), rfl⟩
end Go.Proofs.YtoapelcofjjdnaaGreatDoor
namespace Go.Proofs.YtoapelcofjjdnaaGreatDoor
set_option linter.all false
open Go.RowKit
theorem str_data_at (s : List UInt8) (k : Nat) : (str s).data[k]! = s.getD k 0 := by
 show s.toArray[k]! = _
 rw [getElem!_def, List.getElem?_toArray, List.getD_eq_getElem?_getD]
 cases s[k]? <;> rfl
theorem lastIdx_dash (s : List UInt8) : ∀ k, Lib.lastIdx (str s) 45 k = dashN s k := by
 intro k
 induction k with
 | zero => rfl
 | succ k ih =>
  unfold Lib.lastIdx dashN
  rw [ih, str_data_at]
  by_cases h : s.getD k 0 = 45
  · rw [if_pos h, h]; rfl
  ·
   rw [if_neg h, if_neg]
   intro e
   exact h (byte_ext (by have : (45 : UInt8).toNat = 45 := rfl; omega))
theorem last_dash (s : List UInt8) : Lib.lastIndexByte (str s) 45 = dash s := by
 unfold Lib.lastIndexByte dash
 rw [lastIdx_dash, str_size]
theorem dec1_wide {l : List UInt8} (h : 128 ≤ bt l 0) : 128 ≤ (dec1 l).1 := by
 unfold dec1
 rw [if_neg (by omega)]
 split
 · rename_i h1; exact h1.2.2.2
 split
 · rename_i h1; have := h1.2.2.2.2.1; show 128 ≤ val3 l; omega
 split
 · rename_i h1; have := h1.2.2.2.2.2.1; show 128 ≤ val4 l; omega
 · decide
theorem uDec_wide : ∀ (n : Nat) (b : List UInt8), b.length ≤ n → ((uDec b).any wideR = b.any (fun c => decide (128 ≤ c.toNat))) ∧ (b.any (fun c => decide (128 ≤ c.toNat)) = false → uDec b = ints b) := by
 intro n
 induction n with
 | zero =>
  intro b h
  have : b = [] := List.eq_nil_of_length_eq_zero (by omega)
  subst this
  exact ⟨rfl, fun _ => rfl⟩
 | succ n ih =>
  intro b h
  cases b with
  | nil => exact ⟨rfl, fun _ => rfl⟩
  | cons c t =>
   have hbt : bt (c :: t) 0 = (c.toNat : Int) := rfl
   rw [uDec_step (l := c :: t) (by simp)]
   by_cases hc : 128 ≤ c.toNat
   ·
    have h1 : wideR (dec1 (c :: t)).1 = true := decide_eq_true (dec1_wide (by rw [hbt]; omega))
    have h2 : (c :: t).any (fun c => decide (128 ≤ c.toNat)) = true := by simp [hc]
    rw [h2, List.any_cons, h1]
    exact ⟨rfl, fun h => by cases h⟩
   ·
    have hd : dec1 (c :: t) = ((c.toNat : Int), 1) := by
     unfold dec1; rw [if_pos (by rw [hbt]; omega), hbt]
    rw [hd]
    show ((c.toNat : Int) :: uDec t).any wideR = _ ∧ (_ → (c.toNat : Int) :: uDec t = _)
    obtain ⟨i1, i2⟩ := ih t (by simp at h; omega)
    have h1 : wideR (c.toNat : Int) = false := decide_eq_false (by omega)
    have h2 : decide (128 ≤ c.toNat) = false := decide_eq_false hc
    refine ⟨by rw [List.any_cons, List.any_cons, h1, i1, h2], fun h => ?_⟩
    rw [List.any_cons, h2, Bool.false_or] at h
    rw [i2 h]; rfl
theorem dStep_big {σ : DS} {d : Int} (hd : 30000000000 ≤ d) (hi : 0 ≤ σ.i) (hn : 0 ≤ σ.n) (hl : σ.out.length ≤ 1000) : dStep σ d = none := by
 unfold dStep
 rw [if_neg]
 rintro ⟨h, _⟩
 have : 1114112 ≤ (σ.i + d) / ((σ.out.length : Int) + 1) := Int.le_ediv_of_mul_le (by omega) (by omega)
 have h2 : σ.n + (σ.i + d) / ((σ.out.length : Int) + 1) ≤ 1114111 := h
 omega
theorem pdec_none {s : List UInt8} {σ : DS} (h : 0 < s.length) (hi : 0 ≤ σ.i) (hn : 0 ≤ σ.n) (hl : σ.out.length ≤ 1000) (hb : ∀ d r, rdNum s 36 σ.bias 1 0 = some (d, r) → 30000000000 ≤ d) : dec s σ = none := by
 rw [dec_step (by intro e; rw [e] at h; cases h)]
 cases hr : rdNum s 36 σ.bias 1 0 with
 | none => rfl
 | some x =>
  rw [Option.bind_some, dStep_big (hb x.1 x.2 hr) hi hn hl]; rfl
theorem pdec_stuck {s : List UInt8} {σ : DS} {d : Int} {r : List UInt8} (h : 0 < s.length) (hr : rdNum s 36 σ.bias 1 0 = some (d, r)) (hd : dStep σ d = none) : dec s σ = none := by
 rw [dec_step (by intro e; rw [e] at h; cases h), hr, Option.bind_some, hd]; rfl
theorem pdec_go {s : List UInt8} {σ σ' : DS} {d : Int} {r : List UInt8} (h : 0 < s.length) (hr : rdNum s 36 σ.bias 1 0 = some (d, r)) (hd : dStep σ d = some σ') : dec s σ = dec r σ' := by
 rw [dec_step (by intro e; rw [e] at h; cases h), hr, Option.bind_some, hd, Option.bind_some]
structure DB (σ : DS) (L : Nat) : Prop where
 n0 : 0 ≤ σ.n
 n1 : σ.n ≤ 1114111
 i0 : 0 ≤ σ.i
 i1 : σ.i ≤ σ.out.length
 b0 : 0 ≤ σ.bias
 b1 : σ.bias ≤ 10000000000
 len : σ.out.length + L ≤ 200
theorem DB.step {σ σ' : DS} {d : Int} {L L' : Nat} (h : DB σ L) (hd : 0 ≤ d) (hs : dStep σ d = some σ') (hL : L' < L) : DB σ' L' := by
 obtain ⟨n0, n1, i0, i1, b0, b1, hl⟩ := h
 have hq : 0 ≤ (σ.i + d) / ((σ.out.length : Int) + 1) := Int.ediv_nonneg (by omega) (by omega)
 have hr0 : 0 ≤ (σ.i + d) % ((σ.out.length : Int) + 1) := Int.emod_nonneg _ (by omega)
 have hr1 : (σ.i + d) % ((σ.out.length : Int) + 1) < (σ.out.length : Int) + 1 := Int.emod_lt_of_pos _ (by omega)
 have hdb : d < 30000000000 := by
  rcases Int.lt_or_le d 30000000000 with h | h
  · exact h
  · rw [dStep_big h i0 n0 (by omega)] at hs; cases hs
 unfold dStep at hs
 split at hs
 ·
  rename_i hc
  injection hs with hs
  have hc1 : σ.n + (σ.i + d) / ((σ.out.length : Int) + 1) ≤ 1114111 := hc.1
  have hlen : (dNext σ d).out.length = σ.out.length + 1 := by
   show (_ ++ _ :: _).length = _
   rw [List.length_append, List.length_cons, List.length_take, List.length_drop]; omega
  have hdq : d ≤ 300000000 := by
   rcases Int.lt_or_le 300000000 d with h | h
   ·
    have : 1114112 ≤ (σ.i + d) / ((σ.out.length : Int) + 1) := Int.le_ediv_of_mul_le (by omega) (by omega)
    omega
   · exact h
  have hb := pAdapt_range (d := d) (p := (σ.out.length : Int) + 1) σ.first hd (by omega)
  subst hs
  refine ⟨?_, hc.1, ?_, ?_, ?_, ?_, by rw [hlen]; omega⟩
  · show 0 ≤ σ.n + (σ.i + d) / ((σ.out.length : Int) + 1); omega
  · show 0 ≤ (σ.i + d) % ((σ.out.length : Int) + 1) + 1; omega
  · show (σ.i + d) % ((σ.out.length : Int) + 1) + 1 ≤ ((dNext σ d).out.length : Int); rw [hlen]; omega
  · exact hb.1
  · have := hb.2; show pAdapt d ((σ.out.length : Int) + 1) σ.first ≤ _; omega
 · cases hs
theorem ints_len (b : List UInt8) : (ints b).length = b.length := List.length_map ..
theorem start_DB {s : List UInt8} (h : s.length ≤ 200) : DB (dStart (ints (dBase s))) (dRest s).length := by
 have : (ints (dBase s)).length + (dRest s).length ≤ 200 := by
  rw [ints_len]
  unfold dBase dRest
  split
  · rw [List.length_take, List.length_drop]; omega
  · simp; omega
 exact ⟨by show (0:Int) ≤ 128; decide, by show (128:Int) ≤ _; decide, Int.le_refl _, by show (0:Int) ≤ _; omega, by show (0:Int) ≤ 72; decide, by show (72:Int) ≤ _; decide, this⟩
theorem unpuny_long {s : List UInt8} (h : 200 < s.length) : unpuny s = none := if_pos h
theorem unpuny_wide {s : List UInt8} (h : (dBase s).any (fun c => decide (128 ≤ c.toNat)) = true) : unpuny s = none := by
 unfold unpuny
 split
 · rfl
 · first | rfl | exact if_pos h
theorem unpuny_is {s : List UInt8} (h : ¬ 200 < s.length) (hw : (dBase s).any (fun c => decide (128 ≤ c.toNat)) = false) :
  unpuny s = (dec (dRest s) (dStart (ints (dBase s)))).bind fun l => if l.length ≤ 63 then some l else none := by
 unfold unpuny
 rw [if_neg h, if_neg (by rw [hw]; decide)]
end Go.Proofs.YtoapelcofjjdnaaGreatDoor
namespace Go.Proofs.YtoapelcofjjdnaaGreatDoor
set_option linter.all false
open Go.RowKit
theorem least_tops (n : Int) (l : List Int) (h : ∃ x ∈ l, n ≤ x ∧ x ≤ 1114111) : least n 1114112 l = least n 1114111 l := by
 obtain ⟨x, hx, h1, h2⟩ := h
 obtain ⟨a1, a2, a3⟩ := least_spec n 1114112 l
 obtain ⟨b1, b2, b3⟩ := least_spec n 1114111 l
 have c1 := a2 x hx h1
 have c2 := b2 x hx h1
 have ha : n ≤ least n 1114112 l ∧ least n 1114112 l ∈ l := by
  rcases a3 with a3 | a3
  · omega
  · exact a3
 have d1 := b2 _ ha.2 ha.1
 rcases b3 with b3 | b3
 ·
  have : x = 1114111 := by omega
  omega
 ·
  have d2 := a2 _ b3.2 b3.1
  omega
theorem exists_from {n bs : Int} {l : List Int} {s : ES} (hl : cpAll l = true) (hs : s.done < l.length) (h : ∃ σ, AtRound n bs l s σ) : ∃ x ∈ l, n ≤ x ∧ x ≤ 1114111 := by
 obtain ⟨σ, h⟩ := h
 have hdone := h.done
 rw [h.out] at hdone
 rcases Classical.em (∃ x ∈ l, n ≤ x) with h | h
 ·
  obtain ⟨x, hx, hn⟩ := h
  have := cpOk_iff.1 (cpAll_iff.1 hl x hx)
  exact ⟨x, hx, hn, by omega⟩
 ·
  exfalso
  have : l.filter (fun r => decide (r < n)) = l := List.filter_eq_self.2 fun r hr => decide_eq_true (by
   rcases Int.lt_or_le r n with h1 | h1
   · exact h1
   · exact absurd ⟨r, hr, h1⟩ h)
  rw [this] at hdone
  omega
theorem all_take {l : List Int} {j : Nat} {x : Int} (h : l[j]? = some x) (hf : cpAll (l.take j) = true) (hx : cpOk x = true) : cpAll (l.take (j + 1)) = true := by
 obtain ⟨hj, e⟩ := List.getElem?_eq_some_iff.1 h
 unfold cpAll at hf ⊢
 rw [take_snoc' l j hj, e, List.all_append, hf]; simp [hx]
theorem i64_eq {a b : Int} (h : a = b) : Value.int .i64 a = .int .i64 b := by rw [h]
set_option maxRecDepth 100000 in
set_option maxHeartbeats 16000000 in
theorem rpuny_ok (A : Option Addr) (c : Nat) (l : List Int) (w : World) (hr : Rd w w.heap.size A (runes l)) (h63 : (l.length : Int) ≤ 63) :
  Calls Tryz.prog 138 #[.slice A l.length c] w fun e w' => e = .returned (punyV (puny l)) ∧ Below w.heap.size w w' := by
 go_enter Tryz.func138, Tryz.ntmps138
 go_wp2
 go_loopg [4, 5] (l.length) (fun k v i wr => ∃ (j : Nat), k = l.length - j ∧ j ≤ l.length ∧ i = .int .i64 j ∧ Hid (cpAll (l.take j) = true) ∧ wr.ownsRow w.heap.size 5 1 v (bytes (basics (l.take j))).length (bytes (basics (l.take j))) ∧ Below w.heap.size w wr)
 case atStart => exact ⟨0, rfl, Nat.zero_le _, rfl, rfl, World.ownsRow_nil _ _ _ _, Below.refl _ _⟩
 case round =>
  obtain ⟨j, rfl, hj, rfl, hall, hown, hbel⟩ := hrel
  have hq := hbel.size
  have hty : (bytes (basics (l.take j))).length ≤ 100 := by
   rw [bytes_len, basics_len]
   have h1 := List.length_filter_le (fun r => decide (r < 128)) (l.take j)
   rw [List.length_take] at h1; omega
  by_cases hlt : j < l.length
  ·
   obtain ⟨b, off, x, rfl, hb, hc, hx⟩ := (hr.below hbel).rune_at hlt
   have hlt1 : (j : Int) < (l.length : Int) := by omega
   have hj0 : (0 : Int) ≤ (j : Int) := by omega
   have HB := Lib.hid (basics_snoc hx.out)
   have CS := Lib.hid fun w => short_any x w
   by_cases hok : cpOk x = true
   ·
    obtain ⟨x0, x1, _⟩ := cpOk_iff.1 hok
    have HA := Lib.hid (all_take hx.out hall.out hok)
    have hs0 : shortN x = cpSize x := by unfold shortN; rw [if_pos hok]
    rw [hs0] at CS
    have hsz := cpSize_le x
    have hz0 : ((cpSize x : Int) == 0) = false := by rw [beq_eq_false_iff_ne]; omega
    clear hs0 hok
    by_cases hx128 : x < 128
    ·
     rw [if_pos hx128] at HB
     go_wp2_with (first
      | (go_at_call 159; go_must (go_fit (CS.out _)); rintro e w1 ⟨rfl, rfl⟩)
      | (at_builtin; refine wpList_append_lit rfl _ _ _ rfl w.heap.size _ _ 1 1 Tryz.underlying58 info_byte rfl (by decide) _ _ _ rfl hown _ 1 1 _ rfl rfl (by simp [Value.oneCell']) (by omega) (by decide) (by omega) ?_; intro A2 c2 w3 hc2 hm2 hown3 hb3 hg3))
     go_roundg (l.length - (j + 1))
     case measure => omega
     case rel => exact ⟨j + 1, rfl, by omega, by go_num, HA, own_as hown3 (by rw [HB.out, bytes_append, List.length_append]; rfl) (by rw [HB.out, bytes_append]; simp [bytes, cell_byteOf x0 (by omega)]), hbel.trans hb3⟩
    ·
     rw [if_neg hx128] at HB
     go_wp2_with (go_at_call 159; go_must (go_fit (CS.out _)); rintro e w1 ⟨rfl, rfl⟩)
     go_roundg (l.length - (j + 1))
     case measure => omega
     case rel => exact ⟨j + 1, rfl, by omega, by go_num, HA, by rw [HB.out]; exact hown, hbel⟩
   ·
    have hok := Bool.eq_false_iff.2 hok
    have hs0 : shortN x = 0 := by unfold shortN; rw [if_neg (by rw [hok]; decide)]
    rw [hs0, show ((0 : Nat) : Int) = 0 from rfl] at CS
    have hpy := Lib.hid (puny_no (l := l) (fun h => by have := cpAll_iff.1 h.2 x (List.mem_of_getElem? hx.out); rw [hok] at this; cases this))
    clear hs0 hok
    go_wp2_with (go_at_call 159; go_must (go_fit (CS.out _)); rintro e w1 ⟨rfl, rfl⟩)
    go_ret2
    exact ⟨by rw [hpy.out]; rfl, hbel⟩
  ·
   obtain rfl : j = l.length := by omega
   rw [List.take_length, bytes_len] at hty hown
   have hcp := hall.out
   rw [List.take_length] at hcp
   have hpy := Lib.hid (puny_yes (by omega) hcp)
   have HC := Lib.hid hcp
   have HX := Lib.hid fun x (hx : x ∈ l) => cpOk_iff.1 (cpAll_iff.1 hcp x hx)
   have hst := Lib.hid (start_round hcp)
   clear hcp hall
   obtain ⟨A3, c3, rfl, hc3, hm3⟩ := own_shape hown
   by_cases h0 : 0 < (basics l).length
   ·
    have h0' : (0 : Int) < ((basics l).length : Int) := by omega
    have hout0 : (eStart l).out = basics l ++ [45] := by unfold eStart; exact if_pos h0
    have HO := Lib.hid hout0
    clear hout0
    go_wp2_with (at_builtin; refine wpList_append_lit rfl _ _ _ rfl w.heap.size _ _ 1 1 Tryz.underlying58 info_byte rfl (by decide) _ _ _ rfl hown _ 1 1 _ rfl rfl (by simp [Value.oneCell']) (by omega) (by decide) (by omega) ?_; intro A2 c2 w3 hc2 hm2 hown3 hb3 hg3)
    have hown5 : w3.ownsRow w.heap.size 5 1 (.slice A2 ((basics l).length + 1) c2) (bytes (eStart l).out).length (bytes (eStart l).out) := own_as hown3 (by rw [HO.out, bytes_len, List.length_append]; rfl) (by rw [HO.out, bytes_append]; rfl)
    have hb5 := hbel.trans hb3
    clear hown hown3 hg3
    go_loopg [4, 7, 8, 9, 10] ((l.length - (eStart l).done.toNat : Nat)) (fun m s4 s7 s8 s9 s10 wr => ∃ (n : Int) (s : ES) (f : Nat), m = (l.length - s.done.toNat : Nat) ∧ s7 = .int .i64 n ∧ s8 = .int .i64 s.delta ∧ s9 = .int .i64 s.bias ∧ s10 = .int .i64 s.done ∧ 128 ≤ n ∧ n ≤ 1114112 ∧ RB l s ∧ Hid ((∃ σ, AtRound n (basics l).length l s σ) ∧ eLoop l.length 128 (basics l).length (eStart l) l = eLoop f n (basics l).length s l ∧ (l.length : Int) ≤ f + s.done) ∧ wr.ownsRow w.heap.size 5 1 s4 (bytes s.out).length (bytes s.out) ∧ Below w.heap.size w wr)
    case atStart => exact ⟨128, eStart l, l.length, rfl, rfl, rfl, rfl, rfl, by omega, by omega, hst.out.2, ⟨hst.out.1, rfl, by have := hst.out.2.2.2.2.2.1; omega⟩, hown5, hb5⟩
    case round =>
     obtain ⟨n, s, f, rfl, rfl, rfl, rfl, rfl, n1, n2, hrb, hrec, howns, hbel⟩ := hrel
     obtain ⟨z1, z2, z3, z4, z5, z6, z7⟩ := hrb
     have hq := hbel.size
     by_cases hlt : s.done < (l.length : Int)
     ·
      obtain ⟨r1, r2, r3, r4, r5⟩ := round_step n1 HC.out (by omega) hlt hrec.out.1 ⟨z1, z2, z3, z4, z5, z6, z7⟩
      have htop := least_tops n l (exists_from HC.out hlt hrec.out.1)
      unfold OL at z7
      obtain ⟨f', rfl⟩ : ∃ f', f = f' + 1 := ⟨f - 1, by have := hrec.out.2.2; omega⟩
      have HR := Lib.hid (And.intro r1 (And.intro ((hrec.out.2.1).trans (eLoop_next hlt)) r5))
      have H3 := hrec.out.2.2
      obtain ⟨M, hM⟩ : ∃ M, M = least n 1114111 l := ⟨_, rfl⟩
      rw [← hM] at r3 r4 htop HR
      have HM := Lib.hid hM
      have HT := Lib.hid htop
      have HR2 := Lib.hid r2
      clear r1 r5 hM htop r2
      go_wp2
      go_loopg [11, 12] (l.length) (fun k s11 i wi => ∃ j : Nat, k = l.length - j ∧ j ≤ l.length ∧ i = .int .i64 j ∧ s11 = .int .i64 (least n 1114112 (l.take j)) ∧ wr = wi)
      case atStart => exact ⟨0, rfl, Nat.zero_le _, rfl, rfl, rfl⟩
      case round =>
       obtain ⟨j, rfl, hj, rfl, rfl, rfl⟩ := hrel
       have hlo : 0 ≤ least n 1114112 (l.take j) ∧ least n 1114112 (l.take j) ≤ 1114112 := by
        obtain ⟨h1, _, h3⟩ := least_spec n 1114112 (l.take j)
        refine ⟨?_, h1⟩
        rcases h3 with h3 | h3 <;> omega
       obtain ⟨p1, p2⟩ := hlo
       by_cases hjl : j < l.length
       ·
        obtain ⟨b, off, x, rfl, hb, hc, hx⟩ := (hr.below hbel).rune_at hjl
        obtain ⟨x0, x1, _⟩ := HX.out x (List.mem_of_getElem? hx.out)
        have hlt1 : (j : Int) < (l.length : Int) := by omega
        have hj0 : (0 : Int) ≤ (j : Int) := by omega
        have HS := Lib.hid (least_snoc (n := n) (top := 1114112) hx.out)
        obtain ⟨M', hM'⟩ : ∃ M', M' = least n 1114112 (l.take j) := ⟨_, rfl⟩
        rw [← hM'] at HS p1 p2 ⊢
        clear hM'
        by_cases hnx : n ≤ x
        ·
         rw [if_pos hnx] at HS
         go_wp2
         all_goals go_roundg (l.length - (j + 1))
         all_goals
          first
          | (case measure => omega)
          | (case rel => exact ⟨j + 1, rfl, by omega, by go_num, i64_eq (by first | (rw [HS.out]; done) | (rw [HS.out]; omega)), rfl⟩)
        ·
         rw [if_neg hnx] at HS
         go_wp2
         all_goals go_roundg (l.length - (j + 1))
         all_goals
          first
          | (case measure => omega)
          | (case rel => exact ⟨j + 1, rfl, by omega, by go_num, i64_eq (by rw [HS.out]), rfl⟩)
       ·
        obtain rfl : j = l.length := by omega
        rw [List.take_length, HT.out]
        clear p1 p2
        obtain ⟨P, hP⟩ : ∃ P, P = (M - n) * (s.done + 1) := ⟨_, rfl⟩
        have P0 : 0 ≤ P := by rw [hP]; exact Int.mul_nonneg (by omega) (by omega)
        have P1 : P ≤ 1113983 * (s.done + 1) := by rw [hP]; exact Int.mul_le_mul_of_nonneg_right (by omega) (by omega)
        have HP := Lib.hid hP
        rw [hP] at P0 P1
        go_wp2
        rw [← HP.out]
        rw [← HP.out] at P0 P1
        clear hP
        have heb4 : EB { s with delta := s.delta + P } 2000000000 100 (64 + 11 * 63) := ⟨by show 0 ≤ s.delta + P; omega, by show s.delta + P ≤ _; omega, z3, z4, z5, by show s.done ≤ _; omega, by show s.out.length ≤ _; omega⟩
        have heb5 := Lib.hid fun j => heb4.pass M (basics l).length l (by omega) (by omega) j
        have hround : eRound n (basics l).length s l = { ePass M (basics l).length { s with delta := s.delta + P } l with delta := (ePass M (basics l).length { s with delta := s.delta + P } l).delta + 1 } := by
         unfold eRound; simp only []; rw [← HM.out, HP.out]
        have HRD := Lib.hid hround
        obtain ⟨s1, hs1⟩ : ∃ s1 : ES, s1 = { s with delta := s.delta + P } := ⟨_, rfl⟩
        have HS1 := Lib.hid hs1
        clear hround heb4 hs1
        go_loopg [4, 8, 9, 10, 13] (l.length) (fun k s4 s8 s9 s10 i wi => ∃ (j : Nat) (t : ES), k = l.length - j ∧ j ≤ l.length ∧ i = .int .i64 j ∧ Hid (t = ePass M (basics l).length s1 (l.take j)) ∧ s8 = .int .i64 t.delta ∧ s9 = .int .i64 t.bias ∧ s10 = .int .i64 t.done ∧ wi.ownsRow w.heap.size 5 1 s4 (bytes t.out).length (bytes t.out) ∧ Below w.heap.size w wi)
        case atStart => exact ⟨0, s1, rfl, Nat.zero_le _, rfl, rfl, by rw [HS1.out], by rw [HS1.out], by rw [HS1.out], by rw [HS1.out]; exact howns, hbel⟩
        case round =>
         clear howns hbel hq
         obtain ⟨j, t, rfl, hj, rfl, hs, rfl, rfl, rfl, howns, hbel⟩ := hrel
         have hq := hbel.size
         have hbd : EB t (2000000000 + j) (100 + j) (64 + 11 * 63 + 11 * j) := by rw [hs.out, HS1.out]; exact heb5.out j hj
         obtain ⟨y1, y2, y3, y4, y5, y6, y7⟩ := hbd
         have y8 : (bytes t.out).length ≤ 100000 := by rw [bytes_len]; omega
         by_cases hjl : j < l.length
         ·
          obtain ⟨bk, off, x, rfl, hb, hc, hx⟩ := (hr.below hbel).rune_at hjl
          obtain ⟨x0, x1, _⟩ := HX.out x (List.mem_of_getElem? hx.out)
          have hlt1 : (j : Int) < (l.length : Int) := by omega
          have hj0 : (0 : Int) ≤ (j : Int) := by omega
          have HN := Lib.hid (ePass_snoc (n := M) (bs := (basics l).length) (s := s1) hx.out)
          rw [← hs.out] at HN
          rcases Int.lt_trichotomy x M with h | h | h
          ·
           rw [eOne_lt h] at HN
           have hne : (x != M) = true := by rw [bne_iff_ne]; omega
           go_wp2
           go_roundg (l.length - (j + 1))
           case measure => omega
           case rel => exact ⟨j + 1, { t with delta := t.delta + 1 }, rfl, by omega, by go_num, HN.out.symm, rfl, rfl, rfl, howns, hbel⟩
          ·
           subst h
           rw [eOne_eq] at HN
           have hne : (x != x) = false := by simp
           have hnl : ¬ x < x := by omega
           have hd9 : t.delta ≤ 10000000000 := by omega
           go_wp2
           go_loopg [4, 14, 15] (t.delta.toNat) (fun m s4 s14 s15 wi => ∃ (q kk : Int) (cnt : Nat) (out' : List UInt8), m = q.toNat ∧ s14 = .int .i64 q ∧ s15 = .int .i64 kk ∧ 0 ≤ q ∧ q ≤ t.delta ∧ 0 ≤ kk ∧ kk ≤ 36 + 36 * cnt ∧ cnt ≤ 11 ∧ (bytes out').length = (bytes t.out).length + cnt ∧ Hid (t.out ++ num t.delta 36 t.bias = out' ++ num q kk t.bias ∧ (10 : Int) ^ cnt * q ≤ t.delta) ∧ wi.ownsRow w.heap.size 5 1 s4 (bytes out').length (bytes out') ∧ Below w.heap.size w wi)
           case atStart => exact ⟨t.delta, 36, 0, t.out, rfl, rfl, rfl, y1, Int.le_refl _, by omega, by omega, by omega, rfl, ⟨rfl, by omega⟩, howns, hbel⟩
           case round =>
            clear howns hbel hq hc
            obtain ⟨q, kk, cnt, out', rfl, rfl, rfl, q1, q2, k1, k2, hcnt, hlen, hnrec, hown', hbel⟩ := hrel
            have hq := hbel.size
            have hlen' : (bytes out').length ≤ 100011 := by omega
            have HL := Lib.hid hlen
            clear hlen
            have ht := edge_range kk t.bias
            obtain ⟨tt, hte⟩ : ∃ tt, tt = edge kk t.bias := ⟨_, rfl⟩
            have CB := Lib.hid fun w => redge_any kk t.bias w (by omega) (by omega) (by omega) (by omega)
            rw [← hte] at CB ht
            obtain ⟨t1, t2⟩ := ht
            by_cases hlq : q < tt
            ·
             have HE := Lib.hid (num_end (q := q) (k := kk) (bias := t.bias) (by rw [← hte]; exact hlq))
             have hq36 : q < 36 := by omega
             clear hte
             go_wp2_with (first
              | (go_at_call 163; go_must (go_fit (CB.out _)); rintro e w1 ⟨rfl, rfl⟩)
              | (at_builtin; refine wpList_append_lit rfl _ _ _ rfl w.heap.size _ _ 1 1 Tryz.underlying58 info_byte rfl (by decide) _ _ _ rfl hown' _ 1 1 _ rfl rfl (by simp [Value.oneCell']) (by omega) (by decide) (by omega) ?_; intro A2 c2 w3 hc2 hm2 hown3 hb3 hg3)
              | (go_at_call 164; go_must (go_fit (radapt_any t.delta (t.done + 1) (t.done == ((basics l).length : Int)) _ (by omega) (by omega) (by omega) (by omega))); rintro e w1 ⟨rfl, rfl⟩))
             go_roundg (l.length - (j + 1))
             case measure => omega
             case rel => exact ⟨j + 1, { out := t.out ++ num t.delta 36 t.bias, delta := 0, bias := pAdapt t.delta (t.done + 1) (decide (t.done = ((basics l).length : Int))), done := t.done + 1 }, rfl, by omega, by go_num, HN.out.symm, rfl, rfl, by go_num, own_as hown3 (by rw [hnrec.out.1, HE.out, bytes_append, List.length_append]; rfl) (by rw [hnrec.out.1, HE.out, bytes_append, letter_at (x := q) q1 hq36]; rfl), hbel.trans hb3⟩
            ·
             have hge : tt ≤ q := by omega
             have HCn := ten_count hnrec.out.2 (by omega) hd9
             have HE := Lib.hid (num_step (q := q) (k := kk) (bias := t.bias) (by rw [← hte]; exact hge))
             rw [← hte] at HE
             have HTn := Lib.hid (ten_step hnrec.out.2 hge t1 t2)
             obtain ⟨l1, l2⟩ := num_less hge t1 t2
             clear hte
             have s3 : (q - tt).tmod (36 - tt) = (q - tt) % (36 - tt) := Int.tmod_eq_emod_of_nonneg (by omega)
             have r0 : 0 ≤ (q - tt) % (36 - tt) := Int.emod_nonneg _ (by omega)
             have r1 : (q - tt) % (36 - tt) < 36 - tt := Int.emod_lt_of_pos _ (by omega)
             have r2 : 0 ≤ tt + (q - tt) % (36 - tt) := by omega
             have r3 : tt + (q - tt) % (36 - tt) < 36 := by omega
             have z0 : ((36 : Int) - tt == 0) = false := by rw [beq_eq_false_iff_ne]; omega
             go_wp2_with (first
              | (go_at_call 163; go_must (go_fit (CB.out _)); rintro e w1 ⟨rfl, rfl⟩)
              | (at_builtin; refine wpList_append_lit rfl _ _ _ rfl w.heap.size _ _ 1 1 Tryz.underlying58 info_byte rfl (by decide) _ _ _ rfl hown' _ 1 1 _ rfl rfl (by simp [Value.oneCell']) (by omega) (by decide) (by omega) ?_; intro A2 c2 w3 hc2 hm2 hown3 hb3 hg3))
             go_roundg (((q - tt) / (36 - tt)).toNat)
             case measure => omega
             case rel =>
              refine ⟨(q - tt) / (36 - tt), kk + 36, cnt + 1, out' ++ [letter (tt + (q - tt) % (36 - tt))], rfl, rfl, by go_num, l1, by omega, by omega, by omega, by have := HCn; omega, ?_, ⟨?_, HTn.out⟩, own_as hown3 ?_ ?_, hbel.trans hb3⟩
              · rw [bytes_append, List.length_append, HL.out, Nat.add_assoc]; rfl
              · rw [hnrec.out.1, HE.out]; simp
              · rw [bytes_append, List.length_append]; rfl
              · rw [bytes_append, letter_at r2 r3]; rfl
          ·
           rw [eOne_gt h] at HN
           have hne : (x != M) = true := by rw [bne_iff_ne]; omega
           have hnl : ¬ x < M := by omega
           go_wp2
           go_roundg (l.length - (j + 1))
           case measure => omega
           case rel => exact ⟨j + 1, t, rfl, by omega, by go_num, HN.out.symm, rfl, rfl, rfl, howns, hbel⟩
         ·
          obtain rfl : j = l.length := by omega
          have hfin : eRound n (basics l).length s l = { t with delta := t.delta + 1 } := by
           rw [HRD.out, ← HS1.out, hs.out, List.take_length]
          have HF := Lib.hid hfin
          clear hfin
          rw [HF.out] at HR
          go_wp2
          go_roundg ((l.length - t.done.toNat : Nat))
          case measure => have h1 := HR2.out; rw [HF.out] at h1; simp only [] at h1; omega
          case rel => exact ⟨M + 1, { t with delta := t.delta + 1 }, f', rfl, by go_num, by go_num, rfl, rfl, by omega, by omega, HR.out.2.2, ⟨HR.out.1, HR.out.2.1, by have h1 := HR2.out; rw [HF.out] at h1; simp only [] at h1 ⊢; omega⟩, howns, hbel⟩
     ·
      have hfin : eLoop l.length 128 (basics l).length (eStart l) l = s := hrec.out.2.1.trans (eLoop_end hlt)
      have HF := Lib.hid hfin
      clear hfin
      rw [bytes_len] at howns
      obtain ⟨A6, c6, rfl, hc6, hm6, hx6⟩ := own_rd howns
      go_wp2_with (refine wpList_strL rfl _ _ _ _ rfl Tryz.underlying58 Tryz.underlying5 Tryz.underlying9 _ _ _ _ s.out rfl rfl hx6 ?_)
      go_ret2
      exact ⟨by rw [hpy.out, HF.out]; rfl, hbel⟩
   ·
    have hB0 : (basics l).length = 0 := by omega
    have hbn : basics l = [] := List.eq_nil_of_length_eq_zero hB0
    have HB0 := Lib.hid hB0
    have HBN := Lib.hid hbn
    have h0' : ¬ (0 : Int) < ((basics l).length : Int) := by omega
    have hout0 : (eStart l).out = [] := by unfold eStart; exact if_neg h0
    have HO := Lib.hid hout0
    clear hout0 hbn hB0
    go_wp2
    have hown5 : wr.ownsRow w.heap.size 5 1 (.slice A3 (basics l).length c3) (bytes (eStart l).out).length (bytes (eStart l).out) := own_as hown (by rw [HO.out, HB0.out]; rfl) (by rw [HO.out, HBN.out])
    have hb5 := hbel
    clear hown
    go_loopg [4, 7, 8, 9, 10] ((l.length - (eStart l).done.toNat : Nat)) (fun m s4 s7 s8 s9 s10 wr => ∃ (n : Int) (s : ES) (f : Nat), m = (l.length - s.done.toNat : Nat) ∧ s7 = .int .i64 n ∧ s8 = .int .i64 s.delta ∧ s9 = .int .i64 s.bias ∧ s10 = .int .i64 s.done ∧ 128 ≤ n ∧ n ≤ 1114112 ∧ RB l s ∧ Hid ((∃ σ, AtRound n (basics l).length l s σ) ∧ eLoop l.length 128 (basics l).length (eStart l) l = eLoop f n (basics l).length s l ∧ (l.length : Int) ≤ f + s.done) ∧ wr.ownsRow w.heap.size 5 1 s4 (bytes s.out).length (bytes s.out) ∧ Below w.heap.size w wr)
    case atStart => exact ⟨128, eStart l, l.length, rfl, rfl, rfl, rfl, rfl, by omega, by omega, hst.out.2, ⟨hst.out.1, rfl, by have := hst.out.2.2.2.2.2.1; omega⟩, hown5, hb5⟩
    case round =>
     obtain ⟨n, s, f, rfl, rfl, rfl, rfl, rfl, n1, n2, hrb, hrec, howns, hbel⟩ := hrel
     obtain ⟨z1, z2, z3, z4, z5, z6, z7⟩ := hrb
     have hq := hbel.size
     by_cases hlt : s.done < (l.length : Int)
     ·
      obtain ⟨r1, r2, r3, r4, r5⟩ := round_step n1 HC.out (by omega) hlt hrec.out.1 ⟨z1, z2, z3, z4, z5, z6, z7⟩
      have htop := least_tops n l (exists_from HC.out hlt hrec.out.1)
      unfold OL at z7
      obtain ⟨f', rfl⟩ : ∃ f', f = f' + 1 := ⟨f - 1, by have := hrec.out.2.2; omega⟩
      have HR := Lib.hid (And.intro r1 (And.intro ((hrec.out.2.1).trans (eLoop_next hlt)) r5))
      have H3 := hrec.out.2.2
      obtain ⟨M, hM⟩ : ∃ M, M = least n 1114111 l := ⟨_, rfl⟩
      rw [← hM] at r3 r4 htop HR
      have HM := Lib.hid hM
      have HT := Lib.hid htop
      have HR2 := Lib.hid r2
      clear r1 r5 hM htop r2
      go_wp2
      go_loopg [11, 12] (l.length) (fun k s11 i wi => ∃ j : Nat, k = l.length - j ∧ j ≤ l.length ∧ i = .int .i64 j ∧ s11 = .int .i64 (least n 1114112 (l.take j)) ∧ wr = wi)
      case atStart => exact ⟨0, rfl, Nat.zero_le _, rfl, rfl, rfl⟩
      case round =>
       obtain ⟨j, rfl, hj, rfl, rfl, rfl⟩ := hrel
       have hlo : 0 ≤ least n 1114112 (l.take j) ∧ least n 1114112 (l.take j) ≤ 1114112 := by
        obtain ⟨h1, _, h3⟩ := least_spec n 1114112 (l.take j)
        refine ⟨?_, h1⟩
        rcases h3 with h3 | h3 <;> omega
       obtain ⟨p1, p2⟩ := hlo
       by_cases hjl : j < l.length
       ·
        obtain ⟨b, off, x, rfl, hb, hc, hx⟩ := (hr.below hbel).rune_at hjl
        obtain ⟨x0, x1, _⟩ := HX.out x (List.mem_of_getElem? hx.out)
        have hlt1 : (j : Int) < (l.length : Int) := by omega
        have hj0 : (0 : Int) ≤ (j : Int) := by omega
        have HS := Lib.hid (least_snoc (n := n) (top := 1114112) hx.out)
        obtain ⟨M', hM'⟩ : ∃ M', M' = least n 1114112 (l.take j) := ⟨_, rfl⟩
        rw [← hM'] at HS p1 p2 ⊢
        clear hM'
        by_cases hnx : n ≤ x
        ·
         rw [if_pos hnx] at HS
         go_wp2
         all_goals go_roundg (l.length - (j + 1))
         all_goals
          first
          | (case measure => omega)
          | (case rel => exact ⟨j + 1, rfl, by omega, by go_num, i64_eq (by first | (rw [HS.out]; done) | (rw [HS.out]; omega)), rfl⟩)
        ·
         rw [if_neg hnx] at HS
         go_wp2
         all_goals go_roundg (l.length - (j + 1))
         all_goals
          first
          | (case measure => omega)
          | (case rel => exact ⟨j + 1, rfl, by omega, by go_num, i64_eq (by rw [HS.out]), rfl⟩)
       ·
        obtain rfl : j = l.length := by omega
        rw [List.take_length, HT.out]
        clear p1 p2
        obtain ⟨P, hP⟩ : ∃ P, P = (M - n) * (s.done + 1) := ⟨_, rfl⟩
        have P0 : 0 ≤ P := by rw [hP]; exact Int.mul_nonneg (by omega) (by omega)
        have P1 : P ≤ 1113983 * (s.done + 1) := by rw [hP]; exact Int.mul_le_mul_of_nonneg_right (by omega) (by omega)
        have HP := Lib.hid hP
        rw [hP] at P0 P1
        go_wp2
        rw [← HP.out]
        rw [← HP.out] at P0 P1
        clear hP
        have heb4 : EB { s with delta := s.delta + P } 2000000000 100 (64 + 11 * 63) := ⟨by show 0 ≤ s.delta + P; omega, by show s.delta + P ≤ _; omega, z3, z4, z5, by show s.done ≤ _; omega, by show s.out.length ≤ _; omega⟩
        have heb5 := Lib.hid fun j => heb4.pass M (basics l).length l (by omega) (by omega) j
        have hround : eRound n (basics l).length s l = { ePass M (basics l).length { s with delta := s.delta + P } l with delta := (ePass M (basics l).length { s with delta := s.delta + P } l).delta + 1 } := by
         unfold eRound; simp only []; rw [← HM.out, HP.out]
        have HRD := Lib.hid hround
        obtain ⟨s1, hs1⟩ : ∃ s1 : ES, s1 = { s with delta := s.delta + P } := ⟨_, rfl⟩
        have HS1 := Lib.hid hs1
        clear hround heb4 hs1
        go_loopg [4, 8, 9, 10, 13] (l.length) (fun k s4 s8 s9 s10 i wi => ∃ (j : Nat) (t : ES), k = l.length - j ∧ j ≤ l.length ∧ i = .int .i64 j ∧ Hid (t = ePass M (basics l).length s1 (l.take j)) ∧ s8 = .int .i64 t.delta ∧ s9 = .int .i64 t.bias ∧ s10 = .int .i64 t.done ∧ wi.ownsRow w.heap.size 5 1 s4 (bytes t.out).length (bytes t.out) ∧ Below w.heap.size w wi)
        case atStart => exact ⟨0, s1, rfl, Nat.zero_le _, rfl, rfl, by rw [HS1.out], by rw [HS1.out], by rw [HS1.out], by rw [HS1.out]; exact howns, hbel⟩
        case round =>
         clear howns hbel hq
         obtain ⟨j, t, rfl, hj, rfl, hs, rfl, rfl, rfl, howns, hbel⟩ := hrel
         have hq := hbel.size
         have hbd : EB t (2000000000 + j) (100 + j) (64 + 11 * 63 + 11 * j) := by rw [hs.out, HS1.out]; exact heb5.out j hj
         obtain ⟨y1, y2, y3, y4, y5, y6, y7⟩ := hbd
         have y8 : (bytes t.out).length ≤ 100000 := by rw [bytes_len]; omega
         by_cases hjl : j < l.length
         ·
          obtain ⟨bk, off, x, rfl, hb, hc, hx⟩ := (hr.below hbel).rune_at hjl
          obtain ⟨x0, x1, _⟩ := HX.out x (List.mem_of_getElem? hx.out)
          have hlt1 : (j : Int) < (l.length : Int) := by omega
          have hj0 : (0 : Int) ≤ (j : Int) := by omega
          have HN := Lib.hid (ePass_snoc (n := M) (bs := (basics l).length) (s := s1) hx.out)
          rw [← hs.out] at HN
          rcases Int.lt_trichotomy x M with h | h | h
          ·
           rw [eOne_lt h] at HN
           have hne : (x != M) = true := by rw [bne_iff_ne]; omega
           go_wp2
           go_roundg (l.length - (j + 1))
           case measure => omega
           case rel => exact ⟨j + 1, { t with delta := t.delta + 1 }, rfl, by omega, by go_num, HN.out.symm, rfl, rfl, rfl, howns, hbel⟩
          ·
           subst h
           rw [eOne_eq] at HN
           have hne : (x != x) = false := by simp
           have hnl : ¬ x < x := by omega
           have hd9 : t.delta ≤ 10000000000 := by omega
           go_wp2
           go_loopg [4, 14, 15] (t.delta.toNat) (fun m s4 s14 s15 wi => ∃ (q kk : Int) (cnt : Nat) (out' : List UInt8), m = q.toNat ∧ s14 = .int .i64 q ∧ s15 = .int .i64 kk ∧ 0 ≤ q ∧ q ≤ t.delta ∧ 0 ≤ kk ∧ kk ≤ 36 + 36 * cnt ∧ cnt ≤ 11 ∧ (bytes out').length = (bytes t.out).length + cnt ∧ Hid (t.out ++ num t.delta 36 t.bias = out' ++ num q kk t.bias ∧ (10 : Int) ^ cnt * q ≤ t.delta) ∧ wi.ownsRow w.heap.size 5 1 s4 (bytes out').length (bytes out') ∧ Below w.heap.size w wi)
           case atStart => exact ⟨t.delta, 36, 0, t.out, rfl, rfl, rfl, y1, Int.le_refl _, by omega, by omega, by omega, rfl, ⟨rfl, by omega⟩, howns, hbel⟩
           case round =>
            clear howns hbel hq hc
            obtain ⟨q, kk, cnt, out', rfl, rfl, rfl, q1, q2, k1, k2, hcnt, hlen, hnrec, hown', hbel⟩ := hrel
            have hq := hbel.size
            have hlen' : (bytes out').length ≤ 100011 := by omega
            have HL := Lib.hid hlen
            clear hlen
            have ht := edge_range kk t.bias
            obtain ⟨tt, hte⟩ : ∃ tt, tt = edge kk t.bias := ⟨_, rfl⟩
            have CB := Lib.hid fun w => redge_any kk t.bias w (by omega) (by omega) (by omega) (by omega)
            rw [← hte] at CB ht
            obtain ⟨t1, t2⟩ := ht
            by_cases hlq : q < tt
            ·
             have HE := Lib.hid (num_end (q := q) (k := kk) (bias := t.bias) (by rw [← hte]; exact hlq))
             have hq36 : q < 36 := by omega
             clear hte
             go_wp2_with (first
              | (go_at_call 163; go_must (go_fit (CB.out _)); rintro e w1 ⟨rfl, rfl⟩)
              | (at_builtin; refine wpList_append_lit rfl _ _ _ rfl w.heap.size _ _ 1 1 Tryz.underlying58 info_byte rfl (by decide) _ _ _ rfl hown' _ 1 1 _ rfl rfl (by simp [Value.oneCell']) (by omega) (by decide) (by omega) ?_; intro A2 c2 w3 hc2 hm2 hown3 hb3 hg3)
              | (go_at_call 164; go_must (go_fit (radapt_any t.delta (t.done + 1) (t.done == ((basics l).length : Int)) _ (by omega) (by omega) (by omega) (by omega))); rintro e w1 ⟨rfl, rfl⟩))
             go_roundg (l.length - (j + 1))
             case measure => omega
             case rel => exact ⟨j + 1, { out := t.out ++ num t.delta 36 t.bias, delta := 0, bias := pAdapt t.delta (t.done + 1) (decide (t.done = ((basics l).length : Int))), done := t.done + 1 }, rfl, by omega, by go_num, HN.out.symm, rfl, rfl, by go_num, own_as hown3 (by rw [hnrec.out.1, HE.out, bytes_append, List.length_append]; rfl) (by rw [hnrec.out.1, HE.out, bytes_append, letter_at (x := q) q1 hq36]; rfl), hbel.trans hb3⟩
            ·
             have hge : tt ≤ q := by omega
             have HCn := ten_count hnrec.out.2 (by omega) hd9
             have HE := Lib.hid (num_step (q := q) (k := kk) (bias := t.bias) (by rw [← hte]; exact hge))
             rw [← hte] at HE
             have HTn := Lib.hid (ten_step hnrec.out.2 hge t1 t2)
             obtain ⟨l1, l2⟩ := num_less hge t1 t2
             clear hte
             have s3 : (q - tt).tmod (36 - tt) = (q - tt) % (36 - tt) := Int.tmod_eq_emod_of_nonneg (by omega)
             have r0 : 0 ≤ (q - tt) % (36 - tt) := Int.emod_nonneg _ (by omega)
             have r1 : (q - tt) % (36 - tt) < 36 - tt := Int.emod_lt_of_pos _ (by omega)
             have r2 : 0 ≤ tt + (q - tt) % (36 - tt) := by omega
             have r3 : tt + (q - tt) % (36 - tt) < 36 := by omega
             have z0 : ((36 : Int) - tt == 0) = false := by rw [beq_eq_false_iff_ne]; omega
             go_wp2_with (first
              | (go_at_call 163; go_must (go_fit (CB.out _)); rintro e w1 ⟨rfl, rfl⟩)
              | (at_builtin; refine wpList_append_lit rfl _ _ _ rfl w.heap.size _ _ 1 1 Tryz.underlying58 info_byte rfl (by decide) _ _ _ rfl hown' _ 1 1 _ rfl rfl (by simp [Value.oneCell']) (by omega) (by decide) (by omega) ?_; intro A2 c2 w3 hc2 hm2 hown3 hb3 hg3))
             go_roundg (((q - tt) / (36 - tt)).toNat)
             case measure => omega
             case rel =>
              refine ⟨(q - tt) / (36 - tt), kk + 36, cnt + 1, out' ++ [letter (tt + (q - tt) % (36 - tt))], rfl, rfl, by go_num, l1, by omega, by omega, by omega, by have := HCn; omega, ?_, ⟨?_, HTn.out⟩, own_as hown3 ?_ ?_, hbel.trans hb3⟩
              · rw [bytes_append, List.length_append, HL.out, Nat.add_assoc]; rfl
              · rw [hnrec.out.1, HE.out]; simp
              · rw [bytes_append, List.length_append]; rfl
              · rw [bytes_append, letter_at r2 r3]; rfl
          ·
           rw [eOne_gt h] at HN
           have hne : (x != M) = true := by rw [bne_iff_ne]; omega
           have hnl : ¬ x < M := by omega
           go_wp2
           go_roundg (l.length - (j + 1))
           case measure => omega
           case rel => exact ⟨j + 1, t, rfl, by omega, by go_num, HN.out.symm, rfl, rfl, rfl, howns, hbel⟩
         ·
          obtain rfl : j = l.length := by omega
          have hfin : eRound n (basics l).length s l = { t with delta := t.delta + 1 } := by
           rw [HRD.out, ← HS1.out, hs.out, List.take_length]
          have HF := Lib.hid hfin
          clear hfin
          rw [HF.out] at HR
          go_wp2
          go_roundg ((l.length - t.done.toNat : Nat))
          case measure => have h1 := HR2.out; rw [HF.out] at h1; simp only [] at h1; omega
          case rel => exact ⟨M + 1, { t with delta := t.delta + 1 }, f', rfl, by go_num, by go_num, rfl, rfl, by omega, by omega, HR.out.2.2, ⟨HR.out.1, HR.out.2.1, by have h1 := HR2.out; rw [HF.out] at h1; simp only [] at h1 ⊢; omega⟩, howns, hbel⟩
     ·
      have hfin : eLoop l.length 128 (basics l).length (eStart l) l = s := hrec.out.2.1.trans (eLoop_end hlt)
      have HF := Lib.hid hfin
      clear hfin
      rw [bytes_len] at howns
      obtain ⟨A6, c6, rfl, hc6, hm6, hx6⟩ := own_rd howns
      go_wp2_with (refine wpList_strL rfl _ _ _ _ rfl Tryz.underlying58 Tryz.underlying5 Tryz.underlying9 _ _ _ _ s.out rfl rfl hx6 ?_)
      go_ret2
      exact ⟨by rw [hpy.out, HF.out]; rfl, hbel⟩
theorem rpuny_any (A : Option Addr) (c : Nat) (l : List Int) (w : World) (hr : Rd w w.heap.size A (runes l)) (hl : l.length ≤ 1000000) :
  Calls Tryz.prog 138 #[.slice A l.length c] w fun e w' => e = .returned (punyV (puny l)) ∧ Below w.heap.size w w' := by
 by_cases h63 : (l.length : Int) ≤ 63
 · exact rpuny_ok A c l w hr h63
 ·
  have h63' : 63 < (l.length : Int) := by omega
  have hpy := Lib.hid (puny_no (l := l) (fun h => by omega))
  rw [hpy.out]
  clear h63
  go_enter Tryz.func138, Tryz.ntmps138
  go_wp2
  go_ret2
  exact ⟨rfl, Below.refl _ _⟩
end Go.Proofs.YtoapelcofjjdnaaGreatDoor
