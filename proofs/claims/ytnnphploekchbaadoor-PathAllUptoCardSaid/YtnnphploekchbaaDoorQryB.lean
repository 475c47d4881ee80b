/- The walk of query.Show. -/
import Derived.Test.YtnnphploekchbaaDoorQryA
namespace Go.Proofs.YtnnphploekchbaaDoor
set_option linter.all false
open Go.RowKit

theorem join_snoc_len {l : List (List UInt8)} {m : Nat} (h : ∀ x ∈ l, x.length ≤ m) (c : UInt8) : (Lib.join l [c]).length ≤ l.length * (m + 1) := by
  cases l with
  | nil => simp [Lib.join_nil]
  | cons x r =>
    rw [Lib.join_length]
    have : Lib.lens (x :: r) ≤ (x :: r).length * m := by
      generalize x :: r = l at h
      induction l with
      | nil => simp [Lib.lens]
      | cons y l ih =>
        have h1 := h y (by simp)
        have h2 := ih (fun z hz => h z (by simp [hz]))
        unfold Lib.lens at h2 ⊢
        rw [List.map_cons, List.sum_cons, List.length_cons, Nat.succ_mul]; omega
    rw [List.length_cons] at this ⊢
    rw [Nat.mul_add, Nat.mul_one]; simp only [List.length_cons, List.length_nil] at *; omega
theorem qOne_len (p : Pr) : (qOne p).length ≤ 3 * p.1.length + 3 * p.2.length + 1 := by
  unfold qOne
  have h1 := pEnc_le 6 p.1
  have h2 := pEnc_le 6 p.2
  rw [List.length_append, List.length_cons]; omega

set_option maxRecDepth 100000 in
set_option maxHeartbeats 8000000 in
theorem qshow_any (A : Option Addr) (c : Nat) (l : List Pr) (w : World) (hr : Rd w w.heap.size A (prs l)) (hl : l.length ≤ 100) (hp : ∀ p ∈ l, p.1.length ≤ 10000 ∧ p.2.length ≤ 10000) :
    Calls Tryd.prog 31 #[.slice A l.length c] w fun e w' => e = .returned (.string (str (qShow l))) ∧ Below w.heap.size w w' := by
  have HP := Lib.hid hp
  clear hp
  go_enter Tryd.func31, Tryd.ntmps31
  go_wp2
  go_loopg [3, 8] (l.length) (fun k s3 s8 wr => ∃ j : Nat, k = l.length - j ∧ j ≤ l.length ∧ s8 = .int .i64 j ∧ wr.ownsRow w.heap.size 9 1 s3 j (strs ((l.take j).map qOne)) ∧ Below w.heap.size w wr)
  case atStart => exact ⟨0, rfl, Nat.zero_le _, rfl, World.ownsRow_nil _ _ _ _, Below.refl _ _⟩
  case round =>
    obtain ⟨j, rfl, hj, rfl, hown, hbel⟩ := hrel
    obtain ⟨A3, c3, rfl, hc3, hm3⟩ := own_shape hown
    by_cases hlt : j < l.length
    · obtain ⟨b, off, p, rfl, hb, hc1, hc2, hx⟩ := (hr.below hbel).pair_at hlt
      have hlt1 : (j : Int) < (l.length : Int) := by omega
      have hj0 : (0 : Int) ≤ (j : Int) := by omega
      have hpl := HP.out p (List.mem_of_getElem? hx.out)
      have hq0 := hbel.size
      have hkb1 := fun w => bytes_at w p.1
      have hkb2 := fun w => bytes_at w p.2
      obtain ⟨e1, he1⟩ : ∃ e, e = pEnc 6 p.1 := ⟨_, rfl⟩
      obtain ⟨e2, he2⟩ : ∃ e, e = pEnc 6 p.2 := ⟨_, rfl⟩
      have hn1 : e1.length ≤ 30000 := by rw [he1]; have := pEnc_le 6 p.1; omega
      have hn2 : e2.length ≤ 30000 := by rw [he2]; have := pEnc_le 6 p.2; omega
      have HO := Lib.hid (show qOne p = e1 ++ 61 :: e2 by unfold qOne; rw [he1, he2])
      have C1 := Lib.hid fun A c w (h : Rd w w.heap.size A (bytes p.1)) => encode_pct 6 A c p.1 w h (by omega)
      have C2 := Lib.hid fun A c w (h : Rd w w.heap.size A (bytes p.2)) => encode_pct 6 A c p.2 w h (by omega)
      rw [← he1] at C1
      rw [← he2] at C2
      clear he1 he2
      have hz1 := str_size e1
      have hz2 := str_size e2
      have hz3 := str_size (e1 ++ [61])
      rw [List.length_append] at hz3
      have ha1 : str e1 ++ { data := #[61] } = str (e1 ++ [61]) := str_app e1 [61]
      have hk1 : (9223372036854775807 < e1.length + 1) = False := eq_false (by omega)
      have hk2 : (9223372036854775807 < e1.length + 1 + e2.length) = False := eq_false (by omega)
      have ha2 := str_app (e1 ++ [61]) e2
      have hsz1 := str_size p.1
      have hsz2 := str_size p.2
      go_wp2
      obtain ⟨wb, hwb⟩ : ∃ wb, wb = wr.alloc (.cells #[.string (str p.1), .string (str p.2)] 34) := ⟨_, rfl⟩
      have hgb : wr.heap.size < wb.heap.size := by rw [hwb]; simp
      have hd1 : wb.cell? ⟨wr.heap.size, 0, none⟩ = some (.string (str p.1)) := by rw [hwb, cell_of_row _ _ 0 _ _ _ (heap_alloc_new wr _)]; rfl
      have hd2 : wb.cell? ⟨wr.heap.size, 1, none⟩ = some (.string (str p.2)) := by rw [hwb, cell_of_row _ _ 1 _ _ _ (heap_alloc_new wr _)]; rfl
      have hbw : Below wr.heap.size wr wb := by rw [hwb]; exact bnew (Below.refl _ _) _
      rw [← hwb]
      clear hwb hc1 hc2
      have HR1 := Lib.hid (show Rd ((wb.alloc (byteRow wb.drew p.1 5)).drew.drew) ((wb.alloc (byteRow wb.drew p.1 5)).drew.drew).heap.size (some ⟨wb.heap.size, 0, none⟩) (bytes p.1) from byteRow_rd wb.drew p.1 _ (by simp))
      have HX1 := Lib.hid (show Rd (((wb.alloc (byteRow wb.drew p.1 5)).alloc (byteRow ((wb.alloc (byteRow wb.drew p.1 5)).drew.drew) p.2 5)).drew.drew.drew) (((wb.alloc (byteRow wb.drew p.1 5)).alloc (byteRow ((wb.alloc (byteRow wb.drew p.1 5)).drew.drew) p.2 5)).drew.drew.drew).heap.size (some ⟨wb.heap.size, 0, none⟩) (bytes p.1) from Rd.new HR1.out _)
      have HX2 := Lib.hid (show Rd (((wb.alloc (byteRow wb.drew p.1 5)).alloc (byteRow ((wb.alloc (byteRow wb.drew p.1 5)).drew.drew) p.2 5)).drew.drew.drew) (((wb.alloc (byteRow wb.drew p.1 5)).alloc (byteRow ((wb.alloc (byteRow wb.drew p.1 5)).drew.drew) p.2 5)).drew.drew.drew).heap.size (some ⟨wb.heap.size + 1, 0, none⟩) (bytes p.2) from by
        have h := byteRow_rd ((wb.alloc (byteRow wb.drew p.1 5)).drew.drew) p.2 5 (B := (((wb.alloc (byteRow wb.drew p.1 5)).alloc (byteRow ((wb.alloc (byteRow wb.drew p.1 5)).drew.drew) p.2 5)).drew.drew.drew).heap.size) (by simp)
        have e : ((wb.alloc (byteRow wb.drew p.1 5)).drew.drew).heap.size = wb.heap.size + 1 := by simp
        rw [e] at h
        exact h)
      have HR2 := Lib.hid (show Rd ((wb.alloc (byteRow wb.drew p.2 5)).drew.drew) ((wb.alloc (byteRow wb.drew p.2 5)).drew.drew).heap.size (some ⟨wb.heap.size, 0, none⟩) (bytes p.2) from byteRow_rd wb.drew p.2 _ (by simp))
      have HY2 := Lib.hid (show Rd (((wb.alloc (byteRow wb.drew p.2 5)).alloc (byteRow ((wb.alloc (byteRow wb.drew p.2 5)).drew.drew) p.1 5)).drew.drew.drew) (((wb.alloc (byteRow wb.drew p.2 5)).alloc (byteRow ((wb.alloc (byteRow wb.drew p.2 5)).drew.drew) p.1 5)).drew.drew.drew).heap.size (some ⟨wb.heap.size, 0, none⟩) (bytes p.2) from Rd.new HR2.out _)
      have HY1 := Lib.hid (show Rd (((wb.alloc (byteRow wb.drew p.2 5)).alloc (byteRow ((wb.alloc (byteRow wb.drew p.2 5)).drew.drew) p.1 5)).drew.drew.drew) (((wb.alloc (byteRow wb.drew p.2 5)).alloc (byteRow ((wb.alloc (byteRow wb.drew p.2 5)).drew.drew) p.1 5)).drew.drew.drew).heap.size (some ⟨wb.heap.size + 1, 0, none⟩) (bytes p.1) from by
        have h := byteRow_rd ((wb.alloc (byteRow wb.drew p.2 5)).drew.drew) p.1 5 (B := (((wb.alloc (byteRow wb.drew p.2 5)).alloc (byteRow ((wb.alloc (byteRow wb.drew p.2 5)).drew.drew) p.1 5)).drew.drew.drew).heap.size) (by simp)
        have e : ((wb.alloc (byteRow wb.drew p.2 5)).drew.drew).heap.size = wb.heap.size + 1 := by simp
        rw [e] at h
        exact h)
      have HB1 := Lib.hid (show Below wb.heap.size wb ((wb.alloc (byteRow wb.drew p.1 5)).drew.drew) from ((Below.refl _ _).alloc (Nat.le_refl _) _).drew.drew)
      have HB12 := Lib.hid (show Below wb.heap.size wb (((wb.alloc (byteRow wb.drew p.1 5)).alloc (byteRow ((wb.alloc (byteRow wb.drew p.1 5)).drew.drew) p.2 5)).drew.drew.drew) from (((Below.refl _ _).alloc (Nat.le_refl _) _).alloc (by simp) _).drew.drew.drew)
      have HB21 := Lib.hid (show Below wb.heap.size wb (((wb.alloc (byteRow wb.drew p.2 5)).alloc (byteRow ((wb.alloc (byteRow wb.drew p.2 5)).drew.drew) p.1 5)).drew.drew.drew) from (((Below.refl _ _).alloc (Nat.le_refl _) _).alloc (by simp) _).drew.drew.drew)
      go_region_law (first
        | (go_simp; go_at_call 44; go_fit (C1.out (some ⟨wb.heap.size, 0, none⟩) (grownCap wb.drew p.1.length 0 5) ((wb.alloc (byteRow wb.drew p.1 5)).drew.drew) HR1.out); rintro e w3 ⟨rfl, hb3⟩; have hbb := bnext HB1.out hb3; have hd13 := cell_on hbb hd1 hgb; have hd23 := cell_on hbb hd2 hgb; have HZ := Lib.hid (show Rd (w3.alloc (byteRow w3 p.2 5)).drew (w3.alloc (byteRow w3 p.2 5)).drew.heap.size (some ⟨w3.heap.size, 0, none⟩) (bytes p.2) from byteRow_rd w3 p.2 _ (by simp)))
        | (go_simp; go_at_call 44; go_fit (C1.out (some ⟨wb.heap.size, 0, none⟩) (grownCap wb.drew p.1.length 0 5) (((wb.alloc (byteRow wb.drew p.1 5)).alloc (byteRow ((wb.alloc (byteRow wb.drew p.1 5)).drew.drew) p.2 5)).drew.drew.drew) HX1.out); rintro e w3 ⟨rfl, hb3⟩; have hbb := bnext HB12.out hb3; have hd13 := cell_on hbb hd1 hgb; have hd23 := cell_on hbb hd2 hgb; have HZ := Lib.hid (Rd.next HX2.out hb3))
        | (go_simp; go_at_call 44; go_fit (C1.out (some ⟨wb.heap.size + 1, 0, none⟩) (grownCap ((wb.alloc (byteRow wb.drew p.2 5)).drew.drew) p.1.length 0 5) (((wb.alloc (byteRow wb.drew p.2 5)).alloc (byteRow ((wb.alloc (byteRow wb.drew p.2 5)).drew.drew) p.1 5)).drew.drew.drew) HY1.out); rintro e w3 ⟨rfl, hb3⟩; have hbb := bnext HB21.out hb3; have hd13 := cell_on hbb hd1 hgb; have hd23 := cell_on hbb hd2 hgb; have HZ := Lib.hid (Rd.next HY2.out hb3))
        | (go_simp; go_at_call 44; go_fit (C2.out _ _ (w3.alloc (byteRow w3 p.2 5)).drew HZ.out); rintro e w4 ⟨rfl, hb4⟩; have hbz := bnext hbb (bnext (show Below w3.heap.size w3 (w3.alloc (byteRow w3 p.2 5)).drew from ((Below.refl _ _).alloc (Nat.le_refl _) _).drew) hb4))
        | (go_simp; go_at_call 44; go_fit (C2.out _ _ w3 HZ.out); rintro e w4 ⟨rfl, hb4⟩; have hbz := bnext hbb hb4)
        | (refine step_append_cells rfl _ _ _ rfl w.heap.size _ _ 1 16 Tryd.underlying22 info_str rfl (by decide) _ _ _ rfl ((own_below hown (bnext hbw hbz) (Nat.le_refl _)).alloc _) w4.heap.size _ 1 1 9 (0, 0) rfl (heap_alloc_new w4 _) rfl (by simp [Value.oneCell']) (by omega) (by decide) (by have := hbz.size; simp; omega) ?_; intro A5 c5 w5 hc5 hm5 hown5 hb5' hg5; have hb5 : Below w.heap.size w w5 := (hbel.trans ((bnext hbw hbz).mono hq0)).trans (((Below.refl _ _).alloc (by have := hbz.size; omega) _).trans hb5')))
      all_goals go_wp2
      all_goals go_roundg (l.length - (j + 1))
      all_goals first
        | (case measure => omega)
        | (case rel => exact ⟨j + 1, rfl, by omega, by go_num, own_as hown5 rfl (by
            obtain ⟨hjj, e⟩ := List.getElem?_eq_some_iff.1 hx.out
            rw [take_snoc' _ j hjj, e, List.map_append, strs_append, List.map_singleton, HO.out]; rfl), hb5⟩)
    · obtain rfl : j = l.length := by omega
      have hjl := join_snoc_len (l := l.map qOne) (m := 60001) (by intro x hx; obtain ⟨p, hp, rfl⟩ := List.mem_map.1 hx; have h1 := HP.out p hp; have h2 := qOne_len p; omega) 38
      rw [List.length_map] at hjl
      have hjl2 : (Lib.join (l.map qOne) [38]).length ≤ 100000000 := Nat.le_trans hjl (Nat.le_trans (Nat.mul_le_mul hl (Nat.le_refl _)) (by decide))
      rw [List.take_length] at hown
      obtain ⟨A6, c6, e6, hc6, hm6, hx6⟩ := own_rdN hown
      injection e6 with e6 _ e7
      subst e6 e7
      have CJ := Lib.hid (join_any 38 A3 c3 (l.map qOne) wr hx6 (by rw [List.length_map]; exact hc6) (by rw [List.length_map]; omega) hjl2)
      rw [List.length_map] at CJ
      go_wp2_with (go_at_call 56; go_must (go_fit CJ.out); rintro e w7 ⟨rfl, hb7⟩)
      go_ret
      exact ⟨rfl, hbel.trans (hb7.mono hbel.size)⟩
end Go.Proofs.YtnnphploekchbaaDoor

