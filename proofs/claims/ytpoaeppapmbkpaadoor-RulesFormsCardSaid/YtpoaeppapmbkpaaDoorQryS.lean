/- The walks of the reference's ShowQuery, SamePairs. -/
import Derived.Test.YtpoaeppapmbkpaaDoorQryR
namespace Go.Proofs.YtpoaeppapmbkpaaDoor
set_option linter.all false
open Go.RowKit

theorem join_snoc {c : UInt8} {l : List (List UInt8)} (h : l ≠ []) (y : List UInt8) : Lib.join (l ++ [y]) [c] = Lib.join l [c] ++ c :: y := by
  cases l with
  | nil => exact absurd rfl h
  | cons x r =>
    rw [List.cons_append, Lib.join_cons, Lib.join_cons]
    unfold Lib.joinTail
    simp
/-- The first j pairs, shown; and with the sign ahead of the next. -/
def qJ (l : List Pr) (j : Nat) : List UInt8 := qShow (l.take j)
def qK (l : List Pr) (j : Nat) : List UInt8 := if j = 0 then [] else qJ l j ++ [38]
theorem qJ_next {l : List Pr} {j : Nat} {p : Pr} (h : l[j]? = some p) : qJ l (j + 1) = qK l j ++ (pEnc 6 p.1 ++ ([61] ++ pEnc 6 p.2)) := by
  obtain ⟨hj, e⟩ := List.getElem?_eq_some_iff.1 h
  unfold qJ qK qShow
  rw [take_snoc' l j hj, e, List.map_append, List.map_singleton]
  by_cases h0 : j = 0
  · subst h0
    rw [if_pos rfl, List.take_zero, List.map_nil, List.nil_append, Lib.join_one]
    rfl
  · rw [if_neg h0, join_snoc (by rw [Ne, List.map_eq_nil_iff, List.take_eq_nil_iff, not_or]; exact ⟨h0, fun e => by rw [e] at hj; cases hj⟩)]
    rw [show qOne p = pEnc 6 p.1 ++ 61 :: pEnc 6 p.2 from rfl]
    unfold qJ qShow
    simp
theorem qJ_len {l : List Pr} (hp : ∀ p ∈ l, p.1.length ≤ 10000 ∧ p.2.length ≤ 10000) (hl : l.length ≤ 100) (j : Nat) : (qJ l j).length ≤ 10000000 := by
  unfold qJ qShow
  have hjl := join_snoc_len (l := (l.take j).map qOne) (m := 60001) (by intro x hx; obtain ⟨p, hp', rfl⟩ := List.mem_map.1 hx; have h1 := hp p (List.mem_of_mem_take hp'); have h2 := qOne_len p; omega) 38
  rw [List.length_map, List.length_take] at hjl
  have : min j l.length ≤ 100 := by omega
  exact Nat.le_trans hjl (Nat.le_trans (Nat.mul_le_mul this (Nat.le_refl _)) (by decide))

set_option maxRecDepth 100000 in
set_option maxHeartbeats 8000000 in
theorem rshow_any (A : Option Addr) (c : Nat) (l : List Pr) (w : World) (hr : Rd w w.heap.size A (prs l)) (hl : l.length ≤ 100) (hp : ∀ p ∈ l, p.1.length ≤ 10000 ∧ p.2.length ≤ 10000) :
    Calls Tryd.prog 22 #[.slice A l.length c] w fun e w' => e = .returned (.string (str (qShow l))) ∧ Below w.heap.size w w' := by
  have HP := Lib.hid hp
  have HJL := Lib.hid (qJ_len hp hl)
  clear hp
  go_enter Tryd.func22, Tryd.ntmps22
  go_wp2
  go_loopg [3, 4] (l.length) (fun k s3 s4 wr => ∃ j : Nat, k = l.length - j ∧ j ≤ l.length ∧ s4 = .int .i64 j ∧ s3 = .string (str (qJ l j)) ∧ Below w.heap.size w wr)
  case atStart => exact ⟨0, rfl, Nat.zero_le _, rfl, rfl, Below.refl _ _⟩
  case round =>
    obtain ⟨j, rfl, hj, rfl, rfl, hbel⟩ := hrel
    by_cases hlt : j < l.length
    · obtain ⟨b, off, p, rfl, hb, hc1, hc2, hx⟩ := (hr.below hbel).pair_at hlt
      have hlt1 : (j : Int) < (l.length : Int) := by omega
      have hj0 : (0 : Int) ≤ (j : Int) := by omega
      have hpl := HP.out p (List.mem_of_getElem? hx.out)
      have hq0 := hbel.size
      have HN := Lib.hid (qJ_next hx.out)
      have hkb1 := fun w => bytes_at w p.1
      have hkb2 := fun w => bytes_at w p.2
      have hsz1 := str_size p.1
      have hsz2 := str_size p.2
      obtain ⟨e1, he1⟩ : ∃ e, e = pEnc 6 p.1 := ⟨_, rfl⟩
      obtain ⟨e2, he2⟩ : ∃ e, e = pEnc 6 p.2 := ⟨_, rfl⟩
      have hn1 : e1.length ≤ 30000 := by rw [he1]; have := pEnc_le 6 p.1; omega
      have hn2 : e2.length ≤ 30000 := by rw [he2]; have := pEnc_le 6 p.2; omega
      have C1 := Lib.hid fun A c w (h : Rd w w.heap.size A (bytes p.1)) => percent_any 6 A c p.1 w h (by omega)
      have C2 := Lib.hid fun A c w (h : Rd w w.heap.size A (bytes p.2)) => percent_any 6 A c p.2 w h (by omega)
      rw [← he1] at C1 HN
      rw [← he2] at C2 HN
      clear he1 he2
      have hz1 := str_size e1
      have hz2 := str_size e2
      obtain ⟨T, hT⟩ : ∃ T, T = qK l j := ⟨_, rfl⟩
      rw [← hT] at HN
      have hTl : T.length ≤ 10000001 := by
        have h1 := HJL.out j
        rw [hT]; unfold qK
        split
        · simp
        · rw [List.length_append, List.length_singleton]; omega
      obtain ⟨T1, hT1⟩ : ∃ T1, T1 = T ++ e1 := ⟨_, rfl⟩
      obtain ⟨T2, hT2⟩ : ∃ T2, T2 = T1 ++ [61] := ⟨_, rfl⟩
      obtain ⟨T3, hT3⟩ : ∃ T3, T3 = T2 ++ e2 := ⟨_, rfl⟩
      have ha1 : str T ++ str e1 = str T1 := (str_app T e1).trans (by rw [hT1])
      have ha2 : str T1 ++ { data := #[61] } = str T2 := (str_app T1 [61]).trans (by rw [hT2])
      have ha3 : str T2 ++ str e2 = str T3 := (str_app T2 e2).trans (by rw [hT3])
      have hy0 := str_size T
      have hy1 := str_size T1
      have hy2 := str_size T2
      have q1 : T1.length = T.length + e1.length := by rw [hT1, List.length_append]
      have q2 : T2.length = T1.length + 1 := by rw [hT2, List.length_append]; rfl
      have HN3 := Lib.hid (show qJ l (j + 1) = T3 by rw [HN.out, hT3, hT2, hT1]; simp)
      have hk1 : (9223372036854775807 < T.length + e1.length) = False := eq_false (by omega)
      have hk2 : (9223372036854775807 < T1.length + 1) = False := eq_false (by omega)
      have hk3 : (9223372036854775807 < T2.length + e2.length) = False := eq_false (by omega)
      clear hT1 hT2 hT3 q1 q2
      have hgb : b < wr.heap.size := by omega
      have HR1 := Lib.hid (show Rd ((wr.alloc (byteRow wr.drew p.1 5)).drew.drew) ((wr.alloc (byteRow wr.drew p.1 5)).drew.drew).heap.size (some ⟨wr.heap.size, 0, none⟩) (bytes p.1) from byteRow_rd wr.drew p.1 _ (by simp))
      have HX1 := Lib.hid (show Rd (((wr.alloc (byteRow wr.drew p.1 5)).alloc (byteRow ((wr.alloc (byteRow wr.drew p.1 5)).drew.drew) p.2 5)).drew.drew.drew) (((wr.alloc (byteRow wr.drew p.1 5)).alloc (byteRow ((wr.alloc (byteRow wr.drew p.1 5)).drew.drew) p.2 5)).drew.drew.drew).heap.size (some ⟨wr.heap.size, 0, none⟩) (bytes p.1) from Rd.new HR1.out _)
      have HX2 := Lib.hid (show Rd (((wr.alloc (byteRow wr.drew p.1 5)).alloc (byteRow ((wr.alloc (byteRow wr.drew p.1 5)).drew.drew) p.2 5)).drew.drew.drew) (((wr.alloc (byteRow wr.drew p.1 5)).alloc (byteRow ((wr.alloc (byteRow wr.drew p.1 5)).drew.drew) p.2 5)).drew.drew.drew).heap.size (some ⟨wr.heap.size + 1, 0, none⟩) (bytes p.2) from by
        have h := byteRow_rd ((wr.alloc (byteRow wr.drew p.1 5)).drew.drew) p.2 5 (B := (((wr.alloc (byteRow wr.drew p.1 5)).alloc (byteRow ((wr.alloc (byteRow wr.drew p.1 5)).drew.drew) p.2 5)).drew.drew.drew).heap.size) (by simp)
        have e : ((wr.alloc (byteRow wr.drew p.1 5)).drew.drew).heap.size = wr.heap.size + 1 := by simp
        rw [e] at h
        exact h)
      have HR2 := Lib.hid (show Rd ((wr.alloc (byteRow wr.drew p.2 5)).drew.drew) ((wr.alloc (byteRow wr.drew p.2 5)).drew.drew).heap.size (some ⟨wr.heap.size, 0, none⟩) (bytes p.2) from byteRow_rd wr.drew p.2 _ (by simp))
      have HY2 := Lib.hid (show Rd (((wr.alloc (byteRow wr.drew p.2 5)).alloc (byteRow ((wr.alloc (byteRow wr.drew p.2 5)).drew.drew) p.1 5)).drew.drew.drew) (((wr.alloc (byteRow wr.drew p.2 5)).alloc (byteRow ((wr.alloc (byteRow wr.drew p.2 5)).drew.drew) p.1 5)).drew.drew.drew).heap.size (some ⟨wr.heap.size, 0, none⟩) (bytes p.2) from Rd.new HR2.out _)
      have HY1 := Lib.hid (show Rd (((wr.alloc (byteRow wr.drew p.2 5)).alloc (byteRow ((wr.alloc (byteRow wr.drew p.2 5)).drew.drew) p.1 5)).drew.drew.drew) (((wr.alloc (byteRow wr.drew p.2 5)).alloc (byteRow ((wr.alloc (byteRow wr.drew p.2 5)).drew.drew) p.1 5)).drew.drew.drew).heap.size (some ⟨wr.heap.size + 1, 0, none⟩) (bytes p.1) from by
        have h := byteRow_rd ((wr.alloc (byteRow wr.drew p.2 5)).drew.drew) p.1 5 (B := (((wr.alloc (byteRow wr.drew p.2 5)).alloc (byteRow ((wr.alloc (byteRow wr.drew p.2 5)).drew.drew) p.1 5)).drew.drew.drew).heap.size) (by simp)
        have e : ((wr.alloc (byteRow wr.drew p.2 5)).drew.drew).heap.size = wr.heap.size + 1 := by simp
        rw [e] at h
        exact h)
      have HB1 := Lib.hid (show Below wr.heap.size wr ((wr.alloc (byteRow wr.drew p.1 5)).drew.drew) from ((Below.refl _ _).alloc (Nat.le_refl _) _).drew.drew)
      have HB12 := Lib.hid (show Below wr.heap.size wr (((wr.alloc (byteRow wr.drew p.1 5)).alloc (byteRow ((wr.alloc (byteRow wr.drew p.1 5)).drew.drew) p.2 5)).drew.drew.drew) from (((Below.refl _ _).alloc (Nat.le_refl _) _).alloc (by simp) _).drew.drew.drew)
      have HB21 := Lib.hid (show Below wr.heap.size wr (((wr.alloc (byteRow wr.drew p.2 5)).alloc (byteRow ((wr.alloc (byteRow wr.drew p.2 5)).drew.drew) p.1 5)).drew.drew.drew) from (((Below.refl _ _).alloc (Nat.le_refl _) _).alloc (by simp) _).drew.drew.drew)
      by_cases hj1 : j = 0
      · have hj2 : ¬ (0 : Int) < (j : Int) := by omega
        have hTe : str (qJ l j) = str T := by rw [hT, hj1]; rfl
        rw [hTe]
        clear hT hTe HN hj1
        go_wp2
        go_region_with (first
          | (go_at_call 50; go_fit (C1.out (some ⟨wr.heap.size, 0, none⟩) (grownCap wr.drew p.1.length 0 5) ((wr.alloc (byteRow wr.drew p.1 5)).drew.drew) HR1.out); rintro e w3 ⟨rfl, hb3⟩; have hbb := bnext HB1.out hb3; have hd1 := cell_on hbb hc1 hgb; have hd2 := cell_on hbb hc2 hgb; have HZ := Lib.hid (show Rd (w3.alloc (byteRow w3 p.2 5)).drew (w3.alloc (byteRow w3 p.2 5)).drew.heap.size (some ⟨w3.heap.size, 0, none⟩) (bytes p.2) from byteRow_rd w3 p.2 _ (by simp)))
          | (go_at_call 50; go_fit (C1.out (some ⟨wr.heap.size, 0, none⟩) (grownCap wr.drew p.1.length 0 5) (((wr.alloc (byteRow wr.drew p.1 5)).alloc (byteRow ((wr.alloc (byteRow wr.drew p.1 5)).drew.drew) p.2 5)).drew.drew.drew) HX1.out); rintro e w3 ⟨rfl, hb3⟩; have hbb := bnext HB12.out hb3; have hd1 := cell_on hbb hc1 hgb; have hd2 := cell_on hbb hc2 hgb; have HZ := Lib.hid (Rd.next HX2.out hb3))
          | (go_at_call 50; go_fit (C1.out (some ⟨wr.heap.size + 1, 0, none⟩) (grownCap ((wr.alloc (byteRow wr.drew p.2 5)).drew.drew) p.1.length 0 5) (((wr.alloc (byteRow wr.drew p.2 5)).alloc (byteRow ((wr.alloc (byteRow wr.drew p.2 5)).drew.drew) p.1 5)).drew.drew.drew) HY1.out); rintro e w3 ⟨rfl, hb3⟩; have hbb := bnext HB21.out hb3; have hd1 := cell_on hbb hc1 hgb; have hd2 := cell_on hbb hc2 hgb; have HZ := Lib.hid (Rd.next HY2.out hb3))
          | (go_at_call 50; go_fit (C2.out _ _ (w3.alloc (byteRow w3 p.2 5)).drew HZ.out); rintro e w4 ⟨rfl, hb4⟩; have hbz := bnext hbb (bnext (show Below w3.heap.size w3 (w3.alloc (byteRow w3 p.2 5)).drew from ((Below.refl _ _).alloc (Nat.le_refl _) _).drew) hb4))
          | (go_at_call 50; go_fit (C2.out _ _ w3 HZ.out); rintro e w4 ⟨rfl, hb4⟩; have hbz := bnext hbb hb4))
        all_goals go_wp2
        all_goals go_roundg (l.length - (j + 1))
        all_goals first
          | (case measure => omega)
          | (case rel => exact ⟨j + 1, rfl, by omega, by go_num, by rw [HN3.out], hbel.trans (hbz.mono hq0)⟩)
      · have hj2 : (0 : Int) < (j : Int) := by omega
        have ha0 : str (qJ l j) ++ { data := #[38] } = str T := (str_app (qJ l j) [38]).trans (by rw [hT]; unfold qK; rw [if_neg hj1])
        have hy := str_size (qJ l j)
        have hk0 : (9223372036854775807 < (qJ l j).length + 1) = False := eq_false (by have := HJL.out j; omega)
        clear hT HN hj1
        go_wp2
        go_region_with (first
          | (go_at_call 50; go_fit (C1.out (some ⟨wr.heap.size, 0, none⟩) (grownCap wr.drew p.1.length 0 5) ((wr.alloc (byteRow wr.drew p.1 5)).drew.drew) HR1.out); rintro e w3 ⟨rfl, hb3⟩; have hbb := bnext HB1.out hb3; have hd1 := cell_on hbb hc1 hgb; have hd2 := cell_on hbb hc2 hgb; have HZ := Lib.hid (show Rd (w3.alloc (byteRow w3 p.2 5)).drew (w3.alloc (byteRow w3 p.2 5)).drew.heap.size (some ⟨w3.heap.size, 0, none⟩) (bytes p.2) from byteRow_rd w3 p.2 _ (by simp)))
          | (go_at_call 50; go_fit (C1.out (some ⟨wr.heap.size, 0, none⟩) (grownCap wr.drew p.1.length 0 5) (((wr.alloc (byteRow wr.drew p.1 5)).alloc (byteRow ((wr.alloc (byteRow wr.drew p.1 5)).drew.drew) p.2 5)).drew.drew.drew) HX1.out); rintro e w3 ⟨rfl, hb3⟩; have hbb := bnext HB12.out hb3; have hd1 := cell_on hbb hc1 hgb; have hd2 := cell_on hbb hc2 hgb; have HZ := Lib.hid (Rd.next HX2.out hb3))
          | (go_at_call 50; go_fit (C1.out (some ⟨wr.heap.size + 1, 0, none⟩) (grownCap ((wr.alloc (byteRow wr.drew p.2 5)).drew.drew) p.1.length 0 5) (((wr.alloc (byteRow wr.drew p.2 5)).alloc (byteRow ((wr.alloc (byteRow wr.drew p.2 5)).drew.drew) p.1 5)).drew.drew.drew) HY1.out); rintro e w3 ⟨rfl, hb3⟩; have hbb := bnext HB21.out hb3; have hd1 := cell_on hbb hc1 hgb; have hd2 := cell_on hbb hc2 hgb; have HZ := Lib.hid (Rd.next HY2.out hb3))
          | (go_at_call 50; go_fit (C2.out _ _ (w3.alloc (byteRow w3 p.2 5)).drew HZ.out); rintro e w4 ⟨rfl, hb4⟩; have hbz := bnext hbb (bnext (show Below w3.heap.size w3 (w3.alloc (byteRow w3 p.2 5)).drew from ((Below.refl _ _).alloc (Nat.le_refl _) _).drew) hb4))
          | (go_at_call 50; go_fit (C2.out _ _ w3 HZ.out); rintro e w4 ⟨rfl, hb4⟩; have hbz := bnext hbb hb4))
        all_goals go_wp2
        all_goals go_roundg (l.length - (j + 1))
        all_goals first
          | (case measure => omega)
          | (case rel => exact ⟨j + 1, rfl, by omega, by go_num, by rw [HN3.out], hbel.trans (hbz.mono hq0)⟩)
    · obtain rfl : j = l.length := by omega
      have HE := Lib.hid (show qJ l l.length = qShow l by unfold qJ; rw [List.take_length])
      go_wp2
      go_ret
      exact ⟨by rw [HE.out]; rfl, hbel⟩
end Go.Proofs.YtpoaeppapmbkpaaDoor

