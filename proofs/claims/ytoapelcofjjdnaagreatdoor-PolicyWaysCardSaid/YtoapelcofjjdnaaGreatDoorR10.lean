/- A part of the proof. -/
import Derived.Test.YtoapelcofjjdnaaGreatDoorR09
import Derived.Deep.CutBlock
import Derived.Deep.DeepCutAuto
namespace Go.Proofs.YtoapelcofjjdnaaGreatDoor
set_option linter.all false
open Go.RowKit
theorem zeros_hit {l : List Nat} {j : Nat} (h : l[j]? = some 0) : zeros (l.drop j) = zeros (l.drop (j + 1)) + 1 := by
 obtain ⟨hj, e⟩ := List.getElem?_eq_some_iff.1 h
 unfold zeros
 rw [List.drop_eq_getElem_cons hj, e, List.takeWhile_cons, if_pos (by decide), List.length_cons]
theorem zeros_miss {l : List Nat} {j x : Nat} (h : l[j]? = some x) (hx : x ≠ 0) : zeros (l.drop j) = 0 := by
 obtain ⟨hj, e⟩ := List.getElem?_eq_some_iff.1 h
 unfold zeros
 rw [List.drop_eq_getElem_cons hj, e, List.takeWhile_cons, if_neg (by simpa using hx)]; rfl
set_option maxRecDepth 100000 in
set_option maxHeartbeats 8000000 in
theorem rfree6_any (a0 a1 a2 a3 a4 a5 a6 a7 : Nat) (h16 : ∀ x ∈ [a0, a1, a2, a3, a4, a5, a6, a7], x < 65536) (w : World) :
  Calls Tryz.prog 25 #[.agg #[.int .u16 (a0 : Int), .int .u16 (a1 : Int), .int .u16 (a2 : Int), .int .u16 (a3 : Int), .int .u16 (a4 : Int), .int .u16 (a5 : Int), .int .u16 (a6 : Int), .int .u16 (a7 : Int)]] w fun e w' => e = .returned (.bool (rfree6 [a0, a1, a2, a3, a4, a5, a6, a7])) ∧ Below w.heap.size w w' := by
 have b0 : a0 < 65536 := h16 _ (by simp)
 have b5 : a5 < 65536 := h16 _ (by simp)
 have b6 : a6 < 65536 := h16 _ (by simp)
 have b7 : a7 < 65536 := h16 _ (by simp)
 clear h16
 have hR : Row (w.alloc (.cells #[.int .u16 (a0 : Int), .int .u16 (a1 : Int), .int .u16 (a2 : Int), .int .u16 (a3 : Int), .int .u16 (a4 : Int), .int .u16 (a5 : Int), .int .u16 (a6 : Int), .int .u16 (a7 : Int)] 24)) w.heap.size (qs [a0, a1, a2, a3, a4, a5, a6, a7]) := Row.made14 w #[.int .u16 (a0 : Int), .int .u16 (a1 : Int), .int .u16 (a2 : Int), .int .u16 (a3 : Int), .int .u16 (a4 : Int), .int .u16 (a5 : Int), .int .u16 (a6 : Int), .int .u16 (a7 : Int)] 24
 have hB : Below w.heap.size w (w.alloc (.cells #[.int .u16 (a0 : Int), .int .u16 (a1 : Int), .int .u16 (a2 : Int), .int .u16 (a3 : Int), .int .u16 (a4 : Int), .int .u16 (a5 : Int), .int .u16 (a6 : Int), .int .u16 (a7 : Int)] 24)) := bnew (Below.refl _ _) _
 obtain ⟨W, hW⟩ : ∃ W, W = w.alloc (.cells #[.int .u16 (a0 : Int), .int .u16 (a1 : Int), .int .u16 (a2 : Int), .int .u16 (a3 : Int), .int .u16 (a4 : Int), .int .u16 (a5 : Int), .int .u16 (a6 : Int), .int .u16 (a7 : Int)] 24) := ⟨_, rfl⟩
 obtain ⟨g, hg⟩ : ∃ g, g = w.heap.size := ⟨_, rfl⟩
 obtain ⟨l, hl⟩ : ∃ l, l = [a0, a1, a2, a3, a4, a5, a6, a7] := ⟨_, rfl⟩
 rw [← hl, ← hW] at hR
 rw [← hW] at hB
 have k0 : W.cell? ⟨w.heap.size, 0, none⟩ = some (.int .u16 (a0 : Int)) := hR.1 0 _ (by rw [hl]; rfl)
 have k5 : W.cell? ⟨w.heap.size, 5, none⟩ = some (.int .u16 (a5 : Int)) := hR.1 5 _ (by rw [hl]; rfl)
 have k6 : W.cell? ⟨w.heap.size, 6, none⟩ = some (.int .u16 (a6 : Int)) := hR.1 6 _ (by rw [hl]; rfl)
 have k7 : W.cell? ⟨w.heap.size, 7, none⟩ = some (.int .u16 (a7 : Int)) := hR.1 7 _ (by rw [hl]; rfl)
 have HC := Lib.hid fun (j : Nat) (hj : j < 8) => (show ∃ x : Nat, W.cell? ⟨w.heap.size, j, none⟩ = some (.int .u16 (x : Int)) ∧ l[j]? = some x from by
  have hj' : j < l.length := by rw [hl]; exact hj
  exact ⟨l[j], hR.1 j _ (by unfold qs; rw [List.getElem?_map, List.getElem?_eq_getElem hj']; rfl), List.getElem?_eq_getElem hj'⟩)
 have HL8 := Lib.hid (show l.length = 8 by rw [hl]; rfl)
 have v1 : IntKind.u32.wrap (a6 : Int) = (a6 : Int) := u32_wrapQ (by omega)
 have v2 : IntKind.u32.wrap (a7 : Int) = (a7 : Int) := u32_wrapQ (by omega)
 have v3 : IntKind.u32.wrap ((a6 : Int) * 65536) = (a6 : Int) * 65536 := IntWalk.u32_in _ (by omega)
 have v4 := u32_orQ b6 b7
 obtain ⟨A, hA⟩ : ∃ A : Nat, A = a6 * 65536 + a7 := ⟨_, rfl⟩
 have C4 := Lib.hid fun w => rfree4_any A (by omega) w
 have HV := Lib.hid (show rfree6 l = if zeros l = 8 ∨ (zeros l = 7 ∧ a7 = 1) ∨ a0 / 512 = 126 ∨ a0 / 64 = 1018 ∨ a0 / 256 = 255 then false else if zeros l = 5 ∧ a5 = 65535 then rfree4 A else true by rw [hA, hl]; rfl)
 rw [← hA] at v4
 obtain ⟨z, hz⟩ : ∃ z, z = zeros l := ⟨_, rfl⟩
 have HZ := Lib.hid hz
 have hz8 : z ≤ 8 := by rw [hz, hl]; exact (List.takeWhile_prefix _).length_le
 rw [← hz] at HV
 rw [← hl]
 clear hA hz hl hR hg
 go_enter Tryz.func25, Tryz.ntmps25
 go_upto_block 0 with (fail)
 rw [← hW]
 clear hW
 go_cut [3] (fun s3 wq => s3 = .int .i64 (z : Int) ∧ W = wq)
 case first =>
  go_wp2
  go_loopg [3] (8) (fun k s3 wr => ∃ j : Nat, k = 8 - j ∧ j ≤ 8 ∧ s3 = .int .i64 (j : Int) ∧ Hid (zeros l = j + zeros (l.drop j)) ∧ W = wr)
  case atStart => exact ⟨0, rfl, Nat.zero_le _, rfl, by rw [List.drop_zero, Nat.zero_add]; exact Lib.hid rfl, rfl⟩
  case round =>
   obtain ⟨j, rfl, hj, rfl, hn, rfl⟩ := hrel
   by_cases hlt : j < 8
   ·
    obtain ⟨x, hcx, hx⟩ := HC.out j hlt
    have hlt1 : (j : Int) < 8 := by omega
    have hj0 : (0 : Int) ≤ (j : Int) := by omega
    by_cases h0 : x = 0
    ·
     have q1 : ((x : Int) == 0) = true := by rw [beq_iff_eq]; omega
     have HN := Lib.hid (show zeros l = j + 1 + zeros (l.drop (j + 1)) by rw [hn.out, zeros_hit (by rw [hx, h0])]; omega)
     clear h0 hx
     go_wp2
     go_roundg (8 - (j + 1))
     case measure => omega
     case rel => exact ⟨j + 1, rfl, by omega, by go_num, HN.out, rfl⟩
    ·
     have q1 : ((x : Int) == 0) = false := by rw [beq_eq_false_iff_ne]; omega
     have HN := Lib.hid (show z = j by rw [HZ.out, hn.out, zeros_miss hx h0]; omega)
     clear h0 hx
     go_wp2
     go_meet
     case rel => exact ⟨by rw [HN.out], rfl⟩
   ·
    obtain rfl : j = 8 := by omega
    have HN := Lib.hid (show z = 8 by rw [HZ.out, hn.out, List.drop_of_length_le (by rw [HL8.out]; exact Nat.le_refl _)]; rfl)
    clear hlt
    go_wp2
    go_meet
    case rel => exact ⟨by rw [HN.out], rfl⟩
 case rest =>
  obtain ⟨rfl, rfl⟩ := hcut
  clear HC HZ HL8
  by_cases h8 : z = 8
  ·
   have q8 : ((z : Int) == 8) = true := by rw [beq_iff_eq]; omega
   have HE := Lib.hid (HV.out.trans (if_pos (.inl h8)))
   clear h8
   go_wp2
   go_ret
   exact ⟨ret_bool HE.out.symm, hB⟩
  ·
   have q8 : ((z : Int) == 8) = false := by rw [beq_eq_false_iff_ne]; omega
   by_cases h71 : z = 7 ∧ a7 = 1
   ·
    have q7 : ((z : Int) == 7) = true := by rw [beq_iff_eq]; omega
    have q71 : ((a7 : Int) == 1) = true := by rw [beq_iff_eq]; omega
    have HE := Lib.hid (HV.out.trans (if_pos (.inr (.inl h71))))
    clear h8 h71
    go_wp2
    go_ret
    exact ⟨ret_bool HE.out.symm, hB⟩
   ·
    have h71' : ((z : Int) == 7) = false ∨ (((z : Int) == 7) = true ∧ ((a7 : Int) == 1) = false) := by
     by_cases e : z = 7
     · exact .inr ⟨by rw [beq_iff_eq]; omega, by rw [beq_eq_false_iff_ne]; intro e2; exact h71 ⟨e, by omega⟩⟩
     · exact .inl (by rw [beq_eq_false_iff_ne]; omega)
    by_cases h2 : a0 / 512 = 126
    ·
     have q2 : ((a0 : Int) / 512 == 126) = true := by rw [beq_iff_eq]; omega
     have HE := Lib.hid (HV.out.trans (if_pos (.inr (.inr (.inl h2)))))
     clear h8 h71 h2
     rcases h71' with q7 | ⟨q7, q71⟩
     all_goals
      go_wp2
      go_ret
      exact ⟨ret_bool HE.out.symm, hB⟩
    ·
     have q2 : ((a0 : Int) / 512 == 126) = false := by rw [beq_eq_false_iff_ne]; omega
     by_cases h3 : a0 / 64 = 1018
     ·
      have q3 : ((a0 : Int) / 64 == 1018) = true := by rw [beq_iff_eq]; omega
      have HE := Lib.hid (HV.out.trans (if_pos (.inr (.inr (.inr (.inl h3))))))
      clear h8 h71 h2 h3
      rcases h71' with q7 | ⟨q7, q71⟩
      all_goals
       go_wp2
       go_ret
       exact ⟨ret_bool HE.out.symm, hB⟩
     ·
      have q3 : ((a0 : Int) / 64 == 1018) = false := by rw [beq_eq_false_iff_ne]; omega
      by_cases h4 : a0 / 256 = 255
      ·
       have q4 : ((a0 : Int) / 256 == 255) = true := by rw [beq_iff_eq]; omega
       have HE := Lib.hid (HV.out.trans (if_pos (.inr (.inr (.inr (.inr h4))))))
       clear h8 h71 h2 h3 h4
       rcases h71' with q7 | ⟨q7, q71⟩
       all_goals
        go_wp2
        go_ret
        exact ⟨ret_bool HE.out.symm, hB⟩
      ·
       have q4 : ((a0 : Int) / 256 == 255) = false := by rw [beq_eq_false_iff_ne]; omega
       have HV2 := Lib.hid (HV.out.trans (if_neg (by rintro (e | e | e | e | e); exact h8 e; exact h71 e; exact h2 e; exact h3 e; exact h4 e)))
       by_cases h5 : z = 5
       ·
        have q5 : ((z : Int) == 5) = true := by rw [beq_iff_eq]; omega
        have q7 : ((z : Int) == 7) = false := by rw [beq_eq_false_iff_ne]; omega
        by_cases h55 : a5 = 65535
        ·
         have q55 : ((a5 : Int) == 65535) = true := by rw [beq_iff_eq]; omega
         have HE := Lib.hid (HV2.out.trans (if_pos ⟨h5, h55⟩))
         clear h8 h71 h71' h2 h3 h4 h5 h55
         go_wp2_with (go_at_call 23; go_must (go_fit (C4.out _)); rintro e w2 ⟨rfl, rfl⟩)
         go_ret
         exact ⟨ret_bool HE.out.symm, hB⟩
        ·
         have q55 : ((a5 : Int) == 65535) = false := by rw [beq_eq_false_iff_ne]; omega
         have HE := Lib.hid (HV2.out.trans (if_neg fun e => h55 e.2))
         clear h8 h71 h71' h2 h3 h4 h5 h55
         go_wp2
         go_ret
         exact ⟨ret_bool HE.out.symm, hB⟩
       ·
        have q5 : ((z : Int) == 5) = false := by rw [beq_eq_false_iff_ne]; omega
        have HE := Lib.hid (HV2.out.trans (if_neg fun e => h5 e.1))
        clear h8 h71 h2 h3 h4 h5
        rcases h71' with q7 | ⟨q7, q71⟩
        all_goals
         go_wp2
         go_ret
         exact ⟨ret_bool HE.out.symm, hB⟩
end Go.Proofs.YtoapelcofjjdnaaGreatDoor
