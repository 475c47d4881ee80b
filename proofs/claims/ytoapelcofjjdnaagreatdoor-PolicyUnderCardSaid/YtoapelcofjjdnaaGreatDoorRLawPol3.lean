/- The walk of the statement PolicyUnder. -/
import Derived.Test.YtoapelcofjjdnaaGreatDoorRLawPol
namespace Go.Proofs.YtoapelcofjjdnaaGreatDoor
set_option linter.all false
open Go.RowKit
theorem rd_one (w : World) (s : List UInt8) : Rd (w.alloc (.cells #[.string (str s)] 9)) (w.alloc (.cells #[.string (str s)] 9)).heap.size (some ⟨w.heap.size, 0, none⟩) (strs [s]) := by
 obtain ⟨A2, c2, e, _, _, h3⟩ := own_rdN (World.ownsRow_lit w (e := 9) (size := 1) #[.string (str s)] 1 (Nat.le_refl _) (by decide) rfl)
 injection e with e1 e2 e3
 rw [e1]; exact h3
set_option maxRecDepth 100000 in
set_option maxHeartbeats 8000000 in
theorem policyUnder_walk (h s : List UInt8) (w : World) (hm : ML w) :
  Calls Tryz.prog 9 #[.string (str h), .string (str s)] w fun e w' => e = .returned (.bool true) ∧ Below w.heap.size w w' := by
 have hsh := str_size h
 have hss := str_size s
 have hgs := str_get s
 by_cases h1 : (30 : Int) < (h.length : Int)
 ·
  skip
  go_enter Tryz.func9, Tryz.ntmps9
  go_wp2_with (go_at_call 21; go_must (go_fit (begun14_any _ hm)); rintro e w1 ⟨rfl, hb1⟩)
  go_ret
  exact ⟨rfl, hb1⟩
 ·
  have h1I : (h.length : Int) ≤ 30 := by omega
  by_cases h2 : (30 : Int) < (s.length : Int)
  ·
   clear h1
   go_enter Tryz.func9, Tryz.ntmps9
   go_wp2_with (go_at_call 21; go_must (go_fit (begun14_any _ hm)); rintro e w1 ⟨rfl, hb1⟩)
   go_ret
   exact ⟨rfl, hb1⟩
  ·
   have h2I : (s.length : Int) ≤ 30 := by omega
   by_cases h3 : s.length = 0
   ·
    have h3I : ((s.length : Int) == 0) = true := by rw [beq_iff_eq]; omega
    clear h1 h2
    go_enter Tryz.func9, Tryz.ntmps9
    go_wp2_with (go_at_call 21; go_must (go_fit (begun14_any _ hm)); rintro e w1 ⟨rfl, hb1⟩)
    go_ret
    exact ⟨rfl, hb1⟩
   ·
    have h3I : ((s.length : Int) == 0) = false := by rw [beq_eq_false_iff_ne]; omega
    obtain ⟨M, hM⟩ : ∃ M, M = s.length - 1 := ⟨_, rfl⟩
    have hMI : (s.length : Int) - 1 = (M : Int) := by omega
    have hMw : IntKind.i64.wrap (M : Int) = (M : Int) := IntWalk.i64_in _ (by omega)
    have hM0 : (0 : Int) ≤ (M : Int) := by omega
    have hM3 : (M : Int) < (s.length : Int) := by omega
    have hlast : s.getLast? = some (gb s M) := by rw [List.getLast?_eq_getElem?, ← hM]; exact gb_some (by omega)
    by_cases h46 : gb s M = 46
    ·
     have q1 : (((gb s M).toNat : Int) == 46) = true := by rw [h46]; rfl
     clear h1 h2 h3 hM hlast h46
     go_enter Tryz.func9, Tryz.ntmps9
     go_wp2_with (go_at_call 21; go_must (go_fit (begun14_any _ hm)); rintro e w1 ⟨rfl, hb1⟩)
     go_ret
     exact ⟨rfl, hb1⟩
    ·
     have q1 : (((gb s M).toNat : Int) == 46) = false := by rw [beq_eq_false_iff_ne]; exact fun e => h46 (byte_ext (by show _ = 46; omega))
     have hl : s.getLast? ≠ some 46 := by rw [hlast]; simpa using h46
     have hne : s ≠ [] := fun e => h3 (by rw [e]; rfl)
     obtain ⟨S1, hS1⟩ : ∃ Z0, Z0 = h ++ [46] := ⟨_, rfl⟩
     have eS1 : str h ++ { data := #[46] } = str S1 := (str_app h [46]).trans (by rw [hS1])
     have nS1 : S1.length ≤ 31 := by rw [hS1, List.length_append]; simp only [List.length_cons, List.length_nil]; omega
     have yS1 := str_size S1
     have kS1 : (9223372036854775807 < h.length + 1) = False := eq_false (by omega)
     obtain ⟨S2, hS2⟩ : ∃ Z0, Z0 = S1 ++ s := ⟨_, rfl⟩
     have eS2 : str S1 ++ str s = str S2 := (str_app S1 s).trans (by rw [hS2])
     have nS2 : S2.length ≤ 61 := by rw [hS2, List.length_append]; omega
     have yS2 := str_size S2
     have kS2 : (9223372036854775807 < S1.length + s.length) = False := eq_false (by omega)
     obtain ⟨S4, hS4⟩ : ∃ Z0, Z0 = s ++ [46] := ⟨_, rfl⟩
     have eS4 : str s ++ { data := #[46] } = str S4 := (str_app s [46]).trans (by rw [hS4])
     have nS4 : S4.length ≤ 31 := by rw [hS4, List.length_append]; simp only [List.length_cons, List.length_nil]; omega
     have yS4 := str_size S4
     have kS4 : (9223372036854775807 < s.length + 1) = False := eq_false (by omega)
     have hT2 : S2 = h ++ 46 :: s := by rw [hS2, hS1]; simp
     obtain ⟨S3, hS3⟩ : ∃ S3, S3 = h ++ 46 :: lhost := ⟨_, rfl⟩
     have eS3 : str h ++ { data := #[46, 108, 111, 99, 97, 108, 104, 111, 115, 116] } = str S3 := by rw [hS3]; exact str_app h (46 :: lhost)
     have nS3 : S3.length ≤ 60 := by rw [hS3, List.length_append]; simp only [List.length_cons, lhost, List.length_nil]; omega
     have yS3 := str_size S3
     have kS3 : (9223372036854775807 < h.length + 10) = False := eq_false (by omega)
     have D1 := Lib.hid fun (w' : World) A c (hr : Rd w' w'.heap.size A (strs [s])) (hm : ML w') => pblocked_any S2 A c [s] w' hr hm (by omega) (by simp)
     have D2 := Lib.hid fun (w' : World) A c (hr : Rd w' w'.heap.size A (strs [s])) (hm : ML w') => pblocked_any s A c [s] w' hr hm (by omega) (by simp)
     have D3 := Lib.hid fun (w' : World) A c (hr : Rd w' w'.heap.size A (strs [s])) (hm : ML w') => pblocked_any S4 A c [s] w' hr hm (by omega) (by simp)
     have D4 := Lib.hid fun (w' : World) (hm : ML w') => pblocked_any S3 none 0 [] w' Rd.nil hm (by omega) (by decide)
     have D5 := Lib.hid fun (w' : World) (hm : ML w') => pblocked_any s none 0 [] w' Rd.nil hm (by omega) (by decide)
     have D6 := Lib.hid fun (w' : World) (hm : ML w') => pblocked_any S2 none 0 [] w' Rd.nil hm (by omega) (by decide)
     rw [show blk S2 [s] = true by rw [hT2]; exact blk_more hne hl (blk_self hl)] at D1
     rw [show blk s [s] = true from blk_self hl] at D2
     rw [show blk S4 [s] = true by rw [hS4]; exact blk_dot] at D3
     rw [show blk S3 [] = true by rw [hS3]; exact blk_local h] at D4
     have HM := Lib.hid fun (e : blk s [] = true) => (show blk S2 [] = true by rw [hT2]; exact blk_more hne hl e)
     cases hb : blk s [] with
     | false =>
      rw [hb] at D5
      clear h1 h2 h3 hM hlast h46 hl hne hT2 hS1 hS2 hS3 hS4 hb HM D6
      go_enter Tryz.func9, Tryz.ntmps9
      go_wp2_with (first
       | (go_at_call 21; go_must (go_fit (begun14_any _ hm)); rintro e w1 ⟨rfl, hb1⟩)
       | (go_at_call 26; go_fit (D1.out (w1.alloc (.cells #[.string (str s)] 9)) _ _ (rd_one w1 s) (hm.next (bnew hb1 _))); rintro e w2 ⟨rfl, hb2⟩; have hB2 := bnext (bnew hb1 (.cells #[.string (str s)] 9)) hb2)
       | (go_at_call 26; go_fit (D2.out (w2.alloc (.cells #[.string (str s)] 9)) _ _ (rd_one w2 s) (hm.next (bnew hB2 _))); rintro e w3 ⟨rfl, hb3⟩; have hB3 := bnext (bnew hB2 (.cells #[.string (str s)] 9)) hb3)
       | (go_at_call 26; go_fit (D3.out (w3.alloc (.cells #[.string (str s)] 9)) _ _ (rd_one w3 s) (hm.next (bnew hB3 _))); rintro e w4 ⟨rfl, hb4⟩; have hB4 := bnext (bnew hB3 (.cells #[.string (str s)] 9)) hb4)
       | (go_at_call 26; go_fit (D4.out w4 (hm.next hB4)); rintro e w5 ⟨rfl, hb5⟩; have hB5 := bnext hB4 hb5)
       | (go_at_call 26; go_must (go_fit (D5.out w5 (hm.next hB5))); rintro e w6 ⟨rfl, hb6⟩; have hB6 := bnext hB5 hb6))
      go_ret
      exact ⟨rfl, hB6⟩
     | true =>
      rw [hb] at D5
      rw [HM.out hb] at D6
      clear h1 h2 h3 hM hlast h46 hl hne hT2 hS1 hS2 hS3 hS4 hb HM
      go_enter Tryz.func9, Tryz.ntmps9
      go_wp2_with (first
       | (go_at_call 21; go_must (go_fit (begun14_any _ hm)); rintro e w1 ⟨rfl, hb1⟩)
       | (go_at_call 26; go_fit (D1.out (w1.alloc (.cells #[.string (str s)] 9)) _ _ (rd_one w1 s) (hm.next (bnew hb1 _))); rintro e w2 ⟨rfl, hb2⟩; have hB2 := bnext (bnew hb1 (.cells #[.string (str s)] 9)) hb2)
       | (go_at_call 26; go_fit (D2.out (w2.alloc (.cells #[.string (str s)] 9)) _ _ (rd_one w2 s) (hm.next (bnew hB2 _))); rintro e w3 ⟨rfl, hb3⟩; have hB3 := bnext (bnew hB2 (.cells #[.string (str s)] 9)) hb3)
       | (go_at_call 26; go_fit (D3.out (w3.alloc (.cells #[.string (str s)] 9)) _ _ (rd_one w3 s) (hm.next (bnew hB3 _))); rintro e w4 ⟨rfl, hb4⟩; have hB4 := bnext (bnew hB3 (.cells #[.string (str s)] 9)) hb4)
       | (go_at_call 26; go_fit (D4.out w4 (hm.next hB4)); rintro e w5 ⟨rfl, hb5⟩; have hB5 := bnext hB4 hb5)
       | (go_at_call 26; go_fit (D5.out w5 (hm.next hB5)); rintro e w6 ⟨rfl, hb6⟩; have hB6 := bnext hB5 hb6)
       | (go_at_call 26; go_must (go_fit (D6.out w6 (hm.next hB6))); rintro e w7 ⟨rfl, hb7⟩; have hB7 := bnext hB6 hb7))
      go_ret
      exact ⟨rfl, hB7⟩
end Go.Proofs.YtoapelcofjjdnaaGreatDoor
