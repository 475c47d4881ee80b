/- shortcutref1.Decode. -/
import Derived.Test.YtnnphploekchbaaDoorRefB
import Derived.Test.YtnnphploekchbaaDoorStep
namespace Go.Proofs.YtnnphploekchbaaDoor
set_option linter.all false
open Go.RowKit

set_option maxRecDepth 100000 in
set_option maxHeartbeats 2000000 in
/-- shortcutref1.Decode. -/
theorem rdecode_any (A : Option Addr) (c : Nat) (l : List UInt8) (w : World) (hr : Rd w w.heap.size A (bytes l)) (hc : l.length ≤ c) (hcm : c ≤ maxLen) (hl : l.length ≤ 400000) :
    Calls Tryd.prog 58 #[.slice A l.length c] w fun e w' => ∃ v, e = .returned v ∧
      w'.ownsRow w.heap.size 21 1 v (runes (uDec l)).length (runes (uDec l)) ∧ Below w.heap.size w w' := by
  go_enter Tryd.func58, Tryd.ntmps58
  go_wp2
  go_loopg [0, 3] (l.length) (fun k s0 v wr => ∃ (A' : Option Addr) (c' : Nat) (rest : List UInt8) (done : List Int), s0 = .slice A' rest.length c' ∧ rest.length = k ∧ rest.length ≤ c' ∧ c' ≤ maxLen ∧ Rd wr w.heap.size A' (bytes rest) ∧
    Hid (uDec l = done ++ uDec rest ∧ done.length + rest.length ≤ l.length) ∧ wr.ownsRow w.heap.size 21 1 v (runes done).length (runes done) ∧ Below w.heap.size w wr)
  case atStart => exact ⟨A, c, l, [], rfl, rfl, hc, hcm, hr, ⟨rfl, by simp⟩, World.ownsRow_nil _ _ _ _, Below.refl _ _⟩
  case round =>
    obtain ⟨A', c', rest, done, rfl, rfl, hc', hcm', hr', hd, hown, hbel⟩ := hrel
    by_cases h0 : 0 < rest.length
    · have hrd := hr'
      obtain ⟨bk, off, rfl, hbk, hcell⟩ := hr' (by rw [bytes_len]; exact h0)
      have hone := at_any bk off c' rest wr h0 hc' hcm' (Nat.lt_of_lt_of_le hbk hbel.size) (hrd.mono hbel.size)
      have hbd := dec1_bd rest h0
      obtain ⟨r, hr1⟩ : ∃ r, r = (dec1 rest).1 := ⟨_, rfl⟩
      obtain ⟨n, hn1⟩ : ∃ n, n = (dec1 rest).2 := ⟨_, rfl⟩
      rw [← hr1, ← hn1] at hone
      rw [← hn1] at hbd
      have HONE := Lib.hid hone
      have H1 := Lib.hid hr1
      have H2 := Lib.hid hn1
      clear hone hr1 hn1 hcell
      unfold maxLen at hcm'
      obtain ⟨hn0, hn4⟩ := hbd
      have hw := hbel.size
      have hlen : (runes done).length ≤ 500000 := by have := hd.out.2; rw [runes_len]; omega
      have hrw : Rd wr w.heap.size (some ⟨bk, off, none⟩) (bytes rest) := hrd
      have h1i : (1 : Int) ≤ (rest.length : Int) := by omega
      have hni : (n : Int) ≤ (rest.length : Int) := by omega
      have hn00 : (0 : Int) ≤ (n : Int) := by omega
      rcases Nat.eq_zero_or_pos n with hz | hz
      · subst hz
        by_cases hcs : c' = 1
        · subst hcs
          go_wp2_with (go_at_call 80; go_must (go_fit HONE.out); rintro e w1 ⟨rfl, hb1⟩; have hown1 := own_below hown hb1 (Nat.le_refl _); have hw1 := hb1.size)
          go_region_law (refine step_append_cells rfl _ _ _ rfl w.heap.size _ _ 1 4 Tryd.underlying74 info_i32u rfl (by decide) _ _ _ rfl (hown1.alloc _) w1.heap.size #[.int .i32 r] 1 1 21 (0, 0) rfl (heap_alloc_new w1 _) rfl (by simp [Value.oneCell']) (by omega) (by decide) (by simp; omega) ?_; intro A2 c2 w2 hc2 hm2 hown2 hb2' hg2; have hb2 : Below w.heap.size w1 w2 := (((Below.refl _ _).alloc (Nat.le_trans hw hw1) _).drew).trans hb2')
          all_goals (try go_wp2)
          all_goals go_roundg ((rest.drop (1)).length)
          all_goals
            first
            | (case measure => rw [List.length_drop]; omega)
            | (case rel =>
                 refine ⟨_, _, rest.drop (1), done ++ [r], slice_len (by first | (rw [List.length_drop]; omega) | rw [List.length_drop]), rfl, by rw [List.length_drop]; omega, by unfold maxLen; omega, rd_step ((hrw.below (hb1.mono hw)).below hb2) (by omega), ?_, own_eq hown2 ?_ ?_, (hbel.trans (hb1.mono hw)).trans hb2⟩
                 · obtain ⟨d1, d2⟩ := hd.out
                   refine ⟨?_, by rw [List.length_append, List.length_drop]; simp; omega⟩
                   rw [d1, uDec_step h0, ← H1.out, ← H2.out]; simp
                 · rw [runes_append, List.length_append]; rfl
                 · rw [runes_append]; rfl)
        · go_wp2_with (go_at_call 80; go_must (go_fit HONE.out); rintro e w1 ⟨rfl, hb1⟩; have hown1 := own_below hown hb1 (Nat.le_refl _); have hw1 := hb1.size)
          go_region_law (refine step_append_cells rfl _ _ _ rfl w.heap.size _ _ 1 4 Tryd.underlying74 info_i32u rfl (by decide) _ _ _ rfl (hown1.alloc _) w1.heap.size #[.int .i32 r] 1 1 21 (0, 0) rfl (heap_alloc_new w1 _) rfl (by simp [Value.oneCell']) (by omega) (by decide) (by simp; omega) ?_; intro A2 c2 w2 hc2 hm2 hown2 hb2' hg2; have hb2 : Below w.heap.size w1 w2 := (((Below.refl _ _).alloc (Nat.le_trans hw hw1) _).drew).trans hb2')
          all_goals (try go_wp2)
          all_goals go_roundg ((rest.drop (1)).length)
          all_goals
            first
            | (case measure => rw [List.length_drop]; omega)
            | (case rel =>
                 refine ⟨_, _, rest.drop (1), done ++ [r], slice_len (by first | (rw [List.length_drop]; omega) | rw [List.length_drop]), rfl, by rw [List.length_drop]; omega, by unfold maxLen; omega, rd_step ((hrw.below (hb1.mono hw)).below hb2) (by omega), ?_, own_eq hown2 ?_ ?_, (hbel.trans (hb1.mono hw)).trans hb2⟩
                 · obtain ⟨d1, d2⟩ := hd.out
                   refine ⟨?_, by rw [List.length_append, List.length_drop]; simp; omega⟩
                   rw [d1, uDec_step h0, ← H1.out, ← H2.out]; simp
                 · rw [runes_append, List.length_append]; rfl
                 · rw [runes_append]; rfl)
      · have hmx : (if (n : Int) < 1 then (1 : Int) else (n : Int)) = (n : Int) := if_neg (by omega)
        by_cases hcs : c' = n
        · subst hcs
          go_wp2_with (go_at_call 80; go_must (go_fit HONE.out); rintro e w1 ⟨rfl, hb1⟩; have hown1 := own_below hown hb1 (Nat.le_refl _); have hw1 := hb1.size)
          go_region_law (refine step_append_cells rfl _ _ _ rfl w.heap.size _ _ 1 4 Tryd.underlying74 info_i32u rfl (by decide) _ _ _ rfl (hown1.alloc _) w1.heap.size #[.int .i32 r] 1 1 21 (0, 0) rfl (heap_alloc_new w1 _) rfl (by simp [Value.oneCell']) (by omega) (by decide) (by simp; omega) ?_; intro A2 c2 w2 hc2 hm2 hown2 hb2' hg2; have hb2 : Below w.heap.size w1 w2 := (((Below.refl _ _).alloc (Nat.le_trans hw hw1) _).drew).trans hb2')
          all_goals (try go_wp2)
          all_goals go_roundg ((rest.drop (c')).length)
          all_goals
            first
            | (case measure => rw [List.length_drop]; omega)
            | (case rel =>
                 refine ⟨_, _, rest.drop (c'), done ++ [r], slice_len (by first | (rw [List.length_drop]; omega) | rw [List.length_drop]), rfl, by rw [List.length_drop]; omega, by unfold maxLen; omega, rd_step ((hrw.below (hb1.mono hw)).below hb2) (by omega), ?_, own_eq hown2 ?_ ?_, (hbel.trans (hb1.mono hw)).trans hb2⟩
                 · obtain ⟨d1, d2⟩ := hd.out
                   refine ⟨?_, by rw [List.length_append, List.length_drop]; simp; omega⟩
                   rw [d1, uDec_step h0, ← H1.out, ← H2.out]; simp [show max c' 1 = c' from by omega]
                 · rw [runes_append, List.length_append]; rfl
                 · rw [runes_append]; rfl)
        · go_wp2_with (go_at_call 80; go_must (go_fit HONE.out); rintro e w1 ⟨rfl, hb1⟩; have hown1 := own_below hown hb1 (Nat.le_refl _); have hw1 := hb1.size)
          go_region_law (refine step_append_cells rfl _ _ _ rfl w.heap.size _ _ 1 4 Tryd.underlying74 info_i32u rfl (by decide) _ _ _ rfl (hown1.alloc _) w1.heap.size #[.int .i32 r] 1 1 21 (0, 0) rfl (heap_alloc_new w1 _) rfl (by simp [Value.oneCell']) (by omega) (by decide) (by simp; omega) ?_; intro A2 c2 w2 hc2 hm2 hown2 hb2' hg2; have hb2 : Below w.heap.size w1 w2 := (((Below.refl _ _).alloc (Nat.le_trans hw hw1) _).drew).trans hb2')
          all_goals (try go_wp2)
          all_goals go_roundg ((rest.drop (n)).length)
          all_goals
            first
            | (case measure => rw [List.length_drop]; omega)
            | (case rel =>
                 refine ⟨_, _, rest.drop (n), done ++ [r], slice_len (by first | (rw [List.length_drop]; omega) | rw [List.length_drop]), rfl, by rw [List.length_drop]; omega, by unfold maxLen; omega, rd_step ((hrw.below (hb1.mono hw)).below hb2) (by omega), ?_, own_eq hown2 ?_ ?_, (hbel.trans (hb1.mono hw)).trans hb2⟩
                 · obtain ⟨d1, d2⟩ := hd.out
                   refine ⟨?_, by rw [List.length_append, List.length_drop]; simp; omega⟩
                   rw [d1, uDec_step h0, ← H1.out, ← H2.out]; simp [show max n 1 = n from by omega]
                 · rw [runes_append, List.length_append]; rfl
                 · rw [runes_append]; rfl)
    · have h00 : rest = [] := List.eq_nil_of_length_eq_zero (by omega)
      subst h00
      go_wp2
      go_ret
      have e : uDec l = done := by have := hd.out.1; rw [uDec_nil, List.append_nil] at this; exact this
      rw [e]
      exact ⟨_, rfl, hown, hbel⟩
end Go.Proofs.YtnnphploekchbaaDoor

