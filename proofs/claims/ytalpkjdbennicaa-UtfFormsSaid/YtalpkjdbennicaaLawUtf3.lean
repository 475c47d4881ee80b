/- The walk of the statement UtfForms. -/
import Derived.Test.YtalpkjdbennicaaLawUtf
import Derived.Test.YtalpkjdbennicaaTxt
namespace Go.Proofs.Ytalpkjdbennicaa
set_option linter.all false
open Go.RowKit

def uGood : List (List UInt8) := [[0], [127], [194, 128], [223, 191], [224, 160, 128], [237, 159, 191], [238, 128, 128], [239, 191, 191], [240, 144, 128, 128], [244, 143, 191, 191]]
def uBad : List (List UInt8) := [[128], [192, 128], [193, 191], [194], [224, 159, 191], [237, 160, 128], [240, 143, 191, 191], [244, 144, 128, 128], [248, 136, 128, 128, 128], [255]]
theorem uGood_all : ∀ x ∈ uGood, x.length ≤ 10 ∧ uVal x = true ∧ (uDec x).length = 1 := by decide +kernel
theorem uBad_all : ∀ x ∈ uBad, x.length ≤ 10 ∧ uVal x = false ∧ (uDec x).length = x.length ∧ (uDec x)[0]? = some 65533 ∧ 1 ≤ x.length := by decide +kernel

set_option maxRecDepth 100000 in
set_option maxHeartbeats 4000000 in
theorem utfForms_walk (w : World) : Calls Try.prog 12 #[] w fun e w' => e = .returned (.bool true) ∧ Below w.heap.size w w' := by
  go_enter Try.func12, Try.ntmps12
  go_wp2_with (go_at_call 29; go_must (go_fit (begun2_any w)); rintro e w1 ⟨rfl, hb1⟩)
  obtain ⟨w2, hw2⟩ : ∃ w2, w2 = (w1.alloc (.cells (strs uGood).toArray 9)).alloc (.cells (strs uBad).toArray 9) := ⟨_, rfl⟩
  have hF : Rd w2 (w1.heap.size + 2) (some ⟨w1.heap.size, 0, none⟩) (strs uGood) := by
    have := (@Rd.lit w1 (strs uGood).toArray 9 (0, 0)).alloc (Nat.le_refl _) (.cells (strs uBad).toArray 9)
    rw [← hw2] at this
    exact Rd.mono (by simpa using this) (by simp)
  have hT : Rd w2 (w1.heap.size + 2) (some ⟨w1.heap.size + 1, 0, none⟩) (strs uBad) := by
    have := @Rd.lit (w1.alloc (.cells (strs uGood).toArray 9)) (strs uBad).toArray 9 (0, 0)
    rw [← hw2] at this
    have hsz : w2.heap.size = w1.heap.size + 2 := by rw [hw2]; simp
    rw [hsz] at this
    simpa using this
  have hsz : w2.heap.size = w1.heap.size + 2 := by rw [hw2]; simp
  have hb2 : Below w.heap.size w w2 := by rw [hw2]; exact bnew (bnew hb1 _) _
  have HW := Lib.hid hw2
  have HS := Lib.hid hsz
  rw [← hsz] at hF hT
  clear hw2 hsz
  go_loopg [3] 10 (fun k i wr => ∃ j : Nat, k = 10 - j ∧ j ≤ 10 ∧ i = .int .i64 j ∧ Below w2.heap.size w2 wr)
  case atStart => exact ⟨0, rfl, Nat.zero_le _, rfl, by rw [HW.out]; exact Below.refl _ _⟩
  case round =>
    obtain ⟨j, rfl, hj, rfl, hbel⟩ := hrel
    by_cases hlt : j < 10
    · obtain ⟨b, off, x, hA, hb, hc, hx⟩ := (hF.below hbel).str_at (k := j) (by rw [show uGood.length = 10 from rfl]; exact hlt)
      injection hA with hA; injection hA with hA1 hA2'; subst hA1; subst hA2'
      obtain ⟨f1, f2, f3⟩ := uGood_all x (List.mem_of_getElem? hx.out)
      rw [Nat.zero_add] at hc
      have hlt1 : (j : Int) < 10 := by omega
      have hj0 : (0 : Int) ≤ (j : Int) := by omega
      have F3 := Lib.hid f3
      clear f3
      have hw2 := hbel.size
      go_wp2_with (first
        | (refine wpList_bytesL rfl _ _ _ _ rfl Try.underlying9 Try.underlying30 Try.underlying5 x rfl (by omega) ?_; intro c3 w3 hc3 hm3 hrow3 hr3 hb3 hz3; have q3 := hb3.size)
        | (go_at_call 34; go_must (go_fit (valid_any _ _ x _ (by assumption) (by assumption) (by assumption))); rintro e w4 ⟨rfl, hb4⟩; have hc4 := cell_on hb4 (cell_on hb3 hc (by omega)) (by omega); have hbel4 := hbel.trans ((hb3.mono hw2).trans (hb4.mono (by omega))); have q4 := hb4.size)
        | (go_at_call 30; go_must (go_fit (decode_any _ _ x _ (by assumption) (by assumption) (by assumption) (by omega))); rintro e w5 ⟨v5, rfl, hown5, hb5⟩; rw [runes_len, F3.out] at hown5; obtain ⟨A5, c5, rfl, hc5, hm5, hr5⟩ := own_rd hown5))
      go_roundg (10 - (j + 1))
      case measure => omega
      case rel => exact ⟨j + 1, rfl, by omega, by go_num, (hbel4.trans (hb3.mono (by omega))).trans (hb5.mono (by omega))⟩
    · obtain rfl : j = 10 := by omega
      clear hlt
      go_wp2
      obtain ⟨wo, hwo⟩ : ∃ wo : World, wo = wr := ⟨_, rfl⟩
      subst hwo
      go_loopg [4, 5] 10 (fun k i v wr => ∃ j : Nat, k = 10 - j ∧ j ≤ 10 ∧ i = .int .i64 j ∧ Below w2.heap.size w2 wr)
      case atStart => exact ⟨0, rfl, Nat.zero_le _, rfl, hbel⟩
      case round =>
        clear hbel
        obtain ⟨j, rfl, hj, rfl, hbel⟩ := hrel
        have hw2 := hbel.size
        by_cases hlt : j < 10
        · obtain ⟨b, off, x, hA, hb, hc, hx⟩ := (hT.below hbel).str_at (k := j) (by rw [show uBad.length = 10 from rfl]; exact hlt)
          injection hA with hA; injection hA with hA1 hA2'; subst hA1; subst hA2'
          obtain ⟨f1, f2, f3, f4, f5⟩ := uBad_all x (List.mem_of_getElem? hx.out)
          rw [Nat.zero_add] at hc
          have hlt1 : (j : Int) < 10 := by omega
          have hj0 : (0 : Int) ≤ (j : Int) := by omega
          have hsz := str_size x
          have F3 := Lib.hid f3
          have F4 := Lib.hid f4
          clear f3 f4
          go_wp2_with (first
            | (refine wpList_bytesL rfl _ _ _ _ rfl Try.underlying9 Try.underlying30 Try.underlying5 x rfl (by omega) ?_; intro c3 w3 hc3 hm3 hrow3 hr3 hb3 hz3; have q3 := hb3.size)
            | (go_at_call 30; go_must (go_fit (decode_any _ _ x _ (by assumption) (by assumption) (by assumption) (by omega))); rintro e w5 ⟨v5, rfl, hown5, hb5⟩; rw [runes_len, F3.out] at hown5; obtain ⟨A5, c5, rfl, hc5, hm5, hr5⟩ := own_rd hown5; obtain ⟨g5, o5, rfl, hg5, hce5⟩ := hr5 (by rw [runes_len, F3.out]; exact f5); have q5 := hb5.size; have hcz := hce5 0 (.int .i32 65533) (by unfold runes; rw [List.getElem?_map, F4.out]; rfl); rw [Nat.add_zero] at hcz; clear hce5; have hc5' := cell_on hb5 (cell_on hb3 hc (by omega)) (by omega); have hbel5 := hbel.trans ((hb3.mono hw2).trans (hb5.mono (by omega))))
            | (go_at_call 34; go_must (go_fit (valid_any _ _ x _ (by assumption) (by assumption) (by assumption))); rintro e w4 ⟨rfl, hb4⟩; have q4 := hb4.size; have hc4 := cell_on hb4 (cell_on hb3 hc5' (by omega)) (by omega); have hcz4 := cell_on hb4 (cell_on hb3 hcz (by omega)) (by omega)))
          go_roundg (10 - (j + 1))
          case measure => omega
          case rel => exact ⟨j + 1, rfl, by omega, by go_num, (hbel5.trans (hb3.mono (by omega))).trans (hb4.mono (by omega))⟩
        · obtain rfl : j = 10 := by omega
          have v0 : uVal [] = true := uVal_nil
          have C0 := Lib.hid fun (w : World) => valid_any none 0 [] w Rd.nil (Nat.le_refl _) (Nat.zero_le _)
          rw [v0] at C0
          clear v0
          go_wp2_with (first
            | (go_at_call 34; go_must (go_fit (C0.out _)); rintro e w4 ⟨rfl, hb4⟩)
            | (go_at_call 32; go_must (go_fit (encode_any none 0 [] _ Rd.nil (Nat.le_refl _) (Nat.zero_le _) (Nat.zero_le _))); rintro e w5 ⟨v5, rfl, hown5, hb5⟩; obtain ⟨A5, c5, rfl, hc5, hm5, hr5⟩ := own_rd hown5))
          go_ret
          exact ⟨ret_bool (by decide), bnext (bnext (hb2.trans (hbel.mono hb2.size)) hb4) hb5⟩
end Go.Proofs.Ytalpkjdbennicaa
