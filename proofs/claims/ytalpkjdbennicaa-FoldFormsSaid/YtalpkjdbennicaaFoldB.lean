/- fold.Text, and the reference's Map and Text. -/
import Derived.Test.YtalpkjdbennicaaFold
import Derived.Test.YtalpkjdbennicaaSame
namespace Go.Proofs.Ytalpkjdbennicaa
set_option linter.all false
open Go.RowKit

theorem own_eq2 {w : World} {base : Nat} {e : TypeId} {size n m : Nat} {v : Value} {xs ys : List Value} (h : w.ownsRow base e size v n xs) (hn : n = m) (hx : xs = ys) : w.ownsRow base e size v m ys := by
  subst hn; subst hx; exact h

set_option maxRecDepth 100000 in
set_option maxHeartbeats 1000000 in
theorem text_any (A : Option Addr) (c : Nat) (l : List Int) (w : World) (hr : Rd w w.heap.size A (runes l)) (hl : l.length ≤ 100000) :
    Calls Try.prog 27 #[.slice A l.length c] w fun e w' => ∃ v, e = .returned v ∧ w'.ownsRow w.heap.size 21 1 v (runes (fText l)).length (runes (fText l)) ∧ Below w.heap.size w w' := by
  go_enter Try.func27, Try.ntmps27
  go_wp2
  go_loopg [3, 10] (l.length) (fun k v i wr => ∃ j : Nat, k = l.length - j ∧ j ≤ l.length ∧ i = .int .i64 j ∧ wr.ownsRow w.heap.size 21 1 v (runes (fText (l.take j))).length (runes (fText (l.take j))) ∧ Below w.heap.size w wr)
  case atStart => exact ⟨0, rfl, Nat.zero_le _, rfl, World.ownsRow_nil _ _ _ _, Below.refl _ _⟩
  case round =>
    obtain ⟨j, rfl, hj, rfl, hown, hbel⟩ := hrel
    by_cases hlt : j < l.length
    · obtain ⟨b, off, x, rfl, hb, hc, hx⟩ := (hr.below hbel).rune_at hlt
      have hlt1 : (j : Int) < (l.length : Int) := by omega
      have hj0 : (0 : Int) ≤ (j : Int) := by omega
      have hw := hbel.size
      have hty : (runes (fText (l.take j))).length ≤ 100000 := by have := fText_le (l.take j); rw [List.length_take] at this; rw [runes_len]; omega
      by_cases hk : mKeep x = true
      · go_wp2_with (first
          | (go_at_call 24; go_must (go_fit (map_any x wr)); rintro e w1 ⟨rfl, hb1⟩; have hw1 := hb1.size)
          | (at_builtin; refine wpList_append_lit rfl _ _ _ rfl w.heap.size _ _ 1 4 Try.underlying26 info_i32 rfl (by decide) _ _ _ rfl (own_below hown hb1 (Nat.le_refl _)) _ 1 1 _ rfl rfl (by simp [Value.oneCell']) (by omega) (by decide) (by omega) ?_; intro A1 c1 w2 hc1 hm1 hown1 hb2 hg2))
        go_roundg (l.length - (j + 1))
        case measure => omega
        case rel =>
          refine ⟨j + 1, rfl, by omega, by go_num, own_eq2 hown1 ?_ ?_, (hbel.trans (hb1.mono hw)).trans hb2⟩
          · rw [fText_yes hx.out hk, runes_append, List.length_append]; rfl
          · rw [fText_yes hx.out hk, runes_append]; rfl
      · have hk : mKeep x = false := by simpa using hk
        go_wp2_with (go_at_call 24; go_must (go_fit (map_any x wr)); rintro e w1 ⟨rfl, hb1⟩; have hw1 := hb1.size)
        go_roundg (l.length - (j + 1))
        case measure => omega
        case rel => exact ⟨j + 1, rfl, by omega, by go_num, by rw [fText_no hx.out hk]; exact own_below hown hb1 (Nat.le_refl _), hbel.trans (hb1.mono hw)⟩
    · obtain rfl : j = l.length := by omega
      go_wp2
      go_ret
      rw [List.take_length] at hown
      exact ⟨_, rfl, hown, hbel⟩

set_option maxRecDepth 100000 in
set_option maxHeartbeats 4000000 in
theorem rmap_near (r : Int) (w : World) (h : r < 65281 ∨ 65374 < r) :
    Calls Try.prog 25 #[.int .i32 r] w fun e w' => e = .returned (.tuple #[.int .i32 (mOut r), .bool (mKeep r)]) ∧ Below w.heap.size w w' := by
  by_cases hs : r = 173 ∨ r = 8203 ∨ r = 8204 ∨ r = 8205 ∨ r = 8288 ∨ r = 65279 ∨ r = 12290 ∨ r = 65377 ∨ r = 215 ∨ r = 930
  · rcases hs with rfl | rfl | rfl | rfl | rfl | rfl | rfl | rfl | rfl | rfl
    all_goals
      go_enter Try.func25, Try.ntmps25
      go_wp2
      go_ret2
      exact mOut_is (by decide) _ _ (Below.refl _ _)
  by_cases hr : 256 ≤ r ∧ r ≤ 303
  · obtain ⟨hr1, hr2⟩ := hr
    have e := or1 hr1 hr2
    have e2 : mOut r = if r % 2 = 0 then r + 1 else r := by
      unfold mOut mBase; (repeat' split) <;> omega
    rw [← e2] at e
    have e3 : mKeep r = true := decide_eq_true (by omega)
    clear e2
    have HE := Lib.hid e
    clear e
    have h1 := beq_no (a := r) (b := 173) (by omega)
    have h5 := beq_no (a := r) (b := 8288) (by omega)
    have h6 := beq_no (a := r) (b := 65279) (by omega)
    have h7 := beq_no (a := r) (b := 12290) (by omega)
    have h8 := beq_no (a := r) (b := 65377) (by omega)
    go_enter Try.func25, Try.ntmps25
    go_wp2
    all_goals
      go_ret2
      rw [← HE.out]
      exact ⟨rfl, Below.refl _ _⟩
  · have h1 := beq_no (a := r) (b := 173) (by omega)
    have h5 := beq_no (a := r) (b := 8288) (by omega)
    have h6 := beq_no (a := r) (b := 65279) (by omega)
    have h7 := beq_no (a := r) (b := 12290) (by omega)
    have h8 := beq_no (a := r) (b := 65377) (by omega)
    have h9 : (r != 215) = true := by simp; omega
    have h10 : (r != 930) = true := by simp; omega
    have hx : r < 8203 ∨ 8205 < r := by omega
    have hr2 : r < 256 ∨ 303 < r := by omega
    have hs1 : ¬ (r = 173 ∨ r = 8203 ∨ r = 8204 ∨ r = 8205 ∨ r = 8288 ∨ r = 65279) := by omega
    have hs2 : ¬ (r = 12290 ∨ r = 65377) := by omega
    have HS := Lib.hid hs1
    have HS2 := Lib.hid hs2
    clear hs hr hs1 hs2
    go_enter Try.func25, Try.ntmps25
    go_wp2
    all_goals go_ret2
    all_goals go_light
    all_goals (simp only [beq_eq_false_iff_ne, ne_eq, bne_iff_ne, bne_eq_false_iff_eq] at *)
    all_goals
      have a1 := HS.out
      have a2 := HS2.out
      exact mOut_is (mOut_at a1 (by unfold mOut mBase; (repeat' split) <;> omega)) _ _ (Below.refl _ _)

set_option maxRecDepth 100000 in
set_option maxHeartbeats 1000000 in
theorem rmap_any (r : Int) (w : World) :
    Calls Try.prog 25 #[.int .i32 r] w fun e w' => e = .returned (.tuple #[.int .i32 (mOut r), .bool (mKeep r)]) ∧ Below w.heap.size w w' := by
  by_cases h : r < 65281 ∨ 65374 < r
  · exact rmap_near r w h
  · have h1 : 65281 ≤ r := by omega
    have h2 : r ≤ 65374 := by omega
    clear h
    have e1 : mKeep (r - 65248) = mKeep r := by unfold mKeep; rw [decide_eq_decide]; omega
    have e2 : mOut (r - 65248) = mOut r := by
      have a : mOut r = mBase (r - 65248) := by unfold mOut; rw [if_neg (by omega), if_neg (by omega), if_pos (by omega)]
      have b : mOut (r - 65248) = mBase (r - 65248) := by unfold mOut; rw [if_neg (by omega), if_neg (by omega), if_neg (by omega)]
      rw [a, b]
    have c : ∀ w : World, Calls Try.prog 25 #[.int .i32 (r - 65248)] w fun e w' => e = .returned (.tuple #[.int .i32 (mOut r), .bool (mKeep r)]) ∧ Below w.heap.size w w' := by
      intro w
      have := rmap_near (r - 65248) w (by omega)
      rwa [e1, e2] at this
    have C := Lib.hid c
    clear c e1 e2
    have b1 := beq_no (a := r) (b := 173) (by omega)
    have b5 := beq_no (a := r) (b := 8288) (by omega)
    have b6 := beq_no (a := r) (b := 65279) (by omega)
    go_enter Try.func25, Try.ntmps25
    go_wp2_with (go_at_call 25; refine (C.out _).mono ?_; rintro e w1 ⟨rfl, hb⟩)
    go_ret2
    exact ⟨rfl, hb⟩

set_option maxRecDepth 100000 in
set_option maxHeartbeats 1000000 in
theorem rtext_any (A : Option Addr) (c : Nat) (l : List Int) (w : World) (hr : Rd w w.heap.size A (runes l)) (hl : l.length ≤ 100000) :
    Calls Try.prog 28 #[.slice A l.length c] w fun e w' => ∃ v, e = .returned v ∧ w'.ownsRow w.heap.size 21 1 v (runes (fText l)).length (runes (fText l)) ∧ Below w.heap.size w w' := by
  go_enter Try.func28, Try.ntmps28
  go_wp2
  go_loopg [3, 4] (l.length) (fun k v i wr => ∃ j : Nat, k = l.length - j ∧ j ≤ l.length ∧ i = .int .i64 j ∧ wr.ownsRow w.heap.size 21 1 v (runes (fText (l.take j))).length (runes (fText (l.take j))) ∧ Below w.heap.size w wr)
  case atStart => exact ⟨0, rfl, Nat.zero_le _, rfl, World.ownsRow_nil _ _ _ _, Below.refl _ _⟩
  case round =>
    obtain ⟨j, rfl, hj, rfl, hown, hbel⟩ := hrel
    by_cases hlt : j < l.length
    · obtain ⟨b, off, x, rfl, hb, hc, hx⟩ := (hr.below hbel).rune_at hlt
      have hlt1 : (j : Int) < (l.length : Int) := by omega
      have hj0 : (0 : Int) ≤ (j : Int) := by omega
      have hw := hbel.size
      have hty : (runes (fText (l.take j))).length ≤ 100000 := by have := fText_le (l.take j); rw [List.length_take] at this; rw [runes_len]; omega
      by_cases hk : mKeep x = true
      · go_wp2_with (first
          | (go_at_call 25; go_must (go_fit (rmap_any x wr)); rintro e w1 ⟨rfl, hb1⟩; have hw1 := hb1.size)
          | (at_builtin; refine wpList_append_lit rfl _ _ _ rfl w.heap.size _ _ 1 4 Try.underlying26 info_i32 rfl (by decide) _ _ _ rfl (own_below hown hb1 (Nat.le_refl _)) _ 1 1 _ rfl rfl (by simp [Value.oneCell']) (by omega) (by decide) (by omega) ?_; intro A1 c1 w2 hc1 hm1 hown1 hb2 hg2))
        go_roundg (l.length - (j + 1))
        case measure => omega
        case rel =>
          refine ⟨j + 1, rfl, by omega, by go_num, own_eq2 hown1 ?_ ?_, (hbel.trans (hb1.mono hw)).trans hb2⟩
          · rw [fText_yes hx.out hk, runes_append, List.length_append]; rfl
          · rw [fText_yes hx.out hk, runes_append]; rfl
      · have hk : mKeep x = false := by simpa using hk
        go_wp2_with (go_at_call 25; go_must (go_fit (rmap_any x wr)); rintro e w1 ⟨rfl, hb1⟩; have hw1 := hb1.size)
        go_roundg (l.length - (j + 1))
        case measure => omega
        case rel => exact ⟨j + 1, rfl, by omega, by go_num, by rw [fText_no hx.out hk]; exact own_below hown hb1 (Nat.le_refl _), hbel.trans (hb1.mono hw)⟩
    · obtain rfl : j = l.length := by omega
      go_wp2
      go_ret
      rw [List.take_length] at hown
      exact ⟨_, rfl, hown, hbel⟩
end Go.Proofs.Ytalpkjdbennicaa
