/- The walks of fold.Map, fold.Text and of the reference's Map, Text, SameRunes: each computes the plain function of FoldP, and turns nothing that was there. -/
import Derived.Test.YtalpkjdbennicaaFoldP
import Derived.Test.YtalpkjdbennicaaRows
namespace Go.Proofs.Ytalpkjdbennicaa
set_option linter.all false
open Go.RowKit

theorem info_i32 : (Try.prog.info? 21).map (fun i => (i.zero, i.size, i.bytes)) = some (some (.int .i32 0), 1, 4) := by kernel_rfl

theorem mOut_is {r o : Int} {k : Bool} (h : (mKeep r, mOut r) = (k, o)) (w w' : World) (hb : Below w.heap.size w w') :
    (Ending.returned (.tuple #[.int .i32 o, .bool k])) = .returned (.tuple #[.int .i32 (mOut r), .bool (mKeep r)]) ∧ Below w.heap.size w w' := by
  injection h with h1 h2
  rw [h1, h2]
  exact ⟨rfl, hb⟩

theorem mOut_at {r o : Int} (h1 : ¬ (r = 173 ∨ r = 8203 ∨ r = 8204 ∨ r = 8205 ∨ r = 8288 ∨ r = 65279)) (h2 : mOut r = o) : (mKeep r, mOut r) = (true, o) := by
  rw [h2]
  unfold mKeep
  rw [decide_eq_true (by omega)]

theorem beq_no {a b : Int} (h : ¬ a = b) : (a == b) = false := by simpa using h

set_option maxRecDepth 100000 in
set_option maxHeartbeats 8000000 in
theorem map_span (r : Int) (w : World) (h : r < 65281 ∨ 65374 < r) (hr : r < 256 ∨ 303 < r) (h1 : (r == 173) = false) (h2 : (r == 8203) = false) (h3 : (r == 8204) = false) (h4 : (r == 8205) = false) (h5 : (r == 8288) = false)
    (h6 : (r == 65279) = false) (h7 : (r == 12290) = false) (h8 : (r == 65377) = false) :
    Calls Try.prog 24 #[.int .i32 r] w fun e w' => e = .returned (.tuple #[.int .i32 (mOut r), .bool (mKeep r)]) ∧ Below w.heap.size w w' := by
  go_enter Try.func24, Try.ntmps24
  go_wp2
  all_goals go_rounds 6
  all_goals go_ret2
  all_goals go_light
  all_goals (simp only [beq_eq_false_iff_ne, ne_eq, bne_iff_ne, bne_eq_false_iff_eq] at *)
  all_goals exact mOut_is (mOut_at (by omega) (by unfold mOut mBase; (repeat' split) <;> omega)) _ _ (by go_grown)

set_option maxRecDepth 100000 in
set_option maxHeartbeats 4000000 in
theorem map_near (r : Int) (w : World) (h : r < 65281 ∨ 65374 < r) :
    Calls Try.prog 24 #[.int .i32 r] w fun e w' => e = .returned (.tuple #[.int .i32 (mOut r), .bool (mKeep r)]) ∧ Below w.heap.size w w' := by
  by_cases hs : r = 173 ∨ r = 8203 ∨ r = 8204 ∨ r = 8205 ∨ r = 8288 ∨ r = 65279 ∨ r = 12290 ∨ r = 65377
  · rcases hs with rfl | rfl | rfl | rfl | rfl | rfl | rfl | rfl
    all_goals
      go_enter Try.func24, Try.ntmps24
      go_wp2
      go_ret2
      exact mOut_is (by decide) _ _ (Below.refl _ _)
  by_cases hr : 256 ≤ r ∧ r ≤ 303
  · obtain ⟨hr1, hr2⟩ := hr
    have e := or1 hr1 hr2
    have e2 : mOut r = if r % 2 = 0 then r + 1 else r := by
      unfold mOut mBase; (repeat' split) <;> omega
    rw [← e2] at e
    have e3 : mKeep r = true := decide_eq_true (by omega)
    clear e2
    have HE := Lib.hid e
    clear e
    go_enter Try.func24, Try.ntmps24
    go_wp2
    go_ret2
    rw [← HE.out]
    exact ⟨rfl, Below.refl _ _⟩
  · exact map_span r w h (by omega) (beq_no (by omega)) (beq_no (by omega)) (beq_no (by omega)) (beq_no (by omega)) (beq_no (by omega)) (beq_no (by omega)) (beq_no (by omega)) (beq_no (by omega))

set_option maxRecDepth 100000 in
set_option maxHeartbeats 1000000 in
/-- fold.Map at whatever number. -/
theorem map_any (r : Int) (w : World) :
    Calls Try.prog 24 #[.int .i32 r] w fun e w' => e = .returned (.tuple #[.int .i32 (mOut r), .bool (mKeep r)]) ∧ Below w.heap.size w w' := by
  by_cases h : r < 65281 ∨ 65374 < r
  · exact map_near r w h
  · have h1 : 65281 ≤ r := by omega
    have h2 : r ≤ 65374 := by omega
    clear h
    have e1 : mKeep (r - 65248) = mKeep r := by unfold mKeep; rw [decide_eq_decide]; omega
    have e2 : mOut (r - 65248) = mOut r := by
      have a : mOut r = mBase (r - 65248) := by unfold mOut; rw [if_neg (by omega), if_neg (by omega), if_pos (by omega)]
      have b : mOut (r - 65248) = mBase (r - 65248) := by unfold mOut; rw [if_neg (by omega), if_neg (by omega), if_neg (by omega)]
      rw [a, b]
    have c : ∀ w : World, Calls Try.prog 24 #[.int .i32 (r - 65248)] w fun e w' => e = .returned (.tuple #[.int .i32 (mOut r), .bool (mKeep r)]) ∧ Below w.heap.size w w' := by
      intro w
      have := map_near (r - 65248) w (by omega)
      rwa [e1, e2] at this
    have C := Lib.hid c
    clear c e1 e2
    go_enter Try.func24, Try.ntmps24
    go_wp2_with (go_at_call 24; refine (C.out _).mono ?_; rintro e w1 ⟨rfl, hb⟩)
    go_ret2
    exact ⟨rfl, hb⟩

end Go.Proofs.Ytalpkjdbennicaa
