/- The walks of the statements UtfGo and UtfBack. -/
import Derived.Test.YtalpkjdbennicaaLawUtf
import Derived.Test.YtalpkjdbennicaaUtfG
namespace Go.Proofs.Ytalpkjdbennicaa
set_option linter.all false
open Go.RowKit

/-- The row that '[]rune(s)' lays. -/
def runeRow (w : World) (l : List Int) (t : TypeId) : Obj :=
  .cells ((runes l).toArray ++ Array.replicate (grownCap w l.length 0 t - l.length) (.int .i32 0)) t

theorem runes_at (w : World) {b : List UInt8} (h : b.length ≤ 1000000) :
    (convert 9 26 (.string (str b))).run Try.prog w =
      .ok (.slice (some ⟨w.heap.size, 0, none⟩) (uDec b).length (grownCap w (uDec b).length 0 21)) (w.drew.alloc (runeRow w (uDec b) 21)) := by
  have e : Conv.runesFrom (str b) (str b).size 0 #[] = (runes (uDec b)).toArray := by rw [runes_of_text, str_data]
  have hsz : (Conv.runesFrom (str b) (str b).size 0 #[]).size = (uDec b).length := by rw [e, List.size_toArray, runes_len]
  have hl := uDec_len_le b
  have := run_runes_of_string (P := Try.prog) w 9 26 21 (str b) Try.underlying9 Try.underlying26 Try.underlying21 (by rw [hsz]; omega)
  rw [hsz] at this
  rw [this, e]
  rfl

theorem runeRow_rd (w : World) (l : List Int) (t : TypeId) {B : Nat} (hB : w.heap.size < B) : Rd (w.drew.alloc (runeRow w l t)) B (some ⟨w.heap.size, 0, none⟩) (runes l) := fun _ => by
  refine ⟨w.heap.size, 0, rfl, hB, fun j u hu => ?_⟩
  have hj : j < (runes l).length := by
    rcases Nat.lt_or_ge j (runes l).length with h1 | h1
    · exact h1
    · rw [List.getElem?_eq_none h1] at hu; cases hu
  rw [Nat.zero_add]
  have hrow : (w.drew.alloc (runeRow w l t)).heap[w.heap.size]? = some (runeRow w l t) := heap_alloc_new w.drew _
  unfold runeRow at hrow ⊢
  rw [cell_of_row _ _ j _ _ _ hrow, Array.getElem?_append_left (by simpa using hj), ← hu]
  simp

set_option maxRecDepth 100000 in
set_option maxHeartbeats 4000000 in
theorem utfGo_walk (A : Option Addr) (c : Nat) (b : List UInt8) (w : World) (hrb : Rd w w.heap.size A (bytes b)) (hcb : b.length ≤ c) (hcm : c ≤ maxLen) :
    Calls Try.prog 10 #[.slice A b.length c] w fun e w' => e = .returned (.bool true) ∧ Below w.heap.size w w' := by
  have hbm : b.length ≤ 9223372036854775807 := by unfold maxLen at hcm; omega
  by_cases hb60 : (b.length : Int) ≤ 60
  · have hs1 : sameB (uDec b) (uDec b) = true := sameB_self _
    have hdl := uDec_len_le b
    have hkr := fun (w : World) => runes_at w (b := b) (by omega)
    go_enter Try.func10, Try.ntmps10
    go_wp2_with (go_at_call 29; go_must (go_fit (begun2_any w)); rintro e w1 ⟨rfl, hb1⟩)
    have hrb1 := hrb.next hb1
    have hsb := str_at (c := c) (w := w1.drew) hrb1 rfl
    have hN0 : w1.drew.heap.size < (w1.drew.drew.alloc (runeRow w1.drew (uDec b) 21)).heap.size := by simp
    go_region_with (first
      | (go_at_call 30; refine (decode_any A c b w1.drew hrb1 hcb hcm (by omega)).mono ?_; rintro e w2 ⟨v2, rfl, hown2, hb2⟩; rw [runes_len] at hown2; obtain ⟨A2, c2, rfl, hc2, hm2, hx2⟩ := own_rd hown2; have hrb2 := Rd.next (w := w1.drew) hrb1 hb2; have hsb2 := str_at (c := c) hrb2 rfl; have hN2 : w2.heap.size < (w2.drew.alloc (runeRow w2 (uDec b) 21)).heap.size := by simp)
      | (go_at_call 30; refine (decode_any A c b (w1.drew.drew.alloc (runeRow w1.drew (uDec b) 21)) (Rd.new (w := w1.drew.drew) hrb1 _) hcb hcm (by omega)).mono ?_; rintro e w2 ⟨v2, rfl, hown2, hb2⟩; rw [runes_len] at hown2; obtain ⟨A2, c2, rfl, hc2, hm2, hx2⟩ := own_rd hown2; have hy2 := Rd.next (runeRow_rd w1.drew (uDec b) 21 hN0) hb2)
      | (go_at_call 26; refine (same_any A2 _ c2 _ (uDec b) (uDec b) w2 hx2 hy2 (by omega) (by omega)).mono ?_; rintro e w4 ⟨rfl, hb4⟩; have hfin := bnext (bnext (bnew (Below.drew (Below.drew hb1)) (runeRow w1.drew (uDec b) 21)) hb2) hb4)
      | (go_at_call 26; refine (same_any A2 _ c2 _ (uDec b) (uDec b) (w2.drew.alloc (runeRow w2 (uDec b) 21)) (Rd.new (w := w2.drew) hx2 _) (runeRow_rd w2 (uDec b) 21 hN2) (by omega) (by omega)).mono ?_; rintro e w4 ⟨rfl, hb4⟩; have hfin := bnext (bnew (Below.drew (bnext (Below.drew hb1) hb2)) (runeRow w2 (uDec b) 21)) hb4))
    all_goals
      go_wp2
      go_ret
      exact ⟨ret_bool (by simp), hfin⟩
  · have hb60' : 60 < (b.length : Int) := by omega
    clear hb60
    go_enter Try.func10, Try.ntmps10
    go_wp2_with (go_at_call 29; go_must (go_fit (begun2_any w)); rintro e w1 ⟨rfl, hb1⟩)
    go_ret
    exact ⟨rfl, hb1⟩
end Go.Proofs.Ytalpkjdbennicaa
