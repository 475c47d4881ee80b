/- The walks of the statements of layer 13, rules: begun, Light, RulesAll, RulesStay. -/
import Derived.Test.YtpoaeppapmbkpaaDoorRulD
import Derived.Test.YtpoaeppapmbkpaaDoorQryT
namespace Go.Proofs.YtpoaeppapmbkpaaDoor
set_option linter.all false
open Go.RowKit

set_option maxRecDepth 100000 in
set_option maxHeartbeats 8000000 in
theorem begun13_any (w : World) (hm : ML w) : Calls Tryd.prog 34 #[] w fun e w' => e = .returned (.bool true) ∧ Below w.heap.size w w' := by
  have C1 := Lib.hid fun A w (h : Rd w w.heap.size A (rls [([117, 116, 109, 95], true)])) => out_any ([117, 116, 109, 95, 120], []) A 1 [([117, 116, 109, 95], true)] w h (by decide) (by decide) (by decide)
  rw [show rOut ([117, 116, 109, 95, 120], ([] : List UInt8)).1 [([117, 116, 109, 95], true)] = true by decide +kernel] at C1
  have C2 := Lib.hid fun A w (h : Rd w w.heap.size A (rls [([117, 116, 109, 95], true)])) => out_any ([97], []) A 1 [([117, 116, 109, 95], true)] w h (by decide) (by decide) (by decide)
  rw [show rOut ([97], ([] : List UInt8)).1 [([117, 116, 109, 95], true)] = false by decide +kernel] at C2
  have C3 := Lib.hid fun A w (hm : ML w) (h : Rd w w.heap.size A (rls [([117, 116, 109, 95], true)])) => rtext13_any [117, 116, 109, 95, 120, 61, 49, 38, 97, 61, 50] A 1 [([117, 116, 109, 95], true)] w hm h (by decide) (by decide) (by decide)
  rw [show rText [117, 116, 109, 95, 120, 61, 49, 38, 97, 61, 50] [([117, 116, 109, 95], true)] = [97, 61, 50] by decide +kernel] at C3
  have C4 := Lib.hid fun A B w (h' : Rd w w.heap.size A (prs [([97], [])])) (h : Rd w w.heap.size B (rls [([117, 116, 109, 95], true)])) => strip_any A B 1 1 [([97], [])] [([117, 116, 109, 95], true)] w h' h (by decide) (by decide) (by decide) (by decide)
  rw [show rStrip [([97], [])] [([117, 116, 109, 95], true)] = [([97], [])] by decide +kernel] at C4
  have t1 : (str [97, 61, 50]).toList = [97, 61, 50] := str_toL _
  have x1 : ((w.alloc (.cells #[.string (str [117, 116, 109, 95]), .bool true] 52)).alloc (.cells #[.string (str [117, 116, 109, 95]), .bool true] 52)).cell? ⟨w.heap.size, 0, none⟩ = some (.string (str [117, 116, 109, 95])) := by
    rw [World.cell?_alloc_lt _ _ _ (by simp), cell_of_row _ _ 0 _ _ _ (heap_alloc_new w _)]; rfl
  have x2 : ((w.alloc (.cells #[.string (str [117, 116, 109, 95]), .bool true] 52)).alloc (.cells #[.string (str [117, 116, 109, 95]), .bool true] 52)).cell? ⟨w.heap.size, 1, none⟩ = some (.bool true) := by
    rw [World.cell?_alloc_lt _ _ _ (by simp), cell_of_row _ _ 1 _ _ _ (heap_alloc_new w _)]; rfl
  have r1 : Rd ((w.alloc (.cells #[.string (str [117, 116, 109, 95]), .bool true] 52)).alloc (.cells #[.string (str [117, 116, 109, 95]), .bool true] 52)) ((w.alloc (.cells #[.string (str [117, 116, 109, 95]), .bool true] 52)).alloc (.cells #[.string (str [117, 116, 109, 95]), .bool true] 52)).heap.size (some ⟨w.heap.size + 1, 0, none⟩) (rls [([117, 116, 109, 95], true)]) := by
    have h := @Rd.lit (w.alloc (.cells #[.string (str [117, 116, 109, 95]), .bool true] 52)) #[.string (str [117, 116, 109, 95]), .bool true] 52 (0, 0)
    have e : (w.alloc (.cells #[.string (str [117, 116, 109, 95]), .bool true] 52)).heap.size = w.heap.size + 1 := by simp
    rw [e] at h
    exact h
  have b1 : Below w.heap.size w ((w.alloc (.cells #[.string (str [117, 116, 109, 95]), .bool true] 52)).alloc (.cells #[.string (str [117, 116, 109, 95]), .bool true] 52)) := bnew (bnew (Below.refl _ _) _) _
  have HX := Lib.hid (And.intro x1 (And.intro x2 (And.intro r1 b1)))
  clear x1 x2 r1 b1
  have rl : ∀ w : World, Rd (w.alloc (.cells #[.string (str [117, 116, 109, 95]), .bool true] 52)) (w.alloc (.cells #[.string (str [117, 116, 109, 95]), .bool true] 52)).heap.size (some ⟨w.heap.size, 0, none⟩) (rls [([117, 116, 109, 95], true)]) := fun w => by
    have h := @Rd.lit w #[.string (str [117, 116, 109, 95]), .bool true] 52 (0, 0)
    exact h
  have HL := Lib.hid rl
  have HP := Lib.hid fun w : World => show Rd (w.alloc (.cells #[.string (str [97]), .string (str [])] 25)) (w.alloc (.cells #[.string (str [97]), .string (str [])] 25)).heap.size (some ⟨w.heap.size, 0, none⟩) (prs [([97], [])]) from by
    have h := @Rd.lit w #[.string (str [97]), .string (str [])] 25 (0, 0)
    exact h
  have HW := Lib.hid fun w3 : World => show Rd ((w3.alloc (.cells #[.string (str [97]), .string (str [])] 25)).alloc (.cells #[.string (str [117, 116, 109, 95]), .bool true] 52)) ((w3.alloc (.cells #[.string (str [97]), .string (str [])] 25)).alloc (.cells #[.string (str [117, 116, 109, 95]), .bool true] 52)).heap.size (some ⟨w3.heap.size + 1, 0, none⟩) (rls [([117, 116, 109, 95], true)]) from by
    have h := rl (w3.alloc (.cells #[.string (str [97]), .string (str [])] 25))
    have e : (w3.alloc (.cells #[.string (str [97]), .string (str [])] 25)).heap.size = w3.heap.size + 1 := by simp
    rw [e] at h
    exact h
  clear rl
  go_enter Tryd.func34, Tryd.ntmps34
  go_wp2_with (first
    | (go_at_call 36; go_fit (C1.out _ _ HX.out.2.2.1); rintro e w1 ⟨rfl, hb1⟩; have k1 := bnext HX.out.2.2.2 hb1; have y1 := cell_on hb1 HX.out.1 (by first | (simp; done) | (simp; omega)); have y2 := cell_on hb1 HX.out.2.1 (by first | (simp; done) | (simp; omega)); have hq1 : w.heap.size < w1.heap.size := World.block_lt_of_cell? _ _ y1)
    | (go_at_call 36; go_fit (C2.out _ _ (HL.out w1)); rintro e w2 ⟨rfl, hb2⟩; have g2 := bnext (bnew (Below.refl _ _) _) hb2; have k2 := bnext k1 g2; have u1 := cell_on g2 y1 (by omega); have u2 := cell_on g2 y2 (by omega); have hq2 : w.heap.size < w2.heap.size := World.block_lt_of_cell? _ _ u1)
    | (go_at_call 40; go_fit (C3.out _ (w2.alloc (.cells #[.string (str [117, 116, 109, 95]), .bool true] 52)) ((hm.next k2).new _) (HL.out w2)); rintro e w3 ⟨rfl, hb3⟩; have g3 := bnext (bnew (Below.refl _ _) _) hb3; have k3 := bnext k2 g3; have v1 := cell_on g3 u1 (by omega); have v2 := cell_on g3 u2 (by omega); have hq3 : w.heap.size < w3.heap.size := World.block_lt_of_cell? _ _ v1)
    | (go_at_call 38; go_fit (C4.out (some ⟨w3.heap.size, 0, none⟩) (some ⟨w3.heap.size + 1, 0, none⟩) ((w3.alloc (.cells #[.string (str [97]), .string (str [])] 25)).alloc (.cells #[.string (str [117, 116, 109, 95]), .bool true] 52)) ((HP.out w3).new _) (HW.out w3)); rintro e w4 ⟨v4, rfl, hown4, hb4⟩; obtain ⟨A4, c4, rfl, hc4, hm4, hx4⟩ := own_rdN hown4; have k4 := bnext k3 (bnext (bnew (bnew (Below.refl _ _) _) _) hb4)))
  go_ret
  exact ⟨rfl, k4⟩

def longR (r : Ru) : Bool := decide (30 < r.1.length)
def lightB (l : List Ru) : Bool := !(l.any longR) && decide (l.length ≤ 10)
theorem light_short {l : List Ru} (h : lightB l = true) : l.length ≤ 10 ∧ ∀ p ∈ l, p.1.length ≤ 30 := by
  unfold lightB at h
  rw [Bool.and_eq_true, Bool.not_eq_true', decide_eq_true_eq] at h
  refine ⟨h.2, fun p hp => ?_⟩
  have := List.any_eq_false.1 h.1 p hp
  unfold longR at this
  simpa using this
set_option maxRecDepth 100000 in
set_option maxHeartbeats 2000000 in
theorem light_any (A : Option Addr) (c : Nat) (l : List Ru) (w : World) (hr : Rd w w.heap.size A (rls l)) (hl : l.length ≤ 9223372036854775807) (hp : ∀ p ∈ l, p.1.length ≤ 9223372036854775807) :
    Calls Tryd.prog 35 #[.slice A l.length c] w fun e w' => e = .returned (.bool (lightB l)) ∧ w = w' := by
  have HP := Lib.hid hp
  clear hp
  go_enter Tryd.func35, Tryd.ntmps35
  go_wp2
  go_loopg [3] (l.length) (fun k i wr => ∃ j : Nat, k = l.length - j ∧ j ≤ l.length ∧ i = .int .i64 j ∧ Hid ((l.take j).any longR = false) ∧ w = wr)
  case atStart => exact ⟨0, rfl, Nat.zero_le _, rfl, rfl, rfl⟩
  case round =>
    obtain ⟨j, rfl, hj, rfl, hn, rfl⟩ := hrel
    by_cases hlt : j < l.length
    · obtain ⟨b, off, x, rfl, hb, hc1, hc2, hx⟩ := hr.rule_at hlt
      have hlt1 : (j : Int) < (l.length : Int) := by omega
      have hj0 : (0 : Int) ≤ (j : Int) := by omega
      have hxl := HP.out x (List.mem_of_getElem? hx.out)
      have hz := str_size x.1
      by_cases h30 : 30 < (x.1.length : Int)
      · have HQ := Lib.hid (show lightB l = false by unfold lightB; rw [any_hereG hx.out (show longR x = true from decide_eq_true (by omega))]; rfl)
        go_wp2
        go_ret
        exact ⟨by rw [HQ.out]; rfl, rfl⟩
      · have HQ := Lib.hid (show longR x = false from decide_eq_false (by omega))
        have h30' : (x.1.length : Int) ≤ 30 := by omega
        clear h30
        go_wp2
        go_roundg (l.length - (j + 1))
        case measure => omega
        case rel => exact ⟨j + 1, rfl, by omega, by go_num, any_takeG hx.out hn.out HQ.out, rfl⟩
    · obtain rfl : j = l.length := by omega
      have h := hn.out
      rw [List.take_length] at h
      have HQ := Lib.hid (show lightB l = decide ((l.length : Int) ≤ 10) by unfold lightB; rw [h, Bool.not_false, Bool.true_and]; exact decide_eq_decide.2 (by omega))
      clear h
      go_wp2
      go_ret
      exact ⟨by rw [HQ.out]; rfl, rfl⟩
end Go.Proofs.YtpoaeppapmbkpaaDoor

