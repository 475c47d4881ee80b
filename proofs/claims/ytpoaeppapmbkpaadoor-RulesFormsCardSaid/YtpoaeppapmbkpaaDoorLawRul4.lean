/- The walk of the statement RulesForms. -/
import Derived.Test.YtpoaeppapmbkpaaDoorLawRul
import Derived.Test.YtpoaeppapmbkpaaDoorRulQ
import Derived.Deep.RegionHeld3
namespace Go.Proofs.YtpoaeppapmbkpaaDoor
set_option linter.all false
open Go.RowKit


def fRules : List Ru := [([82, 101, 102], false), ([117, 116, 109, 95], true), ([], true), ([], false)]
def fNames : List (List UInt8) := [[114, 101, 102], [82, 69, 70], [114, 101, 102, 50], [117, 116, 109, 95], [85, 84, 77, 95, 97], [117, 116, 109], [], [120, 117, 116, 109, 95]]
def fOut : List Bool := [true, true, false, true, true, false, false, false]
theorem fOut_all : ∀ j, j < 8 → (fNames.getD j []).length ≤ 10 ∧ rOut (fNames.getD j []) fRules = fOut.getD j false := by decide +kernel
theorem getD_at {α : Type} {l : List α} {j : Nat} {x d : α} (h : l[j]? = some x) : l.getD j d = x := by rw [List.getD_eq_getElem?_getD, h]; rfl

set_option maxRecDepth 100000 in
set_option maxHeartbeats 8000000 in
theorem rulesForms_walk (w : World) (hm : ML w) : Calls Tryd.prog 15 #[] w fun e w' => e = .returned (.bool true) ∧ Below w.heap.size w w' := by
  go_enter Tryd.func15, Tryd.ntmps15
  go_wp2_with (go_at_call 34; go_must (go_fit (begun13_any w hm)); rintro e w1 ⟨rfl, hb1⟩; have hm1 := hm.next hb1)
  obtain ⟨w2, hw2⟩ : ∃ w2, w2 = ((w1.alloc (.cells (rls fRules).toArray 52)).alloc (.cells (strs fNames).toArray 9)).alloc (.cells (fOut.map Value.bool).toArray 4) := ⟨_, rfl⟩
  have hsz : w2.heap.size = w1.heap.size + 3 := by rw [hw2]; simp
  have hR : Rd w2 (w1.heap.size + 3) (some ⟨w1.heap.size, 0, none⟩) (rls fRules) := by
    have := ((@Rd.lit w1 (rls fRules).toArray 52 (0, 0)).new (.cells (strs fNames).toArray 9)).new (.cells (fOut.map Value.bool).toArray 4)
    rw [← hw2, hsz] at this
    simpa using this
  have hF : Rd w2 (w1.heap.size + 3) (some ⟨w1.heap.size + 1, 0, none⟩) (strs fNames) := by
    have := (@Rd.lit (w1.alloc (.cells (rls fRules).toArray 52)) (strs fNames).toArray 9 (0, 0)).new (.cells (fOut.map Value.bool).toArray 4)
    rw [← hw2, hsz] at this
    simpa using this
  have hT : ∀ j b, fOut[j]? = some b → w2.cell? ⟨w1.heap.size + 1 + 1, j, none⟩ = some (.bool b) := by
    intro j b h
    have e : ((w1.alloc (.cells (rls fRules).toArray 52)).alloc (.cells (strs fNames).toArray 9)).heap.size = w1.heap.size + 1 + 1 := by simp
    have hrow := heap_alloc_new ((w1.alloc (.cells (rls fRules).toArray 52)).alloc (.cells (strs fNames).toArray 9)) (.cells (fOut.map Value.bool).toArray 4)
    rw [← hw2, e] at hrow
    rw [cell_of_row _ _ j _ _ _ hrow]
    simp [h]
  have hb2 : Below w1.heap.size w1 w2 := by rw [hw2]; exact bnew (bnew (bnew (Below.refl _ _) _) _) _
  have hm2 := hm1.next hb2
  have HW := Lib.hid hw2
  rw [← hsz] at hR hF
  have HS := Lib.hid hsz
  have HT := Lib.hid hT
  clear hw2 hsz hT
  go_loopg [4] 8 (fun k i wr => ∃ j : Nat, k = 8 - j ∧ j ≤ 8 ∧ i = .int .i64 j ∧ Below w2.heap.size w2 wr)
  case atStart => exact ⟨0, rfl, Nat.zero_le _, rfl, by rw [HW.out]; exact Below.refl _ _⟩
  case round =>
    obtain ⟨j, rfl, hj, rfl, hbel⟩ := hrel
    have hmr := hm2.next hbel
    have hq0 := hbel.size
    have hRr := (hR.below hbel).mono hq0
    by_cases hlt : j < 8
    · obtain ⟨b, off, x, hA, hb, hc, hx⟩ := (hF.below hbel).str_at (k := j) (by rw [show fNames.length = 8 from rfl]; exact hlt)
      injection hA with hA; injection hA with hA1 hA2; subst hA1; subst hA2
      obtain ⟨y, hy⟩ : ∃ y, fOut[j]? = some y := ⟨_, List.getElem?_eq_getElem (by rw [show fOut.length = 8 from rfl]; exact hlt)⟩
      have hd := cell_on hbel (HT.out j y hy) (by have := HS.out; omega)
      obtain ⟨f1, f2⟩ := fOut_all j hlt
      rw [getD_at hx.out] at f1 f2
      rw [getD_at hy] at f2
      rw [Nat.zero_add] at hc
      have hlt1 : (j : Int) < 8 := by omega
      have hj0 : (0 : Int) ≤ (j : Int) := by omega
      have C1 := Lib.hid fun w (h : Rd w w.heap.size (some ⟨w1.heap.size, 0, none⟩) (rls fRules)) => out_any (x, [114, 101, 102]) (some ⟨w1.heap.size, 0, none⟩) 4 fRules w h (by decide) (by decide) (by show x.length ≤ 1000000; omega)
      rw [show rOut (x, ([114, 101, 102] : List UInt8)).1 fRules = y from f2] at C1
      have hne : (y != y) = false := by simp
      have hs1 : w1.heap.size + 1 < wr.heap.size := by have := HS.out; omega
      have hs2 : w1.heap.size + 1 + 1 < wr.heap.size := by have := HS.out; omega
      clear f2 hy
      go_wp2
      go_region_held3 (fun w' => w'.cell? ⟨w1.heap.size + 1, j, none⟩ = some (.string (str x)) ∧ w'.cell? ⟨w1.heap.size + 1 + 1, j, none⟩ = some (.bool y)) (first | exact ⟨hc, hd⟩ | exact ⟨hc4, hd4⟩) (first
        | (go_at_call 36; go_fit (C1.out wr.drew hRr); rintro e w4 ⟨rfl, hb4⟩; have hb4' : Below wr.heap.size wr w4 := bnext (Below.drew (Below.refl _ _)) hb4; have hc4 := cell_on hb4' hc hs1; have hd4 := cell_on hb4' hd hs2))
      all_goals go_wp2
      all_goals go_roundg (8 - (j + 1))
      all_goals first
        | (case measure => omega)
        | (case rel => exact ⟨j + 1, rfl, by omega, by go_num, hbel.trans (hb4'.mono hq0)⟩)
    · obtain rfl : j = 8 := by omega
      clear hlt
      have C1 := Lib.hid fun (w : World) => out_any ([114, 101, 102], []) none 0 [] w (by intro h; simp [rls] at h) (by decide) (by simp) (by decide)
      rw [show rOut ([114, 101, 102], ([] : List UInt8)).1 [] = false from rfl] at C1
      have C2 := Lib.hid fun w (hm : ML w) (h : Rd w w.heap.size (some ⟨w1.heap.size, 0, none⟩) (rls fRules)) => rtext13_any [97, 61, 114, 101, 102, 38, 82, 101, 102, 61, 49, 38, 98, 38, 117, 116, 109, 95, 61] (some ⟨w1.heap.size, 0, none⟩) 4 fRules w hm h (by decide) (by decide) (by decide)
      rw [show rText [97, 61, 114, 101, 102, 38, 82, 101, 102, 61, 49, 38, 98, 38, 117, 116, 109, 95, 61] fRules = [97, 61, 114, 101, 102, 38, 98, 61] by decide +kernel] at C2
      have hst : (str [97, 61, 114, 101, 102, 38, 98, 61]).toList = [97, 61, 114, 101, 102, 38, 98, 61] := str_toL _
      go_wp2_with (first
        | (go_at_call 36; go_must (go_fit (C1.out wr)); rintro e w4 ⟨rfl, hb4⟩)
        | (go_at_call 40; go_must (go_fit (C2.out w4 (hmr.next hb4) (hRr.next hb4))); rintro e w5 ⟨rfl, hb5⟩))
      go_ret
      exact ⟨rfl, bnext (bnext (hb1.trans ((hb2.trans (hbel.mono hb2.size)).mono hb1.size)) hb4) hb5⟩

end Go.Proofs.YtpoaeppapmbkpaaDoor

