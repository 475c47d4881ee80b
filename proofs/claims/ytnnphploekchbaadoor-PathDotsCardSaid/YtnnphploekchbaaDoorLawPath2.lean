/- The walks of the statements PathDots, PathForms. -/
import Derived.Test.YtnnphploekchbaaDoorLawPath
import Derived.Test.YtnnphploekchbaaDoorRefC
namespace Go.Proofs.YtnnphploekchbaaDoor
set_option linter.all false
open Go.RowKit

def dOnes : List (List UInt8) := [[46], [37, 50, 101], [37, 50, 69]]
def dTwos : List (List UInt8) := [[46, 46], [46, 37, 50, 101], [37, 50, 69, 46], [37, 50, 101, 37, 50, 69]]
theorem dOnes_all : ∀ o ∈ dOnes, (47 : UInt8) ∉ o ∧ (92 : UInt8) ∉ o ∧ pSingle o = true ∧ pDouble o = false ∧ o.length ≤ 3 := by decide +kernel
theorem dTwos_all : ∀ o ∈ dTwos, (47 : UInt8) ∉ o ∧ (92 : UInt8) ∉ o ∧ pDouble o = true ∧ o.length ≤ 6 := by decide +kernel
def pfFrom : List (List UInt8) := [[], [97], [97, 47], [47], [46], [46, 46], [97, 47, 46], [97, 47, 46, 46], [97, 47, 46, 47, 98], [97, 47, 46, 46, 47, 98], [46, 46, 47, 46, 46, 47, 97], [37, 50, 101, 37, 50, 69, 47, 97], [97, 32, 98, 47, 63], [97, 92, 98], [46, 46, 46], [97, 47, 47, 98], [46, 47]]
def pfTo : List (List UInt8) := [[47], [47, 97], [47, 97, 47], [47, 47], [47], [47], [47, 97, 47], [47], [47, 97, 47, 98], [47, 98], [47, 97], [47, 97], [47, 97, 37, 50, 48, 98, 47, 37, 51, 70], [47, 97, 47, 98], [47, 46, 46, 46], [47, 97, 47, 47, 98], [47]]
theorem pForms_all : ∀ j, j < 17 → (pfFrom.getD j []).length ≤ 20 ∧ pShowP (pParse (pfFrom.getD j []) true []) = pfTo.getD j [] := by decide +kernel
theorem getDP {α : Type} {l : List α} {j : Nat} {x d : α} (h : l[j]? = some x) : l.getD j d = x := by rw [List.getD_eq_getElem?_getD, h]; rfl
/-- Parse and Show, one behind the other. -/
theorem show10 {l : List (List UInt8)} {T : List UInt8} (hT : pShowP l = T) (h1 : l.length ≤ 1000) (h2 : T.length ≤ 100000) (A : Option Addr) (c : Nat) (w : World) (hr : Rd w w.heap.size A (strs l)) :
    Calls Tryd.prog 25 #[.slice A l.length c] w fun e w' => e = .returned (.string (str T)) ∧ Below w.heap.size w w' := by
  have := pshow_any A c l w hr (by omega) (by rw [hT]; omega)
  rwa [hT] at this
theorem pathFormsEnd : pParse [97, 92, 98] false [] = [[97, 92, 98]] ∧ pShowP [[97, 92, 98]] = [47, 97, 92, 98] ∧ pParse [46, 46, 47, 99] true [[97], [98]] = [[97], [99]] ∧ pShowP [[97], [99]] = [47, 97, 47, 99] ∧ pSingle [] = false ∧ pDouble [46] = false ∧ pSingle [37, 50] = false := by decide +kernel
set_option maxRecDepth 100000 in
set_option maxHeartbeats 8000000 in
theorem pathForms_walk (w : World) (hq : LP w) : Calls Tryd.prog 6 #[] w fun e w' => e = .returned (.bool true) ∧ Below w.heap.size w w' := by
  go_enter Tryd.func6, Tryd.ntmps6
  go_wp2_with (go_at_call 17; go_must (go_fit (begun10_any w hq)); rintro e w1 ⟨rfl, hb1⟩; have hq1 := hq.next hb1)
  obtain ⟨w2, hw2⟩ : ∃ w2, w2 = (w1.alloc (.cells (strs pfFrom).toArray 9)).alloc (.cells (strs pfTo).toArray 9) := ⟨_, rfl⟩
  have hF : Rd w2 (w1.heap.size + 2) (some ⟨w1.heap.size, 0, none⟩) (strs pfFrom) := by
    have := (@Rd.lit w1 (strs pfFrom).toArray 9 (0, 0)).alloc (Nat.le_refl _) (.cells (strs pfTo).toArray 9)
    rw [← hw2] at this
    exact Rd.mono (by simpa using this) (by simp)
  have hsz : w2.heap.size = w1.heap.size + 2 := by rw [hw2]; simp
  have hT : Rd w2 (w1.heap.size + 2) (some ⟨w1.heap.size + 1, 0, none⟩) (strs pfTo) := by
    have := @Rd.lit (w1.alloc (.cells (strs pfFrom).toArray 9)) (strs pfTo).toArray 9 (0, 0)
    rw [← hw2, hsz] at this
    simpa using this
  have hb2 : Below w1.heap.size w1 w2 := by rw [hw2]; exact bnew (bnew (Below.refl _ _) _) _
  have hq2 := hq1.next hb2
  have hsz2 : w1.heap.size ≤ w2.heap.size := hb2.size
  have HW := Lib.hid hw2
  rw [← hsz] at hF hT
  clear hw2 hsz
  go_loopg [3] 17 (fun k i wr => ∃ j : Nat, k = 17 - j ∧ j ≤ 17 ∧ i = .int .i64 j ∧ Below w2.heap.size w2 wr)
  case atStart => exact ⟨0, rfl, Nat.zero_le _, rfl, by rw [HW.out]; exact Below.refl _ _⟩
  case round =>
    obtain ⟨j, rfl, hj, rfl, hbel⟩ := hrel
    have hqr := hq2.next hbel
    have hq0 := hbel.size
    by_cases hlt : j < 17
    · obtain ⟨b, off, x, hA, hb, hc, hx⟩ := (hF.below hbel).str_at (k := j) (by rw [show pfFrom.length = 17 from rfl]; exact hlt)
      injection hA with hA; injection hA with hA1 hA2; subst hA1; subst hA2
      obtain ⟨b2, off2, y, hB, hb3, hd, hy⟩ := (hT.below hbel).str_at (k := j) (by rw [show pfTo.length = 17 from rfl]; exact hlt)
      injection hB with hB; injection hB with hB1 hB2; subst hB1; subst hB2
      obtain ⟨f1, f2⟩ := pForms_all j hlt
      rw [getDP hx.out] at f1 f2
      rw [getDP hy.out] at f2
      rw [Nat.zero_add] at hc hd
      have hlt1 : (j : Int) < 17 := by omega
      have hj0 : (0 : Int) ≤ (j : Int) := by omega
      have C1 := Lib.hid fun w h => parse10 x true w h (by omega)
      have hl := (parse_bound (s := x) (sp := true) (N := 20) f1).2
      have hs := show_bound (s := x) (sp := true) (N := 20) f1
      rw [f2] at hs
      obtain ⟨l, hl'⟩ : ∃ l, l = pParse x true [] := ⟨_, rfl⟩
      rw [← hl'] at C1 f2 hl
      have C2 := Lib.hid fun A c w h => show10 f2 (by omega) (by omega) A c w h
      have hyl := str_eqB y y
      rw [decide_eq_true rfl] at hyl
      have hwr := hq0
      clear f1 f2 hl' hx hy
      go_wp2
      go_region_with (first
        | (go_at_call 18; go_fit (C1.out wr.drew (hqr.next (Below.drew (Below.refl _ _)))); rintro e w3 ⟨A3, c3, rfl, hx3, hc3, hq3, hb3⟩; have hbw3 : Below wr.heap.size wr w3 := bnext (Below.drew (Below.refl _ _)) hb3; have hd3 := cell_on hbw3 hd (by omega))
        | (go_at_call 25; go_fit (C2.out A3 c3 w3 hx3); rintro e w4 ⟨rfl, hb4⟩; have hbw4 := bnext hbw3 hb4; have hd4 := cell_on hbw4 hd (by omega)))
      all_goals go_wp2
      all_goals go_roundg (17 - (j + 1))
      all_goals first
        | (case measure => omega)
        | (case rel => exact ⟨j + 1, rfl, by omega, by go_num, hbel.trans (Below.mono (by first | exact hbw4 | exact Below.drew hbw4) hq0)⟩)
    · obtain rfl : j = 17 := by omega
      obtain ⟨p1, p2, p3, p4, p5, p6, p7⟩ := pathFormsEnd
      have C1 := Lib.hid fun w h => parse10 [97, 92, 98] false w h (by decide)
      rw [p1] at C1
      have C2 := Lib.hid fun A c w h => show10 p2 (by decide) (by decide) A c w h
      have C3 := Lib.hid fun A c w h (hr : Rd w w.heap.size A (strs [[97], [98]])) => parse10B [46, 46, 47, 99] true A c [[97], [98]] w h hr (by decide) (by decide)
      rw [p3] at C3
      have C4 := Lib.hid fun A c w h => show10 p4 (by decide) (by decide) A c w h
      have C5 := Lib.hid fun w => show10 (l := []) (T := []) rfl (by decide) (by decide) none 0 w Rd.nil
      have C6 := Lib.hid fun w h => single_any [] w h (by decide)
      have C7 := Lib.hid fun w h => double_any [46] w h (by decide)
      have C8 := Lib.hid fun w h => single_any [37, 50] w h (by decide)
      rw [p5] at C6
      rw [p6] at C7
      rw [p7] at C8
      have t1 : (str [47, 97, 92, 98]).toList = [47, 97, 92, 98] := str_toL _
      have t2 : (str [47, 97, 47, 99]).toList = [47, 97, 47, 99] := str_toL _
      have t3 : (str []).toList = [] := str_toL _
      clear p1 p2 p3 p4 p5 p6 p7 hlt hF hT
      go_wp2_with (first
        | (go_at_call 18; go_fit (C1.out wr hqr); rintro e w3 ⟨A3, c3, rfl, hx3, hc3, hm3, hb3⟩; have hq3 := hqr.next hb3)
        | (go_at_call 25; go_fit (C2.out A3 c3 w3 hx3); rintro e w4 ⟨rfl, hb4⟩; have hq4 := hq3.next hb4; have hq4' := hq4.next (bnew (Below.refl w4.heap.size w4) (.cells #[.string (str [97]), .string (str [98])] 9)); have hR4 := @Rd.lit w4 #[.string (str [97]), .string (str [98])] 9 (0, 0))
        | (go_at_call 18; go_fit (C3.out (some ⟨w4.heap.size, 0, none⟩) 2 (w4.alloc (.cells #[.string (str [97]), .string (str [98])] 9)) hq4' (by simpa [strs] using hR4)); rintro e w5 ⟨A5, c5, rfl, hx5, hc5, hm5, hb5⟩; have hq5 := hq4'.next hb5)
        | (go_at_call 25; go_fit (C4.out A5 c5 w5 hx5); rintro e w6 ⟨rfl, hb6⟩; have hq6 := hq5.next hb6)
        | (go_at_call 25; go_fit (C5.out w6); rintro e w7 ⟨rfl, hb7⟩; have hq7 := hq6.next hb7)
        | (go_at_call 19; go_fit (C6.out w7 hq7.2); rintro e w8 ⟨rfl, hb8⟩; have hq8 := hq7.next hb8)
        | (go_at_call 21; go_fit (C7.out w8 hq8.2); rintro e w9 ⟨rfl, hb9⟩; have hq9 := hq8.next hb9)
        | (go_at_call 19; go_fit (C8.out w9 hq9.2); rintro e w10 ⟨rfl, hb10⟩))
      go_ret
      exact ⟨rfl, bnext (bnext (bnext (bnext (bnext (bnext (bnew (bnext (bnext (bnext hb1 (hb2.trans (hbel.mono hsz2))) hb3) hb4) _) hb5) hb6) hb7) hb8) hb9) hb10⟩
end Go.Proofs.YtnnphploekchbaaDoor

