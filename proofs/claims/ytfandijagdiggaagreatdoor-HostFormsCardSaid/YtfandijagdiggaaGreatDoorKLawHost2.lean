/- The walk of the statement HostForms. -/
import Derived.Test.YtfandijagdiggaaGreatDoorKLawHost
namespace Go.Proofs.YtfandijagdiggaaGreatDoor
set_option linter.all false
open Go.RowKit

def hfFrom : List (List UInt8) := [[97], [37, 54, 49], [65, 37, 50, 101, 66], [48, 120, 55, 70, 46, 49], [91, 49, 58, 58, 48, 58, 48, 93], [195, 188], [37, 67, 51, 37, 66, 67], [49, 46, 50, 46, 51, 46, 52, 46]]
def hfTo : List (List UInt8) := [[97], [97], [97, 46, 98], [49, 50, 55, 46, 48, 46, 48, 46, 49], [91, 49, 58, 58, 93], [120, 110, 45, 45, 116, 100, 97], [120, 110, 45, 45, 116, 100, 97], [49, 46, 50, 46, 51, 46, 52]]
def hfBad : List (List UInt8) := [[], [97, 32, 98], [97, 37, 50, 48, 98], [37], [97, 37, 48, 48], [91], [91, 93], [91, 58, 58, 49], [91, 103, 93], [49, 46, 50, 46, 51, 46, 52, 46, 53], [97, 46, 48, 57], [97, 46, 50, 53, 54, 46, 48, 120, 49, 102, 102, 102, 102, 102, 102, 102, 102], [37, 102, 102]]
theorem hf_all : ∀ j, j < 8 → (hfFrom.getD j []).length ≤ 20 ∧ hParse (hfFrom.getD j []) true = some (hfTo.getD j []) := by decide +kernel
theorem hf_bad : ∀ x ∈ hfBad, x.length ≤ 64 ∧ hParse x true = none := by decide +kernel
theorem getHF {α : Type} {l : List α} {j : Nat} {x d : α} (h : l[j]? = some x) : l.getD j d = x := by rw [List.getD_eq_getElem?_getD, h]; rfl
def hfA : List UInt8 := [65, 37, 52, 49, 195, 188, 1]
def hfT : List UInt8 := [65, 37, 52, 49, 37, 67, 51, 37, 66, 67, 37, 48, 49]
set_option maxRecDepth 100000 in
set_option maxHeartbeats 8000000 in
theorem hostForms_walk (w : World) (hq : LH w) : Calls Tryz.prog 4 #[] w fun e w' => e = .returned (.bool true) ∧ Below w.heap.size w w' := by
  have p1 : hParse hfA false = some hfT := by decide +kernel
  have p2 : hParse [] false = some [] := by decide +kernel
  have p3 : hParse [97, 32, 98] false = none := by decide +kernel
  have p4 : hParse [97, 0] false = none := by decide +kernel
  have p5 : hParse [91, 58, 58] false = none := by decide +kernel
  have D1 := Lib.hid fun w h => hp_some (w := w) p1 h (by decide)
  have D2 := Lib.hid fun w h => hp_some (w := w) p2 h (by decide)
  have D3 := Lib.hid fun w h => hp_none (w := w) p3 h (by decide)
  have D4 := Lib.hid fun w h => hp_none (w := w) p4 h (by decide)
  have D5 := Lib.hid fun w h => hp_none (w := w) p5 h (by decide)
  clear p1 p2 p3 p4 p5
  go_enter Tryz.func4, Tryz.ntmps4
  go_wp2_with (go_at_call 14; go_must (go_fit (begun9_any w hq)); rintro e w1 ⟨rfl, hb1⟩; have hq1 := hq.next hb1)
  obtain ⟨w2, hw2⟩ : ∃ w2, w2 = (w1.alloc (.cells (strs hfFrom).toArray 9)).alloc (.cells (strs hfTo).toArray 9) := ⟨_, rfl⟩
  have hF : Rd w2 (w1.heap.size + 2) (some ⟨w1.heap.size, 0, none⟩) (strs hfFrom) := by
    have := (@Rd.lit w1 (strs hfFrom).toArray 9 (0, 0)).alloc (Nat.le_refl _) (.cells (strs hfTo).toArray 9)
    rw [← hw2] at this
    exact Rd.mono (by simpa using this) (by simp)
  have hsz : w2.heap.size = w1.heap.size + 2 := by rw [hw2]; simp
  have hT : Rd w2 (w1.heap.size + 2) (some ⟨w1.heap.size + 1, 0, none⟩) (strs hfTo) := by
    have := @Rd.lit (w1.alloc (.cells (strs hfFrom).toArray 9)) (strs hfTo).toArray 9 (0, 0)
    rw [← hw2, hsz] at this
    simpa using this
  have hb2 : Below w1.heap.size w1 w2 := by rw [hw2]; exact bnew (bnew (Below.refl _ _) _) _
  have hsz2 : w1.heap.size ≤ w2.heap.size := hb2.size
  have hq2 := hq1.next hb2
  have HW := Lib.hid hw2
  rw [← hsz] at hF hT
  clear hw2 hsz
  go_loopg [3] 8 (fun k i wr => ∃ j : Nat, k = 8 - j ∧ j ≤ 8 ∧ i = .int .i64 j ∧ Below w2.heap.size w2 wr)
  case atStart => exact ⟨0, rfl, Nat.zero_le _, rfl, by rw [HW.out]; exact Below.refl _ _⟩
  case round =>
    obtain ⟨j, rfl, hj, rfl, hbel⟩ := hrel
    have hq0 := hbel.size
    have hqr := hq2.next hbel
    by_cases hlt : j < 8
    · obtain ⟨b, off, x, hA, hb, hc, hx⟩ := (hF.below hbel).str_at (k := j) (by rw [show hfFrom.length = 8 from rfl]; exact hlt)
      injection hA with hA; injection hA with hA1 hA2; subst hA1; subst hA2
      obtain ⟨b2, off2, y, hB, hb3, hd, hy⟩ := (hT.below hbel).str_at (k := j) (by rw [show hfTo.length = 8 from rfl]; exact hlt)
      injection hB with hB; injection hB with hB1 hB2; subst hB1; subst hB2
      obtain ⟨f1, f2⟩ := hf_all j hlt
      rw [getHF hx.out] at f1 f2
      rw [getHF hy.out] at f2
      rw [Nat.zero_add] at hc hd
      have hlt1 : (j : Int) < 8 := by omega
      have hj0 : (0 : Int) ≤ (j : Int) := by omega
      have C1 := Lib.hid fun w h => hp_some (w := w) f2 h (by omega)
      have hyl := str_eqB y y
      rw [decide_eq_true rfl] at hyl
      clear f2 hx hy
      go_wp2_with (go_at_call 17; go_must (go_fit (C1.out wr hqr)); rintro e w7 ⟨rfl, hb7⟩; have hd7 := cell_on hb7 hd (by omega))
      go_roundg (8 - (j + 1))
      case measure => omega
      case rel => exact ⟨j + 1, rfl, by omega, by go_num, hbel.trans (hb7.mono hq0)⟩
    · obtain rfl : j = 8 := by omega
      clear hF hT hlt HW
      go_wp2
      have hbwr : Below w.heap.size w wr := (hb1.trans (hb2.mono hb1.size)).trans (hbel.mono (by have := hb1.size; omega))
      obtain ⟨w5, hw5⟩ : ∃ w5, w5 = wr.alloc (.cells (strs hfBad).toArray 9) := ⟨_, rfl⟩
      have hB : Rd w5 w5.heap.size (some ⟨wr.heap.size, 0, none⟩) (strs hfBad) := by
        have := @Rd.lit wr (strs hfBad).toArray 9 (0, 0)
        rw [← hw5] at this
        simpa using this
      have hb5 : Below wr.heap.size wr w5 := by rw [hw5]; exact bnew (Below.refl _ _) _
      have hbw5 := hbwr.trans (hb5.mono hbwr.size)
      have hq5 := hqr.next hb5
      have HW5 := Lib.hid hw5
      clear hw5 hb5 hbel hq0 hj
      go_loopg [7] 13 (fun k i w' => ∃ j : Nat, k = 13 - j ∧ j ≤ 13 ∧ i = .int .i64 j ∧ Below w5.heap.size w5 w')
      case atStart => exact ⟨0, rfl, Nat.zero_le _, rfl, by rw [HW5.out]; exact Below.refl _ _⟩
      case round =>
        obtain ⟨j, rfl, hj, rfl, hbel⟩ := hrel
        have hq0 := hbel.size
        have hqs := hq5.next hbel
        by_cases hlt : j < 13
        · obtain ⟨b, off, x, hA, hb, hc, hx⟩ := (hB.below hbel).str_at (k := j) (by rw [show hfBad.length = 13 from rfl]; exact hlt)
          injection hA with hA; injection hA with hA1 hA2; subst hA1; subst hA2
          obtain ⟨f1, f2⟩ := hf_bad x (List.mem_of_getElem? hx.out)
          rw [Nat.zero_add] at hc
          have hlt1 : (j : Int) < 13 := by omega
          have hj0 : (0 : Int) ≤ (j : Int) := by omega
          have C1 := Lib.hid fun w h => hp_none (w := w) f2 h (by omega)
          have t1 : (str []).toList = [] := str_toL _
          clear f2 hx
          go_wp2_with (go_at_call 17; go_must (go_fit (C1.out _ hqs)); rintro e w7 ⟨rfl, hb7⟩)
          go_roundg (13 - (j + 1))
          case measure => omega
          case rel => exact ⟨j + 1, rfl, by omega, by go_num, hbel.trans (hb7.mono hq0)⟩
        · obtain rfl : j = 13 := by omega
          clear hB hlt HW5
          have t1 := str_toL hfT
          have t2 := str_toL []
          have t3 : ({ data := #[65, 37, 52, 49, 37, 67, 51, 37, 66, 67, 37, 48, 49] } : ByteArray).toList = hfT := str_toL hfT
          go_wp2_with (first
            | (go_at_call 17; go_fit (D1.out _ hqs); rintro e w11 ⟨rfl, hb11⟩; have hq11 := hqs.next hb11)
            | (go_at_call 17; go_fit (D2.out w11 hq11); rintro e w12 ⟨rfl, hb12⟩; have hq12 := hq11.next hb12)
            | (go_at_call 17; go_fit (D3.out w12 hq12); rintro e w13 ⟨rfl, hb13⟩; have hq13 := hq12.next hb13)
            | (go_at_call 17; go_fit (D4.out w13 hq13); rintro e w14 ⟨rfl, hb14⟩; have hq14 := hq13.next hb14)
            | (go_at_call 17; go_must (go_fit (D5.out w14 hq14)); rintro e w15 ⟨rfl, hb15⟩))
          go_ret
          exact ⟨rfl, bnext (bnext (bnext (bnext (bnext (hbw5.trans (hbel.mono hbw5.size)) hb11) hb12) hb13) hb14) hb15⟩
end Go.Proofs.YtfandijagdiggaaGreatDoor
