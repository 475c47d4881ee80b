/- The walk of the statement Ip4Forms. -/
import Derived.Test.YtaglbcniomcfnaaDoorLawIp
import Derived.Test.YtaglbcniomcfnaaDoorLibB
namespace Go.Proofs.YtaglbcniomcfnaaDoor
set_option linter.all false
open Go.RowKit

def iGood : List (List UInt8) := [[48], [49, 46, 50, 46, 51, 46, 52], [49, 46, 50, 46, 51], [48, 120], [48, 88, 46, 48], [52, 50, 57, 52, 57, 54, 55, 50, 57, 53], [50, 53, 53, 46, 50, 53, 53, 46, 50, 53, 53, 46, 50, 53, 53], [48, 49, 48], [49, 46, 50, 46, 51, 46, 52, 46], [48, 120, 102, 102, 46, 49, 54, 55, 55, 55, 50, 49, 53], [49, 46, 54, 53, 53, 51, 53, 46], [48, 48]]
def iNums : List Nat := [0, 16909060, 16908291, 0, 0, 4294967295, 4294967295, 8, 16909060, 4294967295, 16842751, 0]
def iBad : List (List UInt8) := [[], [46], [49, 46, 46, 50], [49, 46, 50, 46, 51, 46, 52, 46, 53], [50, 53, 54, 46, 49], [52, 50, 57, 52, 57, 54, 55, 50, 57, 54], [49, 46, 50, 46, 51, 46, 50, 53, 54], [48, 57], [48, 120, 103], [97], [49, 46, 49, 54, 55, 55, 55, 50, 49, 54], [49, 46, 50, 46, 54, 53, 53, 51, 54], [57, 57, 57, 57, 57, 57, 57, 57, 57, 57, 57, 57, 57, 57, 57, 57, 57, 57, 57, 57, 57, 57, 57], [45, 49], [49, 46, 50, 46, 51, 46, 52, 46, 46], [43, 49], [49, 32]]
theorem iGood_all : ∀ j, j < 12 → (iGood.getD j []).length ≤ 20 ∧ pParse (iGood.getD j []) = some (iNums.getD j 0) ∧ pEnds (iGood.getD j []) = true := by decide +kernel
theorem iBad_all : ∀ x ∈ iBad, x.length ≤ 30 ∧ pParse x = none := by decide +kernel
theorem getD_of {α : Type} {l : List α} {j : Nat} {x d : α} (h : l[j]? = some x) : l.getD j d = x := by rw [List.getD_eq_getElem?_getD, h]; rfl
/-- Numbers of 32 bits, as cells. -/
def n32s (l : List Nat) : List Value := l.map fun n : Nat => Value.int .u32 (n : Int)
theorem Rd.n32_at {w : World} {B : Nat} {A : Option Addr} {l : List Nat} (h : Rd w B A (n32s l)) {k : Nat} (hk : k < l.length) :
    ∃ b off, A = some ⟨b, off, none⟩ ∧ b < B ∧ w.cell? ⟨b, off + k, none⟩ = some (.int .u32 ((l.getD k 0 : Nat) : Int)) := by
  obtain ⟨b, off, e, hb, hc⟩ := h.at_ (k := k) (by unfold n32s; rw [List.length_map]; exact hk)
  refine ⟨b, off, e, hb, ?_⟩
  rw [hc, List.getD_eq_getElem?_getD, List.getElem?_eq_getElem hk]; simp [n32s]

set_option maxRecDepth 100000 in
set_option maxHeartbeats 8000000 in
theorem ip4Forms_walk (w : World) (hm : ML w) (ht : TB w) : Calls Tryd.prog 6 #[] w fun e w' => e = .returned (.bool true) ∧ Below w.heap.size w w' := by
  go_enter Tryd.func6, Tryd.ntmps6
  go_wp2_with (go_at_call 14; go_must (go_fit (begun7_any w hm ht)); rintro e w1 ⟨rfl, hb1⟩; have hm1 := hm.next hb1)
  obtain ⟨w2, hw2⟩ : ∃ w2, w2 = (w1.alloc (.cells (strs iGood).toArray 9)).alloc (.cells (n32s iNums).toArray 22) := ⟨_, rfl⟩
  have hF : Rd w2 (w1.heap.size + 2) (some ⟨w1.heap.size, 0, none⟩) (strs iGood) := by
    have := (@Rd.lit w1 (strs iGood).toArray 9 (0, 0)).alloc (Nat.le_refl _) (.cells (n32s iNums).toArray 22)
    rw [← hw2] at this
    exact Rd.mono (by simpa using this) (by simp)
  have hsz : w2.heap.size = w1.heap.size + 2 := by rw [hw2]; simp
  have hT : Rd w2 (w1.heap.size + 2) (some ⟨w1.heap.size + 1, 0, none⟩) (n32s iNums) := by
    have := @Rd.lit (w1.alloc (.cells (strs iGood).toArray 9)) (n32s iNums).toArray 22 (0, 0)
    rw [← hw2, hsz] at this
    simpa using this
  have hb2 : Below w1.heap.size w1 w2 := by rw [hw2]; exact bnew (bnew (Below.refl _ _) _) _
  have hm2 := hm1.next hb2
  have HW := Lib.hid hw2
  rw [← hsz] at hF hT
  have HS := Lib.hid hsz
  clear hw2 hsz
  go_loopg [3] 12 (fun k i wr => ∃ j : Nat, k = 12 - j ∧ j ≤ 12 ∧ i = .int .i64 j ∧ Below w2.heap.size w2 wr)
  case atStart => exact ⟨0, rfl, Nat.zero_le _, rfl, by rw [HW.out]; exact Below.refl _ _⟩
  case round =>
    obtain ⟨j, rfl, hj, rfl, hbel⟩ := hrel
    have hmr := hm2.next hbel
    have hq0 := hbel.size
    by_cases hlt : j < 12
    · obtain ⟨b, off, x, hA, hb, hc, hx⟩ := (hF.below hbel).str_at (k := j) (by rw [show iGood.length = 12 from rfl]; exact hlt)
      injection hA with hA; injection hA with hA1 hA2; subst hA1; subst hA2
      obtain ⟨b2, off2, hB, hb3, hd⟩ := (hT.below hbel).n32_at (k := j) (by rw [show iNums.length = 12 from rfl]; exact hlt)
      injection hB with hB; injection hB with hB1 hB2; subst hB1; subst hB2
      obtain ⟨f1, f2, f3⟩ := iGood_all j hlt
      rw [getD_of hx.out] at f1 f2 f3
      rw [Nat.zero_add] at hc hd
      have hlt1 : (j : Int) < 12 := by omega
      have hj0 : (0 : Int) ≤ (j : Int) := by omega
      obtain ⟨n, hn⟩ : ∃ n, n = iNums.getD j 0 := ⟨_, rfl⟩
      rw [← hn] at f2 hd
      have C1 := Lib.hid (parse4_any x wr hmr (by omega))
      rw [f2] at C1
      have C2 := Lib.hid fun w (h : ML w) => ends4_any x w h (by omega)
      rw [f3] at C2
      have hsz := HS.out
      have hcc := fun w' (h : Below wr.heap.size wr w') => cell_on h hc (by omega)
      have hdd := fun w' (h : Below wr.heap.size wr w') => cell_on h hd (by omega)
      have HC := Lib.hid hcc
      have HD := Lib.hid hdd
      clear f2 f3 hn hcc hdd hd
      go_wp2_with (first
        | (go_at_call 15; go_must (go_fit C1.out); rintro e w3 ⟨rfl, hb3⟩; have hc3 := HC.out w3 hb3; have hd3 := HD.out w3 hb3; have hm3 := hmr.next hb3)
        | (go_at_call 17; go_must (go_fit (C2.out w3 hm3)); rintro e w4 ⟨rfl, hb4⟩))
      all_goals go_roundg (12 - (j + 1))
      all_goals first
        | (case measure => omega)
        | (case rel => exact ⟨j + 1, rfl, by omega, by go_num, hbel.trans (Below.mono (bnext hb3 hb4) hq0)⟩)
    · obtain rfl : j = 12 := by omega
      clear hlt
      go_wp2
      have hG : Rd (wr.alloc (.cells (strs iBad).toArray 9)) (wr.alloc (.cells (strs iBad).toArray 9)).heap.size (some ⟨wr.heap.size, 0, none⟩) (strs iBad) := by
        have := @Rd.lit wr (strs iBad).toArray 9 (0, 0)
        simpa using this
      have hb3 := bnew ((hb1.trans (hb2.mono hb1.size)).trans (hbel.mono (Nat.le_trans hb1.size hb2.size))) (.cells (strs iBad).toArray 9)
      obtain ⟨w3, hw3⟩ : ∃ w3, w3 = wr.alloc (.cells (strs iBad).toArray 9) := ⟨_, rfl⟩
      rw [← hw3] at hG hb3
      have HW3 := Lib.hid hw3
      have hm3 := hm.next hb3
      clear hw3
      go_loopg [7] 17 (fun k i wr => ∃ j : Nat, k = 17 - j ∧ j ≤ 17 ∧ i = .int .i64 j ∧ Below w3.heap.size w3 wr)
      case atStart => exact ⟨0, rfl, Nat.zero_le _, rfl, by rw [HW3.out]; exact Below.refl _ _⟩
      case round =>
        clear hbel
        obtain ⟨j, rfl, hj, rfl, hbel⟩ := hrel
        have hmr := hm3.next hbel
        by_cases hlt : j < 17
        · obtain ⟨b, off, x, hA, hb, hc, hx⟩ := (hG.below hbel).str_at (k := j) (by rw [show iBad.length = 17 from rfl]; exact hlt)
          injection hA with hA; injection hA with hA1 hA2'; subst hA1; subst hA2'
          obtain ⟨f1, f2⟩ := iBad_all x (List.mem_of_getElem? hx.out)
          rw [Nat.zero_add] at hc
          have hlt1 : (j : Int) < 17 := by omega
          have hj0 : (0 : Int) ≤ (j : Int) := by omega
          have C2 := Lib.hid fun w hm => parse4_any x w hm (by omega)
          rw [f2] at C2
          clear f2
          go_wp2_with (go_at_call 15; go_must (go_fit (C2.out _ ‹ML _›)); rintro e w5 ⟨rfl, hb5⟩)
          go_roundg (17 - (j + 1))
          case measure => omega
          case rel => exact ⟨j + 1, rfl, by omega, by go_num, hbel.trans (hb5.mono hbel.size)⟩
        · obtain rfl : j = 17 := by omega
          clear hlt
          have p1 : pEnds [48, 57] = true := by decide +kernel
          have p2 : pEnds [97, 46, 48, 120, 49, 102, 46] = true := by decide +kernel
          have p3 : pEnds [97, 46, 48, 120, 103] = false := by decide +kernel
          have p4 : pEnds [] = false := by decide +kernel
          have p5 : pEnds [49, 46] = true := by decide +kernel
          have p6 : pEnds [97, 46, 46] = false := by decide +kernel
          have C1 := Lib.hid fun w hm => ends4_any [48, 57] w hm (by decide)
          have C2 := Lib.hid fun w hm => ends4_any [97, 46, 48, 120, 49, 102, 46] w hm (by decide)
          have C3 := Lib.hid fun w hm => ends4_any [97, 46, 48, 120, 103] w hm (by decide)
          have C4 := Lib.hid fun w hm => ends4_any [] w hm (by decide)
          have C5 := Lib.hid fun w hm => ends4_any [49, 46] w hm (by decide)
          have C6 := Lib.hid fun w hm => ends4_any [97, 46, 46] w hm (by decide)
          rw [p1] at C1
          rw [p2] at C2
          rw [p3] at C3
          rw [p4] at C4
          rw [p5] at C5
          rw [p6] at C6
          clear p1 p2 p3 p4 p5 p6
          have hfin := hb3.trans (hbel.mono hb3.size)
          go_wp2_with (first
            | (go_at_call 17; go_fit (C1.out _ hmr); rintro e v1 ⟨rfl, hc1⟩; have hn1 := hmr.next hc1)
            | (go_at_call 17; go_fit (C2.out _ hn1); rintro e v2 ⟨rfl, hc2⟩; have hn2 := hn1.next hc2)
            | (go_at_call 17; go_fit (C3.out _ hn2); rintro e v3 ⟨rfl, hc3⟩; have hn3 := hn2.next hc3)
            | (go_at_call 17; go_fit (C4.out _ hn3); rintro e v4 ⟨rfl, hc4⟩; have hn4 := hn3.next hc4)
            | (go_at_call 17; go_fit (C5.out _ hn4); rintro e v5 ⟨rfl, hc5⟩; have hn5 := hn4.next hc5)
            | (go_at_call 17; go_fit (C6.out _ hn5); rintro e v6 ⟨rfl, hc6⟩))
          go_ret
          exact ⟨rfl, bnext (bnext (bnext (bnext (bnext (bnext hfin hc1) hc2) hc3) hc4) hc5) hc6⟩
end Go.Proofs.YtaglbcniomcfnaaDoor

