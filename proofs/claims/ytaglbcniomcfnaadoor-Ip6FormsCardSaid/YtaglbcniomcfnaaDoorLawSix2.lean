/- The walk of the statement Ip6Forms. -/
import Derived.Test.YtaglbcniomcfnaaDoorLawSix
namespace Go.Proofs.YtaglbcniomcfnaaDoor
set_option linter.all false
open Go.RowKit

def sGood : List (List UInt8) := [[58, 58], [58, 58, 49], [49, 58, 58], [49, 58, 50, 58, 51, 58, 52, 58, 53, 58, 54, 58, 55, 58, 56], [58, 58, 102, 102, 102, 102, 58, 49, 46, 50, 46, 51, 46, 52], [49, 58, 50, 58, 51, 58, 52, 58, 53, 58, 54, 58, 49, 46, 50, 46, 51, 46, 52], [48, 58, 48, 58, 49, 58, 58], [49, 58, 58, 50, 58, 51, 58, 52, 58, 53, 58, 54, 58, 55], [65, 66, 67, 68, 58, 58], [48, 48, 48, 49, 58, 58, 48], [58, 58, 48, 58, 48]]
def sTo : List (List UInt8) := [[58, 58], [58, 58, 49], [49, 58, 58], [49, 58, 50, 58, 51, 58, 52, 58, 53, 58, 54, 58, 55, 58, 56], [58, 58, 102, 102, 102, 102, 58, 49, 48, 50, 58, 51, 48, 52], [49, 58, 50, 58, 51, 58, 52, 58, 53, 58, 54, 58, 49, 48, 50, 58, 51, 48, 52], [48, 58, 48, 58, 49, 58, 58], [49, 58, 48, 58, 50, 58, 51, 58, 52, 58, 53, 58, 54, 58, 55], [97, 98, 99, 100, 58, 58], [49, 58, 58], [58, 58]]
def sNums : List (List Nat) := [[0, 0, 0, 0, 0, 0, 0, 0], [0, 0, 0, 0, 0, 0, 0, 1], [1, 0, 0, 0, 0, 0, 0, 0], [1, 2, 3, 4, 5, 6, 7, 8], [0, 0, 0, 0, 0, 65535, 258, 772], [1, 2, 3, 4, 5, 6, 258, 772], [0, 0, 1, 0, 0, 0, 0, 0], [1, 0, 2, 3, 4, 5, 6, 7], [43981, 0, 0, 0, 0, 0, 0, 0], [1, 0, 0, 0, 0, 0, 0, 0], [0, 0, 0, 0, 0, 0, 0, 0]]
def sBad : List (List UInt8) := [[], [58], [58, 58, 58], [49, 58, 58, 50, 58, 58, 51], [49, 58, 50, 58, 51, 58, 52, 58, 53, 58, 54, 58, 55], [49, 58, 50, 58, 51, 58, 52, 58, 53, 58, 54, 58, 55, 58, 56, 58, 57], [49, 50, 51, 52, 53, 58, 58], [103, 58, 58], [49, 58], [58, 49], [49, 58, 50, 58, 51, 58, 52, 58, 53, 58, 54, 58, 55, 58, 58, 56], [58, 58, 49, 46, 50, 46, 51], [58, 58, 49, 46, 50, 46, 51, 46, 50, 53, 54], [58, 58, 48, 49, 46, 50, 46, 51, 46, 52], [58, 58, 49, 46, 50, 46, 51, 46, 52, 58, 53], [49, 46, 50, 46, 51, 46, 52], [58, 58, 49, 46, 50, 46, 51, 46, 52, 46, 53], [49, 58, 50, 58, 51, 58, 52, 58, 53, 58, 54, 58, 55, 58, 49, 46, 50, 46, 51, 46, 52], [49, 46, 50, 46, 51, 46, 52, 58, 58]]
theorem sGood_all : ∀ j, j < 11 → (sGood.getD j []).length ≤ 30 ∧ pParse6 (sGood.getD j []) = some (sNums.getD j []) ∧ (sNums.getD j []).length = 8 ∧ (∀ x ∈ sNums.getD j [], x < 65536) ∧ pShow6 (sNums.getD j []) = sTo.getD j [] := by decide +kernel
theorem sBad_all : ∀ x ∈ sBad, x.length ≤ 30 ∧ pParse6 x = none := by decide +kernel
theorem sGetD {α : Type} {l : List α} {j : Nat} {x d : α} (h : l[j]? = some x) : l.getD j d = x := by rw [List.getD_eq_getElem?_getD, h]; rfl

set_option maxRecDepth 100000 in
set_option maxHeartbeats 8000000 in
theorem ip6Forms_walk (w : World) (hq : L8 w) : Calls Tryd.prog 12 #[] w fun e w' => e = .returned (.bool true) ∧ Below w.heap.size w w' := by
  go_enter Tryd.func12, Tryd.ntmps12
  go_wp2_with (go_at_call 23; go_must (go_fit (begun8_any w hq)); rintro e w1 ⟨rfl, hb1⟩; have hq1 := hq.next hb1)
  obtain ⟨w2, hw2⟩ : ∃ w2, w2 = (w1.alloc (.cells (strs sGood).toArray 9)).alloc (.cells (strs sTo).toArray 9) := ⟨_, rfl⟩
  have hF : Rd w2 (w1.heap.size + 2) (some ⟨w1.heap.size, 0, none⟩) (strs sGood) := by
    have := (@Rd.lit w1 (strs sGood).toArray 9 (0, 0)).alloc (Nat.le_refl _) (.cells (strs sTo).toArray 9)
    rw [← hw2] at this
    exact Rd.mono (by simpa using this) (by simp)
  have hsz : w2.heap.size = w1.heap.size + 2 := by rw [hw2]; simp
  have hT : Rd w2 (w1.heap.size + 2) (some ⟨w1.heap.size + 1, 0, none⟩) (strs sTo) := by
    have := @Rd.lit (w1.alloc (.cells (strs sGood).toArray 9)) (strs sTo).toArray 9 (0, 0)
    rw [← hw2, hsz] at this
    simpa using this
  have hb2 : Below w1.heap.size w1 w2 := by rw [hw2]; exact bnew (bnew (Below.refl _ _) _) _
  have hq2 := hq1.next hb2
  have HW := Lib.hid hw2
  rw [← hsz] at hF hT
  have HS := Lib.hid hsz
  clear hw2 hsz
  go_loopg [3] 11 (fun k i wr => ∃ j : Nat, k = 11 - j ∧ j ≤ 11 ∧ i = .int .i64 j ∧ Below w2.heap.size w2 wr)
  case atStart => exact ⟨0, rfl, Nat.zero_le _, rfl, by rw [HW.out]; exact Below.refl _ _⟩
  case round =>
    obtain ⟨j, rfl, hj, rfl, hbel⟩ := hrel
    have hqr := hq2.next hbel
    have hq0 := hbel.size
    by_cases hlt : j < 11
    · obtain ⟨b, off, x, hA, hb, hc, hx⟩ := (hF.below hbel).str_at (k := j) (by rw [show sGood.length = 11 from rfl]; exact hlt)
      injection hA with hA; injection hA with hA1 hA2; subst hA1; subst hA2
      obtain ⟨b2, off2, y, hB, hb3, hd, hy⟩ := (hT.below hbel).str_at (k := j) (by rw [show sTo.length = 11 from rfl]; exact hlt)
      injection hB with hB; injection hB with hB1 hB2; subst hB1; subst hB2
      obtain ⟨f1, f2, f3, f4, f5⟩ := sGood_all j hlt
      rw [sGetD hx.out] at f1 f2
      rw [sGetD hy.out] at f5
      rw [Nat.zero_add] at hc hd
      have hlt1 : (j : Int) < 11 := by omega
      have hj0 : (0 : Int) ≤ (j : Int) := by omega
      obtain ⟨n, hn⟩ : ∃ n, n = sNums.getD j [] := ⟨_, rfl⟩
      rw [← hn] at f2 f3 f4 f5
      obtain ⟨a0, a1, a2, a3, a4, a5, a6, a7, rfl⟩ := eight f3
      have C1 := Lib.hid (parse6_some x f2 wr hqr.1 (by omega))
      have C2 := Lib.hid fun w h => show6_any [a0, a1, a2, a3, a4, a5, a6, a7] a0 a1 a2 a3 a4 a5 a6 a7 rfl f4 w h
      rw [f5] at C2
      have hsz := HS.out
      have hyl := str_toL y
      have hcc := fun w' (h : Below wr.heap.size wr w') => cell_on h hc (by omega)
      have hdd := fun w' (h : Below wr.heap.size wr w') => cell_on h hd (by omega)
      have HC := Lib.hid hcc
      have HD := Lib.hid hdd
      clear f2 f3 f4 f5 hn hcc hdd
      go_wp2_with (first
        | (go_at_call 24; go_must (go_fit C1.out); rintro e w3 ⟨rfl, hb3⟩; have HBA := Lib.hid (bnew hb3 (.cells #[.int .u16 (a0 : Int), .int .u16 (a1 : Int), .int .u16 (a2 : Int), .int .u16 (a3 : Int), .int .u16 (a4 : Int), .int .u16 (a5 : Int), .int .u16 (a6 : Int), .int .u16 (a7 : Int)] 39)); have hc3 := HC.out _ HBA.out; have hd3 := HD.out _ HBA.out; have hqA := hqr.next HBA.out; have hR3 := Row.made w3 #[.int .u16 (a0 : Int), .int .u16 (a1 : Int), .int .u16 (a2 : Int), .int .u16 (a3 : Int), .int .u16 (a4 : Int), .int .u16 (a5 : Int), .int .u16 (a6 : Int), .int .u16 (a7 : Int)] 39))
      go_region_with (go_at_call 26; go_fit (C2.out (w3.alloc (.cells #[.int .u16 (a0 : Int), .int .u16 (a1 : Int), .int .u16 (a2 : Int), .int .u16 (a3 : Int), .int .u16 (a4 : Int), .int .u16 (a5 : Int), .int .u16 (a6 : Int), .int .u16 (a7 : Int)] 39)).drew hqA.2); rintro e w4 ⟨rfl, hb4⟩; have hb5 := bnext HBA.out (show Below (w3.alloc (.cells #[.int .u16 (a0 : Int), .int .u16 (a1 : Int), .int .u16 (a2 : Int), .int .u16 (a3 : Int), .int .u16 (a4 : Int), .int .u16 (a5 : Int), .int .u16 (a6 : Int), .int .u16 (a7 : Int)] 39)).heap.size (w3.alloc (.cells #[.int .u16 (a0 : Int), .int .u16 (a1 : Int), .int .u16 (a2 : Int), .int .u16 (a3 : Int), .int .u16 (a4 : Int), .int .u16 (a5 : Int), .int .u16 (a6 : Int), .int .u16 (a7 : Int)] 39)) w4 from ((Below.refl _ _).drew).trans hb4); have hd4 := HD.out _ hb5)
      all_goals (try go_wp2)
      all_goals go_roundg (11 - (j + 1))
      all_goals first
        | (case measure => omega)
        | (case rel => exact ⟨j + 1, rfl, by omega, by go_num, hbel.trans (hb5.mono hq0)⟩)
    · obtain rfl : j = 11 := by omega
      clear hlt
      go_wp2
      have hG : Rd (wr.alloc (.cells (strs sBad).toArray 9)) (wr.alloc (.cells (strs sBad).toArray 9)).heap.size (some ⟨wr.heap.size, 0, none⟩) (strs sBad) := by
        have := @Rd.lit wr (strs sBad).toArray 9 (0, 0)
        simpa using this
      have hb3 := bnew ((hb1.trans (hb2.mono hb1.size)).trans (hbel.mono (Nat.le_trans hb1.size hb2.size))) (.cells (strs sBad).toArray 9)
      obtain ⟨w3, hw3⟩ : ∃ w3, w3 = wr.alloc (.cells (strs sBad).toArray 9) := ⟨_, rfl⟩
      rw [← hw3] at hG hb3
      have HW3 := Lib.hid hw3
      have hq3 := hq.next hb3
      have heq := eqA8 0 0 0 0 0 0 0 0
      clear hw3
      go_loopg [7] 19 (fun k i wr => ∃ j : Nat, k = 19 - j ∧ j ≤ 19 ∧ i = .int .i64 j ∧ Below w3.heap.size w3 wr)
      case atStart => exact ⟨0, rfl, Nat.zero_le _, rfl, by rw [HW3.out]; exact Below.refl _ _⟩
      case round =>
        clear hbel
        obtain ⟨j, rfl, hj, rfl, hbel⟩ := hrel
        have hqr := hq3.next hbel
        by_cases hlt : j < 19
        · obtain ⟨b, off, x, hA, hb, hc, hx⟩ := (hG.below hbel).str_at (k := j) (by rw [show sBad.length = 19 from rfl]; exact hlt)
          injection hA with hA; injection hA with hA1 hA2'; subst hA1; subst hA2'
          obtain ⟨f1, f2⟩ := sBad_all x (List.mem_of_getElem? hx.out)
          rw [Nat.zero_add] at hc
          have hlt1 : (j : Int) < 19 := by omega
          have hj0 : (0 : Int) ≤ (j : Int) := by omega
          have C2 := Lib.hid (parse6_none x f2 wr hqr.1 (by omega))
          clear f2
          go_wp2_with (go_at_call 24; go_must (go_fit C2.out); rintro e w5 ⟨rfl, hb5⟩; have hb6 := bnew hb5 (.cells #[.int .u16 0, .int .u16 0, .int .u16 0, .int .u16 0, .int .u16 0, .int .u16 0, .int .u16 0, .int .u16 0] 39))
          go_roundg (19 - (j + 1))
          case measure => omega
          case rel => exact ⟨j + 1, rfl, by omega, by go_num, hbel.trans (hb6.mono hbel.size)⟩
        · obtain rfl : j = 19 := by omega
          clear hlt
          go_wp2
          go_ret
          exact ⟨rfl, hb3.trans (hbel.mono hb3.size)⟩
end Go.Proofs.YtaglbcniomcfnaaDoor

