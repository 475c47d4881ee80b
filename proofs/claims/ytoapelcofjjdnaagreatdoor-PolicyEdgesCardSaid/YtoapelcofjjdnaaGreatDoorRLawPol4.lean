/- The walk of the statement PolicyEdges. -/
import Derived.Test.YtoapelcofjjdnaaGreatDoorRLawPol
namespace Go.Proofs.YtoapelcofjjdnaaGreatDoor
set_option linter.all false
open Go.RowKit
def eOut : List Nat := [0, 16777215, 167772160, 184549375, 1681915904, 1686110207, 2130706432, 2147483647, 2851995648, 2852061183, 2886729728, 2887778303, 3232235520, 3232301055, 3758096384, 4294967295]
def eOutA : Array Value := #[.int .u32 0, .int .u32 16777215, .int .u32 167772160, .int .u32 184549375, .int .u32 1681915904, .int .u32 1686110207, .int .u32 2130706432, .int .u32 2147483647, .int .u32 2851995648, .int .u32 2852061183, .int .u32 2886729728, .int .u32 2887778303, .int .u32 3232235520, .int .u32 3232301055, .int .u32 3758096384, .int .u32 4294967295]
def eInA : Array Value := #[.int .u16 0, .int .u16 0, .int .u16 0, .int .u16 0, .int .u16 0, .int .u16 0, .int .u16 0, .int .u16 2, .int .u16 64511, .int .u16 0, .int .u16 0, .int .u16 0, .int .u16 0, .int .u16 0, .int .u16 0, .int .u16 0, .int .u16 65024, .int .u16 0, .int .u16 0, .int .u16 0, .int .u16 0, .int .u16 0, .int .u16 0, .int .u16 0, .int .u16 65216, .int .u16 0, .int .u16 0, .int .u16 0, .int .u16 0, .int .u16 0, .int .u16 0, .int .u16 0, .int .u16 65279, .int .u16 0, .int .u16 0, .int .u16 0, .int .u16 0, .int .u16 0, .int .u16 0, .int .u16 0, .int .u16 0, .int .u16 0, .int .u16 0, .int .u16 0, .int .u16 0, .int .u16 65535, .int .u16 258, .int .u16 772, .int .u16 0, .int .u16 0, .int .u16 0, .int .u16 0, .int .u16 1, .int .u16 65535, .int .u16 32512, .int .u16 1, .int .u16 0, .int .u16 0, .int .u16 0, .int .u16 0, .int .u16 0, .int .u16 65534, .int .u16 32512, .int .u16 1]
def eNoA : Array Value := #[.int .u16 0, .int .u16 0, .int .u16 0, .int .u16 0, .int .u16 0, .int .u16 0, .int .u16 0, .int .u16 0, .int .u16 0, .int .u16 0, .int .u16 0, .int .u16 0, .int .u16 0, .int .u16 0, .int .u16 0, .int .u16 1, .int .u16 64512, .int .u16 0, .int .u16 0, .int .u16 0, .int .u16 0, .int .u16 0, .int .u16 0, .int .u16 0, .int .u16 65023, .int .u16 0, .int .u16 0, .int .u16 0, .int .u16 0, .int .u16 0, .int .u16 0, .int .u16 0, .int .u16 65152, .int .u16 0, .int .u16 0, .int .u16 0, .int .u16 0, .int .u16 0, .int .u16 0, .int .u16 0, .int .u16 65215, .int .u16 0, .int .u16 0, .int .u16 0, .int .u16 0, .int .u16 0, .int .u16 0, .int .u16 0, .int .u16 65280, .int .u16 0, .int .u16 0, .int .u16 0, .int .u16 0, .int .u16 0, .int .u16 0, .int .u16 0, .int .u16 65535, .int .u16 0, .int .u16 0, .int .u16 0, .int .u16 0, .int .u16 0, .int .u16 0, .int .u16 0, .int .u16 0, .int .u16 0, .int .u16 0, .int .u16 0, .int .u16 0, .int .u16 65535, .int .u16 32512, .int .u16 1, .int .u16 0, .int .u16 0, .int .u16 0, .int .u16 0, .int .u16 0, .int .u16 65535, .int .u16 0, .int .u16 0]
theorem eOut_all : ∀ j, j < 16 → free4 (eOut.getD j 0) = false ∧ eOut.getD j 0 < 4294967296 ∧ (j % 2 = 0 → 0 < j → free4 (eOut.getD j 0 - 1) = true ∧ 0 < eOut.getD j 0) ∧ (j % 2 = 1 → j < 15 → free4 (eOut.getD j 0 + 1) = true ∧ eOut.getD j 0 < 4294967295) := by decide +kernel
theorem eOut_cell : ∀ j, j < 16 → eOutA.toList[j]? = some (.int .u32 ((eOut.getD j 0 : Nat) : Int)) := by
 intro j hj
 have : j = 0 ∨ j = 1 ∨ j = 2 ∨ j = 3 ∨ j = 4 ∨ j = 5 ∨ j = 6 ∨ j = 7 ∨ j = 8 ∨ j = 9 ∨ j = 10 ∨ j = 11 ∨ j = 12 ∨ j = 13 ∨ j = 14 ∨ j = 15 := by omega
 rcases this with rfl | rfl | rfl | rfl | rfl | rfl | rfl | rfl | rfl | rfl | rfl | rfl | rfl | rfl | rfl | rfl <;> rfl
set_option maxRecDepth 100000 in
set_option maxHeartbeats 16000000 in
theorem policyEdges_walk (w : World) (hm : ML w) :
  Calls Tryz.prog 10 #[] w fun e w' => e = .returned (.bool true) ∧ Below w.heap.size w w' := by
 have D := Lib.hid fun (a : Nat) (ha : a < 4294967296) w => pip4_any a ha w
 have HC := Lib.hid eOut_cell
 have HA := Lib.hid eOut_all
 have I0 := Lib.hid fun w => (show free6 [0, 0, 0, 0, 0, 0, 0, 2] = true by decide +kernel) ▸ pip6_any 0 0 0 0 0 0 0 2 (by decide) w
 have I1 := Lib.hid fun w => (show free6 [64511, 0, 0, 0, 0, 0, 0, 0] = true by decide +kernel) ▸ pip6_any 64511 0 0 0 0 0 0 0 (by decide) w
 have I2 := Lib.hid fun w => (show free6 [65024, 0, 0, 0, 0, 0, 0, 0] = true by decide +kernel) ▸ pip6_any 65024 0 0 0 0 0 0 0 (by decide) w
 have I3 := Lib.hid fun w => (show free6 [65216, 0, 0, 0, 0, 0, 0, 0] = true by decide +kernel) ▸ pip6_any 65216 0 0 0 0 0 0 0 (by decide) w
 have I4 := Lib.hid fun w => (show free6 [65279, 0, 0, 0, 0, 0, 0, 0] = true by decide +kernel) ▸ pip6_any 65279 0 0 0 0 0 0 0 (by decide) w
 have I5 := Lib.hid fun w => (show free6 [0, 0, 0, 0, 0, 65535, 258, 772] = true by decide +kernel) ▸ pip6_any 0 0 0 0 0 65535 258 772 (by decide) w
 have I6 := Lib.hid fun w => (show free6 [0, 0, 0, 0, 1, 65535, 32512, 1] = true by decide +kernel) ▸ pip6_any 0 0 0 0 1 65535 32512 1 (by decide) w
 have I7 := Lib.hid fun w => (show free6 [0, 0, 0, 0, 0, 65534, 32512, 1] = true by decide +kernel) ▸ pip6_any 0 0 0 0 0 65534 32512 1 (by decide) w
 have N0 := Lib.hid fun w => (show free6 [0, 0, 0, 0, 0, 0, 0, 0] = false by decide +kernel) ▸ pip6_any 0 0 0 0 0 0 0 0 (by decide) w
 have N1 := Lib.hid fun w => (show free6 [0, 0, 0, 0, 0, 0, 0, 1] = false by decide +kernel) ▸ pip6_any 0 0 0 0 0 0 0 1 (by decide) w
 have N2 := Lib.hid fun w => (show free6 [64512, 0, 0, 0, 0, 0, 0, 0] = false by decide +kernel) ▸ pip6_any 64512 0 0 0 0 0 0 0 (by decide) w
 have N3 := Lib.hid fun w => (show free6 [65023, 0, 0, 0, 0, 0, 0, 0] = false by decide +kernel) ▸ pip6_any 65023 0 0 0 0 0 0 0 (by decide) w
 have N4 := Lib.hid fun w => (show free6 [65152, 0, 0, 0, 0, 0, 0, 0] = false by decide +kernel) ▸ pip6_any 65152 0 0 0 0 0 0 0 (by decide) w
 have N5 := Lib.hid fun w => (show free6 [65215, 0, 0, 0, 0, 0, 0, 0] = false by decide +kernel) ▸ pip6_any 65215 0 0 0 0 0 0 0 (by decide) w
 have N6 := Lib.hid fun w => (show free6 [65280, 0, 0, 0, 0, 0, 0, 0] = false by decide +kernel) ▸ pip6_any 65280 0 0 0 0 0 0 0 (by decide) w
 have N7 := Lib.hid fun w => (show free6 [65535, 0, 0, 0, 0, 0, 0, 0] = false by decide +kernel) ▸ pip6_any 65535 0 0 0 0 0 0 0 (by decide) w
 have N8 := Lib.hid fun w => (show free6 [0, 0, 0, 0, 0, 65535, 32512, 1] = false by decide +kernel) ▸ pip6_any 0 0 0 0 0 65535 32512 1 (by decide) w
 have N9 := Lib.hid fun w => (show free6 [0, 0, 0, 0, 0, 65535, 0, 0] = false by decide +kernel) ▸ pip6_any 0 0 0 0 0 65535 0 0 (by decide) w
 go_enter Tryz.func10, Tryz.ntmps10
 go_wp2_with (go_at_call 21; go_must (go_fit (begun14_any _ hm)); rintro e w1 ⟨rfl, hb1⟩)
 have hRo : Row (w1.alloc (.cells #[.int .u32 0, .int .u32 16777215, .int .u32 167772160, .int .u32 184549375, .int .u32 1681915904, .int .u32 1686110207, .int .u32 2130706432, .int .u32 2147483647, .int .u32 2851995648, .int .u32 2852061183, .int .u32 2886729728, .int .u32 2887778303, .int .u32 3232235520, .int .u32 3232301055, .int .u32 3758096384, .int .u32 4294967295] 22)) w1.heap.size eOutA.toList := Row.made14 w1 eOutA 22
 have hzo : w1.heap.size < (w1.alloc (.cells #[.int .u32 0, .int .u32 16777215, .int .u32 167772160, .int .u32 184549375, .int .u32 1681915904, .int .u32 1686110207, .int .u32 2130706432, .int .u32 2147483647, .int .u32 2851995648, .int .u32 2852061183, .int .u32 2886729728, .int .u32 2887778303, .int .u32 3232235520, .int .u32 3232301055, .int .u32 3758096384, .int .u32 4294967295] 22)).heap.size := by simp
 have HO := Lib.hid fun (j : Nat) (hj : j < 16) => hRo.1 j _ (HC.out j hj)
 have hBo := bnew hb1 (.cells #[.int .u32 0, .int .u32 16777215, .int .u32 167772160, .int .u32 184549375, .int .u32 1681915904, .int .u32 1686110207, .int .u32 2130706432, .int .u32 2147483647, .int .u32 2851995648, .int .u32 2852061183, .int .u32 2886729728, .int .u32 2887778303, .int .u32 3232235520, .int .u32 3232301055, .int .u32 3758096384, .int .u32 4294967295] 22)
 obtain ⟨W1, hW1⟩ : ∃ W1, W1 = w1.alloc (.cells #[.int .u32 0, .int .u32 16777215, .int .u32 167772160, .int .u32 184549375, .int .u32 1681915904, .int .u32 1686110207, .int .u32 2130706432, .int .u32 2147483647, .int .u32 2851995648, .int .u32 2852061183, .int .u32 2886729728, .int .u32 2887778303, .int .u32 3232235520, .int .u32 3232301055, .int .u32 3758096384, .int .u32 4294967295] 22) := ⟨_, rfl⟩
 rw [← hW1] at hzo HO hBo ⊢
 obtain ⟨g, hg⟩ : ∃ g, g = w1.heap.size := ⟨_, rfl⟩
 rw [← hg] at hzo HO ⊢
 clear hW1 hg hRo hb1 hm HC
 go_loopg [2] (16) (fun k s2 wr => ∃ j : Nat, k = 16 - j ∧ j ≤ 16 ∧ s2 = .int .i64 (j : Int) ∧ Below W1.heap.size W1 wr)
 case atStart => exact ⟨0, rfl, by omega, rfl, Below.refl _ _⟩
 case round =>
  obtain ⟨j, rfl, hj, rfl, hbel⟩ := hrel
  by_cases hlt : j < 16
  ·
   have hcx := cell_on hbel (HO.out j hlt) hzo
   obtain ⟨f1, f2, f3, f4⟩ := HA.out j hlt
   obtain ⟨x, hx⟩ : ∃ x, x = eOut.getD j 0 := ⟨_, rfl⟩
   rw [← hx] at hcx f1 f2 f3 f4
   have C1 := Lib.hid fun w => D.out x f2 w
   rw [f1] at C1
   have hlt1 : (j : Int) < 16 := by omega
   have hj0 : (0 : Int) ≤ (j : Int) := by omega
   clear hx f1
   by_cases hp : j % 2 = 0
   ·
    have t1 : ((j : Int)).tmod 2 = 0 := by rw [Int.tmod_eq_emod_of_nonneg (by omega)]; omega
    by_cases h0 : j = 0
    ·
     have h0I : (j : Int) ≤ 0 := by omega
     clear hp h0 f3 f4
     go_wp2_with (go_at_call 22; go_must (go_fit (C1.out _)); rintro e w2 ⟨rfl, hb2⟩; have hcx2 := cell_on hb2 hcx (Nat.lt_of_lt_of_le hzo hbel.size))
     go_roundg (16 - (j + 1))
     case measure => omega
     case rel => exact ⟨j + 1, rfl, by omega, by go_num, bnext hbel hb2⟩
    ·
     have h0I : (0 : Int) < (j : Int) := by omega
     obtain ⟨g1, g2⟩ := f3 hp (by omega)
     obtain ⟨y, hy⟩ : ∃ y, y = x - 1 := ⟨_, rfl⟩
     have hyI : (x : Int) - 1 = (y : Int) := by omega
     have hyw : IntKind.u32.wrap (y : Int) = (y : Int) := u32_wrapQ (by omega)
     rw [← hy] at g1
     have C2 := Lib.hid fun w => D.out y (by omega) w
     rw [g1] at C2
     clear hp h0 f3 f4 hy g1
     go_wp2_with (first
      | (go_at_call 22; go_fit (C1.out wr); rintro e w2 ⟨rfl, hb2⟩; have hcx2 := cell_on hb2 hcx (Nat.lt_of_lt_of_le hzo hbel.size))
      | (go_at_call 22; go_must (go_fit (C2.out w2)); rintro e w3 ⟨rfl, hb3⟩))
     go_roundg (16 - (j + 1))
     case measure => omega
     case rel => exact ⟨j + 1, rfl, by omega, by go_num, bnext (bnext hbel hb2) hb3⟩
   ·
    have t1 : ((j : Int)).tmod 2 = 1 := by rw [Int.tmod_eq_emod_of_nonneg (by omega)]; omega
    by_cases h15 : j < 15
    ·
     have h0I : (j : Int) < 15 := by omega
     obtain ⟨g1, g2⟩ := f4 (by omega) h15
     obtain ⟨y, hy⟩ : ∃ y, y = x + 1 := ⟨_, rfl⟩
     have hyI : (x : Int) + 1 = (y : Int) := by omega
     have hyw : IntKind.u32.wrap (y : Int) = (y : Int) := u32_wrapQ (by omega)
     rw [← hy] at g1
     have C2 := Lib.hid fun w => D.out y (by omega) w
     rw [g1] at C2
     clear hp h15 f3 f4 hy g1
     go_wp2_with (first
      | (go_at_call 22; go_fit (C1.out wr); rintro e w2 ⟨rfl, hb2⟩; have hcx2 := cell_on hb2 hcx (Nat.lt_of_lt_of_le hzo hbel.size))
      | (go_at_call 22; go_must (go_fit (C2.out w2)); rintro e w3 ⟨rfl, hb3⟩))
     go_roundg (16 - (j + 1))
     case measure => omega
     case rel => exact ⟨j + 1, rfl, by omega, by go_num, bnext (bnext hbel hb2) hb3⟩
    ·
     have h0I : (15 : Int) ≤ (j : Int) := by omega
     clear hp h15 f3 f4
     go_wp2_with (go_at_call 22; go_must (go_fit (C1.out _)); rintro e w2 ⟨rfl, hb2⟩; have hcx2 := cell_on hb2 hcx (Nat.lt_of_lt_of_le hzo hbel.size))
     go_roundg (16 - (j + 1))
     case measure => omega
     case rel => exact ⟨j + 1, rfl, by omega, by go_num, bnext hbel hb2⟩
  ·
   obtain rfl : j = 16 := by omega
   clear hlt
   go_wp2
   change Code.wp _ _ _ _ ((wr.alloc (.cells eInA 24)).alloc (.cells eNoA 24))
   have hRi0 : Row (wr.alloc (.cells eInA 24)) wr.heap.size eInA.toList := Row.made14 wr eInA 24
   have hsz1 : (wr.alloc (.cells eInA 24)).heap.size = wr.heap.size + 1 := by simp
   have hRn : Row ((wr.alloc (.cells eInA 24)).alloc (.cells eNoA 24)) (wr.heap.size + 1) eNoA.toList := hsz1 ▸ Row.made14 (wr.alloc (.cells eInA 24)) eNoA 24
   have hsz2 : ((wr.alloc (.cells eInA 24)).alloc (.cells eNoA 24)).heap.size = wr.heap.size + 2 := by simp
   have hB2 : Below w.heap.size w ((wr.alloc (.cells eInA 24)).alloc (.cells eNoA 24)) := bnew (bnew (bnext hBo hbel) _) _
   have hBi : Below (wr.alloc (.cells eInA 24)).heap.size (wr.alloc (.cells eInA 24)) ((wr.alloc (.cells eInA 24)).alloc (.cells eNoA 24)) := bnew (Below.refl _ _) _
   have HI := Lib.hid fun (k : Nat) (v : Value) (hv : eInA.toList[k]? = some v) => cell_on hBi (hRi0.1 k v hv) (by rw [hsz1]; exact Nat.lt_succ_self _)
   have HN := Lib.hid fun (k : Nat) (v : Value) (hv : eNoA.toList[k]? = some v) => hRn.1 k v hv
   obtain ⟨W3, hW3⟩ : ∃ W3, W3 = (wr.alloc (.cells eInA 24)).alloc (.cells eNoA 24) := ⟨_, rfl⟩
   rw [← hW3] at HI HN hB2 hsz2 ⊢
   obtain ⟨gi, hgi⟩ : ∃ g, g = wr.heap.size := ⟨_, rfl⟩
   rw [← hgi] at HI HN hsz2 ⊢
   have hli : gi < W3.heap.size := by omega
   have hln : gi + 1 < W3.heap.size := by omega
   clear hRi0 hsz1 hRn hsz2 hBi hW3 hgi HO hzo hBo hbel D HA wr
   go_loopg [5] (8) (fun k s5 wq => ∃ j : Nat, k = 8 - j ∧ j ≤ 8 ∧ s5 = .int .i64 (j : Int) ∧ Below W3.heap.size W3 wq)
   case atStart => exact ⟨0, rfl, by omega, rfl, Below.refl _ _⟩
   case round =>
    obtain ⟨j, rfl, hj, rfl, hbq⟩ := hrel
    rcases (show j = 0 ∨ j = 1 ∨ j = 2 ∨ j = 3 ∨ j = 4 ∨ j = 5 ∨ j = 6 ∨ j = 7 ∨ j = 8 by omega) with rfl | rfl | rfl | rfl | rfl | rfl | rfl | rfl | rfl
    ·
     have x0 := cell_on hbq (HI.out 0 _ rfl) hli
     have x1 := cell_on hbq (HI.out 1 _ rfl) hli
     have x2 := cell_on hbq (HI.out 2 _ rfl) hli
     have x3 := cell_on hbq (HI.out 3 _ rfl) hli
     have x4 := cell_on hbq (HI.out 4 _ rfl) hli
     have x5 := cell_on hbq (HI.out 5 _ rfl) hli
     have x6 := cell_on hbq (HI.out 6 _ rfl) hli
     have x7 := cell_on hbq (HI.out 7 _ rfl) hli
     go_wp2_with (go_at_call 24; go_must (go_fit (I0.out _)); rintro e w2 ⟨rfl, hb2⟩)
     go_roundg (8 - (0 + 1))
     case measure => omega
     case rel => exact ⟨0 + 1, rfl, by omega, by go_num, bnext hbq hb2⟩
    ·
     have x0 := cell_on hbq (HI.out 8 _ rfl) hli
     have x1 := cell_on hbq (HI.out 9 _ rfl) hli
     have x2 := cell_on hbq (HI.out 10 _ rfl) hli
     have x3 := cell_on hbq (HI.out 11 _ rfl) hli
     have x4 := cell_on hbq (HI.out 12 _ rfl) hli
     have x5 := cell_on hbq (HI.out 13 _ rfl) hli
     have x6 := cell_on hbq (HI.out 14 _ rfl) hli
     have x7 := cell_on hbq (HI.out 15 _ rfl) hli
     go_wp2_with (go_at_call 24; go_must (go_fit (I1.out _)); rintro e w2 ⟨rfl, hb2⟩)
     go_roundg (8 - (1 + 1))
     case measure => omega
     case rel => exact ⟨1 + 1, rfl, by omega, by go_num, bnext hbq hb2⟩
    ·
     have x0 := cell_on hbq (HI.out 16 _ rfl) hli
     have x1 := cell_on hbq (HI.out 17 _ rfl) hli
     have x2 := cell_on hbq (HI.out 18 _ rfl) hli
     have x3 := cell_on hbq (HI.out 19 _ rfl) hli
     have x4 := cell_on hbq (HI.out 20 _ rfl) hli
     have x5 := cell_on hbq (HI.out 21 _ rfl) hli
     have x6 := cell_on hbq (HI.out 22 _ rfl) hli
     have x7 := cell_on hbq (HI.out 23 _ rfl) hli
     go_wp2_with (go_at_call 24; go_must (go_fit (I2.out _)); rintro e w2 ⟨rfl, hb2⟩)
     go_roundg (8 - (2 + 1))
     case measure => omega
     case rel => exact ⟨2 + 1, rfl, by omega, by go_num, bnext hbq hb2⟩
    ·
     have x0 := cell_on hbq (HI.out 24 _ rfl) hli
     have x1 := cell_on hbq (HI.out 25 _ rfl) hli
     have x2 := cell_on hbq (HI.out 26 _ rfl) hli
     have x3 := cell_on hbq (HI.out 27 _ rfl) hli
     have x4 := cell_on hbq (HI.out 28 _ rfl) hli
     have x5 := cell_on hbq (HI.out 29 _ rfl) hli
     have x6 := cell_on hbq (HI.out 30 _ rfl) hli
     have x7 := cell_on hbq (HI.out 31 _ rfl) hli
     go_wp2_with (go_at_call 24; go_must (go_fit (I3.out _)); rintro e w2 ⟨rfl, hb2⟩)
     go_roundg (8 - (3 + 1))
     case measure => omega
     case rel => exact ⟨3 + 1, rfl, by omega, by go_num, bnext hbq hb2⟩
    ·
     have x0 := cell_on hbq (HI.out 32 _ rfl) hli
     have x1 := cell_on hbq (HI.out 33 _ rfl) hli
     have x2 := cell_on hbq (HI.out 34 _ rfl) hli
     have x3 := cell_on hbq (HI.out 35 _ rfl) hli
     have x4 := cell_on hbq (HI.out 36 _ rfl) hli
     have x5 := cell_on hbq (HI.out 37 _ rfl) hli
     have x6 := cell_on hbq (HI.out 38 _ rfl) hli
     have x7 := cell_on hbq (HI.out 39 _ rfl) hli
     go_wp2_with (go_at_call 24; go_must (go_fit (I4.out _)); rintro e w2 ⟨rfl, hb2⟩)
     go_roundg (8 - (4 + 1))
     case measure => omega
     case rel => exact ⟨4 + 1, rfl, by omega, by go_num, bnext hbq hb2⟩
    ·
     have x0 := cell_on hbq (HI.out 40 _ rfl) hli
     have x1 := cell_on hbq (HI.out 41 _ rfl) hli
     have x2 := cell_on hbq (HI.out 42 _ rfl) hli
     have x3 := cell_on hbq (HI.out 43 _ rfl) hli
     have x4 := cell_on hbq (HI.out 44 _ rfl) hli
     have x5 := cell_on hbq (HI.out 45 _ rfl) hli
     have x6 := cell_on hbq (HI.out 46 _ rfl) hli
     have x7 := cell_on hbq (HI.out 47 _ rfl) hli
     go_wp2_with (go_at_call 24; go_must (go_fit (I5.out _)); rintro e w2 ⟨rfl, hb2⟩)
     go_roundg (8 - (5 + 1))
     case measure => omega
     case rel => exact ⟨5 + 1, rfl, by omega, by go_num, bnext hbq hb2⟩
    ·
     have x0 := cell_on hbq (HI.out 48 _ rfl) hli
     have x1 := cell_on hbq (HI.out 49 _ rfl) hli
     have x2 := cell_on hbq (HI.out 50 _ rfl) hli
     have x3 := cell_on hbq (HI.out 51 _ rfl) hli
     have x4 := cell_on hbq (HI.out 52 _ rfl) hli
     have x5 := cell_on hbq (HI.out 53 _ rfl) hli
     have x6 := cell_on hbq (HI.out 54 _ rfl) hli
     have x7 := cell_on hbq (HI.out 55 _ rfl) hli
     go_wp2_with (go_at_call 24; go_must (go_fit (I6.out _)); rintro e w2 ⟨rfl, hb2⟩)
     go_roundg (8 - (6 + 1))
     case measure => omega
     case rel => exact ⟨6 + 1, rfl, by omega, by go_num, bnext hbq hb2⟩
    ·
     have x0 := cell_on hbq (HI.out 56 _ rfl) hli
     have x1 := cell_on hbq (HI.out 57 _ rfl) hli
     have x2 := cell_on hbq (HI.out 58 _ rfl) hli
     have x3 := cell_on hbq (HI.out 59 _ rfl) hli
     have x4 := cell_on hbq (HI.out 60 _ rfl) hli
     have x5 := cell_on hbq (HI.out 61 _ rfl) hli
     have x6 := cell_on hbq (HI.out 62 _ rfl) hli
     have x7 := cell_on hbq (HI.out 63 _ rfl) hli
     go_wp2_with (go_at_call 24; go_must (go_fit (I7.out _)); rintro e w2 ⟨rfl, hb2⟩)
     go_roundg (8 - (7 + 1))
     case measure => omega
     case rel => exact ⟨7 + 1, rfl, by omega, by go_num, bnext hbq hb2⟩
    ·
     go_wp2
     go_loopg [6] (10) (fun k s6 wz => ∃ j : Nat, k = 10 - j ∧ j ≤ 10 ∧ s6 = .int .i64 (j : Int) ∧ Below W3.heap.size W3 wz)
     case atStart => exact ⟨0, rfl, by omega, rfl, hbq⟩
     case round =>
      obtain ⟨j, rfl, hj, rfl, hbz⟩ := hrel
      rcases (show j = 0 ∨ j = 1 ∨ j = 2 ∨ j = 3 ∨ j = 4 ∨ j = 5 ∨ j = 6 ∨ j = 7 ∨ j = 8 ∨ j = 9 ∨ j = 10 by omega) with rfl | rfl | rfl | rfl | rfl | rfl | rfl | rfl | rfl | rfl | rfl
      ·
       have x0 := cell_on hbz (HN.out 0 _ rfl) hln
       have x1 := cell_on hbz (HN.out 1 _ rfl) hln
       have x2 := cell_on hbz (HN.out 2 _ rfl) hln
       have x3 := cell_on hbz (HN.out 3 _ rfl) hln
       have x4 := cell_on hbz (HN.out 4 _ rfl) hln
       have x5 := cell_on hbz (HN.out 5 _ rfl) hln
       have x6 := cell_on hbz (HN.out 6 _ rfl) hln
       have x7 := cell_on hbz (HN.out 7 _ rfl) hln
       go_wp2_with (go_at_call 24; go_must (go_fit (N0.out _)); rintro e w2 ⟨rfl, hb2⟩)
       go_roundg (10 - (0 + 1))
       case measure => omega
       case rel => exact ⟨0 + 1, rfl, by omega, by go_num, bnext hbz hb2⟩
      ·
       have x0 := cell_on hbz (HN.out 8 _ rfl) hln
       have x1 := cell_on hbz (HN.out 9 _ rfl) hln
       have x2 := cell_on hbz (HN.out 10 _ rfl) hln
       have x3 := cell_on hbz (HN.out 11 _ rfl) hln
       have x4 := cell_on hbz (HN.out 12 _ rfl) hln
       have x5 := cell_on hbz (HN.out 13 _ rfl) hln
       have x6 := cell_on hbz (HN.out 14 _ rfl) hln
       have x7 := cell_on hbz (HN.out 15 _ rfl) hln
       go_wp2_with (go_at_call 24; go_must (go_fit (N1.out _)); rintro e w2 ⟨rfl, hb2⟩)
       go_roundg (10 - (1 + 1))
       case measure => omega
       case rel => exact ⟨1 + 1, rfl, by omega, by go_num, bnext hbz hb2⟩
      ·
       have x0 := cell_on hbz (HN.out 16 _ rfl) hln
       have x1 := cell_on hbz (HN.out 17 _ rfl) hln
       have x2 := cell_on hbz (HN.out 18 _ rfl) hln
       have x3 := cell_on hbz (HN.out 19 _ rfl) hln
       have x4 := cell_on hbz (HN.out 20 _ rfl) hln
       have x5 := cell_on hbz (HN.out 21 _ rfl) hln
       have x6 := cell_on hbz (HN.out 22 _ rfl) hln
       have x7 := cell_on hbz (HN.out 23 _ rfl) hln
       go_wp2_with (go_at_call 24; go_must (go_fit (N2.out _)); rintro e w2 ⟨rfl, hb2⟩)
       go_roundg (10 - (2 + 1))
       case measure => omega
       case rel => exact ⟨2 + 1, rfl, by omega, by go_num, bnext hbz hb2⟩
      ·
       have x0 := cell_on hbz (HN.out 24 _ rfl) hln
       have x1 := cell_on hbz (HN.out 25 _ rfl) hln
       have x2 := cell_on hbz (HN.out 26 _ rfl) hln
       have x3 := cell_on hbz (HN.out 27 _ rfl) hln
       have x4 := cell_on hbz (HN.out 28 _ rfl) hln
       have x5 := cell_on hbz (HN.out 29 _ rfl) hln
       have x6 := cell_on hbz (HN.out 30 _ rfl) hln
       have x7 := cell_on hbz (HN.out 31 _ rfl) hln
       go_wp2_with (go_at_call 24; go_must (go_fit (N3.out _)); rintro e w2 ⟨rfl, hb2⟩)
       go_roundg (10 - (3 + 1))
       case measure => omega
       case rel => exact ⟨3 + 1, rfl, by omega, by go_num, bnext hbz hb2⟩
      ·
       have x0 := cell_on hbz (HN.out 32 _ rfl) hln
       have x1 := cell_on hbz (HN.out 33 _ rfl) hln
       have x2 := cell_on hbz (HN.out 34 _ rfl) hln
       have x3 := cell_on hbz (HN.out 35 _ rfl) hln
       have x4 := cell_on hbz (HN.out 36 _ rfl) hln
       have x5 := cell_on hbz (HN.out 37 _ rfl) hln
       have x6 := cell_on hbz (HN.out 38 _ rfl) hln
       have x7 := cell_on hbz (HN.out 39 _ rfl) hln
       go_wp2_with (go_at_call 24; go_must (go_fit (N4.out _)); rintro e w2 ⟨rfl, hb2⟩)
       go_roundg (10 - (4 + 1))
       case measure => omega
       case rel => exact ⟨4 + 1, rfl, by omega, by go_num, bnext hbz hb2⟩
      ·
       have x0 := cell_on hbz (HN.out 40 _ rfl) hln
       have x1 := cell_on hbz (HN.out 41 _ rfl) hln
       have x2 := cell_on hbz (HN.out 42 _ rfl) hln
       have x3 := cell_on hbz (HN.out 43 _ rfl) hln
       have x4 := cell_on hbz (HN.out 44 _ rfl) hln
       have x5 := cell_on hbz (HN.out 45 _ rfl) hln
       have x6 := cell_on hbz (HN.out 46 _ rfl) hln
       have x7 := cell_on hbz (HN.out 47 _ rfl) hln
       go_wp2_with (go_at_call 24; go_must (go_fit (N5.out _)); rintro e w2 ⟨rfl, hb2⟩)
       go_roundg (10 - (5 + 1))
       case measure => omega
       case rel => exact ⟨5 + 1, rfl, by omega, by go_num, bnext hbz hb2⟩
      ·
       have x0 := cell_on hbz (HN.out 48 _ rfl) hln
       have x1 := cell_on hbz (HN.out 49 _ rfl) hln
       have x2 := cell_on hbz (HN.out 50 _ rfl) hln
       have x3 := cell_on hbz (HN.out 51 _ rfl) hln
       have x4 := cell_on hbz (HN.out 52 _ rfl) hln
       have x5 := cell_on hbz (HN.out 53 _ rfl) hln
       have x6 := cell_on hbz (HN.out 54 _ rfl) hln
       have x7 := cell_on hbz (HN.out 55 _ rfl) hln
       go_wp2_with (go_at_call 24; go_must (go_fit (N6.out _)); rintro e w2 ⟨rfl, hb2⟩)
       go_roundg (10 - (6 + 1))
       case measure => omega
       case rel => exact ⟨6 + 1, rfl, by omega, by go_num, bnext hbz hb2⟩
      ·
       have x0 := cell_on hbz (HN.out 56 _ rfl) hln
       have x1 := cell_on hbz (HN.out 57 _ rfl) hln
       have x2 := cell_on hbz (HN.out 58 _ rfl) hln
       have x3 := cell_on hbz (HN.out 59 _ rfl) hln
       have x4 := cell_on hbz (HN.out 60 _ rfl) hln
       have x5 := cell_on hbz (HN.out 61 _ rfl) hln
       have x6 := cell_on hbz (HN.out 62 _ rfl) hln
       have x7 := cell_on hbz (HN.out 63 _ rfl) hln
       go_wp2_with (go_at_call 24; go_must (go_fit (N7.out _)); rintro e w2 ⟨rfl, hb2⟩)
       go_roundg (10 - (7 + 1))
       case measure => omega
       case rel => exact ⟨7 + 1, rfl, by omega, by go_num, bnext hbz hb2⟩
      ·
       have x0 := cell_on hbz (HN.out 64 _ rfl) hln
       have x1 := cell_on hbz (HN.out 65 _ rfl) hln
       have x2 := cell_on hbz (HN.out 66 _ rfl) hln
       have x3 := cell_on hbz (HN.out 67 _ rfl) hln
       have x4 := cell_on hbz (HN.out 68 _ rfl) hln
       have x5 := cell_on hbz (HN.out 69 _ rfl) hln
       have x6 := cell_on hbz (HN.out 70 _ rfl) hln
       have x7 := cell_on hbz (HN.out 71 _ rfl) hln
       go_wp2_with (go_at_call 24; go_must (go_fit (N8.out _)); rintro e w2 ⟨rfl, hb2⟩)
       go_roundg (10 - (8 + 1))
       case measure => omega
       case rel => exact ⟨8 + 1, rfl, by omega, by go_num, bnext hbz hb2⟩
      ·
       have x0 := cell_on hbz (HN.out 72 _ rfl) hln
       have x1 := cell_on hbz (HN.out 73 _ rfl) hln
       have x2 := cell_on hbz (HN.out 74 _ rfl) hln
       have x3 := cell_on hbz (HN.out 75 _ rfl) hln
       have x4 := cell_on hbz (HN.out 76 _ rfl) hln
       have x5 := cell_on hbz (HN.out 77 _ rfl) hln
       have x6 := cell_on hbz (HN.out 78 _ rfl) hln
       have x7 := cell_on hbz (HN.out 79 _ rfl) hln
       go_wp2_with (go_at_call 24; go_must (go_fit (N9.out _)); rintro e w2 ⟨rfl, hb2⟩)
       go_roundg (10 - (9 + 1))
       case measure => omega
       case rel => exact ⟨9 + 1, rfl, by omega, by go_num, bnext hbz hb2⟩
      ·
       go_wp2
       go_ret
       exact ⟨rfl, bnext hB2 hbz⟩
end Go.Proofs.YtoapelcofjjdnaaGreatDoor
