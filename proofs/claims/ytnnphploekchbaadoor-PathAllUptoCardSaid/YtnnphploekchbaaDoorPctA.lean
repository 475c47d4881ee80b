/- The walks of pct's sets: which set a number is, which bytes lie in it, how a byte is shown. -/
import Derived.Test.YtnnphploekchbaaDoorPctP
import Derived.Test.YtnnphploekchbaaDoorBld
import Derived.Test.YtnnphploekchbaaDoorPart
import Derived.Test.YtnnphploekchbaaDoorUtfA
import Derived.Lib.IndexAny
namespace Go.Proofs.YtnnphploekchbaaDoor
set_option linter.all false
open Go.RowKit

set_option maxRecDepth 100000 in
set_option maxHeartbeats 1000000 in
theorem low_any (c : UInt8) (w : World) : Calls Tryd.prog 134 #[.agg #[], .int .u8 (c.toNat : Int)] w fun e w' => e = .returned (.bool (pLow c)) ∧ Below w.heap.size w w' := by
  go_enter Tryd.func134, Tryd.ntmps134
  go_wp2
  all_goals go_ret
  all_goals exact ⟨ret_bool (by unfold pLow; rw [Bool.eq_iff_iff]; simp; omega), (Below.refl _ _).alloc (Nat.le_refl _) _⟩

set_option maxRecDepth 100000 in
set_option maxHeartbeats 1000000 in
theorem inControl_any (c : UInt8) (w : World) : Calls Tryd.prog 132 #[.agg #[], .int .u8 (c.toNat : Int)] w fun e w' => e = .returned (.bool (pLow c)) ∧ Below w.heap.size w w' := by
  go_enter Tryd.func132, Tryd.ntmps132
  go_wp2_with (go_at_call 134; go_must (go_fit (low_any c _)); rintro e w1 ⟨rfl, hb1⟩)
  go_ret
  exact ⟨rfl, bnext (bnew (Below.refl _ _) _) hb1⟩

theorem idx_mem (t : List UInt8) (c : UInt8) : decide (0 ≤ Lib.indexByte t c) = t.contains c := (Lib.contains_iff_indexByte t c).symm
theorem idx_out (t : List UInt8) (c : UInt8) : decide (Lib.indexByte t c < 0) = !t.contains c := by
  rw [← idx_mem, ← decide_not, decide_eq_decide]; omega

set_option maxRecDepth 100000 in
set_option maxHeartbeats 1000000 in
theorem inMore_any (t : List UInt8) (c : UInt8) (w : World) : Calls Tryd.prog 135 #[.agg #[.string (str t)], .int .u8 (c.toNat : Int)] w fun e w' => e = .returned (.bool (pLow c || t.contains c)) ∧ Below w.heap.size w w' := by
  have C := Lib.hid fun w => low_any c w
  have hp := run_partAt_zero (P := Tryd.prog) (shape_new w #[.string (str t)] 101 (0, 0)) (.inr ⟨0, by kernel_rfl⟩)
  by_cases h : pLow c = true
  · rw [h] at C ⊢
    clear h
    go_enter Tryd.func135, Tryd.ntmps135
    go_wp2_with (go_at_call 134; go_must (go_fit (C.out _)); rintro e w1 ⟨rfl, hb1⟩)
    go_ret
    exact ⟨rfl, bnext (bnew (Below.refl _ _) _) hb1⟩
  · have h := Bool.eq_false_iff.2 h
    rw [h] at C ⊢
    clear h
    go_enter Tryd.func135, Tryd.ntmps135
    go_wp2_with (first
      | (go_at_call 134; go_must (go_fit (C.out _)); rintro e w1 ⟨rfl, hb1⟩; have hc1 := cell_on hb1 (b := w.heap.size) (o := 0) (cell_of_one (heap_alloc_new w _)) (by simp))
      | (go_at_call 112; go_must (go_fit (indexByte_any t _ _)); rintro e w2 ⟨rfl, rfl⟩))
    go_ret
    exact ⟨ret_bool (by rw [Bool.false_or]; exact idx_mem t c), bnext (bnew (Below.refl _ _) _) hb1⟩

set_option maxRecDepth 100000 in
set_option maxHeartbeats 2000000 in
theorem inForm_any (c : UInt8) (w : World) : Calls Tryd.prog 136 #[.agg #[], .int .u8 (c.toNat : Int)] w fun e w' => e = .returned (.bool (pForm c)) ∧ Below w.heap.size w w' := by
  have C := Lib.hid fun w => low_any c w
  have hp := run_partAt_zero (P := Tryd.prog) (shape_new w #[] 103 (0, 0)) (.inl (by kernel_rfl))
  by_cases h : pLow c = true
  · have e0 : pForm c = true := by unfold pForm; rw [h]; rfl
    rw [h] at C
    rw [e0]
    clear h e0
    go_enter Tryd.func136, Tryd.ntmps136
    go_wp2_with (go_at_call 134; go_must (go_fit (C.out _)); rintro e w1 ⟨rfl, hb1⟩)
    go_ret
    exact ⟨rfl, bnext (bnew (Below.refl _ _) _) hb1⟩
  · have h := Bool.eq_false_iff.2 h
    have e0 : pForm c = (!alnum c && !txt6.contains c) := by unfold pForm; rw [h]; rfl
    have E0 := Lib.hid e0
    rw [h] at C
    clear h e0
    go_enter Tryd.func136, Tryd.ntmps136
    go_wp2_with (first
      | (go_at_call 134; go_must (go_fit (C.out _)); rintro e w1 ⟨rfl, hb1⟩)
      | (go_at_call 112; go_must (go_fit (indexByte_any txt6 _ _)); rintro e w2 ⟨rfl, rfl⟩))
    all_goals go_ret
    all_goals refine ⟨ret_bool ?_, bnext (bnew (Below.refl _ _) _) hb1⟩
    all_goals rw [E0.out]
    all_goals first
      | (have hx : alnum c = true := (by unfold alnum; rw [decide_eq_true_eq]; omega); rw [hx]; rfl)
      | (have hx : alnum c = false := (by unfold alnum; rw [decide_eq_false_iff_not]; omega); rw [hx]; exact idx_out txt6 c)
set_option maxRecDepth 100000 in
set_option maxHeartbeats 1000000 in
theorem inNone_any (c : UInt8) (w : World) : Calls Tryd.prog 138 #[.agg #[], .int .u8 (c.toNat : Int)] w fun e w' => e = .returned (.bool false) ∧ Below w.heap.size w w' := by
  go_enter Tryd.func138, Tryd.ntmps138
  go_wp2
  go_ret
  exact ⟨rfl, bnew (Below.refl _ _) _⟩

def hexDigits : ByteArray := ⟨#[48, 49, 50, 51, 52, 53, 54, 55, 56, 57, 65, 66, 67, 68, 69, 70]⟩
theorem hexdig_fin : ∀ k : Fin 16, hexDigits.data[k.val]? = some (hexU k.val) := by decide
theorem hexdig {m : Nat} (hm : m < 16) (h : m < (ByteArray.mk #[48, 49, 50, 51, 52, 53, 54, 55, 56, 57, 65, 66, 67, 68, 69, 70]).size) : (ByteArray.mk #[48, 49, 50, 51, 52, 53, 54, 55, 56, 57, 65, 66, 67, 68, 69, 70])[m]'h = hexU m := by
  have h1 := hexdig_fin ⟨m, hm⟩
  have h2 : hexDigits.data[m]? = some ((ByteArray.mk #[48, 49, 50, 51, 52, 53, 54, 55, 56, 57, 65, 66, 67, 68, 69, 70])[m]'h) := Array.getElem?_eq_getElem (xs := hexDigits.data) (i := m) h
  rw [h2] at h1
  exact Option.some.inj h1
set_option maxRecDepth 100000 in
set_option maxHeartbeats 2000000 in
theorem showControl_any (c : UInt8) (w : World) : Calls Tryd.prog 133 #[.agg #[], .int .u8 (c.toNat : Int)] w fun e w' => e = .returned (.string (str (esc c))) ∧ Below w.heap.size w w' := by
  have h1 : (0 : Int) ≤ (c.toNat : Int) / 16 := by omega
  have h2 : (c.toNat : Int) / 16 < 16 := by have := byte_lt c; omega
  have h3 : (0 : Int) ≤ (c.toNat : Int) % 16 := by omega
  have h4 : (c.toNat : Int) % 16 < 16 := by omega
  have h5 : bits .and .u8 (c.toNat : Int) 15 = (c.toNat : Int) % 16 := by have := and_mask 4 (by decide) (a := (c.toNat : Int)) (by omega) (by have := byte_lt c; omega); simpa using this
  have hs := fun (x y : UInt8) => run_strM (P := Tryd.prog) (w := ((w.alloc (.cells #[] 99)).alloc (.cells #[.int .u8 37, .int .u8 (x.toNat : Int), .int .u8 (y.toNat : Int)] 5)).drew) (src := 42) (dst := 9) (e := 5) (c := 3) (l := [37, x, y]) (n := 3) (B := w.heap.size + 2) (A := some ⟨w.heap.size + 1, 0, none⟩) Tryd.underlying42 Tryd.underlying5 Tryd.underlying9 (by have := @Rd.lit (w.alloc (.cells #[] 99)) #[.int .u8 37, .int .u8 (x.toNat : Int), .int .u8 (y.toNat : Int)] 5 (0, 0); simp at this; exact Rd.drew this) rfl
  go_enter Tryd.func133, Tryd.ntmps133
  go_wp2
  go_region
  go_wp2
  go_ret
  refine ⟨?_, (bnew (bnew (Below.refl _ _) _) _).drew⟩
  rw [hexdig (m := c.toNat / 16) (by have := byte_lt c; omega), hexdig (m := c.toNat % 16) (by omega)]
  rfl

set_option maxRecDepth 100000 in
set_option maxHeartbeats 1000000 in
theorem showForm_any (c : UInt8) (w : World) : Calls Tryd.prog 137 #[.agg #[], .int .u8 (c.toNat : Int)] w fun e w' => e = .returned (.string (str (if c = 32 then [43] else esc c))) ∧ Below w.heap.size w w' := by
  have hp := run_partAt_zero (P := Tryd.prog) (shape_new w #[] 103 (0, 0)) (.inl (by kernel_rfl))
  by_cases h : c = 32
  · have hb : ((c.toNat : Int) == 32) = true := by rw [h]; rfl
    have E := Lib.hid (show (if c = 32 then [43] else esc c) = [43] from if_pos h)
    rw [E.out]
    clear h E
    go_enter Tryd.func137, Tryd.ntmps137
    go_wp2
    go_ret
    exact ⟨rfl, bnew (Below.refl _ _) _⟩
  · have hb : ((c.toNat : Int) == 32) = false := by
      rw [beq_eq_false_iff_ne]; intro e; exact h (byte_ext (by show c.toNat = 32; omega))
    have E := Lib.hid (show (if c = 32 then [43] else esc c) = esc c from if_neg h)
    rw [E.out]
    clear h E
    go_enter Tryd.func137, Tryd.ntmps137
    go_wp2_with (go_at_call 133; go_must (go_fit (showControl_any c _)); rintro e w1 ⟨rfl, hb1⟩)
    go_ret
    exact ⟨rfl, bnext (bnew (Below.refl _ _) _) hb1⟩

/-- The sets as the language has them. -/
def sigV (s : Int) : Value :=
  if s = 0 then .iface 99 (.agg #[])
  else if s = 1 then .iface 101 (.agg #[.string (str txt1)])
  else if s = 2 then .iface 101 (.agg #[.string (str txt2)])
  else if s = 3 then .iface 101 (.agg #[.string (str txt3)])
  else if s = 4 then .iface 101 (.agg #[.string (str txt4)])
  else if s = 5 then .iface 101 (.agg #[.string (str txt5)])
  else if s = 6 then .iface 103 (.agg #[])
  else .iface 104 (.agg #[])
theorem s_cases (s : Int) : s = 0 ∨ s = 1 ∨ s = 2 ∨ s = 3 ∨ s = 4 ∨ s = 5 ∨ s = 6 ∨ (s ≠ 0 ∧ s ≠ 1 ∧ s ≠ 2 ∧ s ≠ 3 ∧ s ≠ 4 ∧ s ≠ 5 ∧ s ≠ 6) := by omega

set_option maxRecDepth 100000 in
set_option maxHeartbeats 1000000 in
theorem of_any (s : Int) (w : World) : Calls Tryd.prog 67 #[.int .i64 s] w fun e w' => e = .returned (sigV s) ∧ w = w' := by
  rcases s_cases s with rfl | rfl | rfl | rfl | rfl | rfl | rfl | ⟨h0, h1, h2, h3, h4, h5, h6⟩
  iterate 7
    · go_enter Tryd.func67, Tryd.ntmps67
      go_wp2
      go_ret
      exact ⟨rfl, rfl⟩
  · have e : sigV s = .iface 104 (.agg #[]) := by unfold sigV; rw [if_neg h0, if_neg h1, if_neg h2, if_neg h3, if_neg h4, if_neg h5, if_neg h6]
    rw [e]
    clear e
    have b0 : (s == 0) = false := beq_eq_false_iff_ne.2 h0
    have b1 : (s == 1) = false := beq_eq_false_iff_ne.2 h1
    have b2 : (s == 2) = false := beq_eq_false_iff_ne.2 h2
    have b3 : (s == 3) = false := beq_eq_false_iff_ne.2 h3
    have b4 : (s == 4) = false := beq_eq_false_iff_ne.2 h4
    have b5 : (s == 5) = false := beq_eq_false_iff_ne.2 h5
    have b6 : (s == 6) = false := beq_eq_false_iff_ne.2 h6
    clear h0 h1 h2 h3 h4 h5 h6
    go_enter Tryd.func67, Tryd.ntmps67
    go_wp2
    go_ret
    exact ⟨rfl, rfl⟩
end Go.Proofs.YtnnphploekchbaaDoor

