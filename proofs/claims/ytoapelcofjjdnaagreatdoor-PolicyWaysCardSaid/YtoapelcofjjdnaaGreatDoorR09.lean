/- A part of the proof. -/
import Derived.Test.YtoapelcofjjdnaaGreatDoorR08
import Derived.Test.YtoapelcofjjdnaaGreatDoorR04
import Derived.IntWalk
namespace Go.Proofs.YtoapelcofjjdnaaGreatDoor
set_option linter.all false
open Go.RowKit
theorem u32_wrapQ {x : Nat} (h : x < 4294967296) : IntKind.u32.wrap (x : Int) = (x : Int) := by
 simp [IntKind.wrap, IntKind.bits, IntKind.signed]; omega
theorem u32_andQ {x : Nat} (h : x < 4294967296) : bits .and .u32 (x : Int) 255 = ((x % 256 : Nat) : Int) := by
 show IntKind.u32.wrap ((BitVec.ofInt 32 (x : Int) &&& BitVec.ofInt 32 ((255 : Nat) : Int)).toNat : Int) = _
 have e1 : BitVec.ofInt 32 (x : Int) = BitVec.ofNat 32 x := BitVec.ofInt_natCast ..
 have e2 : BitVec.ofInt 32 ((255 : Nat) : Int) = BitVec.ofNat 32 255 := BitVec.ofInt_natCast ..
 rw [e1, e2, BitVec.toNat_and, BitVec.toNat_ofNat, BitVec.toNat_ofNat, Nat.mod_eq_of_lt h, Nat.mod_eq_of_lt (show 255 < 2 ^ 32 by decide), show (255 : Nat) = 2 ^ 8 - 1 from rfl, Nat.and_two_pow_sub_one_eq_mod, u32_wrapQ (by omega)]
theorem u32_xorN {x y : Nat} (hx : x < 4294967296) (hy : y < 4294967296) : bits .xor .u32 (x : Int) (y : Int) = ((x ^^^ y : Nat) : Int) := by
 show IntKind.u32.wrap ((BitVec.ofInt 32 (x : Int) ^^^ BitVec.ofInt 32 (y : Int)).toNat : Int) = _
 have e1 : BitVec.ofInt 32 (x : Int) = BitVec.ofNat 32 x := BitVec.ofInt_natCast ..
 have e2 : BitVec.ofInt 32 (y : Int) = BitVec.ofNat 32 y := BitVec.ofInt_natCast ..
 have h3 : x ^^^ y < 2 ^ 32 := Nat.xor_lt_two_pow hx hy
 rw [e1, e2, BitVec.toNat_xor, BitVec.toNat_ofNat, BitVec.toNat_ofNat, Nat.mod_eq_of_lt hx, Nat.mod_eq_of_lt hy, u32_wrapQ h3]
theorem xor_nought {a b : Nat} : a ^^^ b = 0 ↔ a = b := by
 refine ⟨fun h => ?_, fun h => by rw [h, Nat.xor_self]⟩
 have e : (a ^^^ b) ^^^ b = 0 ^^^ b := by rw [h]
 rwa [Nat.xor_assoc, Nat.xor_self, Nat.xor_zero, Nat.zero_xor] at e
theorem xor_div (a x m : Nat) : (a ^^^ x) / 2 ^ m = 0 ↔ a / 2 ^ m = x / 2 ^ m := by
 rw [← Nat.shiftRight_eq_div_pow, ← Nat.shiftRight_eq_div_pow, ← Nat.shiftRight_eq_div_pow, Nat.shiftRight_xor_distrib, xor_nought]
set_option maxRecDepth 100000 in
set_option maxHeartbeats 4000000 in
theorem has14_any (a x n : Nat) (ha : a < 4294967296) (hx : x < 4294967296) (hn : n ≤ 32) (w : World) :
  Calls Tryz.prog 49 #[.agg #[.int .u32 (x : Int), .int .u64 (n : Int)], .int .u32 (a : Int)] w fun e w' => e = .returned (.bool (bHas a (x, n))) ∧ Below w.heap.size w w' := by
 have hbx := u32_xorN ha hx
 obtain ⟨m, hm⟩ : ∃ m : Nat, m = 32 - n := ⟨_, rfl⟩
 have hsub : (32 : Int) - (n : Int) = (m : Int) := by omega
 have hw1 : IntKind.u64.wrap (m : Int) = (m : Int) := IntWalk.u64_in _ (by omega)
 have HB := Lib.hid (show bHas a (x, n) = decide ((a ^^^ x) / 2 ^ m = 0) by
  unfold bHas
  rw [← hm]
  exact decide_eq_decide.2 (xor_div a x m).symm)
 obtain ⟨y, hy⟩ : ∃ y : Nat, y = a ^^^ x := ⟨_, rfl⟩
 rw [← hy] at hbx HB
 have hyl : y < 4294967296 := by rw [hy]; exact Nat.xor_lt_two_pow (n := 32) ha hx
 obtain ⟨q, hq⟩ : ∃ q : Nat, q = y / 2 ^ m := ⟨_, rfl⟩
 have hdv : (y : Int) / 2 ^ m = (q : Int) := by rw [hq]; simp
 rw [← hq] at HB
 clear hy hq hm
 go_enter Tryz.func49, Tryz.ntmps49
 go_wp2
 go_ret
 exact ⟨ret_bool (by rw [HB.out, Bool.eq_iff_iff, beq_iff_eq, decide_eq_true_eq]; omega), bnew (Below.refl _ _) _⟩
def blV (l : List (Nat × Nat)) : List Value := l.flatMap fun p => [Value.int .u32 (p.1 : Int), Value.int .u64 (p.2 : Int)]
theorem blV_len (l : List (Nat × Nat)) : (blV l).length = l.length * 2 := by
 unfold blV
 induction l with
 | nil => rfl
 | cons p l ih => rw [List.flatMap_cons, List.length_append, ih]; simp; omega
theorem blV_at {l : List (Nat × Nat)} {k : Nat} {p : Nat × Nat} (h : l[k]? = some p) : (blV l)[k * 2]? = some (.int .u32 (p.1 : Int)) ∧ (blV l)[k * 2 + 1]? = some (.int .u64 (p.2 : Int)) := by
 induction l generalizing k with
 | nil => cases h
 | cons q l ih =>
  cases k with
  | zero => simp at h; subst h; exact ⟨rfl, rfl⟩
  | succ k =>
   have := ih (k := k) (by simpa using h)
   have e : blV (q :: l) = [Value.int .u32 (q.1 : Int), Value.int .u64 (q.2 : Int)] ++ blV l := by unfold blV; rw [List.flatMap_cons]
   rw [e]
   refine ⟨?_, ?_⟩
   · rw [show (k + 1) * 2 = k * 2 + 2 from by omega, List.getElem?_append_right (by simp)]; simpa using this.1
   · rw [show (k + 1) * 2 + 1 = k * 2 + 1 + 2 from by omega, List.getElem?_append_right (by simp)]; simpa using this.2
theorem Rd.block_at {w : World} {B : Nat} {A : Option Addr} {l : List (Nat × Nat)} (h : Rd w B A (blV l)) {k : Nat} (hk : k < l.length) :
  ∃ b off p, A = some ⟨b, off, none⟩ ∧ b < B ∧ w.cell? ⟨b, off + k * 2, none⟩ = some (.int .u32 (p.1 : Int)) ∧ w.cell? ⟨b, off + k * 2 + 1, none⟩ = some (.int .u64 (p.2 : Int)) ∧ Hid (l[k]? = some p) := by
 obtain ⟨b, off, e, hb, hc⟩ := h (by rw [blV_len]; omega)
 have hp := blV_at (List.getElem?_eq_getElem hk)
 exact ⟨b, off, l[k], e, hb, hc _ _ hp.1, by rw [Nat.add_assoc]; exact hc _ _ hp.2, List.getElem?_eq_getElem hk⟩
set_option maxRecDepth 100000 in
set_option maxHeartbeats 4000000 in
theorem has1_any (g a : Nat) (p : Nat × Nat) (w : World) (hc : w.cell? ⟨g, 0, none⟩ = some (.int .u32 (a : Int))) (ha : a < 4294967296) (hp : p.1 < 4294967296 ∧ p.2 ≤ 32) :
  Calls Tryz.prog 48 #[.agg #[.int .u32 (p.1 : Int), .int .u64 (p.2 : Int)], .pointer (some ⟨g, 0, none⟩)] w fun e w' => e = .returned (.bool (bHas a p)) ∧ Below w.heap.size w w' := by
 have hg : g < w.heap.size := World.block_lt_of_cell? _ _ hc
 obtain ⟨x, n⟩ := p
 simp only at hp ⊢
 have hc0 : (w.alloc (.cells #[.int .u32 (x : Int), .int .u64 (n : Int)] 68)).cell? ⟨g, 0, none⟩ = some (.int .u32 (a : Int)) := by
  rw [World.cell?_alloc_lt w _ _ hg]; exact hc
 have C := Lib.hid fun w => has14_any a x n ha hp.1 hp.2 w
 go_enter Tryz.func48, Tryz.ntmps48
 go_wp2_with (go_at_call 49; go_must (go_fit (C.out _)); rintro e w1 ⟨rfl, hb1⟩)
 go_ret
 exact ⟨rfl, bnext (bnew (Below.refl _ _) _) hb1⟩
theorem any_takeK {α : Type} {P : α → Bool} {l : List α} {j : Nat} {x : α} (h : l[j]? = some x) (hf : (l.take j).any P = false) (hx : P x = false) : (l.take (j + 1)).any P = false := by
 obtain ⟨hj, e⟩ := List.getElem?_eq_some_iff.1 h
 rw [take_snoc' l j hj, e, List.any_append, hf]; simp [hx]
set_option maxRecDepth 100000 in
set_option maxHeartbeats 4000000 in
theorem idxK_any (g a : Nat) (A : Option Addr) (c : Nat) (l : List (Nat × Nat)) (w : World) (hr : Rd w w.heap.size A (blV l)) (hc : w.cell? ⟨g, 0, none⟩ = some (.int .u32 (a : Int))) (ha : a < 4294967296) (hl : l.length ≤ 1000) (hp : ∀ p ∈ l, p.1 < 4294967296 ∧ p.2 ≤ 32) :
  Calls Tryz.prog 91 #[.slice A l.length c, .func (.func 48) #[] #[.pointer (some ⟨g, 0, none⟩)]] w fun e w' => ∃ i : Int, e = .returned (.int .i64 i) ∧ Hid (0 ≤ i ↔ l.any (bHas a) = true) ∧ Below w.heap.size w w' := by
 have HP := Lib.hid hp
 clear hp
 have hg : g < w.heap.size := World.block_lt_of_cell? _ _ hc
 go_enter Tryz.func91, Tryz.ntmps91
 go_wp2
 go_loopg [8] (l.length) (fun k i wr => ∃ j : Nat, k = l.length - j ∧ j ≤ l.length ∧ i = .int .i64 j ∧ Hid ((l.take j).any (bHas a) = false) ∧ Below w.heap.size w wr)
 case atStart => exact ⟨0, rfl, Nat.zero_le _, rfl, rfl, Below.refl _ _⟩
 case round =>
  obtain ⟨j, rfl, hj, rfl, hn, hbel⟩ := hrel
  by_cases hlt : j < l.length
  ·
   obtain ⟨b, off, x, rfl, hb, hc1, hc2, hx⟩ := (hr.below hbel).block_at hlt
   have hlt1 : (j : Int) < (l.length : Int) := by omega
   have hj0 : (0 : Int) ≤ (j : Int) := by omega
   have C := Lib.hid (has1_any g a x wr (cell_on hbel hc hg) ha (HP.out x (List.mem_of_getElem? hx.out)))
   by_cases hp : bHas a x = true
   ·
    have HQ := Lib.hid hp
    rw [hp] at C
    clear hp
    go_wp2_with (go_at_call 48; go_must (go_fit C.out); rintro e w1 ⟨rfl, hb1⟩)
    go_ret
    exact ⟨_, rfl, ⟨fun _ => List.any_eq_true.2 ⟨x, List.mem_of_getElem? hx.out, HQ.out⟩, fun _ => by omega⟩, bnext hbel hb1⟩
   ·
    have hp := Bool.eq_false_iff.2 hp
    have HQ := Lib.hid hp
    rw [hp] at C
    clear hp
    go_wp2_with (go_at_call 48; go_must (go_fit C.out); rintro e w1 ⟨rfl, hb1⟩)
    go_roundg (l.length - (j + 1))
    case measure => omega
    case rel => exact ⟨j + 1, rfl, by omega, by go_num, any_takeK hx.out hn.out HQ.out, bnext hbel hb1⟩
  ·
   obtain rfl : j = l.length := by omega
   go_wp2
   go_ret
   have h := hn.out
   rw [List.take_length] at h
   exact ⟨_, rfl, ⟨fun h1 => absurd h1 (by omega), fun h1 => by rw [h] at h1; cases h1⟩, hbel⟩
set_option maxRecDepth 100000 in
set_option maxHeartbeats 1000000 in
theorem hasK_any (g a : Nat) (A : Option Addr) (c : Nat) (l : List (Nat × Nat)) (w : World) (hr : Rd w w.heap.size A (blV l)) (hc : w.cell? ⟨g, 0, none⟩ = some (.int .u32 (a : Int))) (ha : a < 4294967296) (hl : l.length ≤ 1000) (hp : ∀ p ∈ l, p.1 < 4294967296 ∧ p.2 ≤ 32) :
  Calls Tryz.prog 46 #[.slice A l.length c, .func (.func 48) #[] #[.pointer (some ⟨g, 0, none⟩)]] w fun e w' => e = .returned (.bool (l.any (bHas a))) ∧ Below w.heap.size w w' := by
 go_enter Tryz.func46, Tryz.ntmps46
 go_wp2_with (go_at_call 91; go_must (go_fit (idxK_any g a A c l w hr hc ha hl hp)); rintro e w1 ⟨i, rfl, hi, hb1⟩)
 go_ret
 exact ⟨ret_bool (by rw [Bool.eq_iff_iff, decide_eq_true_eq]; exact hi.out), hb1⟩
theorem Row.made14 (w : World) (us : Array Value) (e : TypeId) : Row (w.alloc (.cells us e)) w.heap.size us.toList :=
 ⟨fun j u hu => by rw [cell_of_row (w.alloc (.cells us e)) w.heap.size j us e (0, 0) (heap_alloc_new w _), ← hu]; simp, fun j _ => Lib.frozen_of_heap (heap_alloc_new w _) j, by simp⟩
def blA : Array Value := #[.int .u32 0, .int .u64 8, .int .u32 167772160, .int .u64 8, .int .u32 1681915904, .int .u64 10, .int .u32 2130706432, .int .u64 8, .int .u32 2851995648, .int .u64 16, .int .u32 2886729728, .int .u64 12, .int .u32 3232235520, .int .u64 16, .int .u32 3758096384, .int .u64 3]
set_option maxRecDepth 100000 in
set_option maxHeartbeats 1000000 in
theorem blocks_any (w : World) : Calls Tryz.prog 47 #[] w fun e w' => ∃ A, e = .returned (.slice A 8 8) ∧ Rd w' w'.heap.size A (blV blks) ∧ Below w.heap.size w w' := by
 have hR : Row (w.alloc (.cells blA 68)) w.heap.size (blV blks) := Row.made14 w blA 68
 have hz : w.heap.size < (w.alloc (.cells blA 68)).heap.size := by simp
 have HR := Lib.hid (hR.rd hz)
 clear hR
 go_enter Tryz.func47, Tryz.ntmps47
 go_wp2
 go_ret
 exact ⟨_, rfl, HR.out, bnew (Below.refl _ _) _⟩
set_option maxRecDepth 100000 in
set_option maxHeartbeats 1000000 in
theorem pip4_any (a : Nat) (ha : a < 4294967296) (w : World) :
  Calls Tryz.prog 22 #[.int .u32 (a : Int)] w fun e w' => e = .returned (.bool (free4 a)) ∧ Below w.heap.size w w' := by
 have hB0 : Below w.heap.size w (w.alloc (.cells #[.int .u32 (a : Int)] 22)) := bnew (Below.refl _ _) _
 have hc0 : (w.alloc (.cells #[.int .u32 (a : Int)] 22)).cell? ⟨w.heap.size, 0, none⟩ = some (.int .u32 (a : Int)) := by
  rw [cell_of_row _ _ 0 _ _ _ (heap_alloc_new w _)]; rfl
 have hz : w.heap.size < (w.alloc (.cells #[.int .u32 (a : Int)] 22)).heap.size := by simp
 have HV := Lib.hid (show free4 a = !blks.any (bHas a) from rfl)
 obtain ⟨b, hb⟩ : ∃ b, b = blks.any (bHas a) := ⟨_, rfl⟩
 have CB := Lib.hid fun w => blocks_any w
 have CH2 := Lib.hid fun A (w1 : World) hr hc => hasK_any (w.heap.size) a A 8 blks w1 hr hc ha (by decide) (by decide)
 rw [← hb] at HV CH2
 clear hb
 go_enter Tryz.func22, Tryz.ntmps22
 go_wp2_with (first
  | (go_at_call 47; go_must (go_fit (CB.out _)); rintro e w1 ⟨A1, rfl, hr1, hb1⟩; have hc1 := cell_on hb1 hc0 hz)
  | (go_at_call 46; go_must (go_fit (CH2.out A1 w1 hr1 hc1)); rintro e w2 ⟨rfl, hb2⟩))
 go_ret
 exact ⟨ret_bool HV.out.symm, bnext (bnext hB0 hb1) hb2⟩
def fr4 (x y : Nat) : Bool := !(decide (x = 0) || (decide (x = 10) || (decide (x = 100 ∧ 64 ≤ y ∧ y < 128) || (decide (x = 127) || (decide (x = 169 ∧ y = 254) || (decide (x = 172 ∧ 16 ≤ y ∧ y < 32) || (decide (x = 192 ∧ y = 168) || decide (224 ≤ x))))))))
set_option maxRecDepth 100000 in
set_option maxHeartbeats 8000000 in
theorem rfree4_any (a : Nat) (ha : a < 4294967296) (w : World) :
  Calls Tryz.prog 23 #[.int .u32 (a : Int)] w fun e w' => e = .returned (.bool (rfree4 a)) ∧ w = w' := by
 obtain ⟨x, hx⟩ : ∃ x : Nat, x = a / 2 ^ 24 := ⟨_, rfl⟩
 obtain ⟨y, hy⟩ : ∃ y : Nat, y = a / 2 ^ 16 % 256 := ⟨_, rfl⟩
 have HV := Lib.hid (show rfree4 a = fr4 x y by rw [hx, hy]; rfl)
 have i1 : (a : Int) / 16777216 = (x : Int) := by omega
 have i2 : bits .and .u32 ((a : Int) / 65536) 255 = (y : Int) := by
  rw [hy, ← u32_andQ (x := a / 2 ^ 16) (Nat.lt_of_le_of_lt (Nat.div_le_self _ _) ha)]; rfl
 have hxl : x < 256 := by omega
 have hyl : y < 256 := by omega
 clear hx hy
 rcases (show x = 0 ∨ x = 10 ∨ x = 100 ∨ x = 127 ∨ x = 169 ∨ x = 172 ∨ x = 192 ∨ (x ≠ 0 ∧ x ≠ 10 ∧ x ≠ 100 ∧ x ≠ 127 ∧ x ≠ 169 ∧ x ≠ 172 ∧ x ≠ 192 ∧ x < 224) ∨ (x ≠ 0 ∧ x ≠ 10 ∧ x ≠ 100 ∧ x ≠ 127 ∧ x ≠ 169 ∧ x ≠ 172 ∧ x ≠ 192 ∧ 224 ≤ x) by omega) with rfl | rfl | rfl | rfl | rfl | rfl | rfl | ⟨h1, h2, h3, h4, h5, h6, h7, h8⟩ | ⟨h1, h2, h3, h4, h5, h6, h7, h8⟩
 ·
  have HE := Lib.hid (show rfree4 a = false by rw [HV.out]; unfold fr4; simp)
  clear hxl
  go_enter Tryz.func23, Tryz.ntmps23
  go_wp2
  go_ret
  first
   | exact ⟨ret_bool HE.out.symm, rfl⟩
   | exact ⟨ret_bool (by rw [HE.out]; simp; omega), rfl⟩
 ·
  have HE := Lib.hid (show rfree4 a = false by rw [HV.out]; unfold fr4; simp)
  clear hxl
  go_enter Tryz.func23, Tryz.ntmps23
  go_wp2
  go_ret
  first
   | exact ⟨ret_bool HE.out.symm, rfl⟩
   | exact ⟨ret_bool (by rw [HE.out]; simp; omega), rfl⟩
 ·
  by_cases k1 : 64 ≤ y
  ·
   have k1I : (64 : Int) ≤ (y : Int) := by omega
   by_cases k2 : y < 128
   ·
    have k2I : (y : Int) < 128 := by omega
    have HE := Lib.hid (show rfree4 a = false by rw [HV.out]; unfold fr4; simp [k1, k2])
    clear hxl k1 k2
    go_enter Tryz.func23, Tryz.ntmps23
    go_wp2
    go_ret
    first
     | exact ⟨ret_bool HE.out.symm, rfl⟩
     | exact ⟨ret_bool (by rw [HE.out]; simp; omega), rfl⟩
   ·
    have k2I : (128 : Int) ≤ (y : Int) := by omega
    have HE := Lib.hid (show rfree4 a = true by rw [HV.out]; unfold fr4; simp [k1, k2])
    clear hxl k1 k2
    go_enter Tryz.func23, Tryz.ntmps23
    go_wp2
    go_ret
    first
     | exact ⟨ret_bool HE.out.symm, rfl⟩
     | exact ⟨ret_bool (by rw [HE.out]; simp; omega), rfl⟩
  ·
   have k1I : (y : Int) < 64 := by omega
   have HE := Lib.hid (show rfree4 a = true by rw [HV.out]; unfold fr4; simp [k1])
   clear hxl k1
   go_enter Tryz.func23, Tryz.ntmps23
   go_wp2
   go_ret
   first
    | exact ⟨ret_bool HE.out.symm, rfl⟩
    | exact ⟨ret_bool (by rw [HE.out]; simp; omega), rfl⟩
 ·
  have HE := Lib.hid (show rfree4 a = false by rw [HV.out]; unfold fr4; simp)
  clear hxl
  go_enter Tryz.func23, Tryz.ntmps23
  go_wp2
  go_ret
  first
   | exact ⟨ret_bool HE.out.symm, rfl⟩
   | exact ⟨ret_bool (by rw [HE.out]; simp; omega), rfl⟩
 ·
  by_cases k1 : y = 254
  ·
   have k1I : ((y : Int) == 254) = true := by rw [beq_iff_eq]; omega
   have HE := Lib.hid (show rfree4 a = false by rw [HV.out]; unfold fr4; simp [k1])
   clear hxl k1
   go_enter Tryz.func23, Tryz.ntmps23
   go_wp2
   go_ret
   first
    | exact ⟨ret_bool HE.out.symm, rfl⟩
    | exact ⟨ret_bool (by rw [HE.out]; simp; omega), rfl⟩
  ·
   have k1I : ((y : Int) == 254) = false := by rw [beq_eq_false_iff_ne]; omega
   have HE := Lib.hid (show rfree4 a = true by rw [HV.out]; unfold fr4; simp [k1])
   clear hxl k1
   go_enter Tryz.func23, Tryz.ntmps23
   go_wp2
   go_ret
   first
    | exact ⟨ret_bool HE.out.symm, rfl⟩
    | exact ⟨ret_bool (by rw [HE.out]; simp; omega), rfl⟩
 ·
  by_cases k1 : 16 ≤ y
  ·
   have k1I : (16 : Int) ≤ (y : Int) := by omega
   by_cases k2 : y < 32
   ·
    have k2I : (y : Int) < 32 := by omega
    have HE := Lib.hid (show rfree4 a = false by rw [HV.out]; unfold fr4; simp [k1, k2])
    clear hxl k1 k2
    go_enter Tryz.func23, Tryz.ntmps23
    go_wp2
    go_ret
    first
     | exact ⟨ret_bool HE.out.symm, rfl⟩
     | exact ⟨ret_bool (by rw [HE.out]; simp; omega), rfl⟩
   ·
    have k2I : (32 : Int) ≤ (y : Int) := by omega
    have HE := Lib.hid (show rfree4 a = true by rw [HV.out]; unfold fr4; simp [k1, k2])
    clear hxl k1 k2
    go_enter Tryz.func23, Tryz.ntmps23
    go_wp2
    go_ret
    first
     | exact ⟨ret_bool HE.out.symm, rfl⟩
     | exact ⟨ret_bool (by rw [HE.out]; simp; omega), rfl⟩
  ·
   have k1I : (y : Int) < 16 := by omega
   have HE := Lib.hid (show rfree4 a = true by rw [HV.out]; unfold fr4; simp [k1])
   clear hxl k1
   go_enter Tryz.func23, Tryz.ntmps23
   go_wp2
   go_ret
   first
    | exact ⟨ret_bool HE.out.symm, rfl⟩
    | exact ⟨ret_bool (by rw [HE.out]; simp; omega), rfl⟩
 ·
  by_cases k1 : y = 168
  ·
   have k1I : ((y : Int) == 168) = true := by rw [beq_iff_eq]; omega
   have HE := Lib.hid (show rfree4 a = false by rw [HV.out]; unfold fr4; simp [k1])
   clear hxl k1
   go_enter Tryz.func23, Tryz.ntmps23
   go_wp2
   go_ret
   first
    | exact ⟨ret_bool HE.out.symm, rfl⟩
    | exact ⟨ret_bool (by rw [HE.out]; simp; omega), rfl⟩
  ·
   have k1I : ((y : Int) == 168) = false := by rw [beq_eq_false_iff_ne]; omega
   have HE := Lib.hid (show rfree4 a = true by rw [HV.out]; unfold fr4; simp [k1])
   clear hxl k1
   go_enter Tryz.func23, Tryz.ntmps23
   go_wp2
   go_ret
   first
    | exact ⟨ret_bool HE.out.symm, rfl⟩
    | exact ⟨ret_bool (by rw [HE.out]; simp; omega), rfl⟩
 all_goals
  have e1 : ((x : Int) == 0) = false := by rw [beq_eq_false_iff_ne]; omega
  have e2 : ((x : Int) == 10) = false := by rw [beq_eq_false_iff_ne]; omega
  have e3 : ((x : Int) == 100) = false := by rw [beq_eq_false_iff_ne]; omega
  have e4 : ((x : Int) == 127) = false := by rw [beq_eq_false_iff_ne]; omega
  have e5 : ((x : Int) == 169) = false := by rw [beq_eq_false_iff_ne]; omega
  have e6 : ((x : Int) == 172) = false := by rw [beq_eq_false_iff_ne]; omega
  have e7 : ((x : Int) == 192) = false := by rw [beq_eq_false_iff_ne]; omega
 ·
  have h8I : (x : Int) < 224 := by omega
  have HE := Lib.hid (show rfree4 a = true by rw [HV.out]; unfold fr4; simp [h1, h2, h3, h4, h5, h6, h7]; omega)
  clear h1 h2 h3 h4 h5 h6 h7 h8
  go_enter Tryz.func23, Tryz.ntmps23
  go_wp2
  go_ret
  first
   | exact ⟨ret_bool HE.out.symm, rfl⟩
   | exact ⟨ret_bool (by rw [HE.out]; simp; omega), rfl⟩
 ·
  have h8I : (224 : Int) ≤ (x : Int) := by omega
  have HE := Lib.hid (show rfree4 a = false by rw [HV.out]; unfold fr4; simp [h8])
  clear h1 h2 h3 h4 h5 h6 h7 h8
  go_enter Tryz.func23, Tryz.ntmps23
  go_wp2
  go_ret
  first
   | exact ⟨ret_bool HE.out.symm, rfl⟩
   | exact ⟨ret_bool (by rw [HE.out]; simp; omega), rfl⟩
end Go.Proofs.YtoapelcofjjdnaaGreatDoor
namespace Go.Proofs.YtoapelcofjjdnaaGreatDoor
set_option linter.all false
open Go.RowKit
theorem u32_orQ {a b : Nat} (ha : a < 65536) (hb : b < 65536) : bits .or .u32 ((a : Int) * 65536) (b : Int) = ((a * 65536 + b : Nat) : Int) := by
 have he : a * 65536 ||| b = a * 65536 + b := by
  have := Nat.shiftLeft_add_eq_or_of_lt (show b < 2 ^ 16 from hb) a
  rw [Nat.shiftLeft_eq] at this
  exact this.symm
 rw [show (a : Int) * 65536 = ((a * 65536 : Nat) : Int) by omega]
 show IntKind.u32.wrap ((BitVec.ofInt 32 ((a * 65536 : Nat) : Int) ||| BitVec.ofInt 32 (b : Int)).toNat : Int) = _
 have e1 : BitVec.ofInt 32 ((a * 65536 : Nat) : Int) = BitVec.ofNat 32 (a * 65536) := BitVec.ofInt_natCast ..
 have e2 : BitVec.ofInt 32 (b : Int) = BitVec.ofNat 32 b := BitVec.ofInt_natCast ..
 rw [e1, e2, BitVec.toNat_or, BitVec.toNat_ofNat, BitVec.toNat_ofNat, Nat.mod_eq_of_lt (by omega), Nat.mod_eq_of_lt (by omega), he, u32_wrapQ (by omega)]
def qs (l : List Nat) : List Value := l.map fun (n : Nat) => Value.int .u16 (n : Int)
theorem qs_len (l : List Nat) : (qs l).length = l.length := List.length_map ..
theorem Rd.q_at {w : World} {B : Nat} {A : Option Addr} {l : List Nat} (h : Rd w B A (qs l)) {k : Nat} (hk : k < l.length) :
  ∃ b off x, A = some ⟨b, off, none⟩ ∧ b < B ∧ w.cell? ⟨b, off + k, none⟩ = some (.int .u16 ((x : Nat) : Int)) ∧ Hid (l[k]? = some x) := by
 obtain ⟨b, off, e, hb, hc⟩ := h.at_ (k := k) (by rw [qs_len]; exact hk)
 refine ⟨b, off, l[k], e, hb, ?_, List.getElem?_eq_getElem hk⟩
 rw [hc]; simp [qs]
def nz (x : Nat) : Bool := decide (x ≠ 0)
theorem allZ_nz (l : List Nat) : allZ l = !l.any nz := rfl
set_option maxRecDepth 100000 in
set_option maxHeartbeats 1000000 in
theorem nought1_any (x : Nat) (w : World) : Calls Tryz.prog 93 #[.int .u16 (x : Int)] w fun e w' => e = .returned (.bool (nz x)) ∧ w = w' := by
 go_enter Tryz.func93, Tryz.ntmps93
 go_wp2
 go_ret
 exact ⟨ret_bool (by unfold nz; rw [Bool.eq_iff_iff, bne_iff_ne, decide_eq_true_eq]; omega), rfl⟩
set_option maxRecDepth 100000 in
set_option maxHeartbeats 4000000 in
theorem idxQ_any (A : Option Addr) (c : Nat) (l : List Nat) (w : World) (hr : Rd w w.heap.size A (qs l)) (hl : l.length ≤ 1000) :
  Calls Tryz.prog 131 #[.slice A l.length c, .func (.func 93) #[] #[]] w fun e w' => ∃ i : Int, e = .returned (.int .i64 i) ∧ Hid (0 ≤ i ↔ l.any nz = true) ∧ w = w' := by
 go_enter Tryz.func131, Tryz.ntmps131
 go_wp2
 go_loopg [8] (l.length) (fun k i wr => ∃ j : Nat, k = l.length - j ∧ j ≤ l.length ∧ i = .int .i64 j ∧ Hid ((l.take j).any nz = false) ∧ w = wr)
 case atStart => exact ⟨0, rfl, Nat.zero_le _, rfl, rfl, rfl⟩
 case round =>
  obtain ⟨j, rfl, hj, rfl, hn, rfl⟩ := hrel
  by_cases hlt : j < l.length
  ·
   obtain ⟨b, off, x, rfl, hb, hc, hx⟩ := hr.q_at hlt
   have hlt1 : (j : Int) < (l.length : Int) := by omega
   have hj0 : (0 : Int) ≤ (j : Int) := by omega
   have C := Lib.hid fun w => nought1_any x w
   by_cases hp : nz x = true
   ·
    have HQ := Lib.hid hp
    rw [hp] at C
    clear hp
    go_wp2_with (go_at_call 93; go_must (go_fit (C.out _)); rintro e w1 ⟨rfl, rfl⟩)
    go_ret
    exact ⟨_, rfl, ⟨fun _ => List.any_eq_true.2 ⟨x, List.mem_of_getElem? hx.out, HQ.out⟩, fun _ => by omega⟩, rfl⟩
   ·
    have hp := Bool.eq_false_iff.2 hp
    have HQ := Lib.hid hp
    rw [hp] at C
    clear hp
    go_wp2_with (go_at_call 93; go_must (go_fit (C.out _)); rintro e w1 ⟨rfl, rfl⟩)
    go_roundg (l.length - (j + 1))
    case measure => omega
    case rel => exact ⟨j + 1, rfl, by omega, by go_num, any_takeK hx.out hn.out HQ.out, rfl⟩
  ·
   obtain rfl : j = l.length := by omega
   go_wp2
   go_ret
   have h := hn.out
   rw [List.take_length] at h
   exact ⟨_, rfl, ⟨fun h1 => absurd h1 (by omega), fun h1 => by rw [h] at h1; cases h1⟩, rfl⟩
set_option maxRecDepth 100000 in
set_option maxHeartbeats 1000000 in
theorem hasQ_any (A : Option Addr) (c : Nat) (l : List Nat) (w : World) (hr : Rd w w.heap.size A (qs l)) (hl : l.length ≤ 1000) :
  Calls Tryz.prog 92 #[.slice A l.length c, .func (.func 93) #[] #[]] w fun e w' => e = .returned (.bool (l.any nz)) ∧ w = w' := by
 go_enter Tryz.func92, Tryz.ntmps92
 go_wp2_with (go_at_call 131; go_must (go_fit (idxQ_any A c l w hr hl)); rintro e w1 ⟨i, rfl, hi, rfl⟩)
 go_ret
 exact ⟨ret_bool (by rw [Bool.eq_iff_iff, decide_eq_true_eq]; exact hi.out), rfl⟩
set_option maxRecDepth 100000 in
set_option maxHeartbeats 1000000 in
theorem nought_any (A : Option Addr) (c : Nat) (l : List Nat) (w : World) (hr : Rd w w.heap.size A (qs l)) (hl : l.length ≤ 1000) :
  Calls Tryz.prog 50 #[.slice A l.length c] w fun e w' => e = .returned (.bool (allZ l)) ∧ w = w' := by
 have C := Lib.hid (hasQ_any A c l w hr hl)
 have HV := Lib.hid (allZ_nz l)
 obtain ⟨b, hb⟩ : ∃ b, b = l.any nz := ⟨_, rfl⟩
 rw [← hb] at C HV
 clear hb
 go_enter Tryz.func50, Tryz.ntmps50
 go_wp2_with (go_at_call 92; go_must (go_fit C.out); rintro e w1 ⟨rfl, rfl⟩)
 go_ret
 exact ⟨ret_bool HV.out.symm, rfl⟩
set_option maxRecDepth 100000 in
set_option maxHeartbeats 8000000 in
theorem pip6_any (a0 a1 a2 a3 a4 a5 a6 a7 : Nat) (h16 : ∀ x ∈ [a0, a1, a2, a3, a4, a5, a6, a7], x < 65536) (w : World) :
  Calls Tryz.prog 24 #[.agg #[.int .u16 (a0 : Int), .int .u16 (a1 : Int), .int .u16 (a2 : Int), .int .u16 (a3 : Int), .int .u16 (a4 : Int), .int .u16 (a5 : Int), .int .u16 (a6 : Int), .int .u16 (a7 : Int)]] w fun e w' => e = .returned (.bool (free6 [a0, a1, a2, a3, a4, a5, a6, a7])) ∧ Below w.heap.size w w' := by
 have b0 : a0 < 65536 := h16 _ (by simp)
 have b5 : a5 < 65536 := h16 _ (by simp)
 have b6 : a6 < 65536 := h16 _ (by simp)
 have b7 : a7 < 65536 := h16 _ (by simp)
 clear h16
 have hR : Row (w.alloc (.cells #[.int .u16 (a0 : Int), .int .u16 (a1 : Int), .int .u16 (a2 : Int), .int .u16 (a3 : Int), .int .u16 (a4 : Int), .int .u16 (a5 : Int), .int .u16 (a6 : Int), .int .u16 (a7 : Int)] 24)) w.heap.size (qs [a0, a1, a2, a3, a4, a5, a6, a7]) := Row.made14 w #[.int .u16 (a0 : Int), .int .u16 (a1 : Int), .int .u16 (a2 : Int), .int .u16 (a3 : Int), .int .u16 (a4 : Int), .int .u16 (a5 : Int), .int .u16 (a6 : Int), .int .u16 (a7 : Int)] 24
 have hz : w.heap.size < (w.alloc (.cells #[.int .u16 (a0 : Int), .int .u16 (a1 : Int), .int .u16 (a2 : Int), .int .u16 (a3 : Int), .int .u16 (a4 : Int), .int .u16 (a5 : Int), .int .u16 (a6 : Int), .int .u16 (a7 : Int)] 24)).heap.size := by simp
 have hB : Below w.heap.size w (w.alloc (.cells #[.int .u16 (a0 : Int), .int .u16 (a1 : Int), .int .u16 (a2 : Int), .int .u16 (a3 : Int), .int .u16 (a4 : Int), .int .u16 (a5 : Int), .int .u16 (a6 : Int), .int .u16 (a7 : Int)] 24)) := bnew (Below.refl _ _) _
 have k0 : (w.alloc (.cells #[.int .u16 (a0 : Int), .int .u16 (a1 : Int), .int .u16 (a2 : Int), .int .u16 (a3 : Int), .int .u16 (a4 : Int), .int .u16 (a5 : Int), .int .u16 (a6 : Int), .int .u16 (a7 : Int)] 24)).cell? ⟨w.heap.size, 0, none⟩ = some (.int .u16 (a0 : Int)) := hR.1 0 _ rfl
 have k1 : (w.alloc (.cells #[.int .u16 (a0 : Int), .int .u16 (a1 : Int), .int .u16 (a2 : Int), .int .u16 (a3 : Int), .int .u16 (a4 : Int), .int .u16 (a5 : Int), .int .u16 (a6 : Int), .int .u16 (a7 : Int)] 24)).cell? ⟨w.heap.size, 1, none⟩ = some (.int .u16 (a1 : Int)) := hR.1 1 _ rfl
 have k2 : (w.alloc (.cells #[.int .u16 (a0 : Int), .int .u16 (a1 : Int), .int .u16 (a2 : Int), .int .u16 (a3 : Int), .int .u16 (a4 : Int), .int .u16 (a5 : Int), .int .u16 (a6 : Int), .int .u16 (a7 : Int)] 24)).cell? ⟨w.heap.size, 2, none⟩ = some (.int .u16 (a2 : Int)) := hR.1 2 _ rfl
 have k3 : (w.alloc (.cells #[.int .u16 (a0 : Int), .int .u16 (a1 : Int), .int .u16 (a2 : Int), .int .u16 (a3 : Int), .int .u16 (a4 : Int), .int .u16 (a5 : Int), .int .u16 (a6 : Int), .int .u16 (a7 : Int)] 24)).cell? ⟨w.heap.size, 3, none⟩ = some (.int .u16 (a3 : Int)) := hR.1 3 _ rfl
 have k4 : (w.alloc (.cells #[.int .u16 (a0 : Int), .int .u16 (a1 : Int), .int .u16 (a2 : Int), .int .u16 (a3 : Int), .int .u16 (a4 : Int), .int .u16 (a5 : Int), .int .u16 (a6 : Int), .int .u16 (a7 : Int)] 24)).cell? ⟨w.heap.size, 4, none⟩ = some (.int .u16 (a4 : Int)) := hR.1 4 _ rfl
 have k5 : (w.alloc (.cells #[.int .u16 (a0 : Int), .int .u16 (a1 : Int), .int .u16 (a2 : Int), .int .u16 (a3 : Int), .int .u16 (a4 : Int), .int .u16 (a5 : Int), .int .u16 (a6 : Int), .int .u16 (a7 : Int)] 24)).cell? ⟨w.heap.size, 5, none⟩ = some (.int .u16 (a5 : Int)) := hR.1 5 _ rfl
 have k6 : (w.alloc (.cells #[.int .u16 (a0 : Int), .int .u16 (a1 : Int), .int .u16 (a2 : Int), .int .u16 (a3 : Int), .int .u16 (a4 : Int), .int .u16 (a5 : Int), .int .u16 (a6 : Int), .int .u16 (a7 : Int)] 24)).cell? ⟨w.heap.size, 6, none⟩ = some (.int .u16 (a6 : Int)) := hR.1 6 _ rfl
 have k7 : (w.alloc (.cells #[.int .u16 (a0 : Int), .int .u16 (a1 : Int), .int .u16 (a2 : Int), .int .u16 (a3 : Int), .int .u16 (a4 : Int), .int .u16 (a5 : Int), .int .u16 (a6 : Int), .int .u16 (a7 : Int)] 24)).cell? ⟨w.heap.size, 7, none⟩ = some (.int .u16 (a7 : Int)) := hR.1 7 _ rfl
 have hr7 : Rd (w.alloc (.cells #[.int .u16 (a0 : Int), .int .u16 (a1 : Int), .int .u16 (a2 : Int), .int .u16 (a3 : Int), .int .u16 (a4 : Int), .int .u16 (a5 : Int), .int .u16 (a6 : Int), .int .u16 (a7 : Int)] 24)) (w.alloc (.cells #[.int .u16 (a0 : Int), .int .u16 (a1 : Int), .int .u16 (a2 : Int), .int .u16 (a3 : Int), .int .u16 (a4 : Int), .int .u16 (a5 : Int), .int .u16 (a6 : Int), .int .u16 (a7 : Int)] 24)).heap.size (some ⟨w.heap.size, 0, none⟩) (qs [a0, a1, a2, a3, a4, a5, a6]) := (hR.rd hz).take 7
 have hr5 : Rd (w.alloc (.cells #[.int .u16 (a0 : Int), .int .u16 (a1 : Int), .int .u16 (a2 : Int), .int .u16 (a3 : Int), .int .u16 (a4 : Int), .int .u16 (a5 : Int), .int .u16 (a6 : Int), .int .u16 (a7 : Int)] 24)) (w.alloc (.cells #[.int .u16 (a0 : Int), .int .u16 (a1 : Int), .int .u16 (a2 : Int), .int .u16 (a3 : Int), .int .u16 (a4 : Int), .int .u16 (a5 : Int), .int .u16 (a6 : Int), .int .u16 (a7 : Int)] 24)).heap.size (some ⟨w.heap.size, 0, none⟩) (qs [a0, a1, a2, a3, a4]) := (hR.rd hz).take 5
 have C7 := Lib.hid (nought_any _ 8 [a0, a1, a2, a3, a4, a5, a6] _ hr7 (by simp))
 have C5 := Lib.hid (nought_any _ 8 [a0, a1, a2, a3, a4] _ hr5 (by simp))
 have v1 : IntKind.u32.wrap (a6 : Int) = (a6 : Int) := u32_wrapQ (by omega)
 have v2 : IntKind.u32.wrap (a7 : Int) = (a7 : Int) := u32_wrapQ (by omega)
 have v3 : IntKind.u32.wrap ((a6 : Int) * 65536) = (a6 : Int) * 65536 := IntWalk.u32_in _ (by omega)
 have v4 := u32_orQ b6 b7
 obtain ⟨A, hA⟩ : ∃ A : Nat, A = a6 * 65536 + a7 := ⟨_, rfl⟩
 have C4 := Lib.hid fun w => pip4_any A (by omega) w
 have HV := Lib.hid (show free6 [a0, a1, a2, a3, a4, a5, a6, a7] = if (allZ [a0, a1, a2, a3, a4, a5, a6] = true ∧ a7 < 2) ∨ a0 / 512 = 126 ∨ a0 / 64 = 1018 ∨ a0 / 256 = 255 then false else if allZ [a0, a1, a2, a3, a4] = true ∧ a5 = 65535 then free4 A else true by rw [hA]; rfl)
 rw [← hA] at v4
 clear hA hr7 hr5 hR
 obtain ⟨z7, hz7⟩ : ∃ z, z = allZ [a0, a1, a2, a3, a4, a5, a6] := ⟨_, rfl⟩
 obtain ⟨z5, hz5⟩ : ∃ z, z = allZ [a0, a1, a2, a3, a4] := ⟨_, rfl⟩
 rw [← hz7] at C7 HV
 rw [← hz5] at C5 HV
 clear hz7 hz5
 by_cases h1 : z7 = true ∧ a7 < 2
 ·
  obtain ⟨rfl, h1⟩ := h1
  have h1I : (a7 : Int) < 2 := by omega
  have HE := Lib.hid (HV.out.trans (if_pos (.inl ⟨rfl, h1⟩)))
  clear h1
  go_enter Tryz.func24, Tryz.ntmps24
  go_wp2_with (first
   | (go_at_call 50; go_fit C7.out; rintro e w1 ⟨rfl, rfl⟩)
   | (go_at_call 50; go_must (go_fit C5.out); rintro e w1 ⟨rfl, rfl⟩)
   | (go_at_call 22; go_must (go_fit (C4.out _)); rintro e w2 ⟨rfl, hb2⟩))
  go_ret
  exact ⟨ret_bool HE.out.symm, hB⟩
 ·
  have h1' : z7 = false ∨ (z7 = true ∧ (2 : Int) ≤ (a7 : Int)) := by
   cases z7
   · exact .inl rfl
   · exact .inr ⟨rfl, by have : ¬ a7 < 2 := fun h => h1 ⟨rfl, h⟩; omega⟩
  by_cases h2 : a0 / 512 = 126
  ·
   have q2 : ((a0 : Int) / 512 == 126) = true := by rw [beq_iff_eq]; omega
   have HE := Lib.hid (HV.out.trans (if_pos (.inr (.inl h2))))
   clear h1 h2
   rcases h1' with rfl | ⟨rfl, h1I⟩
   all_goals
    go_enter Tryz.func24, Tryz.ntmps24
    go_wp2_with (first
     | (go_at_call 50; go_fit C7.out; rintro e w1 ⟨rfl, rfl⟩)
     | (go_at_call 50; go_must (go_fit C5.out); rintro e w1 ⟨rfl, rfl⟩)
     | (go_at_call 22; go_must (go_fit (C4.out _)); rintro e w2 ⟨rfl, hb2⟩))
    go_ret
    exact ⟨ret_bool HE.out.symm, hB⟩
  ·
   have q2 : ((a0 : Int) / 512 == 126) = false := by rw [beq_eq_false_iff_ne]; omega
   by_cases h3 : a0 / 64 = 1018
   ·
    have q3 : ((a0 : Int) / 64 == 1018) = true := by rw [beq_iff_eq]; omega
    have HE := Lib.hid (HV.out.trans (if_pos (.inr (.inr (.inl h3)))))
    clear h1 h2 h3
    rcases h1' with rfl | ⟨rfl, h1I⟩
    all_goals
     go_enter Tryz.func24, Tryz.ntmps24
     go_wp2_with (first
      | (go_at_call 50; go_fit C7.out; rintro e w1 ⟨rfl, rfl⟩)
      | (go_at_call 50; go_must (go_fit C5.out); rintro e w1 ⟨rfl, rfl⟩)
      | (go_at_call 22; go_must (go_fit (C4.out _)); rintro e w2 ⟨rfl, hb2⟩))
     go_ret
     exact ⟨ret_bool HE.out.symm, hB⟩
   ·
    have q3 : ((a0 : Int) / 64 == 1018) = false := by rw [beq_eq_false_iff_ne]; omega
    by_cases h4 : a0 / 256 = 255
    ·
     have q4 : ((a0 : Int) / 256 == 255) = true := by rw [beq_iff_eq]; omega
     have HE := Lib.hid (HV.out.trans (if_pos (.inr (.inr (.inr h4)))))
     clear h1 h2 h3 h4
     rcases h1' with rfl | ⟨rfl, h1I⟩
     all_goals
      go_enter Tryz.func24, Tryz.ntmps24
      go_wp2_with (first
       | (go_at_call 50; go_fit C7.out; rintro e w1 ⟨rfl, rfl⟩)
       | (go_at_call 50; go_must (go_fit C5.out); rintro e w1 ⟨rfl, rfl⟩)
       | (go_at_call 22; go_must (go_fit (C4.out _)); rintro e w2 ⟨rfl, hb2⟩))
      go_ret
      exact ⟨ret_bool HE.out.symm, hB⟩
    ·
     have q4 : ((a0 : Int) / 256 == 255) = false := by rw [beq_eq_false_iff_ne]; omega
     have HV2 := Lib.hid (HV.out.trans (if_neg (by rintro (e | e | e | e); exact h1 e; exact h2 e; exact h3 e; exact h4 e)))
     by_cases h5 : a5 = 65535
     ·
      have q5 : ((a5 : Int) == 65535) = true := by rw [beq_iff_eq]; omega
      cases z5 with
      | true =>
       have HE := Lib.hid (HV2.out.trans (if_pos ⟨rfl, h5⟩))
       clear h1 h2 h3 h4 h5
       rcases h1' with rfl | ⟨rfl, h1I⟩
       all_goals
        go_enter Tryz.func24, Tryz.ntmps24
        go_wp2_with (first
         | (go_at_call 50; go_fit C7.out; rintro e w1 ⟨rfl, rfl⟩)
         | (go_at_call 50; go_must (go_fit C5.out); rintro e w1 ⟨rfl, rfl⟩)
         | (go_at_call 22; go_must (go_fit (C4.out _)); rintro e w2 ⟨rfl, hb2⟩))
        go_ret
        exact ⟨ret_bool HE.out.symm, bnext hB hb2⟩
      | false =>
       have HE := Lib.hid (HV2.out.trans (if_neg fun e => by cases e.1))
       clear h1 h2 h3 h4 h5
       rcases h1' with rfl | ⟨rfl, h1I⟩
       all_goals
        go_enter Tryz.func24, Tryz.ntmps24
        go_wp2_with (first
         | (go_at_call 50; go_fit C7.out; rintro e w1 ⟨rfl, rfl⟩)
         | (go_at_call 50; go_must (go_fit C5.out); rintro e w1 ⟨rfl, rfl⟩)
         | (go_at_call 22; go_must (go_fit (C4.out _)); rintro e w2 ⟨rfl, hb2⟩))
        go_ret
        exact ⟨ret_bool HE.out.symm, hB⟩
     ·
      have q5 : ((a5 : Int) == 65535) = false := by rw [beq_eq_false_iff_ne]; omega
      have HE := Lib.hid (HV2.out.trans (if_neg fun e => h5 e.2))
      clear h1 h2 h3 h4 h5
      rcases h1' with rfl | ⟨rfl, h1I⟩
      all_goals
       cases z5
       all_goals
        go_enter Tryz.func24, Tryz.ntmps24
        go_wp2_with (first
         | (go_at_call 50; go_fit C7.out; rintro e w1 ⟨rfl, rfl⟩)
         | (go_at_call 50; go_must (go_fit C5.out); rintro e w1 ⟨rfl, rfl⟩)
         | (go_at_call 22; go_must (go_fit (C4.out _)); rintro e w2 ⟨rfl, hb2⟩))
        go_ret
        exact ⟨ret_bool HE.out.symm, hB⟩
end Go.Proofs.YtoapelcofjjdnaaGreatDoor
