/- The walk of the statement DomainForms. -/
import Derived.Test.YtfandijagdiggaaDoorKLawDom
namespace Go.Proofs.YtfandijagdiggaaDoor
set_option linter.all false
open Go.RowKit

def dfTda : List UInt8 := [120, 110, 45, 45, 116, 100, 97]
def dfFrom : List (List UInt8) := [[97], [65, 46, 66], [97, 46], [120, 110, 45, 45, 116, 100, 97], [88, 78, 45, 45, 84, 68, 65], [195, 188], [195, 156, 46, 120], [97, 227, 128, 130, 98], [239, 188, 161], [97, 194, 173, 98], [49, 46, 50, 46, 51, 46, 52], [97, 95, 98], [45]]
def dfTo : List (List UInt8) := [[97], [97, 46, 98], [97, 46], [120, 110, 45, 45, 116, 100, 97], [120, 110, 45, 45, 116, 100, 97], [120, 110, 45, 45, 116, 100, 97], [120, 110, 45, 45, 116, 100, 97, 46, 120], [97, 46, 98], [97], [97, 98], [49, 46, 50, 46, 51, 46, 52], [97, 95, 98], [45]]
def dfLong : List UInt8 := List.replicate 64 97
def dfBad : List (List UInt8) := [[], [46], [97, 46, 46, 98], [46, 97], [97, 32, 98], [97, 37, 98], [97, 58, 98], [97, 47, 98], [255], [120, 110, 45, 45], [120, 110, 45, 45, 97, 45], [120, 110, 45, 45, 84, 68, 65, 33], [194, 173], dfLong, [97, 127], [91, 97, 93]]
theorem df_all : ∀ j, j < 13 → (dfFrom.getD j []).length ≤ 20 ∧ dASCII (dfFrom.getD j []) = some (dfTo.getD j []) := by decide +kernel
theorem df_bad : ∀ x ∈ dfBad, x.length ≤ 64 ∧ dASCII x = none := by decide +kernel
theorem df_end : dASCII (List.replicate 63 97) = some (List.replicate 63 97) := by decide +kernel
theorem getDF {α : Type} {l : List α} {j : Nat} {x d : α} (h : l[j]? = some x) : l.getD j d = x := by rw [List.getD_eq_getElem?_getD, h]; rfl
def dfRow (j : Nat) : List UInt8 := List.replicate j 97 ++ List.replicate (64 - j) 0
theorem dfRow_len {j : Nat} (h : j ≤ 64) : (dfRow j).length = 64 := by unfold dfRow; simp; omega
theorem dfRow_set {j : Nat} (h : j < 64) : (bytes (dfRow j)).set j (.int .u8 97) = bytes (dfRow (j + 1)) := by
  unfold dfRow
  obtain ⟨k, hk⟩ : ∃ k, 64 - j = k + 1 := ⟨63 - j, by omega⟩
  rw [hk, show 64 - (j + 1) = k by omega, bytes_append, bytes_append, List.set_append_right _ _ (by rw [bytes_len]; simp), bytes_len, List.length_replicate, Nat.sub_self, List.replicate_succ, List.replicate_succ']
  rw [bytes_append, List.append_assoc]; rfl
theorem mk64 (w : World) : (Instr.makeSlice 22 (.int .i64 64) (.int .i64 64)).run Tryd.prog w = .ok (.slice (some ⟨w.heap.size, 0, none⟩) 64 64) (w.alloc (.cells (bytes (dfRow 0)).toArray 5)) := by
  obtain ⟨i, hi, hz, hsize, hby⟩ := info_parts info_byte
  have h := run_makeSlice (P := Tryd.prog) w 22 5 i _ Tryd.underlying22 hi hz .i64 .i64 64 64 (by decide) (by decide) (by rw [hsize]; decide) (by rw [hby]; decide) (by decide)
  rw [hsize] at h
  have e : madeCells (Value.int IntKind.u8 0).cells (Int.toNat 64 * 1) = (bytes (dfRow 0)).toArray := by kernel_rfl
  rw [e] at h
  exact h
set_option maxRecDepth 100000 in
set_option maxHeartbeats 16000000 in
theorem domainForms_walk (w : World) (hm : ML w) : Calls Tryd.prog 6 #[] w fun e w' => e = .returned (.bool true) ∧ Below w.heap.size w w' := by
  have hmk := mk64
  go_enter Tryd.func6, Tryd.ntmps6
  go_wp2_with (go_at_call 8; go_must (go_fit (begun6_any w hm)); rintro e w1 ⟨rfl, hb1⟩)
  obtain ⟨w2, hw2⟩ : ∃ w2, w2 = (w1.alloc (.cells (strs dfFrom).toArray 9)).alloc (.cells (strs dfTo).toArray 9) := ⟨_, rfl⟩
  have hF : Rd w2 (w1.heap.size + 2) (some ⟨w1.heap.size, 0, none⟩) (strs dfFrom) := by
    have := (@Rd.lit w1 (strs dfFrom).toArray 9 (0, 0)).alloc (Nat.le_refl _) (.cells (strs dfTo).toArray 9)
    rw [← hw2] at this
    exact Rd.mono (by simpa using this) (by simp)
  have hsz : w2.heap.size = w1.heap.size + 2 := by rw [hw2]; simp
  have hT : Rd w2 (w1.heap.size + 2) (some ⟨w1.heap.size + 1, 0, none⟩) (strs dfTo) := by
    have := @Rd.lit (w1.alloc (.cells (strs dfFrom).toArray 9)) (strs dfTo).toArray 9 (0, 0)
    rw [← hw2, hsz] at this
    simpa using this
  have hb2 : Below w1.heap.size w1 w2 := by rw [hw2]; exact bnew (bnew (Below.refl _ _) _) _
  have hsz2 : w1.heap.size ≤ w2.heap.size := hb2.size
  have HW := Lib.hid hw2
  rw [← hsz] at hF hT
  clear hw2 hsz
  go_loopg [3] 13 (fun k i wr => ∃ j : Nat, k = 13 - j ∧ j ≤ 13 ∧ i = .int .i64 j ∧ Below w2.heap.size w2 wr)
  case atStart => exact ⟨0, rfl, Nat.zero_le _, rfl, by rw [HW.out]; exact Below.refl _ _⟩
  case round =>
    obtain ⟨j, rfl, hj, rfl, hbel⟩ := hrel
    have hq0 := hbel.size
    by_cases hlt : j < 13
    · obtain ⟨b, off, x, hA, hb, hc, hx⟩ := (hF.below hbel).str_at (k := j) (by rw [show dfFrom.length = 13 from rfl]; exact hlt)
      injection hA with hA; injection hA with hA1 hA2; subst hA1; subst hA2
      obtain ⟨b2, off2, y, hB, hb3, hd, hy⟩ := (hT.below hbel).str_at (k := j) (by rw [show dfTo.length = 13 from rfl]; exact hlt)
      injection hB with hB; injection hB with hB1 hB2; subst hB1; subst hB2
      obtain ⟨f1, f2⟩ := df_all j hlt
      rw [getDF hx.out] at f1 f2
      rw [getDF hy.out] at f2
      rw [Nat.zero_add] at hc hd
      have hlt1 : (j : Int) < 13 := by omega
      have hj0 : (0 : Int) ≤ (j : Int) := by omega
      have C1 := Lib.hid fun A c w h h1 h2 => ascii_some (A := A) (c := c) (w := w) f2 h h1 h2
      have hyl := str_eqB y y
      rw [decide_eq_true rfl] at hyl
      have hxs := str_size x
      clear f2 hx hy
      go_wp2_with (first
        | (refine wpList_bytesL rfl _ _ _ _ rfl Tryd.underlying9 Tryd.underlying22 Tryd.underlying5 x rfl (by omega) ?_; intro c6 w6 hc6 hm6 hrow6 hr6 hb6 hz6; have hd6 := cell_on hb6 hd (by omega))
        | (go_at_call 9; go_fit (C1.out _ _ w6 hr6 hc6 hm6); rintro e w7 ⟨rfl, hb7⟩; have hd7 := cell_on hb7 hd6 (by have := hb6.size; omega); have hb67 := bnext hb6 hb7))
      go_roundg (13 - (j + 1))
      case measure => omega
      case rel => exact ⟨j + 1, rfl, by omega, by go_num, hbel.trans (hb67.mono hq0)⟩
    · obtain rfl : j = 13 := by omega
      clear hF hT hlt HW
      go_wp2
      obtain ⟨w3, hw3⟩ : ∃ w3, w3 = wr.alloc (.cells (bytes (dfRow 0)).toArray 5) := ⟨_, rfl⟩
      obtain ⟨g, hg⟩ : ∃ g, g = wr.heap.size := ⟨_, rfl⟩
      have ho3 : w3.ownsRow g 5 1 (.slice (some ⟨g, 0, none⟩) 64 64) 64 (bytes (dfRow 0)) := by
        rw [hw3, hg]
        exact World.ownsRow_lit wr (bytes (dfRow 0)).toArray 64 (Nat.le_refl _) (by decide) (by rw [List.size_toArray, bytes_len]; rfl)
      have hb3 : Below wr.heap.size wr w3 := by rw [hw3]; exact bnew (Below.refl _ _) _
      have hgw : w.heap.size ≤ g := by rw [hg]; have := hb1.size; omega
      have hbw3 : Below w.heap.size w w3 := (hb1.trans ((hb2.trans (hbel.mono hsz2)).mono hb1.size)).trans (hb3.mono (by rw [← hg]; exact hgw))
      have hg3 : g < w3.heap.size := by rw [hw3, hg]; simp
      rw [← hg]
      have HW3 := Lib.hid hw3
      clear hw3 hb3 hg hbel hq0 hj
      go_loopg [7] 64 (fun k i wr => ∃ j : Nat, k = 64 - j ∧ j ≤ 64 ∧ i = .int .i64 j ∧ wr.ownsRow g 5 1 (.slice (some ⟨g, 0, none⟩) 64 64) 64 (bytes (dfRow j)) ∧ Below g w3 wr)
      case atStart => exact ⟨0, rfl, Nat.zero_le _, rfl, by rw [← HW3.out]; exact ho3, by rw [← HW3.out]; exact Below.refl _ _⟩
      case round =>
        obtain ⟨j, rfl, hj, rfl, hown, hbel⟩ := hrel
        by_cases hlt : j < 64
        · have hlt1 : (j : Int) < 64 := by omega
          have hj0 : (0 : Int) ≤ (j : Int) := by omega
          have hcl := hown.cellAt j (by omega)
          rw [List.getElem?_eq_getElem (by rw [bytes_len, dfRow_len (by omega)]; exact hlt)] at hcl
          have hfz := hown.frozenAt j
          have hst := Lib.hid (by have h := (hown.stored j (.int .u8 97)).1; rw [dfRow_set hlt] at h; exact h)
          go_wp2
          go_roundg (64 - (j + 1))
          case measure => omega
          case rel => exact ⟨j + 1, rfl, by omega, by go_num, hst.out, hbel.setCell (p := ⟨g, j, none⟩) (Nat.le_refl _) _⟩
        · obtain rfl : j = 64 := by omega
          have hr4 : Rd wr wr.heap.size (some ⟨g, 0, none⟩) (bytes dfLong) := Rd.own hown
          have hbw4 := hbw3.trans (hbel.mono hgw)
          have hq4 := hbel.size
          clear hown hlt HW3 ho3 hbel
          go_wp2_with (refine wpList_strL rfl _ _ _ _ rfl Tryd.underlying22 Tryd.underlying5 Tryd.underlying9 _ _ _ _ dfLong rfl rfl hr4 ?_)
          obtain ⟨w5, hw5⟩ : ∃ w5, w5 = wr.alloc (.cells (strs dfBad).toArray 9) := ⟨_, rfl⟩
          have hB : Rd w5 w5.heap.size (some ⟨wr.heap.size, 0, none⟩) (strs dfBad) := by
            have := @Rd.lit wr (strs dfBad).toArray 9 (0, 0)
            rw [← hw5] at this
            simpa using this
          have hr5 : Rd w5 w5.heap.size (some ⟨g, 0, none⟩) (bytes dfLong) := by rw [hw5]; exact hr4.new _
          have hb5 : Below wr.heap.size wr w5 := by rw [hw5]; exact bnew (Below.refl _ _) _
          have hbw5 := hbw4.trans (hb5.mono hbw4.size)
          have HW5 := Lib.hid hw5
          clear hw5 hb5 hr4
          go_loopg [9] 16 (fun k i w' => ∃ j : Nat, k = 16 - j ∧ j ≤ 16 ∧ i = .int .i64 j ∧ Below w5.heap.size w5 w')
          case atStart => exact ⟨0, rfl, Nat.zero_le _, rfl, by rw [HW5.out]; exact Below.refl _ _⟩
          case round =>
            obtain ⟨j, rfl, hj, rfl, hbel⟩ := hrel
            have hq0 := hbel.size
            by_cases hlt : j < 16
            · obtain ⟨b, off, x, hA, hb, hc, hx⟩ := (hB.below hbel).str_at (k := j) (by rw [show dfBad.length = 16 from rfl]; exact hlt)
              injection hA with hA; injection hA with hA1 hA2; subst hA1; subst hA2
              obtain ⟨f1, f2⟩ := df_bad x (List.mem_of_getElem? hx.out)
              rw [Nat.zero_add] at hc
              have hlt1 : (j : Int) < 16 := by omega
              have hj0 : (0 : Int) ≤ (j : Int) := by omega
              have C1 := Lib.hid fun A c w h h1 h2 => ascii_none (A := A) (c := c) (w := w) f2 h h1 h2
              have t1 : (str []).toList = [] := str_toL _
              have hxs := str_size x
              clear f2 hx
              go_wp2_with (first
                | (refine wpList_bytesL rfl _ _ _ _ rfl Tryd.underlying9 Tryd.underlying22 Tryd.underlying5 x rfl (by omega) ?_; intro c6 w6 hc6 hm6 hrow6 hr6 hb6 hz6)
                | (go_at_call 9; go_fit (C1.out _ _ w6 hr6 hc6 hm6); rintro e w7 ⟨rfl, hb7⟩; have hb67 := bnext hb6 hb7))
              go_roundg (16 - (j + 1))
              case measure => omega
              case rel => exact ⟨j + 1, rfl, by omega, by go_num, hbel.trans (hb67.mono hq0)⟩
            · obtain rfl : j = 16 := by omega
              have hr6 := (hr5.next hbel).take 63
              have e63 : (bytes dfLong).take 63 = bytes (List.replicate 63 97) := rfl
              rw [e63] at hr6
              have C1 := Lib.hid fun A c w h h1 h2 => ascii_some (A := A) (c := c) (w := w) df_end h h1 h2
              rw [show (List.replicate 63 (97 : UInt8)).length = 63 from rfl] at C1
              clear hlt hB hr5 e63
              go_wp2_with (go_at_call 9; go_fit (C1.out _ 64 _ hr6 (by decide) (by decide)); rintro e w7 ⟨rfl, hb7⟩)
              go_ret
              exact ⟨rfl, (hbw5.trans (hbel.mono hbw5.size)).trans (hb7.mono (Nat.le_trans hbw5.size hq0))⟩
end Go.Proofs.YtfandijagdiggaaDoor
