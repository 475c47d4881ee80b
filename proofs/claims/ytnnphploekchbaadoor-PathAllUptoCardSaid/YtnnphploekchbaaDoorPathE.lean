/- The walks of path.Show, and of the reference's SameTexts, Single, Double, ShowPath. -/
import Derived.Test.YtnnphploekchbaaDoorPathD
import Derived.Test.YtnnphploekchbaaDoorRulA
import Derived.Test.YtnnphploekchbaaDoorQryT
namespace Go.Proofs.YtnnphploekchbaaDoor
set_option linter.all false
open Go.RowKit

theorem showP_next {l : List (List UInt8)} {j : Nat} {x : List UInt8} (h : l[j]? = some x) : pShowP (l.take (j + 1)) = pShowP (l.take j) ++ [47] ++ x := by
  obtain ⟨hj, e⟩ := List.getElem?_eq_some_iff.1 h
  rw [take_snoc' l j hj, e]
  unfold pShowP
  rw [List.flatMap_append]
  simp
theorem showP_le {l : List (List UInt8)} {j : Nat} : (pShowP (l.take j)).length ≤ (pShowP l).length := by
  conv => rhs; rw [← List.take_append_drop j l]
  unfold pShowP
  rw [List.flatMap_append, List.length_append]; omega
theorem bldStrN (B b : Nat) (l s : List UInt8) (w : World) (h : Bld w B b l) (hl : l.length + s.length ≤ 100000000) (hB : B ≤ w.heap.size) :
    Calls Tryd.prog 49 #[.pointer (some ⟨b, 0, none⟩), .string (str s)] w fun e w' => e = .returned (.tuple #[.int .i64 s.length, .nilIface]) ∧ Bld w' B b (l ++ s) ∧ Below B w w' := by
  refine (writeString_any B b (bytes l) (str s) w h (by rw [bytes_len, str_size]; omega) hB).mono ?_
  rintro e w' ⟨rfl, h1, h2⟩
  refine ⟨by rw [str_size], .inr ?_, h2⟩
  rw [bytes_append]
  have : Lib.strCells (str s) = bytes s := by unfold Lib.strCells; rw [str_data]; rfl
  rw [this] at h1
  exact h1
set_option maxRecDepth 100000 in
set_option maxHeartbeats 4000000 in
theorem pshow_any (A : Option Addr) (c : Nat) (l : List (List UInt8)) (w : World) (hr : Rd w w.heap.size A (strs l)) (hl : l.length ≤ 1000000) (hT : (pShowP l).length ≤ 10000000) :
    Calls Tryd.prog 25 #[.slice A l.length c] w fun e w' => e = .returned (.string (str (pShowP l))) ∧ Below w.heap.size w w' := by
  have hB0 := Bld.fresh w
  have hbA : Below w.heap.size w (w.alloc (.cells #[.pointer none, .slice none 0 0] 62)) := (Below.refl _ _).alloc (Nat.le_refl _) _
  have HT := Lib.hid hT
  clear hT
  go_enter Tryd.func25, Tryd.ntmps25
  go_wp2
  go_loopg [8] l.length (fun k s8 wr => ∃ j : Nat, k = l.length - j ∧ j ≤ l.length ∧ s8 = .int .i64 (j : Int) ∧ Bld wr w.heap.size w.heap.size (pShowP (l.take j)) ∧ Below w.heap.size w wr)
  case atStart => exact ⟨0, rfl, Nat.zero_le _, rfl, hB0, hbA⟩
  case round =>
    clear hB0 hbA
    obtain ⟨j, rfl, hj, rfl, hB, hbel⟩ := hrel
    have hq0 := hbel.size
    by_cases hlt : j < l.length
    · obtain ⟨b, off, x, rfl, hb', hc, hx⟩ := (hr.below hbel).str_at (k := j) hlt
      have hlt1 : (j : Int) < (l.length : Int) := by omega
      have hj0 : (0 : Int) ≤ (j : Int) := by omega
      have hle := showP_le (l := l) (j := j + 1)
      have hTT := HT.out
      have HX := Lib.hid (showP_next hx.out)
      rw [HX.out, List.length_append, List.length_append] at hle
      simp only [List.length_cons, List.length_nil] at hle
      have C1 := Lib.hid (bldStrN w.heap.size w.heap.size _ [47] wr hB (by simp only [List.length_cons, List.length_nil]; omega) hq0)
      have C2 := Lib.hid fun w2 h q => bldStrN w.heap.size w.heap.size (pShowP (l.take j) ++ [47]) x w2 h (by rw [List.length_append]; simp only [List.length_cons, List.length_nil]; omega) q
      clear hx
      have hs47 : str [47] = { data := #[47] } := rfl
      go_wp2_with (first
        | (go_at_call 49; go_fit C1.out; rintro e w1 ⟨rfl, hB1, hb1⟩; have hc1 := cell_on hb1 hc (by omega))
        | (go_at_call 49; go_must (go_fit (C2.out w1 hB1 (Nat.le_trans hq0 hb1.size))); rintro e w2 ⟨rfl, hB2, hb2⟩))
      go_roundg (l.length - (j + 1))
      case measure => omega
      case rel => exact ⟨j + 1, rfl, by omega, by go_num, by rw [HX.out]; exact hB2, (hbel.trans hb1).trans hb2⟩
    · obtain rfl : j = l.length := by omega
      rw [List.take_length] at hB
      have C3 := Lib.hid (bldString w.heap.size w.heap.size _ wr hB hq0)
      go_wp2_with (go_at_call 50; go_must (go_fit C3.out); rintro e w1 ⟨rfl, hb1⟩)
      go_ret
      exact ⟨rfl, hbel.trans hb1⟩

def sameT (l m : List (List UInt8)) : Bool := decide (l = m)
theorem sameT_self (l : List (List UInt8)) : sameT l l = true := decide_eq_true rfl
set_option maxRecDepth 100000 in
set_option maxHeartbeats 4000000 in
theorem sameT_any (A A2 : Option Addr) (c c2 : Nat) (l m : List (List UInt8)) (w : World) (hr : Rd w w.heap.size A (strs l)) (hr2 : Rd w w.heap.size A2 (strs m)) (hl : l.length ≤ 1000000) (hm : m.length ≤ 1000000) :
    Calls Tryd.prog 23 #[.slice A l.length c, .slice A2 m.length c2] w fun e w' => e = .returned (.bool (sameT l m)) ∧ Below w.heap.size w w' := by
  by_cases hlen : l.length = m.length
  · have hlb : ((l.length : Int) != (m.length : Int)) = false := by simp [hlen]
    have HL := Lib.hid hlen
    clear hlen
    go_enter Tryd.func23, Tryd.ntmps23
    go_wp2
    clear hlb
    go_loopg [5] (l.length) (fun k i wr => ∃ j : Nat, k = l.length - j ∧ j ≤ l.length ∧ i = .int .i64 j ∧ Hid (l.take j = m.take j) ∧ Below w.heap.size w wr)
    case atStart => exact ⟨0, rfl, Nat.zero_le _, rfl, rfl, Below.refl _ _⟩
    case round =>
      obtain ⟨j, rfl, hj, rfl, hs, hbel⟩ := hrel
      by_cases hlt : j < l.length
      · obtain ⟨b, off, x, rfl, hb, hc1, hx⟩ := (hr.below hbel).str_at hlt
        obtain ⟨b2, off2, y, rfl, hb2, hd1, hy⟩ := (hr2.below hbel).str_at (k := j) (by have := HL.out; omega)
        have hlt2 : (j : Int) < (m.length : Int) := by have := HL.out; omega
        have hlt1 : (j : Int) < (l.length : Int) := by omega
        have hj0 : (0 : Int) ≤ (j : Int) := by omega
        have HT := Lib.hid (takeP hs.out hx.out hy.out)
        have q1 := str_eqB x y
        by_cases h1 : x = y
        · rw [decide_eq_true h1] at q1
          have HE := Lib.hid (HT.out.1 h1)
          clear h1
          go_wp2
          go_quiet (fail)
          go_wp2
          go_roundg (l.length - (j + 1))
          case measure => omega
          case rel => exact ⟨j + 1, rfl, by omega, by go_num, HE.out, below_drewN hbel _⟩
        · rw [decide_eq_false h1] at q1
          have HE := Lib.hid (HT.out.2 h1)
          clear h1
          go_wp2
          go_quiet (fail)
          go_wp2
          go_ret
          exact ⟨ret_bool (by unfold sameT; rw [decide_eq_false HE.out]), below_drewN hbel _⟩
      · obtain rfl : j = l.length := by omega
        have HE := Lib.hid (show sameT l m = true by
          have h := hs.out
          rw [List.take_length, HL.out, List.take_length] at h
          exact decide_eq_true h)
        go_wp2
        go_ret
        exact ⟨ret_bool HE.out.symm, hbel⟩
  · have hlb : ((l.length : Int) != (m.length : Int)) = true := by simp; omega
    have HE := Lib.hid (show sameT l m = false from decide_eq_false fun e => hlen (by rw [e]))
    clear hlen
    go_enter Tryd.func23, Tryd.ntmps23
    go_wp2
    go_ret
    exact ⟨ret_bool HE.out.symm, Below.refl _ _⟩
end Go.Proofs.YtnnphploekchbaaDoor

