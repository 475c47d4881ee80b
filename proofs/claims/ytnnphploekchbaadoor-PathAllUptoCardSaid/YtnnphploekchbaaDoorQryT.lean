/- The walk of the reference's SamePairs. -/
import Derived.Test.YtnnphploekchbaaDoorLibB
namespace Go.Proofs.YtnnphploekchbaaDoor
set_option linter.all false
open Go.RowKit

def sameP (l m : List Pr) : Bool := decide (l = m)
theorem sameP_self (l : List Pr) : sameP l l = true := decide_eq_true rfl
theorem takeP {α : Type} [DecidableEq α] {l m : List α} {k : Nat} {x y : α} (h : l.take k = m.take k) (hx : l[k]? = some x) (hy : m[k]? = some y) : (x = y → l.take (k + 1) = m.take (k + 1)) ∧ (x ≠ y → l ≠ m) := by
  obtain ⟨h1, e1⟩ := List.getElem?_eq_some_iff.1 hx
  obtain ⟨h2, e2⟩ := List.getElem?_eq_some_iff.1 hy
  refine ⟨fun e => ?_, fun ne e => ?_⟩
  · rw [take_snoc' l k h1, take_snoc' m k h2, h, e1, e2, e]
  · subst e
    rw [hx] at hy
    injection hy with hy
    exact ne hy

set_option maxRecDepth 100000 in
set_option maxHeartbeats 4000000 in
theorem sameP_any (A A2 : Option Addr) (c c2 : Nat) (l m : List Pr) (w : World) (hr : Rd w w.heap.size A (prs l)) (hr2 : Rd w w.heap.size A2 (prs m)) (hl : l.length ≤ 1000000) (hm : m.length ≤ 1000000) :
    Calls Tryd.prog 28 #[.slice A l.length c, .slice A2 m.length c2] w fun e w' => e = .returned (.bool (sameP l m)) ∧ Below w.heap.size w w' := by
  by_cases hlen : l.length = m.length
  · have hlb : ((l.length : Int) != (m.length : Int)) = false := by simp [hlen]
    have HL := Lib.hid hlen
    clear hlen
    go_enter Tryd.func28, Tryd.ntmps28
    go_wp2
    clear hlb
    go_loopg [5] (l.length) (fun k i wr => ∃ j : Nat, k = l.length - j ∧ j ≤ l.length ∧ i = .int .i64 j ∧ Hid (l.take j = m.take j) ∧ Below w.heap.size w wr)
    case atStart => exact ⟨0, rfl, Nat.zero_le _, rfl, rfl, Below.refl _ _⟩
    case round =>
      obtain ⟨j, rfl, hj, rfl, hs, hbel⟩ := hrel
      by_cases hlt : j < l.length
      · obtain ⟨b, off, x, rfl, hb, hc1, hc2, hx⟩ := (hr.below hbel).pair_at hlt
        obtain ⟨b2, off2, y, rfl, hb2, hd1, hd2, hy⟩ := (hr2.below hbel).pair_at (k := j) (by have := HL.out; omega)
        have hlt2 : (j : Int) < (m.length : Int) := by have := HL.out; omega
        have hlt1 : (j : Int) < (l.length : Int) := by omega
        have hj0 : (0 : Int) ≤ (j : Int) := by omega
        have HT := Lib.hid (takeP hs.out hx.out hy.out)
        have q1 := str_eqB x.1 y.1
        have q2 := str_eqB x.2 y.2
        by_cases h1 : x.1 = y.1
        · by_cases h2 : x.2 = y.2
          · rw [decide_eq_true h1] at q1
            rw [decide_eq_true h2] at q2
            have HE := Lib.hid (HT.out.1 (Prod.ext h1 h2))
            clear h1 h2
            go_wp2
            go_quiet (fail)
            go_wp2
            go_roundg (l.length - (j + 1))
            case measure => omega
            case rel => exact ⟨j + 1, rfl, by omega, by go_num, HE.out, below_drewN hbel _⟩
          · rw [decide_eq_true h1] at q1
            rw [decide_eq_false h2] at q2
            have HE := Lib.hid (HT.out.2 (fun e => h2 (by rw [e])))
            clear h1 h2
            go_wp2
            go_quiet (fail)
            go_wp2
            go_ret
            exact ⟨ret_bool (by unfold sameP; rw [decide_eq_false HE.out]), below_drewN hbel _⟩
        · rw [decide_eq_false h1] at q1
          have HE := Lib.hid (HT.out.2 (fun e => h1 (by rw [e])))
          clear h1
          go_wp2
          go_quiet (fail)
          go_wp2
          go_ret
          exact ⟨ret_bool (by unfold sameP; rw [decide_eq_false HE.out]), below_drewN hbel _⟩
      · obtain rfl : j = l.length := by omega
        go_wp2
        go_ret
        have e := hs.out
        rw [List.take_length, HL.out, List.take_length] at e
        exact ⟨ret_bool (by unfold sameP; rw [decide_eq_true e]), hbel⟩
  · have hlb : ((l.length : Int) != (m.length : Int)) = true := by simp; omega
    have HL := Lib.hid hlen
    clear hlen
    go_enter Tryd.func28, Tryd.ntmps28
    go_wp2
    go_ret
    exact ⟨ret_bool (by unfold sameP; rw [decide_eq_false (fun e => HL.out (by rw [e]))]), Below.refl _ _⟩
end Go.Proofs.YtnnphploekchbaaDoor

