/- The walks of rules.Out and the reference's Out. -/
import Derived.Test.YtpoaeppapmbkpaaDoorRulA
namespace Go.Proofs.YtpoaeppapmbkpaaDoor
set_option linter.all false
open Go.RowKit

/-- Rules as they lie in a row: a name, whether it is a front. -/
def rls (l : List Ru) : List Value := l.flatMap fun p => [Value.string (str p.1), Value.bool p.2]
theorem rls_len (l : List Ru) : (rls l).length = l.length * 2 := by
  unfold rls
  induction l with
  | nil => rfl
  | cons p l ih => rw [List.flatMap_cons, List.length_append, ih]; simp; omega
theorem rls_at {l : List Ru} {k : Nat} {p : Ru} (h : l[k]? = some p) : (rls l)[k * 2]? = some (.string (str p.1)) ∧ (rls l)[k * 2 + 1]? = some (.bool p.2) := by
  induction l generalizing k with
  | nil => cases h
  | cons q l ih =>
    cases k with
    | zero => simp at h; subst h; exact ⟨rfl, rfl⟩
    | succ k =>
      have := ih (k := k) (by simpa using h)
      have e : rls (q :: l) = [Value.string (str q.1), Value.bool q.2] ++ rls l := by unfold rls; rw [List.flatMap_cons]
      rw [e]
      refine ⟨?_, ?_⟩
      · rw [show (k + 1) * 2 = k * 2 + 2 from by omega, List.getElem?_append_right (by simp)]; simpa using this.1
      · rw [show (k + 1) * 2 + 1 = k * 2 + 1 + 2 from by omega, List.getElem?_append_right (by simp)]; simpa using this.2
theorem Rd.rule_at {w : World} {B : Nat} {A : Option Addr} {l : List Ru} (h : Rd w B A (rls l)) {k : Nat} (hk : k < l.length) :
    ∃ b off p, A = some ⟨b, off, none⟩ ∧ b < B ∧ w.cell? ⟨b, off + k * 2, none⟩ = some (.string (str p.1)) ∧ w.cell? ⟨b, off + k * 2 + 1, none⟩ = some (.bool p.2) ∧ Hid (l[k]? = some p) := by
  obtain ⟨b, off, e, hb, hc⟩ := h (by rw [rls_len]; omega)
  have hp := rls_at (List.getElem?_eq_getElem hk)
  exact ⟨b, off, l[k], e, hb, hc _ _ hp.1, by rw [Nat.add_assoc]; exact hc _ _ hp.2, List.getElem?_eq_getElem hk⟩
def ruV (r : Ru) : Value := .agg #[.string (str r.1), .bool r.2]
def prV (p : Pr) : Value := .agg #[.string (str p.1), .string (str p.2)]

theorem hasPrefix_any (a b : List UInt8) (w : World) :
    Calls Tryd.prog 62 #[.string (str a), .string (str b)] w fun e w' => e = .returned (.bool (b.isPrefixOf a)) ∧ w = w' := by
  refine (Tryd.strings_HasPrefix (str a) (str b) w).mono fun e w' ⟨he, hw⟩ => ⟨?_, hw.symm⟩
  rw [he, str_data, str_data]; rfl

set_option maxRecDepth 100000 in
set_option maxHeartbeats 4000000 in
theorem out1_any (g : Nat) (n : List UInt8) (r : Ru) (w : World) (hc : w.cell? ⟨g, 0, none⟩ = some (.string (str n))) (hr : r.1.length ≤ 1000000) :
    Calls Tryd.prog 61 #[.agg #[.string (str r.1), .bool r.2], .pointer (some ⟨g, 0, none⟩)] w fun e w' => e = .returned (.bool (rHit n r)) ∧ Below w.heap.size w w' := by
  have hg := World.block_lt_of_cell? _ _ hc
  have hg' : g < w.heap.size := hg
  have hc0 : (w.alloc (.cells #[.string (str r.1), .bool r.2] 52)).cell? ⟨g, 0, none⟩ = some (.string (str n)) := by
    rw [World.cell?_alloc_lt w _ _ hg']; exact hc
  have hbx : (w.alloc (.cells #[.string (str r.1), .bool r.2] 52)).cell? ⟨w.heap.size, 1, none⟩ = some (.bool r.2) := by
    rw [cell_of_row _ _ 1 _ _ _ (heap_alloc_new w _)]; rfl
  have C1 := Lib.hid fun w => small_any r.1 w hr
  have C2 := Lib.hid fun w => hasPrefix_any n (lows r.1) w
  obtain ⟨x, hx⟩ : ∃ x, x = lows r.1 := ⟨_, rfl⟩
  have HH := Lib.hid (show rHit n r = (full x && (decide (x = n) || (r.2 && x.isPrefixOf n))) by rw [hx]; rfl)
  rw [← hx] at C1 C2
  clear hx
  obtain ⟨r1, r2⟩ := r
  simp only at C1 C2 HH hc0 hbx hr ⊢
  have q0 := str_eqB x []
  have qn := str_eqB x n
  by_cases h0 : x = []
  · subst h0
    have q : (str []).toList = [] := str_toL _
    clear q0 qn
    go_enter Tryd.func61, Tryd.ntmps61
    go_wp2_with (first
      | (go_at_call 59; go_must (go_fit (C1.out _)); rintro e w1 ⟨rfl, hb1⟩; have hc1 := cell_on hb1 hc0 (by simp; omega); have hd1 := cell_on hb1 hbx (by simp))
      | (go_at_call 62; go_must (go_fit (C2.out w1)); rintro e w2 ⟨rfl, rfl⟩))
    go_ret
    exact ⟨by rw [HH.out]; rfl, bnext (bnew (Below.refl _ _) _) hb1⟩
  · have q : (str x).toList.isEmpty = false := by rw [str_toL]; simpa using h0
    have hf : full x = true := by unfold full; simpa using h0
    by_cases hn : x = n
    · rw [decide_eq_true hn] at qn
      have HF := Lib.hid (show rHit n (r1, r2) = true by rw [HH.out, hf, decide_eq_true hn]; rfl)
      clear q0 h0 hn hf
      go_enter Tryd.func61, Tryd.ntmps61
      go_wp2_with (first
        | (go_at_call 59; go_must (go_fit (C1.out _)); rintro e w1 ⟨rfl, hb1⟩; have hc1 := cell_on hb1 hc0 (by simp; omega); have hd1 := cell_on hb1 hbx (by simp))
        | (go_at_call 62; go_must (go_fit (C2.out w1)); rintro e w2 ⟨rfl, rfl⟩))
      go_ret
      exact ⟨by rw [HF.out]; rfl, bnext (bnew (Below.refl _ _) _) hb1⟩
    · rw [decide_eq_false hn] at qn
      have HF := Lib.hid (show rHit n (r1, r2) = (r2 && x.isPrefixOf n) by rw [HH.out, hf, decide_eq_false hn]; rfl)
      clear q0 h0 hn hf
      cases r2
      · skip
        go_enter Tryd.func61, Tryd.ntmps61
        go_wp2_with (first
          | (go_at_call 59; go_must (go_fit (C1.out _)); rintro e w1 ⟨rfl, hb1⟩; have hc1 := cell_on hb1 hc0 (by simp; omega); have hd1 := cell_on hb1 hbx (by simp))
          | (go_at_call 62; go_must (go_fit (C2.out w1)); rintro e w2 ⟨rfl, rfl⟩))
        go_ret
        exact ⟨by rw [HF.out]; rfl, bnext (bnew (Below.refl _ _) _) hb1⟩
      · skip
        go_enter Tryd.func61, Tryd.ntmps61
        go_wp2_with (first
          | (go_at_call 59; go_must (go_fit (C1.out _)); rintro e w1 ⟨rfl, hb1⟩; have hc1 := cell_on hb1 hc0 (by simp; omega); have hd1 := cell_on hb1 hbx (by simp))
          | (go_at_call 62; go_must (go_fit (C2.out w1)); rintro e w2 ⟨rfl, rfl⟩))
        go_ret
        exact ⟨by rw [HF.out]; rfl, bnext (bnew (Below.refl _ _) _) hb1⟩

theorem any_takeG {α : Type} {P : α → Bool} {l : List α} {j : Nat} {x : α} (h : l[j]? = some x) (hf : (l.take j).any P = false) (hx : P x = false) : (l.take (j + 1)).any P = false := by
  obtain ⟨hj, e⟩ := List.getElem?_eq_some_iff.1 h
  rw [take_snoc' l j hj, e, List.any_append, hf]; simp [hx]
theorem any_hereG {α : Type} {P : α → Bool} {l : List α} {j : Nat} {x : α} (h : l[j]? = some x) (hx : P x = true) : l.any P = true :=
  List.any_eq_true.2 ⟨x, List.mem_of_getElem? h, hx⟩

set_option maxRecDepth 100000 in
set_option maxHeartbeats 4000000 in
theorem idxR_any (g : Nat) (n : List UInt8) (A : Option Addr) (c : Nat) (l : List Ru) (w : World) (hr : Rd w w.heap.size A (rls l)) (hc : w.cell? ⟨g, 0, none⟩ = some (.string (str n))) (hl : l.length ≤ 1000000) (hp : ∀ p ∈ l, p.1.length ≤ 1000000) :
    Calls Tryd.prog 81 #[.slice A l.length c, .func (.func 61) #[] #[.pointer (some ⟨g, 0, none⟩)]] w fun e w' => ∃ i : Int, e = .returned (.int .i64 i) ∧ Hid (0 ≤ i ↔ l.any (rHit n) = true) ∧ Below w.heap.size w w' := by
  have HP := Lib.hid hp
  clear hp
  have hg : g < w.heap.size := World.block_lt_of_cell? _ _ hc
  go_enter Tryd.func81, Tryd.ntmps81
  go_wp2
  go_loopg [8] (l.length) (fun k i wr => ∃ j : Nat, k = l.length - j ∧ j ≤ l.length ∧ i = .int .i64 j ∧ Hid ((l.take j).any (rHit n) = false) ∧ Below w.heap.size w wr)
  case atStart => exact ⟨0, rfl, Nat.zero_le _, rfl, rfl, Below.refl _ _⟩
  case round =>
    obtain ⟨j, rfl, hj, rfl, hn, hbel⟩ := hrel
    by_cases hlt : j < l.length
    · obtain ⟨b, off, x, rfl, hb, hc1, hc2, hx⟩ := (hr.below hbel).rule_at hlt
      have hlt1 : (j : Int) < (l.length : Int) := by omega
      have hj0 : (0 : Int) ≤ (j : Int) := by omega
      have C := Lib.hid (out1_any g n x wr (cell_on hbel hc hg) (HP.out x (List.mem_of_getElem? hx.out)))
      by_cases hp : rHit n x = true
      · have HQ := Lib.hid hp
        rw [hp] at C
        clear hp
        go_wp2_with (go_at_call 61; go_must (go_fit C.out); rintro e w1 ⟨rfl, hb1⟩)
        go_ret
        exact ⟨_, rfl, ⟨fun _ => any_hereG hx.out HQ.out, fun _ => by omega⟩, bnext hbel hb1⟩
      · have hp := Bool.eq_false_iff.2 hp
        have HQ := Lib.hid hp
        rw [hp] at C
        clear hp
        go_wp2_with (go_at_call 61; go_must (go_fit C.out); rintro e w1 ⟨rfl, hb1⟩)
        go_roundg (l.length - (j + 1))
        case measure => omega
        case rel => exact ⟨j + 1, rfl, by omega, by go_num, any_takeG hx.out hn.out HQ.out, bnext hbel hb1⟩
    · obtain rfl : j = l.length := by omega
      go_wp2
      go_ret
      have h := hn.out
      rw [List.take_length] at h
      exact ⟨_, rfl, ⟨fun h1 => absurd h1 (by omega), fun h1 => by rw [h] at h1; cases h1⟩, hbel⟩
set_option maxRecDepth 100000 in
set_option maxHeartbeats 1000000 in
theorem hasR_any (g : Nat) (n : List UInt8) (A : Option Addr) (c : Nat) (l : List Ru) (w : World) (hr : Rd w w.heap.size A (rls l)) (hc : w.cell? ⟨g, 0, none⟩ = some (.string (str n))) (hl : l.length ≤ 1000000) (hp : ∀ p ∈ l, p.1.length ≤ 1000000) :
    Calls Tryd.prog 60 #[.slice A l.length c, .func (.func 61) #[] #[.pointer (some ⟨g, 0, none⟩)]] w fun e w' => e = .returned (.bool (l.any (rHit n))) ∧ Below w.heap.size w w' := by
  go_enter Tryd.func60, Tryd.ntmps60
  go_wp2_with (go_at_call 81; go_must (go_fit (idxR_any g n A c l w hr hc hl hp)); rintro e w1 ⟨i, rfl, hi, hb1⟩)
  go_ret
  exact ⟨ret_bool (by rw [Bool.eq_iff_iff, decide_eq_true_eq]; exact hi.out), hb1⟩

set_option maxRecDepth 100000 in
set_option maxHeartbeats 4000000 in
theorem out_any (p : Pr) (A : Option Addr) (c : Nat) (l : List Ru) (w : World) (hr : Rd w w.heap.size A (rls l)) (hl : l.length ≤ 1000000) (hp : ∀ p ∈ l, p.1.length ≤ 1000000) (hpn : p.1.length ≤ 1000000) :
    Calls Tryd.prog 36 #[.agg #[.string (str p.1), .string (str p.2)], .slice A l.length c] w fun e w' => e = .returned (.bool (rOut p.1 l)) ∧ Below w.heap.size w w' := by
  have C1 := Lib.hid fun w => small_any p.1 w hpn
  have HP := Lib.hid hp
  have hr0 : Rd (w.alloc (.cells #[.string (str p.1), .string (str p.2)] 25)) (w.alloc (.cells #[.string (str p.1), .string (str p.2)] 25)).heap.size A (rls l) := hr.new _
  have hbw : Below w.heap.size w (w.alloc (.cells #[.string (str p.1), .string (str p.2)] 25)) := bnew (Below.refl _ _) _
  clear hp
  go_enter Tryd.func36, Tryd.ntmps36
  go_wp2_with (first
    | (go_at_call 59; go_must (go_fit (C1.out _)); rintro e w1 ⟨rfl, hb1⟩; have hr1 := hr0.next hb1)
    | (go_at_call 60; go_must (go_fit (hasR_any w1.heap.size (lows p.1) A c l (w1.alloc (.cells #[.string (str (lows p.1))] 9)) (hr1.new _) (by rw [cell_of_row _ _ 0 _ _ _ (heap_alloc_new w1 _)]; rfl) hl HP.out)); rintro e w2 ⟨rfl, hb2⟩))
  go_ret
  exact ⟨rfl, bnext (bnew (bnext hbw hb1) _) hb2⟩
end Go.Proofs.YtpoaeppapmbkpaaDoor

