/- The walks of pct.In and pct.Encode. -/
import Derived.Test.YtnnphploekchbaaDoorPctA
namespace Go.Proofs.YtnnphploekchbaaDoor
set_option linter.all false
open Go.RowKit


def pShow (s : Int) (c : UInt8) : List UInt8 := if s = 6 ∧ c = 32 then [43] else esc c
theorem pEnc1_in {s : Int} {c : UInt8} (h : pIn s c = true) : pEnc1 s c = pShow s c := by
  unfold pEnc1 pShow; split
  · rfl
  · first | rfl | exact if_pos h
theorem pEnc1_out {s : Int} {c : UInt8} (h : pIn s c = false) : pEnc1 s c = [c] := by
  unfold pEnc1
  rw [if_neg, if_neg (by rw [h]; decide)]
  rintro ⟨rfl, rfl⟩
  exact absurd h (by decide)
theorem pEnc_snoc {s : Int} {l : List UInt8} {j : Nat} {x : UInt8} (h : l[j]? = some x) : pEnc s (l.take (j + 1)) = pEnc s (l.take j) ++ pEnc1 s x := by
  obtain ⟨hj, hx⟩ := List.getElem?_eq_some_iff.1 h
  rw [take_snoc' l j hj, hx, pEnc_append]
  simp [pEnc]
theorem pShow_len (s : Int) (c : UInt8) : (pShow s c).length ≤ 3 := by unfold pShow esc; split <;> simp


set_option maxRecDepth 100000 in
set_option maxHeartbeats 4000000 in
theorem enc_control (s : Int) (A : Option Addr) (c : Nat) (l : List UInt8) (w : World) (hr : Rd w w.heap.size A (bytes l)) (hl : l.length ≤ 100000) 
    (hof : Hid (∀ w, Calls Tryd.prog 67 #[.int .i64 s] w fun e w' => e = .returned (.iface 99 (.agg #[])) ∧ w = w'))
    (hin : Hid (∀ (x : UInt8) w, Calls Tryd.prog 132 #[.agg #[], .int .u8 (x.toNat : Int)] w fun e w' => e = .returned (.bool (pIn s x)) ∧ Below w.heap.size w w'))
    (hsh : Hid (∀ (x : UInt8) w, Calls Tryd.prog 133 #[.agg #[], .int .u8 (x.toNat : Int)] w fun e w' => e = .returned (.string (str (pShow s x))) ∧ Below w.heap.size w w')) :
    Calls Tryd.prog 44 #[.int .i64 s, .slice A l.length c] w fun e w' => e = .returned (.string (str (pEnc s l))) ∧ Below w.heap.size w w' := by
  go_enter Tryd.func44, Tryd.ntmps44
  go_wp2_with (go_at_call 67; go_must (go_fit (hof.out _)); rintro e w0 ⟨rfl, rfl⟩)
  go_loopg [13] (l.length) (fun k i wr => ∃ j : Nat, k = l.length - j ∧ j ≤ l.length ∧ i = .int .i64 j ∧ Bld wr w.heap.size w.heap.size (pEnc s (l.take j)) ∧ Below w.heap.size w wr)
  case atStart => exact ⟨0, rfl, Nat.zero_le _, rfl, Bld.fresh w, bnew (Below.refl _ _) _⟩
  case round =>
    obtain ⟨j, rfl, hj, rfl, hbl, hbel⟩ := hrel
    have hw := hbel.size
    have hty := pEnc_le s (l.take j)
    have hty2 : (l.take j).length ≤ l.length := by rw [List.length_take]; omega
    by_cases hlt : j < l.length
    · obtain ⟨b, off, x, rfl, hb, hc, hx⟩ := (hr.below hbel).byte_at hlt
      have hlt1 : (j : Int) < (l.length : Int) := by omega
      have hj0 : (0 : Int) ≤ (j : Int) := by omega
      have CI := Lib.hid fun w => hin.out x w
      have CS := Lib.hid fun w => hsh.out x w
      have hs3 := pShow_len s x
      have hsn := Lib.hid (pEnc_snoc (s := s) hx.out)
      by_cases hk : pIn s x = true
      · rw [hk] at CI
        rw [pEnc1_in hk] at hsn
        clear hk
        go_wp2_with (first
          | (go_at_call 132; go_must (go_fit (CI.out _)); rintro e w1 ⟨rfl, hb1⟩)
          | (go_at_call 133; go_must (go_fit (CS.out _)); rintro e w2 ⟨rfl, hb2⟩; have hbl2 := (hbl.next hb1).next hb2; have q1 := hb1.size; have q2 := hb2.size)
          | (go_at_call 49; go_must (go_fit (bldStr w.heap.size w.heap.size _ (pShow s x) w2 hbl2 (by omega) (by omega))); rintro e w3 ⟨rfl, hbl3, hb3⟩))
        go_roundg (l.length - (j + 1))
        case measure => omega
        case rel => exact ⟨j + 1, rfl, by omega, by go_num, by rw [hsn.out]; exact hbl3, (bnext (bnext hbel hb1) hb2).trans hb3⟩
      · have hk := Bool.eq_false_iff.2 hk
        rw [hk] at CI
        rw [pEnc1_out hk] at hsn
        clear hk
        go_wp2_with (first
          | (go_at_call 132; go_must (go_fit (CI.out _)); rintro e w1 ⟨rfl, hb1⟩; have hbl1 := hbl.next hb1; have q1 := hb1.size)
          | (go_at_call 68; go_must (go_fit (bldByte w.heap.size w.heap.size _ x w1 hbl1 (by omega) (by omega))); rintro e w3 ⟨rfl, hbl3, hb3⟩))
        go_roundg (l.length - (j + 1))
        case measure => omega
        case rel => exact ⟨j + 1, rfl, by omega, by go_num, by rw [hsn.out]; exact hbl3, (bnext hbel hb1).trans hb3⟩
    · obtain rfl : j = l.length := by omega
      rw [List.take_length] at hbl
      go_wp2_with (go_at_call 50; go_must (go_fit (bldString w.heap.size w.heap.size _ wr hbl hw)); rintro e w1 ⟨rfl, hb1⟩)
      go_ret
      exact ⟨rfl, hbel.trans hb1⟩
set_option maxRecDepth 100000 in
set_option maxHeartbeats 4000000 in
theorem enc_more (s : Int) (A : Option Addr) (c : Nat) (l : List UInt8) (w : World) (hr : Rd w w.heap.size A (bytes l)) (hl : l.length ≤ 100000) (t : List UInt8)
    (hof : Hid (∀ w, Calls Tryd.prog 67 #[.int .i64 s] w fun e w' => e = .returned (.iface 101 (.agg #[.string (str t)])) ∧ w = w'))
    (hin : Hid (∀ (x : UInt8) w, Calls Tryd.prog 135 #[.agg #[.string (str t)], .int .u8 (x.toNat : Int)] w fun e w' => e = .returned (.bool (pIn s x)) ∧ Below w.heap.size w w'))
    (hsh : Hid (∀ (x : UInt8) w, Calls Tryd.prog 133 #[.agg #[], .int .u8 (x.toNat : Int)] w fun e w' => e = .returned (.string (str (pShow s x))) ∧ Below w.heap.size w w')) :
    Calls Tryd.prog 44 #[.int .i64 s, .slice A l.length c] w fun e w' => e = .returned (.string (str (pEnc s l))) ∧ Below w.heap.size w w' := by
  go_enter Tryd.func44, Tryd.ntmps44
  go_wp2_with (go_at_call 67; go_must (go_fit (hof.out _)); rintro e w0 ⟨rfl, rfl⟩)
  go_loopg [13] (l.length) (fun k i wr => ∃ j : Nat, k = l.length - j ∧ j ≤ l.length ∧ i = .int .i64 j ∧ Bld wr w.heap.size w.heap.size (pEnc s (l.take j)) ∧ Below w.heap.size w wr)
  case atStart => exact ⟨0, rfl, Nat.zero_le _, rfl, Bld.fresh w, bnew (Below.refl _ _) _⟩
  case round =>
    obtain ⟨j, rfl, hj, rfl, hbl, hbel⟩ := hrel
    have hw := hbel.size
    have hty := pEnc_le s (l.take j)
    have hty2 : (l.take j).length ≤ l.length := by rw [List.length_take]; omega
    by_cases hlt : j < l.length
    · obtain ⟨b, off, x, rfl, hb, hc, hx⟩ := (hr.below hbel).byte_at hlt
      have hlt1 : (j : Int) < (l.length : Int) := by omega
      have hj0 : (0 : Int) ≤ (j : Int) := by omega
      have CI := Lib.hid fun w => hin.out x w
      have CS := Lib.hid fun w => hsh.out x w
      have hs3 := pShow_len s x
      have hsn := Lib.hid (pEnc_snoc (s := s) hx.out)
      by_cases hk : pIn s x = true
      · rw [hk] at CI
        rw [pEnc1_in hk] at hsn
        clear hk
        go_wp2_with (first
          | (go_at_call 135; go_must (go_fit (CI.out _)); rintro e w1 ⟨rfl, hb1⟩)
          | (go_at_call 133; go_must (go_fit (CS.out _)); rintro e w2 ⟨rfl, hb2⟩; have hbl2 := (hbl.next hb1).next hb2; have q1 := hb1.size; have q2 := hb2.size)
          | (go_at_call 49; go_must (go_fit (bldStr w.heap.size w.heap.size _ (pShow s x) w2 hbl2 (by omega) (by omega))); rintro e w3 ⟨rfl, hbl3, hb3⟩))
        go_roundg (l.length - (j + 1))
        case measure => omega
        case rel => exact ⟨j + 1, rfl, by omega, by go_num, by rw [hsn.out]; exact hbl3, (bnext (bnext hbel hb1) hb2).trans hb3⟩
      · have hk := Bool.eq_false_iff.2 hk
        rw [hk] at CI
        rw [pEnc1_out hk] at hsn
        clear hk
        go_wp2_with (first
          | (go_at_call 135; go_must (go_fit (CI.out _)); rintro e w1 ⟨rfl, hb1⟩; have hbl1 := hbl.next hb1; have q1 := hb1.size)
          | (go_at_call 68; go_must (go_fit (bldByte w.heap.size w.heap.size _ x w1 hbl1 (by omega) (by omega))); rintro e w3 ⟨rfl, hbl3, hb3⟩))
        go_roundg (l.length - (j + 1))
        case measure => omega
        case rel => exact ⟨j + 1, rfl, by omega, by go_num, by rw [hsn.out]; exact hbl3, (bnext hbel hb1).trans hb3⟩
    · obtain rfl : j = l.length := by omega
      rw [List.take_length] at hbl
      go_wp2_with (go_at_call 50; go_must (go_fit (bldString w.heap.size w.heap.size _ wr hbl hw)); rintro e w1 ⟨rfl, hb1⟩)
      go_ret
      exact ⟨rfl, hbel.trans hb1⟩
set_option maxRecDepth 100000 in
set_option maxHeartbeats 4000000 in
theorem enc_form (s : Int) (A : Option Addr) (c : Nat) (l : List UInt8) (w : World) (hr : Rd w w.heap.size A (bytes l)) (hl : l.length ≤ 100000) 
    (hof : Hid (∀ w, Calls Tryd.prog 67 #[.int .i64 s] w fun e w' => e = .returned (.iface 103 (.agg #[])) ∧ w = w'))
    (hin : Hid (∀ (x : UInt8) w, Calls Tryd.prog 136 #[.agg #[], .int .u8 (x.toNat : Int)] w fun e w' => e = .returned (.bool (pIn s x)) ∧ Below w.heap.size w w'))
    (hsh : Hid (∀ (x : UInt8) w, Calls Tryd.prog 137 #[.agg #[], .int .u8 (x.toNat : Int)] w fun e w' => e = .returned (.string (str (pShow s x))) ∧ Below w.heap.size w w')) :
    Calls Tryd.prog 44 #[.int .i64 s, .slice A l.length c] w fun e w' => e = .returned (.string (str (pEnc s l))) ∧ Below w.heap.size w w' := by
  go_enter Tryd.func44, Tryd.ntmps44
  go_wp2_with (go_at_call 67; go_must (go_fit (hof.out _)); rintro e w0 ⟨rfl, rfl⟩)
  go_loopg [13] (l.length) (fun k i wr => ∃ j : Nat, k = l.length - j ∧ j ≤ l.length ∧ i = .int .i64 j ∧ Bld wr w.heap.size w.heap.size (pEnc s (l.take j)) ∧ Below w.heap.size w wr)
  case atStart => exact ⟨0, rfl, Nat.zero_le _, rfl, Bld.fresh w, bnew (Below.refl _ _) _⟩
  case round =>
    obtain ⟨j, rfl, hj, rfl, hbl, hbel⟩ := hrel
    have hw := hbel.size
    have hty := pEnc_le s (l.take j)
    have hty2 : (l.take j).length ≤ l.length := by rw [List.length_take]; omega
    by_cases hlt : j < l.length
    · obtain ⟨b, off, x, rfl, hb, hc, hx⟩ := (hr.below hbel).byte_at hlt
      have hlt1 : (j : Int) < (l.length : Int) := by omega
      have hj0 : (0 : Int) ≤ (j : Int) := by omega
      have CI := Lib.hid fun w => hin.out x w
      have CS := Lib.hid fun w => hsh.out x w
      have hs3 := pShow_len s x
      have hsn := Lib.hid (pEnc_snoc (s := s) hx.out)
      by_cases hk : pIn s x = true
      · rw [hk] at CI
        rw [pEnc1_in hk] at hsn
        clear hk
        go_wp2_with (first
          | (go_at_call 136; go_must (go_fit (CI.out _)); rintro e w1 ⟨rfl, hb1⟩)
          | (go_at_call 137; go_must (go_fit (CS.out _)); rintro e w2 ⟨rfl, hb2⟩; have hbl2 := (hbl.next hb1).next hb2; have q1 := hb1.size; have q2 := hb2.size)
          | (go_at_call 49; go_must (go_fit (bldStr w.heap.size w.heap.size _ (pShow s x) w2 hbl2 (by omega) (by omega))); rintro e w3 ⟨rfl, hbl3, hb3⟩))
        go_roundg (l.length - (j + 1))
        case measure => omega
        case rel => exact ⟨j + 1, rfl, by omega, by go_num, by rw [hsn.out]; exact hbl3, (bnext (bnext hbel hb1) hb2).trans hb3⟩
      · have hk := Bool.eq_false_iff.2 hk
        rw [hk] at CI
        rw [pEnc1_out hk] at hsn
        clear hk
        go_wp2_with (first
          | (go_at_call 136; go_must (go_fit (CI.out _)); rintro e w1 ⟨rfl, hb1⟩; have hbl1 := hbl.next hb1; have q1 := hb1.size)
          | (go_at_call 68; go_must (go_fit (bldByte w.heap.size w.heap.size _ x w1 hbl1 (by omega) (by omega))); rintro e w3 ⟨rfl, hbl3, hb3⟩))
        go_roundg (l.length - (j + 1))
        case measure => omega
        case rel => exact ⟨j + 1, rfl, by omega, by go_num, by rw [hsn.out]; exact hbl3, (bnext hbel hb1).trans hb3⟩
    · obtain rfl : j = l.length := by omega
      rw [List.take_length] at hbl
      go_wp2_with (go_at_call 50; go_must (go_fit (bldString w.heap.size w.heap.size _ wr hbl hw)); rintro e w1 ⟨rfl, hb1⟩)
      go_ret
      exact ⟨rfl, hbel.trans hb1⟩
set_option maxRecDepth 100000 in
set_option maxHeartbeats 4000000 in
theorem enc_none (s : Int) (A : Option Addr) (c : Nat) (l : List UInt8) (w : World) (hr : Rd w w.heap.size A (bytes l)) (hl : l.length ≤ 100000) 
    (hof : Hid (∀ w, Calls Tryd.prog 67 #[.int .i64 s] w fun e w' => e = .returned (.iface 104 (.agg #[])) ∧ w = w'))
    (hin : Hid (∀ (x : UInt8) w, Calls Tryd.prog 138 #[.agg #[], .int .u8 (x.toNat : Int)] w fun e w' => e = .returned (.bool (pIn s x)) ∧ Below w.heap.size w w'))
    (hsh : Hid (∀ (x : UInt8) w, Calls Tryd.prog 133 #[.agg #[], .int .u8 (x.toNat : Int)] w fun e w' => e = .returned (.string (str (pShow s x))) ∧ Below w.heap.size w w')) :
    Calls Tryd.prog 44 #[.int .i64 s, .slice A l.length c] w fun e w' => e = .returned (.string (str (pEnc s l))) ∧ Below w.heap.size w w' := by
  go_enter Tryd.func44, Tryd.ntmps44
  go_wp2_with (go_at_call 67; go_must (go_fit (hof.out _)); rintro e w0 ⟨rfl, rfl⟩)
  go_loopg [13] (l.length) (fun k i wr => ∃ j : Nat, k = l.length - j ∧ j ≤ l.length ∧ i = .int .i64 j ∧ Bld wr w.heap.size w.heap.size (pEnc s (l.take j)) ∧ Below w.heap.size w wr)
  case atStart => exact ⟨0, rfl, Nat.zero_le _, rfl, Bld.fresh w, bnew (Below.refl _ _) _⟩
  case round =>
    obtain ⟨j, rfl, hj, rfl, hbl, hbel⟩ := hrel
    have hw := hbel.size
    have hty := pEnc_le s (l.take j)
    have hty2 : (l.take j).length ≤ l.length := by rw [List.length_take]; omega
    by_cases hlt : j < l.length
    · obtain ⟨b, off, x, rfl, hb, hc, hx⟩ := (hr.below hbel).byte_at hlt
      have hlt1 : (j : Int) < (l.length : Int) := by omega
      have hj0 : (0 : Int) ≤ (j : Int) := by omega
      have CI := Lib.hid fun w => hin.out x w
      have CS := Lib.hid fun w => hsh.out x w
      have hs3 := pShow_len s x
      have hsn := Lib.hid (pEnc_snoc (s := s) hx.out)
      by_cases hk : pIn s x = true
      · rw [hk] at CI
        rw [pEnc1_in hk] at hsn
        clear hk
        go_wp2_with (first
          | (go_at_call 138; go_must (go_fit (CI.out _)); rintro e w1 ⟨rfl, hb1⟩)
          | (go_at_call 133; go_must (go_fit (CS.out _)); rintro e w2 ⟨rfl, hb2⟩; have hbl2 := (hbl.next hb1).next hb2; have q1 := hb1.size; have q2 := hb2.size)
          | (go_at_call 49; go_must (go_fit (bldStr w.heap.size w.heap.size _ (pShow s x) w2 hbl2 (by omega) (by omega))); rintro e w3 ⟨rfl, hbl3, hb3⟩))
        go_roundg (l.length - (j + 1))
        case measure => omega
        case rel => exact ⟨j + 1, rfl, by omega, by go_num, by rw [hsn.out]; exact hbl3, (bnext (bnext hbel hb1) hb2).trans hb3⟩
      · have hk := Bool.eq_false_iff.2 hk
        rw [hk] at CI
        rw [pEnc1_out hk] at hsn
        clear hk
        go_wp2_with (first
          | (go_at_call 138; go_must (go_fit (CI.out _)); rintro e w1 ⟨rfl, hb1⟩; have hbl1 := hbl.next hb1; have q1 := hb1.size)
          | (go_at_call 68; go_must (go_fit (bldByte w.heap.size w.heap.size _ x w1 hbl1 (by omega) (by omega))); rintro e w3 ⟨rfl, hbl3, hb3⟩))
        go_roundg (l.length - (j + 1))
        case measure => omega
        case rel => exact ⟨j + 1, rfl, by omega, by go_num, by rw [hsn.out]; exact hbl3, (bnext hbel hb1).trans hb3⟩
    · obtain rfl : j = l.length := by omega
      rw [List.take_length] at hbl
      go_wp2_with (go_at_call 50; go_must (go_fit (bldString w.heap.size w.heap.size _ wr hbl hw)); rintro e w1 ⟨rfl, hb1⟩)
      go_ret
      exact ⟨rfl, hbel.trans hb1⟩

theorem pShow_not {s : Int} (h : s ≠ 6) (x : UInt8) : pShow s x = esc x := if_neg fun e => h e.1
theorem pShow_form (x : UInt8) : pShow 6 x = (if x = 32 then [43] else esc x) := by
  unfold pShow; by_cases h : x = 32 <;> simp [h]

/-- pct.Encode. -/
theorem encode_pct (s : Int) (A : Option Addr) (c : Nat) (l : List UInt8) (w : World) (hr : Rd w w.heap.size A (bytes l)) (hl : l.length ≤ 100000) :
    Calls Tryd.prog 44 #[.int .i64 s, .slice A l.length c] w fun e w' => e = .returned (.string (str (pEnc s l))) ∧ Below w.heap.size w w' := by
  rcases s_cases s with rfl | rfl | rfl | rfl | rfl | rfl | rfl | ⟨h0, h1, h2, h3, h4, h5, h6⟩
  · exact enc_control 0 A c l w hr hl (of_any 0) (fun x w => inControl_any x w) (fun x w => by rw [pShow_not (by decide)]; exact showControl_any x w)
  · exact enc_more 1 A c l w hr hl txt1 (of_any 1) (fun x w => inMore_any txt1 x w) (fun x w => by rw [pShow_not (by decide)]; exact showControl_any x w)
  · exact enc_more 2 A c l w hr hl txt2 (of_any 2) (fun x w => inMore_any txt2 x w) (fun x w => by rw [pShow_not (by decide)]; exact showControl_any x w)
  · exact enc_more 3 A c l w hr hl txt3 (of_any 3) (fun x w => inMore_any txt3 x w) (fun x w => by rw [pShow_not (by decide)]; exact showControl_any x w)
  · exact enc_more 4 A c l w hr hl txt4 (of_any 4) (fun x w => inMore_any txt4 x w) (fun x w => by rw [pShow_not (by decide)]; exact showControl_any x w)
  · exact enc_more 5 A c l w hr hl txt5 (of_any 5) (fun x w => inMore_any txt5 x w) (fun x w => by rw [pShow_not (by decide)]; exact showControl_any x w)
  · exact enc_form 6 A c l w hr hl (of_any 6) (fun x w => inForm_any x w) (fun x w => by rw [pShow_form]; exact showForm_any x w)
  · refine enc_none s A c l w hr hl ?_ (fun x w => ?_) (fun x w => by rw [pShow_not h6]; exact showControl_any x w)
    · have e : sigV s = .iface 104 (.agg #[]) := by unfold sigV; rw [if_neg h0, if_neg h1, if_neg h2, if_neg h3, if_neg h4, if_neg h5, if_neg h6]
      intro w
      rw [← e]
      exact of_any s w
    · have e2 : pIn s x = false := by unfold pIn; rw [if_neg h0, if_neg h1, if_neg h2, if_neg h3, if_neg h4, if_neg h5, if_neg h6]
      rw [e2]; exact inNone_any x w
end Go.Proofs.YtnnphploekchbaaDoor

