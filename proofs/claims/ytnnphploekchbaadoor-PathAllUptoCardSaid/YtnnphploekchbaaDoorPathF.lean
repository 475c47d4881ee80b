/- The walks of the reference's Single, Double, ShowPath, Path. -/
import Derived.Test.YtnnphploekchbaaDoorPathE
namespace Go.Proofs.YtnnphploekchbaaDoor
set_option linter.all false
open Go.RowKit

theorem eqLit (s l : List UInt8) : ((str s).toList == l) = decide (s = l) := by
  have := str_eqB s l
  rwa [str_toL l] at this
set_option maxRecDepth 100000 in
set_option maxHeartbeats 2000000 in
theorem rsingle_any (s : List UInt8) (w : World) (hs : s.length ≤ 1000000) :
    Calls Tryd.prog 20 #[.string (str s)] w fun e w' => e = .returned (.bool (pSingle s)) ∧ Below w.heap.size w w' := by
  have C := Lib.hid (lowr_any s w hs)
  have HS := Lib.hid (single_iff s)
  have htl := str_toL s
  have htl2 := str_toL (lows s)
  by_cases h1 : s = [46]
  · have HE := Lib.hid (show pSingle s = true by rw [HS.out, decide_eq_true h1]; rfl)
    have q1 : (s == [46]) = true := by rw [h1]; rfl
    clear h1
    go_enter Tryd.func20, Tryd.ntmps20
    go_wp2
    go_ret
    exact ⟨ret_bool HE.out.symm, Below.refl _ _⟩
  · have q1 : (s == [46]) = false := by rw [beq_eq_false_iff_ne]; exact h1
    by_cases h2 : lows s = [37, 50, 101]
    · have HE := Lib.hid (show pSingle s = true by rw [HS.out, decide_eq_true h2, Bool.or_true])
      have q2 : (lows s == [37, 50, 101]) = true := by rw [h2]; rfl
      obtain ⟨t, ht⟩ : ∃ t, t = lows s := ⟨_, rfl⟩
      rw [← ht] at q2 htl2 C
      clear h1 h2 ht
      go_enter Tryd.func20, Tryd.ntmps20
      go_wp2_with (go_at_call 46; go_must (go_fit C.out); rintro e w1 ⟨rfl, hb1⟩)
      go_ret
      exact ⟨ret_bool HE.out.symm, hb1⟩
    · have HE := Lib.hid (show pSingle s = false by rw [HS.out, decide_eq_false h1, decide_eq_false h2]; rfl)
      have q2 : (lows s == [37, 50, 101]) = false := by rw [beq_eq_false_iff_ne]; exact h2
      obtain ⟨t, ht⟩ : ∃ t, t = lows s := ⟨_, rfl⟩
      rw [← ht] at q2 htl2 C
      clear h1 h2 ht
      go_enter Tryd.func20, Tryd.ntmps20
      go_wp2_with (go_at_call 46; go_must (go_fit C.out); rintro e w1 ⟨rfl, hb1⟩)
      go_ret
      exact ⟨ret_bool HE.out.symm, hb1⟩

set_option maxRecDepth 100000 in
set_option maxHeartbeats 4000000 in
theorem rdouble_any (s : List UInt8) (w : World) (hs : s.length ≤ 1000000) :
    Calls Tryd.prog 22 #[.string (str s)] w fun e w' => e = .returned (.bool (pDouble s)) ∧ Below w.heap.size w w' := by
  have C := Lib.hid (lowr_any s w hs)
  have HS := Lib.hid (double_iff s)
  obtain ⟨t, ht⟩ : ∃ t, t = lows s := ⟨_, rfl⟩
  rw [← ht] at C HS
  have htl := str_toL t
  clear ht
  by_cases h1 : t = [46, 46]
  · have HE := Lib.hid (show pDouble s = true by rw [HS.out, decide_eq_true h1]; rfl)
    have q1 : (t == [46, 46]) = true := by rw [h1]; rfl
    clear h1
    go_enter Tryd.func22, Tryd.ntmps22
    go_wp2_with (go_at_call 46; go_must (go_fit C.out); rintro e w1 ⟨rfl, hb1⟩)
    go_ret
    exact ⟨ret_bool HE.out.symm, hb1⟩
  · have q1 : (t == [46, 46]) = false := by rw [beq_eq_false_iff_ne]; exact h1
    by_cases h2 : t = [46, 37, 50, 101]
    · have HE := Lib.hid (show pDouble s = true by rw [HS.out, decide_eq_true h2, Bool.true_or, Bool.or_true])
      have q2 : (t == [46, 37, 50, 101]) = true := by rw [h2]; rfl
      clear h1 h2
      go_enter Tryd.func22, Tryd.ntmps22
      go_wp2_with (go_at_call 46; go_must (go_fit C.out); rintro e w1 ⟨rfl, hb1⟩)
      go_ret
      exact ⟨ret_bool HE.out.symm, hb1⟩
    · have q2 : (t == [46, 37, 50, 101]) = false := by rw [beq_eq_false_iff_ne]; exact h2
      by_cases h3 : t = [37, 50, 101, 46]
      · have HE := Lib.hid (show pDouble s = true by rw [HS.out, decide_eq_true h3, Bool.true_or, Bool.or_true, Bool.or_true])
        have q3 : (t == [37, 50, 101, 46]) = true := by rw [h3]; rfl
        clear h1 h2 h3
        go_enter Tryd.func22, Tryd.ntmps22
        go_wp2_with (go_at_call 46; go_must (go_fit C.out); rintro e w1 ⟨rfl, hb1⟩)
        go_ret
        exact ⟨ret_bool HE.out.symm, hb1⟩
      · have q3 : (t == [37, 50, 101, 46]) = false := by rw [beq_eq_false_iff_ne]; exact h3
        by_cases h4 : t = [37, 50, 101, 37, 50, 101]
        · have HE := Lib.hid (show pDouble s = true by rw [HS.out, decide_eq_true h4, Bool.or_true, Bool.or_true, Bool.or_true])
          have q4 : (t == [37, 50, 101, 37, 50, 101]) = true := by rw [h4]; rfl
          clear h1 h2 h3 h4
          go_enter Tryd.func22, Tryd.ntmps22
          go_wp2_with (go_at_call 46; go_must (go_fit C.out); rintro e w1 ⟨rfl, hb1⟩)
          go_ret
          exact ⟨ret_bool HE.out.symm, hb1⟩
        · have q4 : (t == [37, 50, 101, 37, 50, 101]) = false := by rw [beq_eq_false_iff_ne]; exact h4
          have HE := Lib.hid (show pDouble s = false by rw [HS.out, decide_eq_false h1, decide_eq_false h2, decide_eq_false h3, decide_eq_false h4]; rfl)
          clear h1 h2 h3 h4
          go_enter Tryd.func22, Tryd.ntmps22
          go_wp2_with (go_at_call 46; go_must (go_fit C.out); rintro e w1 ⟨rfl, hb1⟩)
          go_ret
          exact ⟨ret_bool HE.out.symm, hb1⟩
set_option maxRecDepth 100000 in
set_option maxHeartbeats 4000000 in
theorem rshowP_any (A : Option Addr) (c : Nat) (l : List (List UInt8)) (w : World) (hr : Rd w w.heap.size A (strs l)) (hl : l.length ≤ 1000000) (hT : (pShowP l).length ≤ 10000000) :
    Calls Tryd.prog 26 #[.slice A l.length c] w fun e w' => e = .returned (.string (str (pShowP l))) ∧ w = w' := by
  have HT := Lib.hid hT
  clear hT
  go_enter Tryd.func26, Tryd.ntmps26
  go_wp2
  go_loopg [3, 4] l.length (fun k s3 s4 wr => ∃ j : Nat, k = l.length - j ∧ j ≤ l.length ∧ s3 = .string (str (pShowP (l.take j))) ∧ s4 = .int .i64 (j : Int) ∧ w = wr)
  case atStart => exact ⟨0, rfl, Nat.zero_le _, rfl, rfl, rfl⟩
  case round =>
    obtain ⟨j, rfl, hj, rfl, rfl, rfl⟩ := hrel
    by_cases hlt : j < l.length
    · obtain ⟨b, off, x, rfl, hb', hc, hx⟩ := hr.str_at (k := j) hlt
      have hlt1 : (j : Int) < (l.length : Int) := by omega
      have hj0 : (0 : Int) ≤ (j : Int) := by omega
      have hle := showP_le (l := l) (j := j + 1)
      have hTT := HT.out
      have HX := Lib.hid (showP_next hx.out)
      rw [HX.out, List.length_append, List.length_append] at hle
      simp only [List.length_cons, List.length_nil] at hle
      obtain ⟨S, hS⟩ : ∃ S, S = pShowP (l.take j) := ⟨_, rfl⟩
      rw [← hS] at hle HX ⊢
      have y1 := str_size S
      have y2 := str_size x
      have e1 : str S ++ { data := #[47] } = str (S ++ [47]) := str_app S [47]
      have e2 : str (S ++ [47]) ++ str x = str (S ++ [47] ++ x) := str_app _ x
      have y3 : (str (S ++ [47])).size = S.length + 1 := by rw [str_size, List.length_append]; rfl
      have k1 : (9223372036854775807 < S.length + 1) = False := eq_false (by omega)
      have k2 : (9223372036854775807 < S.length + 1 + x.length) = False := eq_false (by omega)
      clear hx hS
      go_wp2
      go_roundg (l.length - (j + 1))
      case measure => omega
      case rel => exact ⟨j + 1, rfl, by omega, by rw [HX.out]; simp, by go_num, rfl⟩
    · obtain rfl : j = l.length := by omega
      rw [List.take_length]
      go_wp2
      go_ret
      exact ⟨rfl, rfl⟩
end Go.Proofs.YtnnphploekchbaaDoor

