/- The walk of puny's writer.next. -/
import Derived.Test.YtalpkjdbennicaaPunyC
import Derived.Test.YtalpkjdbennicaaPunyT
namespace Go.Proofs.Ytalpkjdbennicaa
set_option linter.all false
open Go.RowKit

theorem i32_eq {a b : Int} (h : a = b) : Value.int .i32 a = .int .i32 b := by rw [h]
theorem eOne_lt {n bs r : Int} {s : ES} (h : r < n) : eOne n bs s r = { s with delta := s.delta + 1 } := if_pos h
theorem eOne_eq {n bs : Int} {s : ES} : eOne n bs s n = { out := s.out ++ num s.delta 36 s.bias, delta := 0, bias := pAdapt s.delta (s.done + 1) (decide (s.done = bs)), done := s.done + 1 } := by
  unfold eOne; rw [if_neg (by omega), if_pos rfl]
theorem eOne_gt {n bs r : Int} {s : ES} (h : n < r) : eOne n bs s r = s := by
  unfold eOne; rw [if_neg (by omega), if_neg (by omega)]
theorem least_lo {n : Int} {l : List Int} (h0 : 0 ≤ n) : 0 ≤ least n 1114111 l ∧ least n 1114111 l ≤ 1114111 := by
  obtain ⟨h1, _, h3⟩ := least_spec n 1114111 l
  refine ⟨?_, h1⟩
  rcases h3 with h3 | h3 <;> omega

set_option maxRecDepth 100000 in
set_option maxHeartbeats 8000000 in
theorem next_any (g : Nat) (v : Value) (n d b k bs : Int) (out : List UInt8) (L : Nat) (A : Option Addr) (c : Nat) (l : List Int) (w : World) (hwr : Wr w g v n d b k bs) (hown : w.ownsRow (g + 1) 5 1 v (bytes out).length (bytes out))
    (hr : Rd w g A (runes l)) (hcp : ∀ x ∈ l, 0 ≤ x ∧ x ≤ 1114111) (hl : l.length ≤ 63) (hn0 : 128 ≤ n) (hn1 : n ≤ 1114112) (hnm : n ≤ least n 1114111 l) (heb : EB ⟨out, d, b, k⟩ 1000000000 100 L) (hL : L ≤ 800000) :
    Calls Try.prog 67 #[.pointer (some ⟨g, 0, none⟩), .slice A l.length c] w fun e w' => e = .returned (.tuple #[]) ∧
      ∃ v', Wr w' g v' (least n 1114111 l + 1) (eRound n bs ⟨out, d, b, k⟩ l).delta (eRound n bs ⟨out, d, b, k⟩ l).bias (eRound n bs ⟨out, d, b, k⟩ l).done bs ∧ w'.ownsRow (g + 1) 5 1 v' (bytes (eRound n bs ⟨out, d, b, k⟩ l).out).length (bytes (eRound n bs ⟨out, d, b, k⟩ l).out) ∧ Below g w w' := by
  have hgw := hwr.lt
  have CP := Lib.hid hcp
  clear hcp
  have c1 := hwr.c1
  obtain ⟨b1, b2, b3, b4, b5, b6, b7⟩ := heb
  simp only [] at b1 b2 b3 b4 b5 b6 b7
  go_enter Try.func67, Try.ntmps67
  go_wp2
  go_loopg [4, 11] (l.length) (fun m s4 i wr => ∃ j : Nat, m = l.length - j ∧ j ≤ l.length ∧ i = .int .i64 j ∧ s4 = .int .i32 (least n 1114111 (l.take j)) ∧ w = wr)
  case atStart => exact ⟨0, rfl, Nat.zero_le _, rfl, rfl, rfl⟩
  case round =>
    obtain ⟨j, rfl, hj, rfl, rfl, rfl⟩ := hrel
    obtain ⟨p1, p2⟩ := least_lo (n := n) (l := l.take j) (by omega)
    by_cases hlt : j < l.length
    · obtain ⟨bk, off, x, rfl, hb, hc, hx⟩ := hr.rune_at hlt
      have hlt1 : (j : Int) < (l.length : Int) := by omega
      have hj0 : (0 : Int) ≤ (j : Int) := by omega
      have HS := Lib.hid (least_snoc (n := n) (top := 1114111) hx.out)
      obtain ⟨M, hM⟩ : ∃ M, M = least n 1114111 (l.take j) := ⟨_, rfl⟩
      rw [← hM] at HS p1 p2 ⊢
      clear hM
      by_cases hnx : n ≤ x
      · rw [if_pos hnx] at HS
        go_wp2
        all_goals go_roundg (l.length - (j + 1))
        all_goals
          first
          | (case measure => omega)
          | (case rel => exact ⟨j + 1, rfl, by omega, by go_num, i32_eq (by first | (rw [HS.out]; done) | (rw [HS.out]; omega)), rfl⟩)
      · rw [if_neg hnx] at HS
        go_wp2
        all_goals go_roundg (l.length - (j + 1))
        all_goals
          first
          | (case measure => omega)
          | (case rel => exact ⟨j + 1, rfl, by omega, by go_num, i32_eq (by rw [HS.out]), rfl⟩)
    · obtain rfl : j = l.length := by omega
      rw [List.take_length] at p1 p2 ⊢
      obtain ⟨M, hM⟩ : ∃ M, M = least n 1114111 l := ⟨_, rfl⟩
      rw [← hM] at p1 p2 hnm ⊢
      have HM := Lib.hid hM
      clear hM
      go_wp2
      obtain ⟨P, hP⟩ : ∃ P, P = (M - n) * (k + 1) := ⟨_, rfl⟩
      have P0 : 0 ≤ P := by rw [hP]; exact Int.mul_nonneg (by omega) (by omega)
      have P1 : P ≤ 1113983 * (k + 1) := by rw [hP]; exact Int.mul_le_mul_of_nonneg_right (by omega) (by omega)
      have s1 : IntKind.i32.wrap (M - n) = M - n := IntWalk.i32_in _ (by omega)
      have s2 : IntKind.i64.wrap (k + 1) = k + 1 := IntWalk.i64_in _ (by omega)
      have s3 : IntKind.i64.wrap ((M - n) * (k + 1)) = P := by rw [← hP]; exact IntWalk.i64_in _ (by omega)
      have s4 : IntKind.i64.wrap (d + P) = d + P := IntWalk.i64_in _ (by omega)
      have s5 : IntKind.i64.wrap (M - n) = M - n := IntWalk.i64_in _ (by omega)
      have HP := Lib.hid hP
      clear hP
      have hW := Wr.drew hwr
      have e1 := hW.c1
      have e2 := hW.c2
      have e4 := hW.c4
      refine wp_region_still_tail 20 (by kernel_rfl) (by kernel_rfl) ?_
      change wpStill _ _ w.drew _ _ _
      simp only [List.take_succ_cons, List.take_zero, List.drop_succ_cons, List.drop_zero]
      repeat still_step
      refine wpStill_nil ?_
      change wpList _ _ _ _ _ w.drew
      clear e1 e2 e4 s1 s2 s3 s4 s5
      have e2 := hwr.c2
      have fr1 := hwr.fr 1
      have fr2 := hwr.fr 2
      go_wp2
      have hW4 : Wr ((w.setCell ⟨g, 2, none⟩ (.int .i64 (d + P))).setCell ⟨g, 1, none⟩ (.int .i32 M)).drew g v M (d + P) b k bs := (((hwr.s2 (d + P)).s1 M)).drew
      have hown4 : ((w.setCell ⟨g, 2, none⟩ (.int .i64 (d + P))).setCell ⟨g, 1, none⟩ (.int .i32 M)).drew.ownsRow (g + 1) 5 1 v (bytes out).length (bytes out) := own_set (own_set hown)
      have hb4 : Below g w ((w.setCell ⟨g, 2, none⟩ (.int .i64 (d + P))).setCell ⟨g, 1, none⟩ (.int .i32 M)).drew := (((Below.refl g w).setCell (p := ⟨g, 2, none⟩) (Nat.le_refl g) _).setCell (p := ⟨g, 1, none⟩) (Nat.le_refl g) _).drew
      generalize ((w.setCell ⟨g, 2, none⟩ (.int .i64 (d + P))).setCell ⟨g, 1, none⟩ (.int .i32 M)).drew = w4 at *
      clear e2 fr1 fr2 c1
      have hr4 := hr.below hb4
      have heb4 : EB ⟨out, d + P, b, k⟩ 2000000000 100 L := ⟨by show 0 ≤ d + P; omega, by show d + P ≤ _; omega, b3, b4, b5, b6, b7⟩
      have heb5 := Lib.hid fun j => heb4.pass M bs l (by omega) (by omega) j
      have hround : eRound n bs ⟨out, d, b, k⟩ l = { ePass M bs ⟨out, d + P, b, k⟩ l with delta := (ePass M bs ⟨out, d + P, b, k⟩ l).delta + 1 } := by
        unfold eRound; simp only []; rw [← HM.out, HP.out]
      have HR := Lib.hid hround
      obtain ⟨s0, hs0⟩ : ∃ s0 : ES, s0 = ⟨out, d + P, b, k⟩ := ⟨_, rfl⟩
      have HS0 := Lib.hid hs0
      clear hround heb4
      go_loopg [51] (l.length) (fun m i wr => ∃ (j : Nat) (s : ES) (v' : Value), m = l.length - j ∧ j ≤ l.length ∧ i = .int .i64 j ∧ Hid (s = ePass M bs s0 (l.take j)) ∧ Wr wr g v' M s.delta s.bias s.done bs ∧ wr.ownsRow (g + 1) 5 1 v' (bytes s.out).length (bytes s.out) ∧ Below g w4 wr)
      case atStart => exact ⟨0, s0, v, rfl, Nat.zero_le _, rfl, rfl, by rw [HS0.out]; exact hW4, by rw [HS0.out]; exact hown4, Below.refl _ _⟩
      case round =>
        obtain ⟨j, s, v', rfl, hj, rfl, hs, hws, howns, hbel⟩ := hrel
        have hbd : EB s (2000000000 + j) (100 + j) (L + 11 * j) := by rw [hs.out, HS0.out]; exact heb5.out j hj
        obtain ⟨z1, z2, z3, z4, z5, z6, z7⟩ := hbd
        have e1 := hws.c1
        have e2 := hws.c2
        have fr2 := hws.fr 2
        by_cases hlt : j < l.length
        · obtain ⟨bk, off, x, rfl, hb, hc, hx⟩ := (hr4.below hbel).rune_at hlt
          obtain ⟨x0, x1⟩ := CP.out x (List.mem_of_getElem? hx.out)
          have hlt1 : (j : Int) < (l.length : Int) := by omega
          have hj0 : (0 : Int) ≤ (j : Int) := by omega
          have HN := Lib.hid (ePass_snoc (n := M) (bs := bs) (s := s0) hx.out)
          rw [← hs.out] at HN
          rcases Int.lt_trichotomy x M with h | h | h
          · rw [eOne_lt h] at HN
            have hne : (x == M) = false := by rw [beq_eq_false_iff_ne]; omega
            go_wp2
            go_roundg (l.length - (j + 1))
            case measure => omega
            case rel => exact ⟨j + 1, { s with delta := s.delta + 1 }, v', rfl, by omega, by go_num, HN.out.symm, hws.s2 _, own_set howns, hbel.setCell (p := ⟨g, 2, none⟩) (Nat.le_refl g) _⟩
          · subst h
            rw [eOne_eq] at HN
            have hne : (x == x) = true := by simp
            have hnl : ¬ x < x := by omega
            go_wp2_with (go_at_call 81; go_must (go_fit (number_any g v' x s.delta s.bias s.done bs s.out _ hws howns z1 (by omega) z3 z4 z5 (by omega) (by rw [bytes_len]; omega))); rintro e w5 ⟨rfl, v5, hW5, hown5, hb5⟩)
            go_roundg (l.length - (j + 1))
            case measure => omega
            case rel => exact ⟨j + 1, { out := s.out ++ num s.delta 36 s.bias, delta := 0, bias := pAdapt s.delta (s.done + 1) (decide (s.done = bs)), done := s.done + 1 }, v5, rfl, by omega, by go_num, HN.out.symm, hW5, hown5, hbel.trans hb5⟩
          · rw [eOne_gt h] at HN
            have hne : (x == M) = false := by rw [beq_eq_false_iff_ne]; omega
            have hnl : ¬ x < M := by omega
            go_wp2
            go_roundg (l.length - (j + 1))
            case measure => omega
            case rel => exact ⟨j + 1, s, v', rfl, by omega, by go_num, HN.out.symm, hws, howns, hbel⟩
        · obtain rfl : j = l.length := by omega
          have fr1 := hws.fr 1
          go_wp2
          go_end0
          have hfin : eRound n bs ⟨out, d, b, k⟩ l = { s with delta := s.delta + 1 } := by
            rw [HR.out, ← HS0.out, hs.out, List.take_length]
          refine ⟨rfl, v', ?_, ?_, ((hb4.trans hbel).setCell (p := ⟨g, 2, none⟩) (Nat.le_refl g) _).setCell (p := ⟨g, 1, none⟩) (Nat.le_refl g) _⟩
          · rw [hfin, ← HM.out]; exact (hws.s2 _).s1 _
          · rw [hfin]; exact own_set (own_set howns)
end Go.Proofs.Ytalpkjdbennicaa
