/- The walks of ip4's value, count, number, split, and of the reference's Hex, number, parts. -/
import Derived.Test.YtaglbcniomcfnaaDoorIpP
import Derived.Test.YtaglbcniomcfnaaDoorCutR
namespace Go.Proofs.YtaglbcniomcfnaaDoor
set_option linter.all false
open Go.RowKit

set_option maxRecDepth 100000 in
set_option maxHeartbeats 1000000 in
theorem value4_any (c : UInt8) (w : World) : Calls Tryd.prog 44 #[.int .u8 (c.toNat : Int)] w fun e w' => e = .returned (.int .i64 (hexV c)) ∧ w = w' := by
  go_enter Tryd.func44, Tryd.ntmps44
  go_wp2
  all_goals go_ret
  all_goals exact ⟨ret_int (by unfold hexV; (repeat' split) <;> omega), rfl⟩
set_option maxRecDepth 100000 in
set_option maxHeartbeats 1000000 in
theorem hex6_any (c : UInt8) (w : World) : Calls Tryd.prog 43 #[.int .u8 (c.toNat : Int)] w fun e w' => e = .returned (.int .i64 (hexV c)) ∧ w = w' := by
  go_enter Tryd.func43, Tryd.ntmps43
  go_wp2
  all_goals go_ret
  all_goals exact ⟨ret_int (by unfold hexV; (repeat' split) <;> omega), rfl⟩

theorem cnt_at {b n j : Nat} {s : List UInt8} {o : Option Nat} (h : o = cntGo b n (s.drop j)) (hj : j < s.length) (hd : 0 ≤ hexV (gb s j) ∧ hexV (gb s j) < (b : Int)) : o = cntGo b (min (n * b + (hexV (gb s j)).toNat) hugeN) (s.drop (j + 1)) := by
  obtain ⟨hj', e⟩ := List.getElem?_eq_some_iff.1 (gb_some hj)
  rw [h, List.drop_eq_getElem_cons hj', e, cntGo, if_pos hd]
theorem cnt_no {b n j : Nat} {s : List UInt8} {o : Option Nat} (h : o = cntGo b n (s.drop j)) (hj : j < s.length) (hd : ¬ (0 ≤ hexV (gb s j) ∧ hexV (gb s j) < (b : Int))) : o = none := by
  obtain ⟨hj', e⟩ := List.getElem?_eq_some_iff.1 (gb_some hj)
  rw [h, List.drop_eq_getElem_cons hj', e, cntGo, if_neg hd]
theorem cnt_end {b n : Nat} {s : List UInt8} {o : Option Nat} (h : o = cntGo b n (s.drop s.length)) : o = some n := by
  rw [h, List.drop_length]; rfl

set_option maxRecDepth 100000 in
set_option maxHeartbeats 2000000 in
theorem count4_any (s : List UInt8) (b : Nat) (hb : b ≤ 16) (w : World) (hs : s.length ≤ 1000000) : Calls Tryd.prog 32 #[.string (str s), .int .i64 (b : Int)] w fun e w' => e = .returned (.tuple #[.int .i64 (((cntGo b 0 s).getD 0 : Nat) : Int), .bool (cntGo b 0 s).isSome]) ∧ w = w' := by
  have hsz := str_size s
  have hgt := str_get s
  obtain ⟨o, ho⟩ : ∃ o, o = cntGo b 0 s := ⟨_, rfl⟩
  rw [← ho]
  have HO := Lib.hid ho
  clear ho
  go_enter Tryd.func32, Tryd.ntmps32
  go_wp2
  go_loopg [6, 11] (s.length) (fun k s6 s11 wr => ∃ j n : Nat, k = s.length - j ∧ j ≤ s.length ∧ s11 = .int .i64 j ∧ s6 = .int .i64 n ∧ n ≤ hugeN ∧ Hid (o = cntGo b n (s.drop j)) ∧ w = wr)
  case atStart => exact ⟨0, 0, rfl, Nat.zero_le _, rfl, rfl, Nat.zero_le _, HO, rfl⟩
  case round =>
    obtain ⟨j, n, rfl, hj, rfl, rfl, hn, ho, rfl⟩ := hrel
    unfold hugeN at hn
    by_cases hlt : j < s.length
    · have hr := hexV_range (gb s j)
      have hv : n * b ≤ 1099511627776 * 16 := Nat.mul_le_mul hn hb
      obtain ⟨q, hq⟩ : ∃ q, q = n * b := ⟨_, rfl⟩
      have hqi : (n : Int) * (b : Int) = (q : Int) := by rw [hq]; push_cast; rfl
      rw [← hq] at hv
      have HQ := Lib.hid hq
      clear hq
      by_cases hd : 0 ≤ hexV (gb s j) ∧ hexV (gb s j) < (b : Int)
      · have HN := Lib.hid (cnt_at ho hlt hd)
        obtain ⟨d, hd1⟩ : ∃ d : Nat, hexV (gb s j) = (d : Int) := ⟨(hexV (gb s j)).toNat, by omega⟩
        have HD := Lib.hid hd1
        obtain ⟨hd2, hd3⟩ := hd
        go_wp2_with (go_at_call 44; go_must (go_fit (value4_any _ _)); rintro e w1 ⟨rfl, rfl⟩)
        all_goals go_roundg (s.length - (j + 1))
        all_goals first
          | (case measure => omega)
          | (case rel => exact ⟨j + 1, min (q + d) hugeN, rfl, by omega, by go_num, (by unfold hugeN; go_num), Nat.min_le_right _ _, (by have h := HN.out; rw [HD.out, ← HQ.out] at h; exact h), rfl⟩)
      · have HN := cnt_no ho hlt hd
        subst HN
        go_wp2_with (go_at_call 44; go_must (go_fit (value4_any _ _)); rintro e w1 ⟨rfl, rfl⟩)
        all_goals go_ret2
        all_goals exact ⟨rfl, rfl⟩
    · obtain rfl : j = s.length := by omega
      have := cnt_end ho
      subst this
      go_wp2
      go_ret2
      exact ⟨rfl, rfl⟩

theorem hexFront_is (s : List UInt8) : hexFront s = decide (2 ≤ s.length ∧ (gb s 0).toNat = 48 ∧ ((gb s 1).toNat = 120 ∨ (gb s 1).toNat = 88)) := by
  match s with
  | [] => rfl
  | [a] => unfold hexFront; simp
  | a :: c :: t =>
    rw [show gb (a :: c :: t) 0 = a from rfl, show gb (a :: c :: t) 1 = c from rfl]
    by_cases ha : a.toNat = 48
    · obtain rfl : a = 48 := byte_ext ha
      show (c == 120 || c == 88) = _
      rw [Bool.eq_iff_iff, Bool.or_eq_true, beq_iff_eq, beq_iff_eq, decide_eq_true_iff]
      constructor
      · rintro (rfl | rfl)
        · exact ⟨by simp, rfl, .inl rfl⟩
        · exact ⟨by simp, rfl, .inr rfl⟩
      · rintro ⟨_, _, h | h⟩
        · exact .inl (byte_ext h)
        · exact .inr (byte_ext h)
    · rw [decide_eq_false (fun h => ha h.2.1)]
      unfold hexFront
      split
      · next e => injection e with e _; subst e; exact absurd rfl ha
      · rfl
theorem octFront_is (s : List UInt8) : octFront s = decide (2 ≤ s.length ∧ (gb s 0).toNat = 48) := by
  match s with
  | [] => rfl
  | [a] => unfold octFront; simp
  | a :: c :: t =>
    rw [show gb (a :: c :: t) 0 = a from rfl]
    by_cases ha : a.toNat = 48
    · obtain rfl : a = 48 := byte_ext ha
      exact (decide_eq_true ⟨by simp, rfl⟩).symm
    · rw [decide_eq_false (fun h => ha h.2)]
      unfold octFront
      split
      · next e => injection e with e _; subst e; exact absurd rfl ha
      · rfl
theorem pNum_nil {s : List UInt8} (h : s.length = 0) : pNum s = none := by rw [List.eq_nil_of_length_eq_zero h]; rfl
theorem pNum_hex {s : List UInt8} (h : 2 ≤ s.length ∧ (gb s 0).toNat = 48 ∧ ((gb s 1).toNat = 120 ∨ (gb s 1).toNat = 88)) : pNum s = cntGo 16 0 (dr s 2) := by
  unfold pNum
  rw [if_neg (fun e => by rw [e] at h; exact absurd h.1 (by decide)), hexFront_is, if_pos (decide_eq_true h)]; rfl
theorem pNum_oct {s : List UInt8} (h : ¬ (2 ≤ s.length ∧ (gb s 0).toNat = 48 ∧ ((gb s 1).toNat = 120 ∨ (gb s 1).toNat = 88))) (h2 : 2 ≤ s.length ∧ (gb s 0).toNat = 48) : pNum s = cntGo 8 0 s := by
  unfold pNum
  rw [if_neg (fun e => by rw [e] at h2; exact absurd h2.1 (by decide)), hexFront_is, if_neg (by simpa using h), octFront_is, if_pos (decide_eq_true h2)]
theorem pNum_ten {s : List UInt8} (h0 : s.length ≠ 0) (h2 : ¬ (2 ≤ s.length ∧ (gb s 0).toNat = 48)) : pNum s = cntGo 10 0 s := by
  unfold pNum
  rw [if_neg (fun e => h0 (by rw [e]; rfl)), hexFront_is, if_neg (by simp only [decide_eq_true_eq]; exact fun h => h2 ⟨h.1, h.2.1⟩), octFront_is, if_neg (by simpa using h2)]

set_option maxRecDepth 100000 in
set_option maxHeartbeats 2000000 in
theorem number4_any (s : List UInt8) (w : World) (hs : s.length ≤ 1000000) : Calls Tryd.prog 29 #[.string (str s)] w fun e w' => e = .returned (.tuple #[.int .i64 (((pNum s).getD 0 : Nat) : Int), .bool (pNum s).isSome]) ∧ w = w' := by
  have hsz := str_size s
  have hgt := str_get s
  have hen := str_end s
  have hL := str_toL s
  have h0 : (s = []) = (s.length = 0) := by rw [List.length_eq_zero_iff]
  have C16 := Lib.hid fun w => count4_any (dr s 2) 16 (by decide) w (by rw [dr_len]; omega)
  have C8 := Lib.hid fun w => count4_any s 8 (by decide) w hs
  have C10 := Lib.hid fun w => count4_any s 10 (by decide) w hs
  by_cases h1 : s.length = 0
  · rw [pNum_nil h1]
    have h1' : s = [] := List.eq_nil_of_length_eq_zero h1
    subst h1'
    go_enter Tryd.func29, Tryd.ntmps29
    go_wp2
    all_goals go_ret2
    all_goals exact ⟨rfl, rfl⟩
  · have h1' : s.isEmpty = false := by cases s with | nil => exact absurd rfl h1 | cons _ _ => rfl
    by_cases hx : 2 ≤ s.length ∧ (gb s 0).toNat = 48 ∧ ((gb s 1).toNat = 120 ∨ (gb s 1).toNat = 88)
    · rw [pNum_hex hx]
      obtain ⟨hx1, hx2, hx3⟩ := hx
      have hx2' : ((gb s 0).toNat : Int) = 48 := by omega
      clear h1 hx2
      rcases hx3 with hx3 | hx3
      all_goals
        have hx3' : ((gb s 1).toNat : Int) = _ := congrArg Nat.cast hx3
        clear hx3
        go_enter Tryd.func29, Tryd.ntmps29
        go_wp2_with (go_at_call 32; go_must (go_fit (C16.out _)); rintro e w1 ⟨rfl, rfl⟩)
        all_goals go_ret2
        all_goals exact ⟨rfl, rfl⟩
    · by_cases ho : 2 ≤ s.length ∧ (gb s 0).toNat = 48
      · rw [pNum_oct hx ho]
        obtain ⟨ho1, ho2⟩ := ho
        have hx3 : (((gb s 1).toNat : Int) == 120) = false := by rw [beq_eq_false_iff_ne]; exact fun e => hx ⟨ho1, ho2, .inl (by omega)⟩
        have hx4 : (((gb s 1).toNat : Int) == 88) = false := by rw [beq_eq_false_iff_ne]; exact fun e => hx ⟨ho1, ho2, .inr (by omega)⟩
        have ho2' : ((gb s 0).toNat : Int) = 48 := by omega
        clear h1 hx ho2
        go_enter Tryd.func29, Tryd.ntmps29
        go_wp2_with (go_at_call 32; go_must (go_fit (C8.out _)); rintro e w1 ⟨rfl, rfl⟩)
        all_goals go_ret2
        all_goals exact ⟨rfl, rfl⟩
      · rw [pNum_ten h1 ho]
        by_cases hl : 2 ≤ s.length
        · have ho2 : (((gb s 0).toNat : Int) == 48) = false := by rw [beq_eq_false_iff_ne]; exact fun e => ho ⟨hl, by omega⟩
          clear h1 hx ho
          go_enter Tryd.func29, Tryd.ntmps29
          go_wp2_with (go_at_call 32; go_must (go_fit (C10.out _)); rintro e w1 ⟨rfl, rfl⟩)
          all_goals go_ret2
          all_goals exact ⟨rfl, rfl⟩
        · clear h1 hx ho
          go_enter Tryd.func29, Tryd.ntmps29
          go_wp2_with (go_at_call 32; go_must (go_fit (C10.out _)); rintro e w1 ⟨rfl, rfl⟩)
          all_goals go_ret2
          all_goals exact ⟨rfl, rfl⟩
end Go.Proofs.YtaglbcniomcfnaaDoor

