/- The walks of puny.number and the reference's digit. -/
import Derived.Test.YtalpkjdbennicaaPunyE
namespace Go.Proofs.Ytalpkjdbennicaa
set_option linter.all false
open Go.RowKit

/-- What puny.number computes, the weight held at 2^40. -/
def numL : List UInt8 → Int → Int → Int → Int → Int × List UInt8 × Bool
  | [], _, _, _, _ => (0, [], false)
  | c :: s, k, bias, w, n =>
    if digitOf c < 0 then (0, s, false)
    else if 1099511627776 < n + digitOf c * w then (0, s, false)
    else if digitOf c < edge k bias then (n + digitOf c * w, s, true)
    else numL s (k + 36) bias (if 1099511627776 < w * (36 - edge k bias) then 1099511627776 else w * (36 - edge k bias)) (n + digitOf c * w)
theorem gb_dr {t : List UInt8} (h : 0 < t.length) : t = gb t 0 :: dr t 1 := by
  cases t with
  | nil => cases h
  | cons c t => rfl
theorem numL_nil (t : List UInt8) (k b w n : Int) (h : ¬ 0 < t.length) : numL t k b w n = (0, t, false) := by
  rw [List.eq_nil_of_length_eq_zero (by omega : t.length = 0)]; rfl
theorem numL_at {t : List UInt8} (h : 0 < t.length) (k b w n : Int) : numL t k b w n = (if digitOf (gb t 0) < 0 then (0, dr t 1, false)
    else if 1099511627776 < n + digitOf (gb t 0) * w then (0, dr t 1, false)
    else if digitOf (gb t 0) < edge k b then (n + digitOf (gb t 0) * w, dr t 1, true)
    else numL (dr t 1) (k + 36) b (if 1099511627776 < w * (36 - edge k b) then 1099511627776 else w * (36 - edge k b)) (n + digitOf (gb t 0) * w)) := by
  cases t with
  | nil => cases h
  | cons c t => rfl

/-- What it says of what is read: a number that fits is that number; else there is none, or it is past 2^40. -/
theorem rdNum_ge : ∀ (s : List UInt8) (k b w n d : Int) (r : List UInt8), 0 ≤ w → rdNum s k b w n = some (d, r) → n ≤ d := by
  intro s
  induction s with
  | nil => intro k b w n d r _ h; simp [rdNum] at h
  | cons c s ih =>
    intro k b w n d r hw h
    have he := edge_range k b
    unfold rdNum at h
    by_cases h1 : digitOf c < 0
    · rw [if_pos h1] at h; cases h
    rw [if_neg h1] at h
    have hp : 0 ≤ digitOf c * w := Int.mul_nonneg (by omega) hw
    by_cases h2 : digitOf c < edge k b
    · rw [if_pos h2] at h
      injection h with h; injection h with h3 h4; omega
    · rw [if_neg h2] at h
      have := ih _ _ _ _ _ _ (Int.mul_nonneg hw (by omega)) h
      omega
theorem numL_rd : ∀ (s : List UInt8) (k b w w' n : Int), 1 ≤ w → 0 ≤ n → (w' = w ∨ (w' = 1099511627776 ∧ 1099511627776 ≤ w ∧ 1 ≤ n)) →
    ((numL s k b w' n).2.2 = true → rdNum s k b w n = some ((numL s k b w' n).1, (numL s k b w' n).2.1) ∧ (numL s k b w' n).1 ≤ 1099511627776) ∧
    ((numL s k b w' n).2.2 = false → ∀ d r, rdNum s k b w n = some (d, r) → 1099511627776 < d) := by
  intro s
  induction s with
  | nil => intro k b w w' n _ _ _; exact ⟨fun h => (by cases h), fun _ d r h => by simp [rdNum] at h⟩
  | cons c s ih =>
    intro k b w w' n hw hn hww
    have he := edge_range k b
    have hd := digitOf_range c
    unfold numL rdNum
    by_cases h1 : digitOf c < 0
    · rw [if_pos h1, if_pos h1]
      exact ⟨fun h => (by cases h), fun _ d r h => (by cases h)⟩
    rw [if_neg h1, if_neg h1]
    have hw1 : 1 ≤ w' := by rcases hww with h | h <;> omega
    have hwle : w' ≤ w := by rcases hww with h | h <;> omega
    have hp0 : 0 ≤ digitOf c * w' := Int.mul_nonneg (by omega) (by omega)
    have hple : digitOf c * w' ≤ digitOf c * w := Int.mul_le_mul_of_nonneg_left hwle (by omega)
    by_cases hbig : 1099511627776 < n + digitOf c * w'
    · rw [if_pos hbig]
      refine ⟨fun h => (by cases h), fun _ d r h => ?_⟩
      split at h
      · injection h with h; injection h with h3 h4; omega
      · have := rdNum_ge _ _ _ _ _ _ _ (Int.mul_nonneg (by omega) (by omega)) h
        omega
    rw [if_neg hbig]
    have hsame : digitOf c * w' = digitOf c * w := by
      rcases hww with h | ⟨h, h2, h3⟩
      · rw [h]
      · rcases Int.lt_or_le 0 (digitOf c) with h4 | h4
        · exfalso
          have : 1 * w' ≤ digitOf c * w' := Int.mul_le_mul_of_nonneg_right (by omega) (by omega)
          omega
        · rw [show digitOf c = 0 from by omega]; omega
    by_cases h2 : digitOf c < edge k b
    · rw [if_pos h2, if_pos h2]
      exact ⟨fun _ => ⟨by rw [hsame], by omega⟩, fun h => by cases h⟩
    rw [if_neg h2, if_neg h2]
    have hpos : 1 * w' ≤ digitOf c * w' := Int.mul_le_mul_of_nonneg_right (by omega) (by omega)
    rw [← hsame]
    have hm1 : w' * (36 - edge k b) ≤ w * (36 - edge k b) := Int.mul_le_mul_of_nonneg_right hwle (by omega)
    have hm0 : w' * 1 ≤ w' * (36 - edge k b) := Int.mul_le_mul_of_nonneg_left (by omega) (by omega)
    refine ih _ _ _ _ _ (by omega) (by omega) ?_
    by_cases h3 : 1099511627776 < w' * (36 - edge k b)
    · rw [if_pos h3]; right; exact ⟨rfl, by omega, by omega⟩
    · rw [if_neg h3]
      rcases hww with h | ⟨h, _, _⟩
      · left; rw [h]
      · exfalso
        have : w' * 10 ≤ w' * (36 - edge k b) := Int.mul_le_mul_of_nonneg_left (by omega) (by omega)
        omega
theorem numL_nonneg : ∀ (s : List UInt8) (k b w n : Int), 0 ≤ w → 0 ≤ n → 0 ≤ (numL s k b w n).1 := by
  intro s
  induction s with
  | nil => intro k b w n _ _; exact Int.le_refl _
  | cons c s ih =>
    intro k b w n hw hn
    have he := edge_range k b
    unfold numL
    by_cases h1 : digitOf c < 0
    · rw [if_pos h1]; exact Int.le_refl _
    rw [if_neg h1]
    have hp : 0 ≤ digitOf c * w := Int.mul_nonneg (by omega) hw
    split
    · exact Int.le_refl _
    split
    · show 0 ≤ n + digitOf c * w; omega
    · refine ih _ _ _ _ ?_ (by omega)
      split
      · omega
      · exact Int.mul_nonneg hw (by omega)

set_option maxRecDepth 100000 in
set_option maxHeartbeats 8000000 in
theorem pnumber_any (s : List UInt8) (bias : Int) (w : World) (hs : s.length ≤ 1000) (b0 : 0 ≤ bias) (b1 : bias ≤ 100000000000) :
    Calls Try.prog 73 #[.string (str s), .int .i64 bias] w fun e w' =>
      e = .returned (.tuple #[.int .i64 (numL s 36 bias 1 0).1, .string (str (numL s 36 bias 1 0).2.1), .bool (numL s 36 bias 1 0).2.2]) ∧ w = w' := by
  have hsz0 := str_size s
  go_enter Try.func73, Try.ntmps73
  go_wp2
  go_loopg [0, 4, 7, 8] (s.length) (fun m s0 s4 s7 s8 wr => ∃ (t : List UInt8) (k w1 n : Int), m = t.length ∧ s0 = .string (str t) ∧ s4 = .int .i64 n ∧ s7 = .int .i64 w1 ∧ s8 = .int .i64 k ∧ t.length ≤ 1000 ∧ 0 ≤ n ∧ n ≤ 1099511627776 ∧ 1 ≤ w1 ∧ w1 ≤ 1099511627776 ∧ 0 ≤ k ∧ k + 36 * t.length ≤ 36036 ∧ Hid (numL s 36 bias 1 0 = numL t k bias w1 n) ∧ w = wr)
  case atStart => exact ⟨s, 36, 1, 0, rfl, rfl, rfl, rfl, rfl, hs, by omega, by omega, by omega, by omega, by omega, by omega, rfl, rfl⟩
  case round =>
    obtain ⟨t, k, w1, n, rfl, rfl, rfl, rfl, rfl, ht, n0, n1, p0, p1, k0, k1, hn, rfl⟩ := hrel
    clear hsz0
    have hsz := str_size t
    by_cases h0 : 0 < t.length
    · have h0' : (0 : Int) < (t.length : Int) := by omega
      have hg := str_get t
      have hend := str_end t 1
      have hdl := dr_len t 1
      have hd := digitOf_range (gb t 0)
      have HN := Lib.hid (numL_at h0 k bias w1 n)
      have CV := Lib.hid fun w => pvalue_any (gb t 0) w
      obtain ⟨d, hde⟩ : ∃ d, d = digitOf (gb t 0) := ⟨_, rfl⟩
      rw [← hde] at HN CV hd
      clear hde
      obtain ⟨d1, d2⟩ := hd
      by_cases hneg : d < 0
      · rw [if_pos hneg] at HN
        go_wp2_with (go_at_call 83; go_must (go_fit (CV.out _)); rintro e w2 ⟨rfl, rfl⟩)
        go_ret3
        exact ⟨by rw [hn.out, HN.out]; rfl, rfl⟩
      rw [if_neg hneg] at HN
      have m0 : 0 ≤ d * w1 := Int.mul_nonneg (by omega) (by omega)
      have m1 : d * w1 ≤ 35 * w1 := Int.mul_le_mul_of_nonneg_right (by omega) (by omega)
      by_cases hbig : 1099511627776 < n + d * w1
      · rw [if_pos hbig] at HN
        go_wp2_with (go_at_call 83; go_must (go_fit (CV.out _)); rintro e w2 ⟨rfl, rfl⟩)
        go_ret3
        exact ⟨by rw [hn.out, HN.out]; rfl, rfl⟩
      rw [if_neg hbig] at HN
      have he := edge_range k bias
      have CB := Lib.hid fun w => bound_any k bias w (by omega) (by omega) (by omega) (by omega)
      obtain ⟨tt, hte⟩ : ∃ tt, tt = edge k bias := ⟨_, rfl⟩
      rw [← hte] at HN CB he
      clear hte
      obtain ⟨e1, e2⟩ := he
      by_cases hlt : d < tt
      · rw [if_pos hlt] at HN
        go_wp2_with (first
          | (go_at_call 83; go_must (go_fit (CV.out _)); rintro e w2 ⟨rfl, rfl⟩)
          | (go_at_call 84; go_must (go_fit (CB.out _)); rintro e w2 ⟨rfl, rfl⟩))
        go_ret3
        exact ⟨by rw [hn.out, HN.out]; rfl, rfl⟩
      rw [if_neg hlt] at HN
      have q0 : w1 * 1 ≤ w1 * (36 - tt) := Int.mul_le_mul_of_nonneg_left (by omega) (by omega)
      have q1 : w1 * (36 - tt) ≤ w1 * 35 := Int.mul_le_mul_of_nonneg_left (by omega) (by omega)
      by_cases hw : 1099511627776 < w1 * (36 - tt)
      · rw [if_pos hw] at HN
        go_wp2_with (first
          | (go_at_call 83; go_must (go_fit (CV.out _)); rintro e w2 ⟨rfl, rfl⟩)
          | (go_at_call 84; go_must (go_fit (CB.out _)); rintro e w2 ⟨rfl, rfl⟩))
        go_roundg ((dr t 1).length)
        case measure => omega
        case rel => exact ⟨dr t 1, k + 36, 1099511627776, n + d * w1, rfl, rfl, rfl, rfl, by go_num, by omega, by omega, by omega, by omega, by omega, by omega, by omega, hn.out.trans HN.out, rfl⟩
      · rw [if_neg hw] at HN
        go_wp2_with (first
          | (go_at_call 83; go_must (go_fit (CV.out _)); rintro e w2 ⟨rfl, rfl⟩)
          | (go_at_call 84; go_must (go_fit (CB.out _)); rintro e w2 ⟨rfl, rfl⟩))
        go_roundg ((dr t 1).length)
        case measure => omega
        case rel => exact ⟨dr t 1, k + 36, w1 * (36 - tt), n + d * w1, rfl, rfl, rfl, rfl, by go_num, by omega, by omega, by omega, by omega, by omega, by omega, by omega, hn.out.trans HN.out, rfl⟩
    · have HN := Lib.hid (numL_nil t k bias w1 n h0)
      go_wp2
      go_ret3
      exact ⟨by rw [hn.out, HN.out]; rfl, rfl⟩

theorem dig_at : ∀ j : Fin 36, Lib.indexByte letterL (gb letterL j.val) = j.val := by decide +kernel
theorem dig_none_fin : ∀ c : Fin 256, (∀ j : Fin 36, gb letterL j.val ≠ UInt8.ofNat c.val) → Lib.indexByte letterL (UInt8.ofNat c.val) = -1 := by decide +kernel
theorem dig_none (c : UInt8) (h : ∀ j, j < 36 → gb letterL j ≠ c) : Lib.indexByte letterL c = -1 := by
  have := dig_none_fin ⟨c.toNat, byte_lt c⟩
  simp only [UInt8.ofNat_toNat] at this
  exact this fun j => h j.val j.isLt

theorem dbeq {a b : UInt8} (h : a = b) : ((a.toNat : Int) == (b.toNat : Int)) = true := by rw [h]; simp
theorem dbeq_no {a b : UInt8} (h : a ≠ b) : ((a.toNat : Int) == (b.toNat : Int)) = false := by
  rw [beq_eq_false_iff_ne]; intro e; exact h (byte_ext (by omega))
set_option maxRecDepth 100000 in
set_option maxHeartbeats 4000000 in
theorem rdigit_any (c : UInt8) (w : World) : Calls Try.prog 76 #[.int .u8 (c.toNat : Int)] w fun e w' => e = .returned (.int .i64 (digitOf c)) ∧ w = w' := by
  have hg : ∀ (k : Nat) (h : k < (⟨#[97, 98, 99, 100, 101, 102, 103, 104, 105, 106, 107, 108, 109, 110, 111, 112, 113, 114, 115, 116, 117, 118, 119, 120, 121, 122, 48, 49, 50, 51, 52, 53, 54, 55, 56, 57]⟩ : ByteArray).size), (⟨#[97, 98, 99, 100, 101, 102, 103, 104, 105, 106, 107, 108, 109, 110, 111, 112, 113, 114, 115, 116, 117, 118, 119, 120, 121, 122, 48, 49, 50, 51, 52, 53, 54, 55, 56, 57]⟩ : ByteArray)[k]'h = gb letterL k := str_get letterL
  have hsz : (⟨#[97, 98, 99, 100, 101, 102, 103, 104, 105, 106, 107, 108, 109, 110, 111, 112, 113, 114, 115, 116, 117, 118, 119, 120, 121, 122, 48, 49, 50, 51, 52, 53, 54, 55, 56, 57]⟩ : ByteArray).size = 36 := rfl
  by_cases h : 65 ≤ c.toNat ∧ c.toNat ≤ 90
  · have hF := Lib.hid (idx_letL c h)
    obtain ⟨h1, h2⟩ := h
    have h3 : (65 : Int) ≤ (c.toNat : Int) := by omega
    have h4 : (c.toNat : Int) ≤ 90 := by omega
    obtain ⟨c', hc'⟩ : ∃ c', c' = UInt8.ofNat ((c.toNat : Int) + 32).toNat := ⟨_, rfl⟩
    have hcn : (c.toNat : Int) + 32 = (c'.toNat : Int) := by rw [hc', UInt8.toNat_ofNat']; omega
    rw [← hc'] at hF
    clear hc'
    go_enter Try.func76, Try.ntmps76
    go_wp2
    clear hcn h1 h2 h3 h4
    go_loopg [3] (36) (fun k i wr => ∃ j : Nat, k = 36 - j ∧ j ≤ 36 ∧ i = .int .i64 j ∧ Hid (∀ k, k < j → gb letterL k ≠ c') ∧ w = wr)
    case atStart => exact ⟨0, rfl, Nat.zero_le _, rfl, (fun k hk => by omega), rfl⟩
    case round =>
      obtain ⟨j, rfl, hj, rfl, hn, rfl⟩ := hrel
      by_cases hlt : j < 36
      · have hlt1 : (j : Int) < 36 := by omega
        have hj0 : (0 : Int) ≤ (j : Int) := by omega
        by_cases he : gb letterL j = c'
        · have hb := dbeq he
          have HE := Lib.hid he
          clear he
          go_wp2
          go_ret
          exact ⟨ret_int (by rw [← hF.out, ← HE.out]; exact (dig_at ⟨j, hlt⟩).symm), rfl⟩
        · have hb := dbeq_no he
          have HE := Lib.hid he
          clear he
          go_wp2
          go_roundg (36 - (j + 1))
          case measure => omega
          case rel =>
            refine ⟨j + 1, rfl, by omega, by go_num, fun k hk => ?_, rfl⟩
            by_cases e : k = j
            · rw [e]; exact HE.out
            · exact hn.out k (by omega)
      · obtain rfl : j = 36 := by omega
        go_wp2
        go_ret
        exact ⟨ret_int (by rw [← hF.out]; exact (dig_none _ hn.out).symm), rfl⟩
  · have hF := Lib.hid (idx_letN c h)
    have h3 : (c.toNat : Int) < 65 ∨ 90 < (c.toNat : Int) := by omega
    rcases h3 with h3 | h3
    all_goals
      go_enter Try.func76, Try.ntmps76
      go_wp2
      clear h3
      go_loopg [3] (36) (fun k i wr => ∃ j : Nat, k = 36 - j ∧ j ≤ 36 ∧ i = .int .i64 j ∧ Hid (∀ k, k < j → gb letterL k ≠ c) ∧ w = wr)
      case atStart => exact ⟨0, rfl, Nat.zero_le _, rfl, (fun k hk => by omega), rfl⟩
      case round =>
        obtain ⟨j, rfl, hj, rfl, hn, rfl⟩ := hrel
        by_cases hlt : j < 36
        · have hlt1 : (j : Int) < 36 := by omega
          have hj0 : (0 : Int) ≤ (j : Int) := by omega
          by_cases he : gb letterL j = c
          · have hb := dbeq he
            have HE := Lib.hid he
            clear he
            go_wp2
            go_ret
            exact ⟨ret_int (by rw [← hF.out, ← HE.out]; exact (dig_at ⟨j, hlt⟩).symm), rfl⟩
          · have hb := dbeq_no he
            have HE := Lib.hid he
            clear he
            go_wp2
            go_roundg (36 - (j + 1))
            case measure => omega
            case rel =>
              refine ⟨j + 1, rfl, by omega, by go_num, fun k hk => ?_, rfl⟩
              by_cases e : k = j
              · rw [e]; exact HE.out
              · exact hn.out k (by omega)
        · obtain rfl : j = 36 := by omega
          go_wp2
          go_ret
          exact ⟨ret_int (by rw [← hF.out]; exact (dig_none _ hn.out).symm), rfl⟩
end Go.Proofs.Ytalpkjdbennicaa
