/- The walks of shortcutref1.shortest, one, Encode. -/
import Derived.Test.YtnnphploekchbaaDoorUtfC
import Derived.Test.YtnnphploekchbaaDoorSame
import Derived.Test.YtnnphploekchbaaDoorStr
namespace Go.Proofs.YtnnphploekchbaaDoor
set_option linter.all false
open Go.RowKit

def shortN (r : Int) : Nat := if cpOk r = true then cpSize r else 0

theorem short_is {r : Int} {n : Nat} (h : shortN r = n) : Ending.returned (.int .i64 (n : Int)) = .returned (.int .i64 (shortN r)) := by rw [h]

set_option maxRecDepth 100000 in
set_option maxHeartbeats 1000000 in
theorem short_any (r : Int) (w : World) :
    Calls Tryd.prog 101 #[.int .i32 r] w fun e w' => e = .returned (.int .i64 (shortN r)) ∧ w = w' := by
  by_cases hok : cpOk r = true
  · obtain ⟨o1, o2, o3⟩ := cpOk_iff.1 hok
    rcases o3 with o3 | o3
    all_goals
      go_enter Tryd.func101, Tryd.ntmps101
      go_wp2
      all_goals (go_ret; exact ⟨short_is (by unfold shortN cpSize; rw [if_pos hok]; (repeat' split) <;> omega), rfl⟩)
  · have hok' : r < 0 ∨ 1114111 < r ∨ (55296 ≤ r ∧ r ≤ 57343) := by
      rw [cpOk_iff] at hok; omega
    rcases hok' with o | o | ⟨o, o'⟩
    all_goals
      go_enter Tryd.func101, Tryd.ntmps101
      go_wp2
      all_goals (go_ret; exact ⟨short_is (by unfold shortN; rw [if_neg hok]), rfl⟩)

theorem ofInt32 {x : Int} (h0 : 0 ≤ x) (h1 : x < 4294967296) : (BitVec.ofInt 32 x).toNat = x.toNat := by
  obtain ⟨n, rfl⟩ : ∃ n : Nat, x = n := ⟨x.toNat, by omega⟩
  rw [BitVec.ofInt_natCast, BitVec.toNat_ofNat]
  omega
theorem i32_wrap {x : Int} (h0 : 0 ≤ x) (h1 : x < 2147483648) : IntKind.i32.wrap x = x := by
  simp [IntKind.wrap, IntKind.bits, IntKind.signed]; omega
theorem i32_and_mask (k : Nat) (hk : k ≤ 8) {x : Int} (h0 : 0 ≤ x) (h1 : x < 2147483648) : bits .and .i32 x (2 ^ k - 1 : Nat) = x % (2 ^ k : Nat) := by
  have hp : 2 ^ k ≤ 2 ^ 8 := Nat.pow_le_pow_right (by decide) hk
  have hp0 : 0 < 2 ^ k := Nat.two_pow_pos k
  show IntKind.i32.wrap ((BitVec.ofInt 32 x &&& BitVec.ofInt 32 ((2 ^ k - 1 : Nat) : Int)).toNat : Int) = _
  rw [BitVec.toNat_and, ofInt32 h0 (by omega), ofInt32 (by omega) (by omega), Int.toNat_natCast, Nat.and_two_pow_sub_one_eq_mod]
  have hm := Nat.mod_lt x.toNat hp0
  rw [i32_wrap (by omega) (by omega)]
  rw [Int.natCast_emod, Int.toNat_of_nonneg h0]
theorem i32_or_join (i t y : Nat) (ht : t % 2 ^ i = 0) (ht2 : t < 1000) (hy : y < 2 ^ i) (hy2 : y < 1000) : bits .or .i32 (t : Int) (y : Int) = (t : Int) + y := by
  show IntKind.i32.wrap ((BitVec.ofInt 32 (t : Int) ||| BitVec.ofInt 32 (y : Int)).toNat : Int) = _
  rw [BitVec.toNat_or, ofInt32 (by omega) (by omega), ofInt32 (by omega) (by omega), Int.toNat_natCast, Int.toNat_natCast, nat_join i t y ht hy, i32_wrap (by omega) (by omega)]
  omega
theorem i32_or_tail (t y : Nat) (ht : t % 64 = 0) (ht2 : t < 1000) (hy : y < 64) : bits .or .i32 (t : Int) (y : Int) = (t : Int) + y := by
  show IntKind.i32.wrap ((BitVec.ofInt 32 (t : Int) ||| BitVec.ofInt 32 (y : Int)).toNat : Int) = _
  rw [BitVec.toNat_or, ofInt32 (by omega) (by omega), ofInt32 (by omega) (by omega), Int.toNat_natCast, Int.toNat_natCast, nat_join 6 t y (by omega) (by omega), i32_wrap (by omega) (by omega)]
  omega
theorem or128 {x : Int} : bits .or .i32 128 (x % 64) = 128 + x % 64 := by
  have h := i32_or_tail 128 (x % 64).toNat (by decide) (by decide) (by omega)
  rw [show ((128 : Nat) : Int) = 128 from rfl, show (((x % 64).toNat : Nat) : Int) = x % 64 from by omega] at h
  exact h

theorem lit_own {w : World} {e : TypeId} {cs : Array Value} {n : Nat} {xs : List Value} (hn : cs.size = n) (hx : cs.toList = xs) (hm : n ≤ 1000000) : (w.alloc (.cells cs e)).ownsRow w.heap.size e 1 (.slice (some ⟨w.heap.size, 0, none⟩) n n) xs.length xs := by
  have := World.ownsRow_lit (e := e) (size := 1) (base := w.heap.size) w cs n (Nat.le_refl _) (by unfold maxLen; omega) (by omega)
  subst hx
  rw [show cs.toList.length = n from by simpa using hn]
  exact this

set_option maxRecDepth 100000 in
set_option maxHeartbeats 1000000 in
theorem one_ok (r : Int) (w : World) (hok : cpOk r = true) :
    Calls Tryd.prog 79 #[.int .i32 r] w fun e w' => ∃ v, e = .returned v ∧ w'.ownsRow w.heap.size 5 1 v (bytes (enc0 r)).length (bytes (enc0 r)) ∧ Below w.heap.size w w' := by
  obtain ⟨o1, o2, o3⟩ := cpOk_iff.1 hok
  have e6 : bits .and .i32 r 63 = r % 64 := i32_and_mask 6 (by decide) o1 (by omega)
  have e12 : bits .and .i32 (r / 64) 63 = r / 64 % 64 := i32_and_mask 6 (by decide) (by omega) (by omega)
  have e18 : bits .and .i32 (r / 4096) 63 = r / 4096 % 64 := i32_and_mask 6 (by decide) (by omega) (by omega)
  have f6 : bits .or .i32 128 (r % 64) = 128 + r % 64 := or128
  have f12 : bits .or .i32 128 (r / 64 % 64) = 128 + r / 64 % 64 := or128
  have f18 : bits .or .i32 128 (r / 4096 % 64) = 128 + r / 4096 % 64 := or128
  have g3 : r / 4096 < 16 → bits .or .i32 224 (r / 4096) = 224 + r / 4096 := fun h => by
    have := i32_or_join 4 224 (r / 4096).toNat (by decide) (by decide) (by omega) (by omega)
    rw [show (((r / 4096).toNat : Nat) : Int) = r / 4096 from by omega] at this
    exact this
  have g4 : bits .or .i32 240 (r / 262144) = 240 + r / 262144 := by
    have := i32_or_join 3 240 (r / 262144).toNat (by decide) (by decide) (by omega) (by omega)
    rw [show (((r / 262144).toNat : Nat) : Int) = r / 262144 from by omega] at this
    exact this
  by_cases s1 : r < 128
  · have hs : shortN r = 1 := by unfold shortN cpSize; rw [if_pos hok, if_pos s1]
    go_enter Tryd.func79, Tryd.ntmps79
    go_wp2_with (go_at_call 101; go_must (go_fit (short_any r w)); rintro e w1 ⟨rfl, rfl⟩)
    go_ret
    exact ⟨_, rfl, lit_own rfl (by rw [enc_cells1 (by omega) (by omega)]) (by decide), (Below.refl _ _).alloc (Nat.le_refl _) _⟩
  by_cases s2 : r < 2048
  · have hs : shortN r = 2 := by unfold shortN cpSize; rw [if_pos hok, if_neg s1, if_pos s2]
    go_enter Tryd.func79, Tryd.ntmps79
    go_wp2_with (go_at_call 101; go_must (go_fit (short_any r w)); rintro e w1 ⟨rfl, rfl⟩)
    go_ret
    exact ⟨_, rfl, lit_own rfl (by rw [enc_cells2 (by omega) (by omega)]) (by decide), (Below.refl _ _).alloc (Nat.le_refl _) _⟩
  by_cases s3 : r < 65536
  · have g3 := g3 (by omega)
    have hs : shortN r = 3 := by unfold shortN cpSize; rw [if_pos hok, if_neg s1, if_neg s2, if_pos s3]
    go_enter Tryd.func79, Tryd.ntmps79
    go_wp2_with (go_at_call 101; go_must (go_fit (short_any r w)); rintro e w1 ⟨rfl, rfl⟩)
    go_ret
    exact ⟨_, rfl, lit_own rfl (by rw [enc_cells3 (by omega) (by omega)]) (by decide), (Below.refl _ _).alloc (Nat.le_refl _) _⟩
  · have hs : shortN r = 4 := by unfold shortN cpSize; rw [if_pos hok, if_neg s1, if_neg s2, if_neg s3]
    go_enter Tryd.func79, Tryd.ntmps79
    go_wp2_with (go_at_call 101; go_must (go_fit (short_any r w)); rintro e w1 ⟨rfl, rfl⟩)
    go_ret
    exact ⟨_, rfl, lit_own rfl (by rw [enc_cells4 (by omega) (by omega)]) (by decide), (Below.refl _ _).alloc (Nat.le_refl _) _⟩

set_option maxRecDepth 100000 in
set_option maxHeartbeats 1000000 in
theorem one_any (r : Int) (w : World) :
    Calls Tryd.prog 79 #[.int .i32 r] w fun e w' => ∃ v, e = .returned v ∧ w'.ownsRow w.heap.size 5 1 v (bytes (enc1 r)).length (bytes (enc1 r)) ∧ Below w.heap.size w w' := by
  by_cases hok : cpOk r = true
  · have e : enc1 r = enc0 r := by unfold enc1; rw [cpFix_of hok]
    rw [e]; exact one_ok r w hok
  · have hok : cpOk r = false := Bool.eq_false_iff.2 hok
    have e : enc1 r = enc0 65533 := by unfold enc1; rw [cpFix_no hok]
    rw [e]
    have hs : shortN r = 0 := by unfold shortN; rw [hok]; rfl
    have H := Lib.hid (one_ok 65533 w (by decide))
    clear e
    go_enter Tryd.func79, Tryd.ntmps79
    go_wp2_with (first
      | (go_at_call 101; go_must (go_fit (short_any r w)); rintro e w1 ⟨rfl, rfl⟩)
      | (go_at_call 79; go_must (go_fit H.out); rintro e w1 ⟨v, rfl, hown, hb⟩))
    go_ret
    exact ⟨v, rfl, hown, hb⟩

theorem enc1_le (r : Int) : (enc1 r).length ≤ 4 := by unfold enc1; rw [enc0_len]; exact (cpSize_le _).2

set_option maxRecDepth 100000 in
set_option maxHeartbeats 1000000 in
/-- shortcutref1.Encode. -/
theorem rencode_any (A : Option Addr) (c : Nat) (l : List Int) (w : World) (hr : Rd w w.heap.size A (runes l)) (hl : l.length ≤ 100000) :
    Calls Tryd.prog 57 #[.slice A l.length c] w fun e w' => ∃ v, e = .returned v ∧
      w'.ownsRow w.heap.size 5 1 v (bytes (uEnc l)).length (bytes (uEnc l)) ∧ Below w.heap.size w w' := by
  go_enter Tryd.func57, Tryd.ntmps57
  go_wp2
  go_loopg [3, 4] (l.length) (fun k v i wr => ∃ j : Nat, k = l.length - j ∧ j ≤ l.length ∧ i = .int .i64 j ∧ wr.ownsRow w.heap.size 5 1 v (bytes (uEnc (l.take j))).length (bytes (uEnc (l.take j))) ∧ Below w.heap.size w wr)
  case atStart => exact ⟨0, rfl, Nat.zero_le _, rfl, World.ownsRow_nil _ _ _ _, Below.refl _ _⟩
  case round =>
    obtain ⟨j, rfl, hj, rfl, hown, hbel⟩ := hrel
    by_cases hlt : j < l.length
    · obtain ⟨bk, off, x, rfl, hbk, hcx, HX⟩ := (hr.below hbel).rune_at hlt
      have hw : w.heap.size ≤ wr.heap.size := hbel.size
      have hsm := uEnc_le (l.take j)
      have hty : (bytes (uEnc (l.take j))).length ≤ 400000 := by rw [bytes_len, List.length_take] at *; omega
      have hlt1 : (j : Int) < (l.length : Int) := by omega
      have hj0 : (0 : Int) ≤ (j : Int) := by omega
      have h4 : (bytes (enc1 x)).length ≤ 4 := by rw [bytes_len]; exact enc1_le x
      clear hsm
      go_wp2_with (first
        | (go_at_call 79; go_must (go_fit (one_any x wr)); rintro e w1 ⟨v1, rfl, hown1, hb1⟩; obtain ⟨A1, c1, rfl, hc1, hm1, hn1, hr1⟩ := Rd.of_own hown1; have hw1 := hb1.size)
        | (at_builtin; refine wpList_append_rd rfl _ _ _ rfl w.heap.size _ _ 1 Tryd.underlying42 info_u8 rfl _ _ _ rfl (own_below hown hb1 (Nat.le_refl _)) _ _ _ _ _ rfl rfl hr1 (bytes_one _) (by omega) (by decide) (by omega) ?_; intro A2 c2 w2 hc2 hm2 hown2 hb2 hg2))
      go_roundg (l.length - (j + 1))
      case measure => omega
      case rel =>
        refine ⟨j + 1, rfl, by omega, by go_num, own_eq hown2 ?_ ?_, (hbel.trans (hb1.mono hw)).trans hb2⟩
        · rw [uEnc_snoc HX.out, bytes_append, List.length_append]; rfl
        · rw [uEnc_snoc HX.out, bytes_append]; rfl
    · obtain rfl : j = l.length := by omega
      go_wp2
      go_ret
      rw [List.take_length] at hown
      exact ⟨_, rfl, hown, hbel⟩
end Go.Proofs.YtnnphploekchbaaDoor

