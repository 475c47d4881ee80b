/- The walks of utf.is, utf.size, utf.heads, utf.one. -/
import Derived.Test.YtnnphploekchbaaDoorUtfP
import Derived.Test.YtnnphploekchbaaDoorRows
namespace Go.Proofs.YtnnphploekchbaaDoor
set_option linter.all false
open Go.RowKit

set_option maxRecDepth 100000 in
set_option maxHeartbeats 400000 in
theorem uis_any (r : Int) (w : World) :
    Calls Tryd.prog 93 #[.int .i32 r] w fun e w' => e = .returned (.bool (cpOk r)) ∧ w = w' := by
  go_enter Tryd.func93, Tryd.ntmps93
  go_wp2
  all_goals (go_ret; exact ⟨ret_bool (by unfold cpOk; rw [Bool.eq_iff_iff]; simp; omega), rfl⟩)

theorem cpSize_is {r : Int} {n : Nat} (h : cpSize r = n) : Ending.returned (.int .i64 (n : Int)) = .returned (.int .i64 (cpSize r)) := by rw [h]

set_option maxRecDepth 100000 in
set_option maxHeartbeats 400000 in
theorem usize_any (r : Int) (w : World) :
    Calls Tryd.prog 94 #[.int .i32 r] w fun e w' => e = .returned (.int .i64 (cpSize r)) ∧ w = w' := by
  go_enter Tryd.func94, Tryd.ntmps94
  go_wp2
  all_goals (go_ret; exact ⟨cpSize_is (by unfold cpSize; (repeat' split) <;> omega), rfl⟩)

theorem andNot_mask (k : Nat) (hk : k < 8) {a : Int} (h0 : 0 ≤ a) (h1 : a < 256) : bits .andNot .u8 a (2 ^ k - 1 : Nat) = a - a % (2 ^ k : Nat) := by
  obtain ⟨n, rfl⟩ : ∃ n : Nat, a = n := ⟨a.toNat, by omega⟩
  have hn : n < 256 := by omega
  have h : ∀ k, k < 8 → ∀ n, n < 256 → bits .andNot .u8 (n : Nat) (2 ^ k - 1 : Nat) = (n : Int) - (n : Int) % (2 ^ k : Nat) := by decide +kernel
  exact h k hk n hn
theorem and_mask (k : Nat) (hk : k < 8) {a : Int} (h0 : 0 ≤ a) (h1 : a < 256) : bits .and .u8 a (2 ^ k - 1 : Nat) = a % (2 ^ k : Nat) := by
  obtain ⟨n, rfl⟩ : ∃ n : Nat, a = n := ⟨a.toNat, by omega⟩
  have h := u8_and_nat n (2 ^ k - 1) (by omega) (by have := Nat.pow_lt_pow_right (a := 2) (by decide) hk; omega)
  rw [h, Nat.and_two_pow_sub_one_eq_mod]; omega

theorem i32_or_low (x : Nat) (hx : x < 16777216) {r y : Int} (hr : r = 64 * x) (h0 : 0 ≤ y) (h1 : y < 64) : bits .or .i32 r y = r + y := by
  obtain ⟨n, rfl⟩ : ∃ n : Nat, y = n := ⟨y.toNat, by omega⟩
  subst hr
  show IntKind.i32.wrap ((BitVec.ofInt 32 (64 * (x : Int)) ||| BitVec.ofInt 32 (n : Int)).toNat : Int) = _
  have e1 : BitVec.ofInt 32 (64 * (x : Int)) = BitVec.ofNat 32 (64 * x) := by rw [show (64 : Int) * (x : Int) = ((64 * x : Nat) : Int) from by omega]; exact BitVec.ofInt_natCast ..
  have e2 : BitVec.ofInt 32 (n : Int) = BitVec.ofNat 32 n := BitVec.ofInt_natCast ..
  rw [e1, e2, BitVec.toNat_or, BitVec.toNat_ofNat, BitVec.toNat_ofNat, Nat.mod_eq_of_lt (by omega), Nat.mod_eq_of_lt (by omega), nat_join 6 (64 * x) n (by omega) (by omega)]
  simp [IntKind.wrap, IntKind.bits, IntKind.signed]
  omega

set_option maxRecDepth 100000 in
set_option maxHeartbeats 1000000 in
theorem uone_low (bk off n cap : Nat) (a : Int) (w : World) (ha : 0 ≤ a) (ha1 : a < 128) (hn : 1 ≤ n) (hcap : n ≤ cap) (hcm : cap ≤ 9223372036854775807) (c0 : w.cell? ⟨bk, off, none⟩ = some (.int .u8 a)) :
    Calls Tryd.prog 111 #[.slice (some ⟨bk, off, none⟩) n cap] w fun e w' => e = .returned (.tuple #[.int .i32 a, .int .i64 1]) ∧ w = w' := by
  have m7 : bits .andNot .u8 a 127 = a - a % 128 := andNot_mask 7 (by decide) ha (by omega)
  have k7 : bits .and .u8 a 127 = a % 128 := and_mask 7 (by decide) ha (by omega)
  have e7 : a % 128 = a := by omega
  go_enter Tryd.func111, Tryd.ntmps111
  go_wp2
  go_rounds 5
  all_goals go_rounds 4
  all_goals (go_ret2; exact ⟨rfl, rfl⟩)

theorem dec4_is {v : Int} {k : Int} {r : Int × Nat} (h1 : r.1 = v) (h2 : (r.2 : Int) = k) : Ending.returned (.tuple #[.int .i32 v, .int .i64 k]) = .returned (.tuple #[.int .i32 r.1, .int .i64 r.2]) := by rw [h1, h2]
theorem bne_no {a b : Int} (h : (a != b) = true) : ¬ a = b := by simpa using h
theorem bne_yes {a b : Int} (h : (a != b) = false) : a = b := by simpa using h

set_option maxRecDepth 100000 in
set_option maxHeartbeats 1000000 in
theorem uone_two (bk off n cap : Nat) (a b c d : Int) (w : World) (ha : 192 ≤ a) (ha1 : a < 224) (hb0 : 0 ≤ b) (hb1 : b < 256) (hn : 2 ≤ n) (hcap : n ≤ cap) (hcm : cap ≤ 9223372036854775807)
    (c0 : w.cell? ⟨bk, off, none⟩ = some (.int .u8 a)) (c1 : w.cell? ⟨bk, off + 1, none⟩ = some (.int .u8 b)) :
    Calls Tryd.prog 111 #[.slice (some ⟨bk, off, none⟩) n cap] w fun e w' => e = .returned (.tuple #[.int .i32 (dec4 n a b c d).1, .int .i64 (dec4 n a b c d).2]) ∧ w = w' := by
  have m7 : bits .andNot .u8 a 127 = a - a % 128 := andNot_mask 7 (by decide) (by omega) (by omega)
  have m5 : bits .andNot .u8 a 31 = a - a % 32 := andNot_mask 5 (by decide) (by omega) (by omega)
  have k5 : bits .and .u8 a 31 = a % 32 := and_mask 5 (by decide) (by omega) (by omega)
  have n6 : bits .andNot .u8 b 63 = b - b % 64 := andNot_mask 6 (by decide) (by omega) (by omega)
  have l6 : bits .and .u8 b 63 = b % 64 := and_mask 6 (by decide) (by omega) (by omega)
  go_enter Tryd.func111, Tryd.ntmps111
  go_wp2
  go_rounds 5
  all_goals go_rounds 4
  all_goals go_ret2
  all_goals go_light
  all_goals (refine ⟨?_, rfl⟩)
  all_goals clear m7 m5 k5 n6 l6 c0 c1
  all_goals (simp only [bne_iff_ne, ne_eq, bne_eq_false_iff_eq] at *)
  all_goals (refine dec4_is ?_ ?_ <;> unfold dec4 cont <;> ((repeat' split) <;> first | omega | (simp only []; done) | (simp only []; omega)))

set_option maxRecDepth 100000 in
set_option maxHeartbeats 2000000 in
theorem uone_three (bk off n cap : Nat) (a b c d : Int) (w : World) (ha : 224 ≤ a) (ha1 : a < 240) (hb0 : 0 ≤ b) (hb1 : b < 256) (hc0 : 0 ≤ c) (hc1 : c < 256) (hn : 3 ≤ n) (hcap : n ≤ cap) (hcm : cap ≤ 9223372036854775807)
    (c0 : w.cell? ⟨bk, off, none⟩ = some (.int .u8 a)) (c1 : w.cell? ⟨bk, off + 1, none⟩ = some (.int .u8 b)) (c2 : w.cell? ⟨bk, off + 1 + 1, none⟩ = some (.int .u8 c)) :
    Calls Tryd.prog 111 #[.slice (some ⟨bk, off, none⟩) n cap] w fun e w' => e = .returned (.tuple #[.int .i32 (dec4 n a b c d).1, .int .i64 (dec4 n a b c d).2]) ∧ w = w' := by
  have m7 : bits .andNot .u8 a 127 = a - a % 128 := andNot_mask 7 (by decide) (by omega) (by omega)
  have m5 : bits .andNot .u8 a 31 = a - a % 32 := andNot_mask 5 (by decide) (by omega) (by omega)
  have m4 : bits .andNot .u8 a 15 = a - a % 16 := andNot_mask 4 (by decide) (by omega) (by omega)
  have k4 : bits .and .u8 a 15 = a % 16 := and_mask 4 (by decide) (by omega) (by omega)
  have n6 : bits .andNot .u8 b 63 = b - b % 64 := andNot_mask 6 (by decide) (by omega) (by omega)
  have l6 : bits .and .u8 b 63 = b % 64 := and_mask 6 (by decide) (by omega) (by omega)
  have o6 : bits .andNot .u8 c 63 = c - c % 64 := andNot_mask 6 (by decide) (by omega) (by omega)
  have p6 : bits .and .u8 c 63 = c % 64 := and_mask 6 (by decide) (by omega) (by omega)
  go_enter Tryd.func111, Tryd.ntmps111
  go_wp2
  go_rounds 5
  all_goals go_rounds 4
  all_goals go_ret2
  all_goals go_light
  all_goals (refine ⟨?_, rfl⟩)
  all_goals clear m7 m5 m4 k4 n6 l6 o6 p6 c0 c1 c2
  all_goals (simp only [bne_iff_ne, ne_eq, bne_eq_false_iff_eq] at *)
  all_goals (refine dec4_is ?_ ?_ <;> unfold dec4 cont <;> ((repeat' split) <;> first | omega | (simp only []; done) | (simp only []; omega)))

set_option maxRecDepth 100000 in
set_option maxHeartbeats 4000000 in
theorem uone_four (bk off n cap : Nat) (a b c d : Int) (w : World) (ha : 240 ≤ a) (ha1 : a < 248) (hb0 : 0 ≤ b) (hb1 : b < 256) (hc0 : 0 ≤ c) (hc1 : c < 256) (hd0 : 0 ≤ d) (hd1 : d < 256) (hn : 4 ≤ n) (hcap : n ≤ cap) (hcm : cap ≤ 9223372036854775807)
    (c0 : w.cell? ⟨bk, off, none⟩ = some (.int .u8 a)) (c1 : w.cell? ⟨bk, off + 1, none⟩ = some (.int .u8 b)) (c2 : w.cell? ⟨bk, off + 1 + 1, none⟩ = some (.int .u8 c)) (c3 : w.cell? ⟨bk, off + 1 + 2, none⟩ = some (.int .u8 d)) :
    Calls Tryd.prog 111 #[.slice (some ⟨bk, off, none⟩) n cap] w fun e w' => e = .returned (.tuple #[.int .i32 (dec4 n a b c d).1, .int .i64 (dec4 n a b c d).2]) ∧ w = w' := by
  have m7 : bits .andNot .u8 a 127 = a - a % 128 := andNot_mask 7 (by decide) (by omega) (by omega)
  have m5 : bits .andNot .u8 a 31 = a - a % 32 := andNot_mask 5 (by decide) (by omega) (by omega)
  have m4 : bits .andNot .u8 a 15 = a - a % 16 := andNot_mask 4 (by decide) (by omega) (by omega)
  have m3 : bits .andNot .u8 a 7 = a - a % 8 := andNot_mask 3 (by decide) (by omega) (by omega)
  have k3 : bits .and .u8 a 7 = a % 8 := and_mask 3 (by decide) (by omega) (by omega)
  have n6 : bits .andNot .u8 b 63 = b - b % 64 := andNot_mask 6 (by decide) (by omega) (by omega)
  have l6 : bits .and .u8 b 63 = b % 64 := and_mask 6 (by decide) (by omega) (by omega)
  have o6 : bits .andNot .u8 c 63 = c - c % 64 := andNot_mask 6 (by decide) (by omega) (by omega)
  have p6 : bits .and .u8 c 63 = c % 64 := and_mask 6 (by decide) (by omega) (by omega)
  have q6 : bits .andNot .u8 d 63 = d - d % 64 := andNot_mask 6 (by decide) (by omega) (by omega)
  have r6 : bits .and .u8 d 63 = d % 64 := and_mask 6 (by decide) (by omega) (by omega)
  go_enter Tryd.func111, Tryd.ntmps111
  go_wp2
  go_rounds 5
  all_goals go_rounds 4
  all_goals go_ret2
  all_goals go_light
  all_goals (refine ⟨?_, rfl⟩)
  all_goals clear m7 m5 m4 m3 k3 n6 l6 o6 p6 q6 r6 c0 c1 c2 c3
  all_goals (simp only [bne_iff_ne, ne_eq, bne_eq_false_iff_eq] at *)
  all_goals (refine dec4_is ?_ ?_ <;> unfold dec4 cont <;> ((repeat' split) <;> first | omega | (simp only []; done) | (simp only []; omega)))

set_option maxRecDepth 100000 in
set_option maxHeartbeats 2000000 in
theorem uone_no (bk off n cap : Nat) (a : Int) (w : World) (ha : 128 ≤ a) (ha1 : a < 256) (hno : a < 192 ∨ 248 ≤ a ∨ (a < 224 ∧ n < 2) ∨ (224 ≤ a ∧ a < 240 ∧ n < 3) ∨ (240 ≤ a ∧ n < 4)) (hn : 1 ≤ n) (hcap : n ≤ cap) (hcm : cap ≤ 9223372036854775807)
    (c0 : w.cell? ⟨bk, off, none⟩ = some (.int .u8 a)) :
    Calls Tryd.prog 111 #[.slice (some ⟨bk, off, none⟩) n cap] w fun e w' => e = .returned (.tuple #[.int .i32 65533, .int .i64 0]) ∧ w = w' := by
  have m7 : bits .andNot .u8 a 127 = a - a % 128 := andNot_mask 7 (by decide) (by omega) (by omega)
  have m5 : bits .andNot .u8 a 31 = a - a % 32 := andNot_mask 5 (by decide) (by omega) (by omega)
  have m4 : bits .andNot .u8 a 15 = a - a % 16 := andNot_mask 4 (by decide) (by omega) (by omega)
  have m3 : bits .andNot .u8 a 7 = a - a % 8 := andNot_mask 3 (by decide) (by omega) (by omega)
  go_enter Tryd.func111, Tryd.ntmps111
  go_wp2
  go_rounds 5

  all_goals (go_ret2; exact ⟨rfl, rfl⟩)

theorem bt_cell {w : World} {bk off : Nat} {l : List UInt8} (hr : ∀ j u, (bytes l)[j]? = some u → w.cell? ⟨bk, off + j, none⟩ = some u) (j : Nat) (hj : j < l.length) :
    w.cell? ⟨bk, off + j, none⟩ = some (.int .u8 (bt l j)) := by
  refine hr j _ ?_
  unfold bytes
  rw [List.getElem?_map, List.getElem?_eq_getElem hj]
  unfold bt
  rw [List.getD_eq_getElem?_getD, List.getElem?_eq_getElem hj]; rfl

/-- utf.one at whatever bytes that are not none. -/
theorem uone_any (bk off cap : Nat) (l : List UInt8) (w : World) (hl : 0 < l.length) (hcap : l.length ≤ cap) (hcm : cap ≤ maxLen)
    (hr : ∀ j u, (bytes l)[j]? = some u → w.cell? ⟨bk, off + j, none⟩ = some u) :
    Calls Tryd.prog 111 #[.slice (some ⟨bk, off, none⟩) l.length cap] w fun e w' => e = .returned (.tuple #[.int .i32 (dec1 l).1, .int .i64 (dec1 l).2]) ∧ w = w' := by
  unfold maxLen at hcm
  have r0 := bt_range l 0
  have r1 := bt_range l 1
  have r2 := bt_range l 2
  have r3 := bt_range l 3
  have c0 := bt_cell hr 0 hl
  rw [dec1_eq]
  by_cases h1 : bt l 0 < 128
  · have e : dec4 l.length (bt l 0) (bt l 1) (bt l 2) (bt l 3) = (bt l 0, 1) := by unfold dec4; rw [if_pos h1]
    rw [e]
    exact uone_low bk off _ cap _ w r0.1 h1 hl hcap hcm c0
  by_cases h2 : (192 ≤ bt l 0 ∧ bt l 0 < 224) ∧ 2 ≤ l.length
  · exact uone_two bk off _ cap _ _ _ _ w h2.1.1 h2.1.2 r1.1 r1.2 h2.2 hcap hcm c0 (bt_cell hr 1 (by omega))
  by_cases h3 : (224 ≤ bt l 0 ∧ bt l 0 < 240) ∧ 3 ≤ l.length
  · exact uone_three bk off _ cap _ _ _ _ w h3.1.1 h3.1.2 r1.1 r1.2 r2.1 r2.2 h3.2 hcap hcm c0 (bt_cell hr 1 (by omega)) (bt_cell hr 2 (by omega))
  by_cases h4 : (240 ≤ bt l 0 ∧ bt l 0 < 248) ∧ 4 ≤ l.length
  · exact uone_four bk off _ cap _ _ _ _ w h4.1.1 h4.1.2 r1.1 r1.2 r2.1 r2.2 r3.1 r3.2 h4.2 hcap hcm c0 (bt_cell hr 1 (by omega)) (bt_cell hr 2 (by omega)) (by have := bt_cell hr 3 (by omega); rwa [show off + 3 = off + 1 + 2 from by omega] at this)
  · have e : dec4 l.length (bt l 0) (bt l 1) (bt l 2) (bt l 3) = (65533, 0) := by
      unfold dec4
      rw [if_neg h1, if_neg (by omega), if_neg (by omega), if_neg (by omega)]
    rw [e]
    exact uone_no bk off _ cap _ w (by omega) r0.2 (by omega) hl hcap hcm c0
end Go.Proofs.YtnnphploekchbaaDoor

