/- The walks of utf.is, utf.size, utf.heads, utf.one. -/
import Derived.Test.YtaglbcniomcfnaaDoorUtfP
import Derived.Test.YtaglbcniomcfnaaDoorRows
namespace Go.Proofs.YtaglbcniomcfnaaDoor
set_option linter.all false
open Go.RowKit

theorem cpSize_is {r : Int} {n : Nat} (h : cpSize r = n) : Ending.returned (.int .i64 (n : Int)) = .returned (.int .i64 (cpSize r)) := by rw [h]

theorem andNot_mask (k : Nat) (hk : k < 8) {a : Int} (h0 : 0 ≤ a) (h1 : a < 256) : bits .andNot .u8 a (2 ^ k - 1 : Nat) = a - a % (2 ^ k : Nat) := by
  obtain ⟨n, rfl⟩ : ∃ n : Nat, a = n := ⟨a.toNat, by omega⟩
  have hn : n < 256 := by omega
  have h : ∀ k, k < 8 → ∀ n, n < 256 → bits .andNot .u8 (n : Nat) (2 ^ k - 1 : Nat) = (n : Int) - (n : Int) % (2 ^ k : Nat) := by decide +kernel
  exact h k hk n hn
theorem and_mask (k : Nat) (hk : k < 8) {a : Int} (h0 : 0 ≤ a) (h1 : a < 256) : bits .and .u8 a (2 ^ k - 1 : Nat) = a % (2 ^ k : Nat) := by
  obtain ⟨n, rfl⟩ : ∃ n : Nat, a = n := ⟨a.toNat, by omega⟩
  have h := u8_and_nat n (2 ^ k - 1) (by omega) (by have := Nat.pow_lt_pow_right (a := 2) (by decide) hk; omega)
  rw [h, Nat.and_two_pow_sub_one_eq_mod]; omega

theorem i32_or_low (x : Nat) (hx : x < 16777216) {r y : Int} (hr : r = 64 * x) (h0 : 0 ≤ y) (h1 : y < 64) : bits .or .i32 r y = r + y := by
  obtain ⟨n, rfl⟩ : ∃ n : Nat, y = n := ⟨y.toNat, by omega⟩
  subst hr
  show IntKind.i32.wrap ((BitVec.ofInt 32 (64 * (x : Int)) ||| BitVec.ofInt 32 (n : Int)).toNat : Int) = _
  have e1 : BitVec.ofInt 32 (64 * (x : Int)) = BitVec.ofNat 32 (64 * x) := by rw [show (64 : Int) * (x : Int) = ((64 * x : Nat) : Int) from by omega]; exact BitVec.ofInt_natCast ..
  have e2 : BitVec.ofInt 32 (n : Int) = BitVec.ofNat 32 n := BitVec.ofInt_natCast ..
  rw [e1, e2, BitVec.toNat_or, BitVec.toNat_ofNat, BitVec.toNat_ofNat, Nat.mod_eq_of_lt (by omega), Nat.mod_eq_of_lt (by omega), nat_join 6 (64 * x) n (by omega) (by omega)]
  simp [IntKind.wrap, IntKind.bits, IntKind.signed]
  omega

theorem dec4_is {v : Int} {k : Int} {r : Int × Nat} (h1 : r.1 = v) (h2 : (r.2 : Int) = k) : Ending.returned (.tuple #[.int .i32 v, .int .i64 k]) = .returned (.tuple #[.int .i32 r.1, .int .i64 r.2]) := by rw [h1, h2]
theorem bne_no {a b : Int} (h : (a != b) = true) : ¬ a = b := by simpa using h
theorem bne_yes {a b : Int} (h : (a != b) = false) : a = b := by simpa using h

theorem bt_cell {w : World} {bk off : Nat} {l : List UInt8} (hr : ∀ j u, (bytes l)[j]? = some u → w.cell? ⟨bk, off + j, none⟩ = some u) (j : Nat) (hj : j < l.length) :
    w.cell? ⟨bk, off + j, none⟩ = some (.int .u8 (bt l j)) := by
  refine hr j _ ?_
  unfold bytes
  rw [List.getElem?_map, List.getElem?_eq_getElem hj]
  unfold bt
  rw [List.getD_eq_getElem?_getD, List.getElem?_eq_getElem hj]; rfl

end Go.Proofs.YtaglbcniomcfnaaDoor

