/- The walks of pct.value and pct.Decode. -/
import Derived.Test.YtaglbcniomcfnaaDoorPctA
import Derived.Test.YtaglbcniomcfnaaDoorStep
namespace Go.Proofs.YtaglbcniomcfnaaDoor
set_option linter.all false
open Go.RowKit

theorem idx_hex_fin : ∀ k : Fin 256, Lib.indexByte [48, 49, 50, 51, 52, 53, 54, 55, 56, 57, 65, 66, 67, 68, 69, 70] (if 97 ≤ k.val ∧ k.val ≤ 102 then UInt8.ofNat (k.val - 32) else UInt8.ofNat k.val) = hexV (UInt8.ofNat k.val) := by decide +kernel
theorem idx_hexN (c : UInt8) (h : ¬ (97 ≤ c.toNat ∧ c.toNat ≤ 102)) : Lib.indexByte [48, 49, 50, 51, 52, 53, 54, 55, 56, 57, 65, 66, 67, 68, 69, 70] c = hexV c := by
  have := idx_hex_fin ⟨c.toNat, byte_lt c⟩
  simp only [if_neg h, UInt8.ofNat_toNat] at this
  exact this
theorem idx_hexL (c : UInt8) (h : 97 ≤ c.toNat ∧ c.toNat ≤ 102) : Lib.indexByte [48, 49, 50, 51, 52, 53, 54, 55, 56, 57, 65, 66, 67, 68, 69, 70] (UInt8.ofNat ((c.toNat : Int) - 32).toNat) = hexV c := by
  have := idx_hex_fin ⟨c.toNat, byte_lt c⟩
  simp only [if_pos h, UInt8.ofNat_toNat] at this
  rw [show ((c.toNat : Int) - 32).toNat = c.toNat - 32 from by omega]
  exact this
theorem hex_or {a b : Int} (h0 : 0 ≤ a) (h1 : a < 16) (h2 : 0 ≤ b) (h3 : b < 16) : bits .or .i64 (IntKind.i64.wrap (a * 16)) b = a * 16 + b := by
  obtain ⟨x, rfl⟩ : ∃ x : Nat, a = x := ⟨a.toNat, by omega⟩
  obtain ⟨y, rfl⟩ : ∃ y : Nat, b = y := ⟨b.toNat, by omega⟩
  have h : ∀ x : Fin 16, ∀ y : Fin 16, bits .or .i64 (IntKind.i64.wrap ((x.val : Int) * 16)) (y.val : Int) = (x.val : Int) * 16 + (y.val : Int) := by decide +kernel
  exact h ⟨x, by omega⟩ ⟨y, by omega⟩
theorem hex_wrap {a b : Int} (h0 : 0 ≤ a) (h1 : a < 16) (h2 : 0 ≤ b) (h3 : b < 16) : IntKind.u8.wrap (a * 16 + b) = ((byteOf (a * 16 + b)).toNat : Int) := by
  rw [byteOf_nat (by omega) (by omega)]
  simp [IntKind.wrap, IntKind.bits, IntKind.signed]
  omega
theorem pDec_hex {l : List UInt8} (h : 2 < l.length) (h0 : gb l 0 = 37) (h1 : 0 ≤ hexV (gb l 1)) (h2 : 0 ≤ hexV (gb l 2)) : pDec l = byteOf (hexV (gb l 1) * 16 + hexV (gb l 2)) :: pDec (dr l 3) := by
  have e : pStep l = (byteOf (hexV (gb l 1) * 16 + hexV (gb l 2)), 3) := if_pos ⟨h, h0, h1, h2⟩
  rw [pDec_step (by omega), e]; rfl
theorem pDec_one {l : List UInt8} (h : 0 < l.length) (hn : ¬ (3 ≤ l.length ∧ gb l 0 = 37 ∧ 0 ≤ hexV (gb l 1) ∧ 0 ≤ hexV (gb l 2))) : pDec l = gb l 0 :: pDec (dr l 1) := by
  have e : pStep l = (gb l 0, 1) := if_neg hn
  rw [pDec_step h, e]; rfl
theorem pDec_go {l done rest rest' : List UInt8} {x : UInt8} (hd : pDec l = done ++ pDec rest ∧ done.length + rest.length ≤ l.length) (e : pDec rest = x :: pDec rest') (hl : rest'.length < rest.length) : pDec l = (done ++ [x]) ++ pDec rest' ∧ (done ++ [x]).length + rest'.length ≤ l.length := by
  refine ⟨by rw [hd.1, e]; simp, ?_⟩
  have := hd.2
  rw [List.length_append]; simp; omega
end Go.Proofs.YtaglbcniomcfnaaDoor

