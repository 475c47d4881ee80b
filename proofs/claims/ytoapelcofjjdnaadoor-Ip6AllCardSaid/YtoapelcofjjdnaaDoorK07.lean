/- The walks of pct's sets: which set a number is, which bytes lie in it, how a byte is shown. -/
import Derived.Test.YtoapelcofjjdnaaDoorK00
import Derived.Test.YtoapelcofjjdnaaDoorK05
import Derived.Test.YtoapelcofjjdnaaDoorK03
import Derived.Lib.IndexAny
import Derived.Test.YtoapelcofjjdnaaDoorK04
namespace Go.Proofs.YtoapelcofjjdnaaDoor
set_option linter.all false
open Go.RowKit

theorem idx_mem (t : List UInt8) (c : UInt8) : decide (0 ≤ Lib.indexByte t c) = t.contains c := (Lib.contains_iff_indexByte t c).symm
theorem idx_out (t : List UInt8) (c : UInt8) : decide (Lib.indexByte t c < 0) = !t.contains c := by
  rw [← idx_mem, ← decide_not, decide_eq_decide]; omega

def hexDigits : ByteArray := ⟨#[48, 49, 50, 51, 52, 53, 54, 55, 56, 57, 65, 66, 67, 68, 69, 70]⟩
theorem hexdig_fin : ∀ k : Fin 16, hexDigits.data[k.val]? = some (hexU k.val) := by decide
theorem hexdig {m : Nat} (hm : m < 16) (h : m < (ByteArray.mk #[48, 49, 50, 51, 52, 53, 54, 55, 56, 57, 65, 66, 67, 68, 69, 70]).size) : (ByteArray.mk #[48, 49, 50, 51, 52, 53, 54, 55, 56, 57, 65, 66, 67, 68, 69, 70])[m]'h = hexU m := by
  have h1 := hexdig_fin ⟨m, hm⟩
  have h2 : hexDigits.data[m]? = some ((ByteArray.mk #[48, 49, 50, 51, 52, 53, 54, 55, 56, 57, 65, 66, 67, 68, 69, 70])[m]'h) := Array.getElem?_eq_getElem (xs := hexDigits.data) (i := m) h
  rw [h2] at h1
  exact Option.some.inj h1
theorem s_cases (s : Int) : s = 0 ∨ s = 1 ∨ s = 2 ∨ s = 3 ∨ s = 4 ∨ s = 5 ∨ s = 6 ∨ (s ≠ 0 ∧ s ≠ 1 ∧ s ≠ 2 ∧ s ≠ 3 ∧ s ≠ 4 ∧ s ≠ 5 ∧ s ≠ 6) := by omega

end Go.Proofs.YtoapelcofjjdnaaDoor

namespace Go.Proofs.YtoapelcofjjdnaaDoor
set_option linter.all false
open Go.RowKit

theorem idx_hex_fin : ∀ k : Fin 256, Lib.indexByte [48, 49, 50, 51, 52, 53, 54, 55, 56, 57, 65, 66, 67, 68, 69, 70] (if 97 ≤ k.val ∧ k.val ≤ 102 then UInt8.ofNat (k.val - 32) else UInt8.ofNat k.val) = hexV (UInt8.ofNat k.val) := by decide +kernel
theorem idx_hexN (c : UInt8) (h : ¬ (97 ≤ c.toNat ∧ c.toNat ≤ 102)) : Lib.indexByte [48, 49, 50, 51, 52, 53, 54, 55, 56, 57, 65, 66, 67, 68, 69, 70] c = hexV c := by
  have := idx_hex_fin ⟨c.toNat, byte_lt c⟩
  simp only [if_neg h, UInt8.ofNat_toNat] at this
  exact this
theorem idx_hexL (c : UInt8) (h : 97 ≤ c.toNat ∧ c.toNat ≤ 102) : Lib.indexByte [48, 49, 50, 51, 52, 53, 54, 55, 56, 57, 65, 66, 67, 68, 69, 70] (UInt8.ofNat ((c.toNat : Int) - 32).toNat) = hexV c := by
  have := idx_hex_fin ⟨c.toNat, byte_lt c⟩
  simp only [if_pos h, UInt8.ofNat_toNat] at this
  rw [show ((c.toNat : Int) - 32).toNat = c.toNat - 32 from by omega]
  exact this
theorem hex_or {a b : Int} (h0 : 0 ≤ a) (h1 : a < 16) (h2 : 0 ≤ b) (h3 : b < 16) : bits .or .i64 (IntKind.i64.wrap (a * 16)) b = a * 16 + b := by
  obtain ⟨x, rfl⟩ : ∃ x : Nat, a = x := ⟨a.toNat, by omega⟩
  obtain ⟨y, rfl⟩ : ∃ y : Nat, b = y := ⟨b.toNat, by omega⟩
  have h : ∀ x : Fin 16, ∀ y : Fin 16, bits .or .i64 (IntKind.i64.wrap ((x.val : Int) * 16)) (y.val : Int) = (x.val : Int) * 16 + (y.val : Int) := by decide +kernel
  exact h ⟨x, by omega⟩ ⟨y, by omega⟩
theorem hex_wrap {a b : Int} (h0 : 0 ≤ a) (h1 : a < 16) (h2 : 0 ≤ b) (h3 : b < 16) : IntKind.u8.wrap (a * 16 + b) = ((byteOf (a * 16 + b)).toNat : Int) := by
  rw [byteOf_nat (by omega) (by omega)]
  simp [IntKind.wrap, IntKind.bits, IntKind.signed]
  omega
theorem pDec_hex {l : List UInt8} (h : 2 < l.length) (h0 : gb l 0 = 37) (h1 : 0 ≤ hexV (gb l 1)) (h2 : 0 ≤ hexV (gb l 2)) : pDec l = byteOf (hexV (gb l 1) * 16 + hexV (gb l 2)) :: pDec (dr l 3) := by
  have e : pStep l = (byteOf (hexV (gb l 1) * 16 + hexV (gb l 2)), 3) := if_pos ⟨h, h0, h1, h2⟩
  rw [pDec_step (by omega), e]; rfl
theorem pDec_one {l : List UInt8} (h : 0 < l.length) (hn : ¬ (3 ≤ l.length ∧ gb l 0 = 37 ∧ 0 ≤ hexV (gb l 1) ∧ 0 ≤ hexV (gb l 2))) : pDec l = gb l 0 :: pDec (dr l 1) := by
  have e : pStep l = (gb l 0, 1) := if_neg hn
  rw [pDec_step h, e]; rfl
theorem pDec_go {l done rest rest' : List UInt8} {x : UInt8} (hd : pDec l = done ++ pDec rest ∧ done.length + rest.length ≤ l.length) (e : pDec rest = x :: pDec rest') (hl : rest'.length < rest.length) : pDec l = (done ++ [x]) ++ pDec rest' ∧ (done ++ [x]).length + rest'.length ≤ l.length := by
  refine ⟨by rw [hd.1, e]; simp, ?_⟩
  have := hd.2
  rw [List.length_append]; simp; omega
end Go.Proofs.YtoapelcofjjdnaaDoor

namespace Go.Proofs.YtoapelcofjjdnaaDoor
set_option linter.all false
open Go.RowKit


def pShow (s : Int) (c : UInt8) : List UInt8 := if s = 6 ∧ c = 32 then [43] else esc c
theorem pEnc1_in {s : Int} {c : UInt8} (h : pIn s c = true) : pEnc1 s c = pShow s c := by
  unfold pEnc1 pShow; split
  · rfl
  · first | rfl | exact if_pos h
theorem pEnc1_out {s : Int} {c : UInt8} (h : pIn s c = false) : pEnc1 s c = [c] := by
  unfold pEnc1
  rw [if_neg, if_neg (by rw [h]; decide)]
  rintro ⟨rfl, rfl⟩
  exact absurd h (by decide)
theorem pEnc_snoc {s : Int} {l : List UInt8} {j : Nat} {x : UInt8} (h : l[j]? = some x) : pEnc s (l.take (j + 1)) = pEnc s (l.take j) ++ pEnc1 s x := by
  obtain ⟨hj, hx⟩ := List.getElem?_eq_some_iff.1 h
  rw [take_snoc' l j hj, hx, pEnc_append]
  simp [pEnc]
theorem pShow_len (s : Int) (c : UInt8) : (pShow s c).length ≤ 3 := by unfold pShow esc; split <;> simp


theorem pShow_not {s : Int} (h : s ≠ 6) (x : UInt8) : pShow s x = esc x := if_neg fun e => h e.1
theorem pShow_form (x : UInt8) : pShow 6 x = (if x = 32 then [43] else esc x) := by
  unfold pShow; by_cases h : x = 32 <;> simp [h]

end Go.Proofs.YtoapelcofjjdnaaDoor
