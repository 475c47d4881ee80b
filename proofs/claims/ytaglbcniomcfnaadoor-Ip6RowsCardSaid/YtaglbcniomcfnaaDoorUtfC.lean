/- The walks of utf.Valid, utf.Decode, utf.Encode. -/
import Derived.Test.YtaglbcniomcfnaaDoorUtfB
namespace Go.Proofs.YtaglbcniomcfnaaDoor
set_option linter.all false
open Go.RowKit

theorem info_u8 : (Tryd.prog.info? 5).map (fun i => (i.zero, i.size, i.bytes)) = some (some (.int .u8 0), 1, 1) := by kernel_rfl

theorem cell_byteOf {e : Int} (h0 : 0 ≤ e) (h1 : e < 256) : Value.int .u8 ((byteOf e).toNat : Int) = .int .u8 e := by rw [byteOf_nat h0 h1]
theorem enc_cells1 {y : Int} (h0 : 0 ≤ y) (h1 : y < 128) : bytes (enc0 y) = [.int .u8 y] := by
  unfold enc0; rw [if_pos h1]
  simp only [bytes, List.map_cons, List.map_nil]
  rw [cell_byteOf (by omega) (by omega)]
theorem enc_cells2 {y : Int} (h0 : 128 ≤ y) (h1 : y < 2048) : bytes (enc0 y) = [.int .u8 (192 + y / 64), .int .u8 (128 + y % 64)] := by
  unfold enc0; rw [if_neg (by omega), if_pos h1]
  simp only [bytes, List.map_cons, List.map_nil]
  rw [cell_byteOf (by omega) (by omega), cell_byteOf (by omega) (by omega)]
theorem enc_cells3 {y : Int} (h0 : 2048 ≤ y) (h1 : y < 65536) : bytes (enc0 y) = [.int .u8 (224 + y / 4096), .int .u8 (128 + y / 64 % 64), .int .u8 (128 + y % 64)] := by
  unfold enc0; rw [if_neg (by omega), if_neg (by omega), if_pos h1]
  simp only [bytes, List.map_cons, List.map_nil]
  rw [cell_byteOf (by omega) (by omega), cell_byteOf (by omega) (by omega), cell_byteOf (by omega) (by omega)]
theorem enc_cells4 {y : Int} (h0 : 65536 ≤ y) (h1 : y ≤ 1114111) : bytes (enc0 y) = [.int .u8 (240 + y / 262144), .int .u8 (128 + y / 4096 % 64), .int .u8 (128 + y / 64 % 64), .int .u8 (128 + y % 64)] := by
  unfold enc0; rw [if_neg (by omega), if_neg (by omega), if_neg (by omega)]
  simp only [bytes, List.map_cons, List.map_nil]
  rw [cell_byteOf (by omega) (by omega), cell_byteOf (by omega) (by omega), cell_byteOf (by omega) (by omega), cell_byteOf (by omega) (by omega)]
theorem enc_cells_lost : bytes (enc0 65533) = [.int .u8 239, .int .u8 191, .int .u8 189] := by rw [enc_cells3 (by decide) (by decide)]; rfl
theorem cpFix_no {x : Int} (h : cpOk x = false) : cpFix x = 65533 := by unfold cpFix; rw [h]; rfl
theorem uEnc_snoc {l : List Int} {j : Nat} {x : Int} (h : l[j]? = some x) : uEnc (l.take (j + 1)) = uEnc (l.take j) ++ enc0 (cpFix x) := by
  obtain ⟨hj, hx⟩ := List.getElem?_eq_some_iff.1 h
  rw [take_snoc' l j hj, hx]
  simp [uEnc, enc1]

end Go.Proofs.YtaglbcniomcfnaaDoor

