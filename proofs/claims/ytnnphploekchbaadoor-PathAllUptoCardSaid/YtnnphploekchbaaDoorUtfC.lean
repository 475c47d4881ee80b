/- The walks of utf.Valid, utf.Decode, utf.Encode. -/
import Derived.Test.YtnnphploekchbaaDoorUtfB
namespace Go.Proofs.YtnnphploekchbaaDoor
set_option linter.all false
open Go.RowKit

set_option maxRecDepth 100000 in
set_option maxHeartbeats 400000 in
/-- utf.Decode. -/
theorem decode_any (A : Option Addr) (c : Nat) (l : List UInt8) (w : World) (hr : Rd w w.heap.size A (bytes l)) (hc : l.length ≤ c) (hcm : c ≤ maxLen) (hl : l.length ≤ 400000) :
    Calls Tryd.prog 75 #[.slice A l.length c] w fun e w' => ∃ v, e = .returned v ∧
      w'.ownsRow w.heap.size 21 1 v (runes (uDec l)).length (runes (uDec l)) ∧ Below w.heap.size w w' := by
  go_enter Tryd.func75, Tryd.ntmps75
  go_wp2_with (go_at_call 96; go_must (go_fit (walkD_any w.heap.size A c l (.slice none 0 0) [] (w.alloc (.cells #[.slice none 0 0] 74)) (hr.alloc (Nat.le_refl _) _) hc hcm (Box.new _ _ _) (World.ownsRow_nil _ _ _ _) (by simp; omega))); rintro e w1 ⟨rfl, v1, hb1, hown1, hbel1⟩; have hcc := hb1.cell)
  go_ret
  exact ⟨_, rfl, own_base hown1 (by omega), ((Below.refl _ _).alloc (Nat.le_refl _) _).trans hbel1⟩

set_option maxRecDepth 100000 in
theorem heads1 (w : World) : Calls Tryd.prog 95 #[.int .i64 1] w fun e w' => e = .returned (.tuple #[.int .u8 0, .int .u8 127]) ∧ w = w' := by
  go_enter Tryd.func95, Tryd.ntmps95
  go_wp2
  go_ret2
  exact ⟨rfl, rfl⟩
set_option maxRecDepth 100000 in
theorem heads2 (w : World) : Calls Tryd.prog 95 #[.int .i64 2] w fun e w' => e = .returned (.tuple #[.int .u8 192, .int .u8 31]) ∧ w = w' := by
  go_enter Tryd.func95, Tryd.ntmps95
  go_wp2
  go_ret2
  exact ⟨rfl, rfl⟩
set_option maxRecDepth 100000 in
theorem heads3 (w : World) : Calls Tryd.prog 95 #[.int .i64 3] w fun e w' => e = .returned (.tuple #[.int .u8 224, .int .u8 15]) ∧ w = w' := by
  go_enter Tryd.func95, Tryd.ntmps95
  go_wp2
  go_ret2
  exact ⟨rfl, rfl⟩
set_option maxRecDepth 100000 in
theorem heads4 (w : World) : Calls Tryd.prog 95 #[.int .i64 4] w fun e w' => e = .returned (.tuple #[.int .u8 240, .int .u8 7]) ∧ w = w' := by
  go_enter Tryd.func95, Tryd.ntmps95
  go_wp2
  go_ret2
  exact ⟨rfl, rfl⟩

theorem info_u8 : (Tryd.prog.info? 5).map (fun i => (i.zero, i.size, i.bytes)) = some (some (.int .u8 0), 1, 1) := by kernel_rfl

theorem cell_byteOf {e : Int} (h0 : 0 ≤ e) (h1 : e < 256) : Value.int .u8 ((byteOf e).toNat : Int) = .int .u8 e := by rw [byteOf_nat h0 h1]
theorem enc_cells1 {y : Int} (h0 : 0 ≤ y) (h1 : y < 128) : bytes (enc0 y) = [.int .u8 y] := by
  unfold enc0; rw [if_pos h1]
  simp only [bytes, List.map_cons, List.map_nil]
  rw [cell_byteOf (by omega) (by omega)]
theorem enc_cells2 {y : Int} (h0 : 128 ≤ y) (h1 : y < 2048) : bytes (enc0 y) = [.int .u8 (192 + y / 64), .int .u8 (128 + y % 64)] := by
  unfold enc0; rw [if_neg (by omega), if_pos h1]
  simp only [bytes, List.map_cons, List.map_nil]
  rw [cell_byteOf (by omega) (by omega), cell_byteOf (by omega) (by omega)]
theorem enc_cells3 {y : Int} (h0 : 2048 ≤ y) (h1 : y < 65536) : bytes (enc0 y) = [.int .u8 (224 + y / 4096), .int .u8 (128 + y / 64 % 64), .int .u8 (128 + y % 64)] := by
  unfold enc0; rw [if_neg (by omega), if_neg (by omega), if_pos h1]
  simp only [bytes, List.map_cons, List.map_nil]
  rw [cell_byteOf (by omega) (by omega), cell_byteOf (by omega) (by omega), cell_byteOf (by omega) (by omega)]
theorem enc_cells4 {y : Int} (h0 : 65536 ≤ y) (h1 : y ≤ 1114111) : bytes (enc0 y) = [.int .u8 (240 + y / 262144), .int .u8 (128 + y / 4096 % 64), .int .u8 (128 + y / 64 % 64), .int .u8 (128 + y % 64)] := by
  unfold enc0; rw [if_neg (by omega), if_neg (by omega), if_neg (by omega)]
  simp only [bytes, List.map_cons, List.map_nil]
  rw [cell_byteOf (by omega) (by omega), cell_byteOf (by omega) (by omega), cell_byteOf (by omega) (by omega), cell_byteOf (by omega) (by omega)]
theorem enc_cells_lost : bytes (enc0 65533) = [.int .u8 239, .int .u8 191, .int .u8 189] := by rw [enc_cells3 (by decide) (by decide)]; rfl
theorem cpFix_no {x : Int} (h : cpOk x = false) : cpFix x = 65533 := by unfold cpFix; rw [h]; rfl
theorem uEnc_snoc {l : List Int} {j : Nat} {x : Int} (h : l[j]? = some x) : uEnc (l.take (j + 1)) = uEnc (l.take j) ++ enc0 (cpFix x) := by
  obtain ⟨hj, hx⟩ := List.getElem?_eq_some_iff.1 h
  rw [take_snoc' l j hj, hx]
  simp [uEnc, enc1]

set_option maxRecDepth 100000 in
set_option maxHeartbeats 4000000 in
/-- utf.Encode. -/
theorem encode_any (A : Option Addr) (c : Nat) (l : List Int) (w : World) (hr : Rd w w.heap.size A (runes l)) (hc : l.length ≤ c) (hcm : c ≤ maxLen) (hl : l.length ≤ 100000) :
    Calls Tryd.prog 74 #[.slice A l.length c] w fun e w' => ∃ v, e = .returned v ∧
      w'.ownsRow w.heap.size 5 1 v (bytes (uEnc l)).length (bytes (uEnc l)) ∧ Below w.heap.size w w' := by
  unfold maxLen at hcm
  go_enter Tryd.func74, Tryd.ntmps74
  go_wp2
  go_loopg [3, 12] (l.length) (fun k v i wr => ∃ j : Nat, k = l.length - j ∧ j ≤ l.length ∧ i = .int .i64 j ∧ wr.ownsRow w.heap.size 5 1 v (bytes (uEnc (l.take j))).length (bytes (uEnc (l.take j))) ∧ Below w.heap.size w wr)
  case atStart => exact ⟨0, rfl, Nat.zero_le _, rfl, World.ownsRow_nil _ _ _ _, Below.refl _ _⟩
  case round =>
    obtain ⟨j, rfl, hj, rfl, hown, hbel⟩ := hrel
    by_cases hlt : j < l.length
    · obtain ⟨bk, off, rfl, hbk, hcell⟩ := (hr.below hbel).at_ (k := j) (by rw [runes_len]; exact hlt)
      obtain ⟨x, hx⟩ : ∃ x, l[j]? = some x := ⟨l[j], List.getElem?_eq_getElem hlt⟩
      have hw : w.heap.size ≤ wr.heap.size := hbel.size
      have hsm := uEnc_le (l.take j)
      have hty : (bytes (uEnc (l.take j))).length ≤ 400000 := by rw [bytes_len, List.length_take] at *; omega
      have hcx : wr.cell? ⟨bk, off + j, none⟩ = some (.int .i32 x) := by
        rw [hcell]; congr 1
        obtain ⟨_, hx⟩ := List.getElem?_eq_some_iff.1 hx
        simp only [runes, List.getElem_map, hx]
      have HX := Lib.hid hx
      clear hx hcell
      by_cases hok : cpOk x = true
      · obtain ⟨o1, o2, o3⟩ := cpOk_iff.1 hok
        by_cases s1 : x < 128
        · have hs : cpSize x = 1 := by unfold cpSize; rw [if_pos s1]
          have e0 : bits .or .u8 0 x = x := by rw [u8_or 0 x (by omega) (by omega) o1 (by omega), show (0 : Int).toNat = 0 from rfl, Nat.zero_or]; omega
          go_wp2_with (first | (go_at_call 94; go_must (go_fit (usize_any x wr)); rintro e w1 ⟨rfl, rfl⟩) | (go_at_call 95; go_must (go_fit (heads1 wr)); rintro e w1 ⟨rfl, rfl⟩) | (go_at_call 93; go_must (go_fit (uis_any x wr)); rintro e w1 ⟨rfl, rfl⟩) | (at_builtin; refine wpList_append_lit rfl _ _ _ rfl w.heap.size _ _ 1 1 Tryd.underlying42 info_u8 rfl (by decide) _ _ _ rfl hown3 _ 1 1 _ rfl rfl (by simp [Value.oneCell']) (by omega) (by decide) (by first | assumption | exact hsz) ?_; intro A4 c4 w4 hc4 hm4 hown4 hb4 hg4; have hz4 : w.heap.size ≤ w4.heap.size := by have := hb4.size; omega) | (at_builtin; refine wpList_append_lit rfl _ _ _ rfl w.heap.size _ _ 1 1 Tryd.underlying42 info_u8 rfl (by decide) _ _ _ rfl hown2 _ 1 1 _ rfl rfl (by simp [Value.oneCell']) (by omega) (by decide) (by first | assumption | exact hsz) ?_; intro A3 c3 w3 hc3 hm3 hown3 hb3 hg3; have hz3 : w.heap.size ≤ w3.heap.size := by have := hb3.size; omega) | (at_builtin; refine wpList_append_lit rfl _ _ _ rfl w.heap.size _ _ 1 1 Tryd.underlying42 info_u8 rfl (by decide) _ _ _ rfl hown1 _ 1 1 _ rfl rfl (by simp [Value.oneCell']) (by omega) (by decide) (by first | assumption | exact hsz) ?_; intro A2 c2 w2 hc2 hm2 hown2 hb2 hg2; have hz2 : w.heap.size ≤ w2.heap.size := by have := hb2.size; omega) | (at_builtin; refine wpList_append_lit rfl _ _ _ rfl w.heap.size _ _ 1 1 Tryd.underlying42 info_u8 rfl (by decide) _ _ _ rfl hown _ 1 1 _ rfl rfl (by simp [Value.oneCell']) (by omega) (by decide) (by first | assumption | exact hsz) ?_; intro A1 c1 w1 hc1 hm1 hown1 hb1 hg1; have hz1 : w.heap.size ≤ w1.heap.size := by have := hb1.size; omega))
          refine wp_loop_rounds 2 ?_
          rw [rounds_succ]
          go_wp2
          go_roundg (l.length - (j + 1))
          case measure => omega
          case rel => exact ⟨j + 1, rfl, by omega, by go_num, own_eq hown1 (by rw [uEnc_snoc HX.out, cpFix_of hok, bytes_append, List.length_append, bytes_len (enc0 _), enc0_len, hs]) (by rw [uEnc_snoc HX.out, cpFix_of hok, bytes_append, enc_cells1 (by omega) (by omega)]; try simp), (hbel).trans hb1⟩
        by_cases s2 : x < 2048
        · have hs : cpSize x = 2 := by unfold cpSize; rw [if_neg s1, if_pos s2]
          go_wp2_with (first | (go_at_call 94; go_must (go_fit (usize_any x wr)); rintro e w1 ⟨rfl, rfl⟩) | (go_at_call 95; go_must (go_fit (heads2 wr)); rintro e w1 ⟨rfl, rfl⟩) | (go_at_call 93; go_must (go_fit (uis_any x wr)); rintro e w1 ⟨rfl, rfl⟩) | (at_builtin; refine wpList_append_lit rfl _ _ _ rfl w.heap.size _ _ 1 1 Tryd.underlying42 info_u8 rfl (by decide) _ _ _ rfl hown3 _ 1 1 _ rfl rfl (by simp [Value.oneCell']) (by omega) (by decide) (by first | assumption | exact hsz) ?_; intro A4 c4 w4 hc4 hm4 hown4 hb4 hg4; have hz4 : w.heap.size ≤ w4.heap.size := by have := hb4.size; omega) | (at_builtin; refine wpList_append_lit rfl _ _ _ rfl w.heap.size _ _ 1 1 Tryd.underlying42 info_u8 rfl (by decide) _ _ _ rfl hown2 _ 1 1 _ rfl rfl (by simp [Value.oneCell']) (by omega) (by decide) (by first | assumption | exact hsz) ?_; intro A3 c3 w3 hc3 hm3 hown3 hb3 hg3; have hz3 : w.heap.size ≤ w3.heap.size := by have := hb3.size; omega) | (at_builtin; refine wpList_append_lit rfl _ _ _ rfl w.heap.size _ _ 1 1 Tryd.underlying42 info_u8 rfl (by decide) _ _ _ rfl hown1 _ 1 1 _ rfl rfl (by simp [Value.oneCell']) (by omega) (by decide) (by first | assumption | exact hsz) ?_; intro A2 c2 w2 hc2 hm2 hown2 hb2 hg2; have hz2 : w.heap.size ≤ w2.heap.size := by have := hb2.size; omega) | (at_builtin; refine wpList_append_lit rfl _ _ _ rfl w.heap.size _ _ 1 1 Tryd.underlying42 info_u8 rfl (by decide) _ _ _ rfl hown _ 1 1 _ rfl rfl (by simp [Value.oneCell']) (by omega) (by decide) (by first | assumption | exact hsz) ?_; intro A1 c1 w1 hc1 hm1 hown1 hb1 hg1; have hz1 : w.heap.size ≤ w1.heap.size := by have := hb1.size; omega))
          refine wp_loop_rounds 3 ?_
          rw [rounds_succ]
          go_wp2_with (first | (at_builtin; refine wpList_append_lit rfl _ _ _ rfl w.heap.size _ _ 1 1 Tryd.underlying42 info_u8 rfl (by decide) _ _ _ rfl hown3 _ 1 1 _ rfl rfl (by simp [Value.oneCell']) (by omega) (by decide) (by first | assumption | exact hsz) ?_; intro A4 c4 w4 hc4 hm4 hown4 hb4 hg4; have hz4 : w.heap.size ≤ w4.heap.size := by have := hb4.size; omega) | (at_builtin; refine wpList_append_lit rfl _ _ _ rfl w.heap.size _ _ 1 1 Tryd.underlying42 info_u8 rfl (by decide) _ _ _ rfl hown2 _ 1 1 _ rfl rfl (by simp [Value.oneCell']) (by omega) (by decide) (by first | assumption | exact hsz) ?_; intro A3 c3 w3 hc3 hm3 hown3 hb3 hg3; have hz3 : w.heap.size ≤ w3.heap.size := by have := hb3.size; omega) | (at_builtin; refine wpList_append_lit rfl _ _ _ rfl w.heap.size _ _ 1 1 Tryd.underlying42 info_u8 rfl (by decide) _ _ _ rfl hown1 _ 1 1 _ rfl rfl (by simp [Value.oneCell']) (by omega) (by decide) (by first | assumption | exact hsz) ?_; intro A2 c2 w2 hc2 hm2 hown2 hb2 hg2; have hz2 : w.heap.size ≤ w2.heap.size := by have := hb2.size; omega) | (at_builtin; refine wpList_append_lit rfl _ _ _ rfl w.heap.size _ _ 1 1 Tryd.underlying42 info_u8 rfl (by decide) _ _ _ rfl hown _ 1 1 _ rfl rfl (by simp [Value.oneCell']) (by omega) (by decide) (by first | assumption | exact hsz) ?_; intro A1 c1 w1 hc1 hm1 hown1 hb1 hg1; have hz1 : w.heap.size ≤ w1.heap.size := by have := hb1.size; omega))
          rw [rounds_succ]
          go_wp2
          go_roundg (l.length - (j + 1))
          case measure => omega
          case rel => exact ⟨j + 1, rfl, by omega, by go_num, own_eq hown2 (by rw [uEnc_snoc HX.out, cpFix_of hok, bytes_append, List.length_append, bytes_len (enc0 _), enc0_len, hs]) (by rw [uEnc_snoc HX.out, cpFix_of hok, bytes_append, enc_cells2 (by omega) (by omega)]; try simp), ((hbel).trans hb1).trans hb2⟩
        by_cases s3 : x < 65536
        · have hs : cpSize x = 3 := by unfold cpSize; rw [if_neg s1, if_neg s2, if_pos s3]
          go_wp2_with (first | (go_at_call 94; go_must (go_fit (usize_any x wr)); rintro e w1 ⟨rfl, rfl⟩) | (go_at_call 95; go_must (go_fit (heads3 wr)); rintro e w1 ⟨rfl, rfl⟩) | (go_at_call 93; go_must (go_fit (uis_any x wr)); rintro e w1 ⟨rfl, rfl⟩) | (at_builtin; refine wpList_append_lit rfl _ _ _ rfl w.heap.size _ _ 1 1 Tryd.underlying42 info_u8 rfl (by decide) _ _ _ rfl hown3 _ 1 1 _ rfl rfl (by simp [Value.oneCell']) (by omega) (by decide) (by first | assumption | exact hsz) ?_; intro A4 c4 w4 hc4 hm4 hown4 hb4 hg4; have hz4 : w.heap.size ≤ w4.heap.size := by have := hb4.size; omega) | (at_builtin; refine wpList_append_lit rfl _ _ _ rfl w.heap.size _ _ 1 1 Tryd.underlying42 info_u8 rfl (by decide) _ _ _ rfl hown2 _ 1 1 _ rfl rfl (by simp [Value.oneCell']) (by omega) (by decide) (by first | assumption | exact hsz) ?_; intro A3 c3 w3 hc3 hm3 hown3 hb3 hg3; have hz3 : w.heap.size ≤ w3.heap.size := by have := hb3.size; omega) | (at_builtin; refine wpList_append_lit rfl _ _ _ rfl w.heap.size _ _ 1 1 Tryd.underlying42 info_u8 rfl (by decide) _ _ _ rfl hown1 _ 1 1 _ rfl rfl (by simp [Value.oneCell']) (by omega) (by decide) (by first | assumption | exact hsz) ?_; intro A2 c2 w2 hc2 hm2 hown2 hb2 hg2; have hz2 : w.heap.size ≤ w2.heap.size := by have := hb2.size; omega) | (at_builtin; refine wpList_append_lit rfl _ _ _ rfl w.heap.size _ _ 1 1 Tryd.underlying42 info_u8 rfl (by decide) _ _ _ rfl hown _ 1 1 _ rfl rfl (by simp [Value.oneCell']) (by omega) (by decide) (by first | assumption | exact hsz) ?_; intro A1 c1 w1 hc1 hm1 hown1 hb1 hg1; have hz1 : w.heap.size ≤ w1.heap.size := by have := hb1.size; omega))
          refine wp_loop_rounds 4 ?_
          rw [rounds_succ]
          go_wp2_with (first | (at_builtin; refine wpList_append_lit rfl _ _ _ rfl w.heap.size _ _ 1 1 Tryd.underlying42 info_u8 rfl (by decide) _ _ _ rfl hown3 _ 1 1 _ rfl rfl (by simp [Value.oneCell']) (by omega) (by decide) (by first | assumption | exact hsz) ?_; intro A4 c4 w4 hc4 hm4 hown4 hb4 hg4; have hz4 : w.heap.size ≤ w4.heap.size := by have := hb4.size; omega) | (at_builtin; refine wpList_append_lit rfl _ _ _ rfl w.heap.size _ _ 1 1 Tryd.underlying42 info_u8 rfl (by decide) _ _ _ rfl hown2 _ 1 1 _ rfl rfl (by simp [Value.oneCell']) (by omega) (by decide) (by first | assumption | exact hsz) ?_; intro A3 c3 w3 hc3 hm3 hown3 hb3 hg3; have hz3 : w.heap.size ≤ w3.heap.size := by have := hb3.size; omega) | (at_builtin; refine wpList_append_lit rfl _ _ _ rfl w.heap.size _ _ 1 1 Tryd.underlying42 info_u8 rfl (by decide) _ _ _ rfl hown1 _ 1 1 _ rfl rfl (by simp [Value.oneCell']) (by omega) (by decide) (by first | assumption | exact hsz) ?_; intro A2 c2 w2 hc2 hm2 hown2 hb2 hg2; have hz2 : w.heap.size ≤ w2.heap.size := by have := hb2.size; omega) | (at_builtin; refine wpList_append_lit rfl _ _ _ rfl w.heap.size _ _ 1 1 Tryd.underlying42 info_u8 rfl (by decide) _ _ _ rfl hown _ 1 1 _ rfl rfl (by simp [Value.oneCell']) (by omega) (by decide) (by first | assumption | exact hsz) ?_; intro A1 c1 w1 hc1 hm1 hown1 hb1 hg1; have hz1 : w.heap.size ≤ w1.heap.size := by have := hb1.size; omega))
          rw [rounds_succ]
          go_wp2_with (first | (at_builtin; refine wpList_append_lit rfl _ _ _ rfl w.heap.size _ _ 1 1 Tryd.underlying42 info_u8 rfl (by decide) _ _ _ rfl hown3 _ 1 1 _ rfl rfl (by simp [Value.oneCell']) (by omega) (by decide) (by first | assumption | exact hsz) ?_; intro A4 c4 w4 hc4 hm4 hown4 hb4 hg4; have hz4 : w.heap.size ≤ w4.heap.size := by have := hb4.size; omega) | (at_builtin; refine wpList_append_lit rfl _ _ _ rfl w.heap.size _ _ 1 1 Tryd.underlying42 info_u8 rfl (by decide) _ _ _ rfl hown2 _ 1 1 _ rfl rfl (by simp [Value.oneCell']) (by omega) (by decide) (by first | assumption | exact hsz) ?_; intro A3 c3 w3 hc3 hm3 hown3 hb3 hg3; have hz3 : w.heap.size ≤ w3.heap.size := by have := hb3.size; omega) | (at_builtin; refine wpList_append_lit rfl _ _ _ rfl w.heap.size _ _ 1 1 Tryd.underlying42 info_u8 rfl (by decide) _ _ _ rfl hown1 _ 1 1 _ rfl rfl (by simp [Value.oneCell']) (by omega) (by decide) (by first | assumption | exact hsz) ?_; intro A2 c2 w2 hc2 hm2 hown2 hb2 hg2; have hz2 : w.heap.size ≤ w2.heap.size := by have := hb2.size; omega) | (at_builtin; refine wpList_append_lit rfl _ _ _ rfl w.heap.size _ _ 1 1 Tryd.underlying42 info_u8 rfl (by decide) _ _ _ rfl hown _ 1 1 _ rfl rfl (by simp [Value.oneCell']) (by omega) (by decide) (by first | assumption | exact hsz) ?_; intro A1 c1 w1 hc1 hm1 hown1 hb1 hg1; have hz1 : w.heap.size ≤ w1.heap.size := by have := hb1.size; omega))
          rw [rounds_succ]
          go_wp2
          go_roundg (l.length - (j + 1))
          case measure => omega
          case rel => exact ⟨j + 1, rfl, by omega, by go_num, own_eq hown3 (by rw [uEnc_snoc HX.out, cpFix_of hok, bytes_append, List.length_append, bytes_len (enc0 _), enc0_len, hs]) (by rw [uEnc_snoc HX.out, cpFix_of hok, bytes_append, enc_cells3 (by omega) (by omega)]; try simp), (((hbel).trans hb1).trans hb2).trans hb3⟩
        · have hs : cpSize x = 4 := by unfold cpSize; rw [if_neg s1, if_neg s2, if_neg s3]
          go_wp2_with (first | (go_at_call 94; go_must (go_fit (usize_any x wr)); rintro e w1 ⟨rfl, rfl⟩) | (go_at_call 95; go_must (go_fit (heads4 wr)); rintro e w1 ⟨rfl, rfl⟩) | (go_at_call 93; go_must (go_fit (uis_any x wr)); rintro e w1 ⟨rfl, rfl⟩) | (at_builtin; refine wpList_append_lit rfl _ _ _ rfl w.heap.size _ _ 1 1 Tryd.underlying42 info_u8 rfl (by decide) _ _ _ rfl hown3 _ 1 1 _ rfl rfl (by simp [Value.oneCell']) (by omega) (by decide) (by first | assumption | exact hsz) ?_; intro A4 c4 w4 hc4 hm4 hown4 hb4 hg4; have hz4 : w.heap.size ≤ w4.heap.size := by have := hb4.size; omega) | (at_builtin; refine wpList_append_lit rfl _ _ _ rfl w.heap.size _ _ 1 1 Tryd.underlying42 info_u8 rfl (by decide) _ _ _ rfl hown2 _ 1 1 _ rfl rfl (by simp [Value.oneCell']) (by omega) (by decide) (by first | assumption | exact hsz) ?_; intro A3 c3 w3 hc3 hm3 hown3 hb3 hg3; have hz3 : w.heap.size ≤ w3.heap.size := by have := hb3.size; omega) | (at_builtin; refine wpList_append_lit rfl _ _ _ rfl w.heap.size _ _ 1 1 Tryd.underlying42 info_u8 rfl (by decide) _ _ _ rfl hown1 _ 1 1 _ rfl rfl (by simp [Value.oneCell']) (by omega) (by decide) (by first | assumption | exact hsz) ?_; intro A2 c2 w2 hc2 hm2 hown2 hb2 hg2; have hz2 : w.heap.size ≤ w2.heap.size := by have := hb2.size; omega) | (at_builtin; refine wpList_append_lit rfl _ _ _ rfl w.heap.size _ _ 1 1 Tryd.underlying42 info_u8 rfl (by decide) _ _ _ rfl hown _ 1 1 _ rfl rfl (by simp [Value.oneCell']) (by omega) (by decide) (by first | assumption | exact hsz) ?_; intro A1 c1 w1 hc1 hm1 hown1 hb1 hg1; have hz1 : w.heap.size ≤ w1.heap.size := by have := hb1.size; omega))
          refine wp_loop_rounds 5 ?_
          rw [rounds_succ]
          go_wp2_with (first | (at_builtin; refine wpList_append_lit rfl _ _ _ rfl w.heap.size _ _ 1 1 Tryd.underlying42 info_u8 rfl (by decide) _ _ _ rfl hown3 _ 1 1 _ rfl rfl (by simp [Value.oneCell']) (by omega) (by decide) (by first | assumption | exact hsz) ?_; intro A4 c4 w4 hc4 hm4 hown4 hb4 hg4; have hz4 : w.heap.size ≤ w4.heap.size := by have := hb4.size; omega) | (at_builtin; refine wpList_append_lit rfl _ _ _ rfl w.heap.size _ _ 1 1 Tryd.underlying42 info_u8 rfl (by decide) _ _ _ rfl hown2 _ 1 1 _ rfl rfl (by simp [Value.oneCell']) (by omega) (by decide) (by first | assumption | exact hsz) ?_; intro A3 c3 w3 hc3 hm3 hown3 hb3 hg3; have hz3 : w.heap.size ≤ w3.heap.size := by have := hb3.size; omega) | (at_builtin; refine wpList_append_lit rfl _ _ _ rfl w.heap.size _ _ 1 1 Tryd.underlying42 info_u8 rfl (by decide) _ _ _ rfl hown1 _ 1 1 _ rfl rfl (by simp [Value.oneCell']) (by omega) (by decide) (by first | assumption | exact hsz) ?_; intro A2 c2 w2 hc2 hm2 hown2 hb2 hg2; have hz2 : w.heap.size ≤ w2.heap.size := by have := hb2.size; omega) | (at_builtin; refine wpList_append_lit rfl _ _ _ rfl w.heap.size _ _ 1 1 Tryd.underlying42 info_u8 rfl (by decide) _ _ _ rfl hown _ 1 1 _ rfl rfl (by simp [Value.oneCell']) (by omega) (by decide) (by first | assumption | exact hsz) ?_; intro A1 c1 w1 hc1 hm1 hown1 hb1 hg1; have hz1 : w.heap.size ≤ w1.heap.size := by have := hb1.size; omega))
          rw [rounds_succ]
          go_wp2_with (first | (at_builtin; refine wpList_append_lit rfl _ _ _ rfl w.heap.size _ _ 1 1 Tryd.underlying42 info_u8 rfl (by decide) _ _ _ rfl hown3 _ 1 1 _ rfl rfl (by simp [Value.oneCell']) (by omega) (by decide) (by first | assumption | exact hsz) ?_; intro A4 c4 w4 hc4 hm4 hown4 hb4 hg4; have hz4 : w.heap.size ≤ w4.heap.size := by have := hb4.size; omega) | (at_builtin; refine wpList_append_lit rfl _ _ _ rfl w.heap.size _ _ 1 1 Tryd.underlying42 info_u8 rfl (by decide) _ _ _ rfl hown2 _ 1 1 _ rfl rfl (by simp [Value.oneCell']) (by omega) (by decide) (by first | assumption | exact hsz) ?_; intro A3 c3 w3 hc3 hm3 hown3 hb3 hg3; have hz3 : w.heap.size ≤ w3.heap.size := by have := hb3.size; omega) | (at_builtin; refine wpList_append_lit rfl _ _ _ rfl w.heap.size _ _ 1 1 Tryd.underlying42 info_u8 rfl (by decide) _ _ _ rfl hown1 _ 1 1 _ rfl rfl (by simp [Value.oneCell']) (by omega) (by decide) (by first | assumption | exact hsz) ?_; intro A2 c2 w2 hc2 hm2 hown2 hb2 hg2; have hz2 : w.heap.size ≤ w2.heap.size := by have := hb2.size; omega) | (at_builtin; refine wpList_append_lit rfl _ _ _ rfl w.heap.size _ _ 1 1 Tryd.underlying42 info_u8 rfl (by decide) _ _ _ rfl hown _ 1 1 _ rfl rfl (by simp [Value.oneCell']) (by omega) (by decide) (by first | assumption | exact hsz) ?_; intro A1 c1 w1 hc1 hm1 hown1 hb1 hg1; have hz1 : w.heap.size ≤ w1.heap.size := by have := hb1.size; omega))
          rw [rounds_succ]
          go_wp2_with (first | (at_builtin; refine wpList_append_lit rfl _ _ _ rfl w.heap.size _ _ 1 1 Tryd.underlying42 info_u8 rfl (by decide) _ _ _ rfl hown3 _ 1 1 _ rfl rfl (by simp [Value.oneCell']) (by omega) (by decide) (by first | assumption | exact hsz) ?_; intro A4 c4 w4 hc4 hm4 hown4 hb4 hg4; have hz4 : w.heap.size ≤ w4.heap.size := by have := hb4.size; omega) | (at_builtin; refine wpList_append_lit rfl _ _ _ rfl w.heap.size _ _ 1 1 Tryd.underlying42 info_u8 rfl (by decide) _ _ _ rfl hown2 _ 1 1 _ rfl rfl (by simp [Value.oneCell']) (by omega) (by decide) (by first | assumption | exact hsz) ?_; intro A3 c3 w3 hc3 hm3 hown3 hb3 hg3; have hz3 : w.heap.size ≤ w3.heap.size := by have := hb3.size; omega) | (at_builtin; refine wpList_append_lit rfl _ _ _ rfl w.heap.size _ _ 1 1 Tryd.underlying42 info_u8 rfl (by decide) _ _ _ rfl hown1 _ 1 1 _ rfl rfl (by simp [Value.oneCell']) (by omega) (by decide) (by first | assumption | exact hsz) ?_; intro A2 c2 w2 hc2 hm2 hown2 hb2 hg2; have hz2 : w.heap.size ≤ w2.heap.size := by have := hb2.size; omega) | (at_builtin; refine wpList_append_lit rfl _ _ _ rfl w.heap.size _ _ 1 1 Tryd.underlying42 info_u8 rfl (by decide) _ _ _ rfl hown _ 1 1 _ rfl rfl (by simp [Value.oneCell']) (by omega) (by decide) (by first | assumption | exact hsz) ?_; intro A1 c1 w1 hc1 hm1 hown1 hb1 hg1; have hz1 : w.heap.size ≤ w1.heap.size := by have := hb1.size; omega))
          rw [rounds_succ]
          go_wp2
          go_roundg (l.length - (j + 1))
          case measure => omega
          case rel => exact ⟨j + 1, rfl, by omega, by go_num, own_eq hown4 (by rw [uEnc_snoc HX.out, cpFix_of hok, bytes_append, List.length_append, bytes_len (enc0 _), enc0_len, hs]) (by rw [uEnc_snoc HX.out, cpFix_of hok, bytes_append, enc_cells4 (by omega) (by omega)]; try simp), ((((hbel).trans hb1).trans hb2).trans hb3).trans hb4⟩
      · have hok : cpOk x = false := Bool.eq_false_iff.2 hok
        have hs : cpSize 65533 = 3 := by decide
        go_wp2_with (first | (go_at_call 94; go_must (go_fit (usize_any 65533 wr)); rintro e w1 ⟨rfl, rfl⟩) | (go_at_call 95; go_must (go_fit (heads3 wr)); rintro e w1 ⟨rfl, rfl⟩) | (go_at_call 93; go_must (go_fit (uis_any x wr)); rintro e w1 ⟨rfl, rfl⟩) | (at_builtin; refine wpList_append_lit rfl _ _ _ rfl w.heap.size _ _ 1 1 Tryd.underlying42 info_u8 rfl (by decide) _ _ _ rfl hown3 _ 1 1 _ rfl rfl (by simp [Value.oneCell']) (by omega) (by decide) (by first | assumption | exact hsz) ?_; intro A4 c4 w4 hc4 hm4 hown4 hb4 hg4; have hz4 : w.heap.size ≤ w4.heap.size := by have := hb4.size; omega) | (at_builtin; refine wpList_append_lit rfl _ _ _ rfl w.heap.size _ _ 1 1 Tryd.underlying42 info_u8 rfl (by decide) _ _ _ rfl hown2 _ 1 1 _ rfl rfl (by simp [Value.oneCell']) (by omega) (by decide) (by first | assumption | exact hsz) ?_; intro A3 c3 w3 hc3 hm3 hown3 hb3 hg3; have hz3 : w.heap.size ≤ w3.heap.size := by have := hb3.size; omega) | (at_builtin; refine wpList_append_lit rfl _ _ _ rfl w.heap.size _ _ 1 1 Tryd.underlying42 info_u8 rfl (by decide) _ _ _ rfl hown1 _ 1 1 _ rfl rfl (by simp [Value.oneCell']) (by omega) (by decide) (by first | assumption | exact hsz) ?_; intro A2 c2 w2 hc2 hm2 hown2 hb2 hg2; have hz2 : w.heap.size ≤ w2.heap.size := by have := hb2.size; omega) | (at_builtin; refine wpList_append_lit rfl _ _ _ rfl w.heap.size _ _ 1 1 Tryd.underlying42 info_u8 rfl (by decide) _ _ _ rfl hown _ 1 1 _ rfl rfl (by simp [Value.oneCell']) (by omega) (by decide) (by first | assumption | exact hsz) ?_; intro A1 c1 w1 hc1 hm1 hown1 hb1 hg1; have hz1 : w.heap.size ≤ w1.heap.size := by have := hb1.size; omega))
        refine wp_loop_rounds 4 ?_
        rw [rounds_succ]
        go_wp2_with (first | (at_builtin; refine wpList_append_lit rfl _ _ _ rfl w.heap.size _ _ 1 1 Tryd.underlying42 info_u8 rfl (by decide) _ _ _ rfl hown3 _ 1 1 _ rfl rfl (by simp [Value.oneCell']) (by omega) (by decide) (by first | assumption | exact hsz) ?_; intro A4 c4 w4 hc4 hm4 hown4 hb4 hg4; have hz4 : w.heap.size ≤ w4.heap.size := by have := hb4.size; omega) | (at_builtin; refine wpList_append_lit rfl _ _ _ rfl w.heap.size _ _ 1 1 Tryd.underlying42 info_u8 rfl (by decide) _ _ _ rfl hown2 _ 1 1 _ rfl rfl (by simp [Value.oneCell']) (by omega) (by decide) (by first | assumption | exact hsz) ?_; intro A3 c3 w3 hc3 hm3 hown3 hb3 hg3; have hz3 : w.heap.size ≤ w3.heap.size := by have := hb3.size; omega) | (at_builtin; refine wpList_append_lit rfl _ _ _ rfl w.heap.size _ _ 1 1 Tryd.underlying42 info_u8 rfl (by decide) _ _ _ rfl hown1 _ 1 1 _ rfl rfl (by simp [Value.oneCell']) (by omega) (by decide) (by first | assumption | exact hsz) ?_; intro A2 c2 w2 hc2 hm2 hown2 hb2 hg2; have hz2 : w.heap.size ≤ w2.heap.size := by have := hb2.size; omega) | (at_builtin; refine wpList_append_lit rfl _ _ _ rfl w.heap.size _ _ 1 1 Tryd.underlying42 info_u8 rfl (by decide) _ _ _ rfl hown _ 1 1 _ rfl rfl (by simp [Value.oneCell']) (by omega) (by decide) (by first | assumption | exact hsz) ?_; intro A1 c1 w1 hc1 hm1 hown1 hb1 hg1; have hz1 : w.heap.size ≤ w1.heap.size := by have := hb1.size; omega))
        rw [rounds_succ]
        go_wp2_with (first | (at_builtin; refine wpList_append_lit rfl _ _ _ rfl w.heap.size _ _ 1 1 Tryd.underlying42 info_u8 rfl (by decide) _ _ _ rfl hown3 _ 1 1 _ rfl rfl (by simp [Value.oneCell']) (by omega) (by decide) (by first | assumption | exact hsz) ?_; intro A4 c4 w4 hc4 hm4 hown4 hb4 hg4; have hz4 : w.heap.size ≤ w4.heap.size := by have := hb4.size; omega) | (at_builtin; refine wpList_append_lit rfl _ _ _ rfl w.heap.size _ _ 1 1 Tryd.underlying42 info_u8 rfl (by decide) _ _ _ rfl hown2 _ 1 1 _ rfl rfl (by simp [Value.oneCell']) (by omega) (by decide) (by first | assumption | exact hsz) ?_; intro A3 c3 w3 hc3 hm3 hown3 hb3 hg3; have hz3 : w.heap.size ≤ w3.heap.size := by have := hb3.size; omega) | (at_builtin; refine wpList_append_lit rfl _ _ _ rfl w.heap.size _ _ 1 1 Tryd.underlying42 info_u8 rfl (by decide) _ _ _ rfl hown1 _ 1 1 _ rfl rfl (by simp [Value.oneCell']) (by omega) (by decide) (by first | assumption | exact hsz) ?_; intro A2 c2 w2 hc2 hm2 hown2 hb2 hg2; have hz2 : w.heap.size ≤ w2.heap.size := by have := hb2.size; omega) | (at_builtin; refine wpList_append_lit rfl _ _ _ rfl w.heap.size _ _ 1 1 Tryd.underlying42 info_u8 rfl (by decide) _ _ _ rfl hown _ 1 1 _ rfl rfl (by simp [Value.oneCell']) (by omega) (by decide) (by first | assumption | exact hsz) ?_; intro A1 c1 w1 hc1 hm1 hown1 hb1 hg1; have hz1 : w.heap.size ≤ w1.heap.size := by have := hb1.size; omega))
        rw [rounds_succ]
        go_wp2
        go_roundg (l.length - (j + 1))
        case measure => omega
        case rel => exact ⟨j + 1, rfl, by omega, by go_num, own_eq hown3 (by rw [uEnc_snoc HX.out, cpFix_no hok, bytes_append, List.length_append, bytes_len (enc0 _), enc0_len, hs]) (by rw [uEnc_snoc HX.out, cpFix_no hok, bytes_append, enc_cells_lost]; simp), (((hbel).trans hb1).trans hb2).trans hb3⟩
    · obtain rfl : j = l.length := by omega
      go_wp2
      go_ret
      rw [List.take_length] at hown
      exact ⟨_, rfl, hown, hbel⟩
end Go.Proofs.YtnnphploekchbaaDoor

