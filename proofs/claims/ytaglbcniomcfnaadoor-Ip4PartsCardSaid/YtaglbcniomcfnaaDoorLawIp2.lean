/- The walks of the statements Ip4Order, Ip4Parts. -/
import Derived.Test.YtaglbcniomcfnaaDoorLawIp
namespace Go.Proofs.YtaglbcniomcfnaaDoor
set_option linter.all false
open Go.RowKit

theorem u32_or_join (i t y : Nat) (ht : t % 2 ^ i = 0) (ht2 : t < 4294967296) (hy : y < 2 ^ i) (hy2 : y < 4294967296) (hs : t + y < 4294967296) : bits .or .u32 (t : Int) (y : Int) = ((t + y : Nat) : Int) := by
  show IntKind.u32.wrap ((BitVec.ofInt 32 (t : Int) ||| BitVec.ofInt 32 (y : Int)).toNat : Int) = _
  have e1 : BitVec.ofInt 32 (t : Int) = BitVec.ofNat 32 t := BitVec.ofInt_natCast ..
  have e2 : BitVec.ofInt 32 (y : Int) = BitVec.ofNat 32 y := BitVec.ofInt_natCast ..
  rw [e1, e2, BitVec.toNat_or, BitVec.toNat_ofNat, BitVec.toNat_ofNat, Nat.mod_eq_of_lt (by omega), Nat.mod_eq_of_lt (by omega), nat_join i t y ht hy, u32_wrapN hs]

set_option maxRecDepth 100000 in
set_option maxHeartbeats 8000000 in
theorem ip4Order_walk (a b c d : UInt8) (w : World) (hm : ML w) (ht : TB w) :
    Calls Tryd.prog 7 #[.int .u8 (a.toNat : Int), .int .u8 (b.toNat : Int), .int .u8 (c.toNat : Int), .int .u8 (d.toNat : Int)] w fun e w' => e = .returned (.bool true) ∧ Below w.heap.size w w' := by
  have ha := byte_lt a
  have hb := byte_lt b
  have hc := byte_lt c
  have hd := byte_lt d
  obtain ⟨x, hx⟩ : ∃ x : Nat, x = a.toNat := ⟨_, rfl⟩
  obtain ⟨y, hy⟩ : ∃ x : Nat, x = b.toNat := ⟨_, rfl⟩
  obtain ⟨z, hz⟩ : ∃ x : Nat, x = c.toNat := ⟨_, rfl⟩
  obtain ⟨t, ht'⟩ : ∃ x : Nat, x = d.toNat := ⟨_, rfl⟩
  rw [← hx] at ha ⊢
  rw [← hy] at hb ⊢
  rw [← hz] at hc ⊢
  rw [← ht'] at hd ⊢
  clear hx hy hz ht'
  obtain ⟨n, hn⟩ : ∃ n : Nat, n = x * 2 ^ 24 + y * 2 ^ 16 + z * 2 ^ 8 + t := ⟨_, rfl⟩
  have hn4 : n < 4294967296 := by omega
  have l1 := digs_byte ha
  have l2 := digs_byte hb
  have l3 := digs_byte hc
  have l4 := digs_byte hd
  have hs4 := show4_of ha hb hc hd
  rw [← hn] at hs4
  have b1 := ip4_back (a := n) hn4
  have b2 := ip4_five (a := n)
  have b3 := order_bad y z (small_huge (by omega))
  have C1 := Lib.hid fun w => ten6T_any x w (by omega)
  have C2 := Lib.hid fun w => ten6T_any y w (by omega)
  have C3 := Lib.hid fun w => ten6T_any z w (by omega)
  have C4 := Lib.hid fun w => ten6T_any t w (by omega)
  have C5 := Lib.hid fun w hm ht => show4_any n w hm ht hn4
  unfold tens at hs4 b3
  obtain ⟨P, hP⟩ : ∃ P, P = digs 10 x := ⟨_, rfl⟩
  obtain ⟨Q, hQ⟩ : ∃ P, P = digs 10 y := ⟨_, rfl⟩
  obtain ⟨R, hR⟩ : ∃ P, P = digs 10 z := ⟨_, rfl⟩
  obtain ⟨T, hT⟩ : ∃ P, P = digs 10 t := ⟨_, rfl⟩
  rw [← hP] at C1 l1 hs4
  rw [← hQ] at C2 l2 hs4 b3
  rw [← hR] at C3 l3 hs4 b3
  rw [← hT] at C4 l4 hs4
  have yP := str_size P
  have yQ := str_size Q
  have yR := str_size R
  have yT := str_size T
  obtain ⟨S1, hS1⟩ : ∃ S, S = P ++ [46] := ⟨_, rfl⟩
  have eS1 : str P ++ { data := #[46] } = str S1 := (str_app P [46]).trans (by rw [hS1])
  have nS1 : S1.length ≤ 4 := by rw [hS1, List.length_append]; simp only [List.length_cons, List.length_nil]; omega
  have yS1 := str_size S1
  have kS1 : (9223372036854775807 < P.length + 1) = False := eq_false (by omega)
  obtain ⟨S2, hS2⟩ : ∃ S, S = S1 ++ Q := ⟨_, rfl⟩
  have eS2 : str S1 ++ str Q = str S2 := (str_app S1 Q).trans (by rw [hS2])
  have nS2 : S2.length ≤ 7 := by rw [hS2, List.length_append]; omega
  have yS2 := str_size S2
  have kS2 : (9223372036854775807 < S1.length + Q.length) = False := eq_false (by omega)
  obtain ⟨S3, hS3⟩ : ∃ S, S = S2 ++ [46] := ⟨_, rfl⟩
  have eS3 : str S2 ++ { data := #[46] } = str S3 := (str_app S2 [46]).trans (by rw [hS3])
  have nS3 : S3.length ≤ 8 := by rw [hS3, List.length_append]; simp only [List.length_cons, List.length_nil]; omega
  have yS3 := str_size S3
  have kS3 : (9223372036854775807 < S2.length + 1) = False := eq_false (by omega)
  obtain ⟨S4, hS4⟩ : ∃ S, S = S3 ++ R := ⟨_, rfl⟩
  have eS4 : str S3 ++ str R = str S4 := (str_app S3 R).trans (by rw [hS4])
  have nS4 : S4.length ≤ 11 := by rw [hS4, List.length_append]; omega
  have yS4 := str_size S4
  have kS4 : (9223372036854775807 < S3.length + R.length) = False := eq_false (by omega)
  obtain ⟨S5, hS5⟩ : ∃ S, S = S4 ++ [46] := ⟨_, rfl⟩
  have eS5 : str S4 ++ { data := #[46] } = str S5 := (str_app S4 [46]).trans (by rw [hS5])
  have nS5 : S5.length ≤ 12 := by rw [hS5, List.length_append]; simp only [List.length_cons, List.length_nil]; omega
  have yS5 := str_size S5
  have kS5 : (9223372036854775807 < S4.length + 1) = False := eq_false (by omega)
  obtain ⟨S6, hS6⟩ : ∃ S, S = S5 ++ T := ⟨_, rfl⟩
  have eS6 : str S5 ++ str T = str S6 := (str_app S5 T).trans (by rw [hS6])
  have nS6 : S6.length ≤ 15 := by rw [hS6, List.length_append]; omega
  have yS6 := str_size S6
  have kS6 : (9223372036854775807 < S5.length + T.length) = False := eq_false (by omega)
  obtain ⟨S7, hS7⟩ : ∃ S, S = S6 ++ [46, 48] := ⟨_, rfl⟩
  have eS7 : str S6 ++ { data := #[46, 48] } = str S7 := (str_app S6 [46, 48]).trans (by rw [hS7])
  have nS7 : S7.length ≤ 17 := by rw [hS7, List.length_append]; simp only [List.length_cons, List.length_nil]; omega
  have yS7 := str_size S7
  have kS7 : (9223372036854775807 < S6.length + 2) = False := eq_false (by omega)
  obtain ⟨V0, hV0⟩ : ∃ S : List UInt8, S = [50, 53, 54, 46] := ⟨_, rfl⟩
  have lV0 : V0.length = 4 := by rw [hV0]; rfl
  obtain ⟨V1, hV1⟩ : ∃ S, S = V0 ++ Q := ⟨_, rfl⟩
  have eV1 : str V0 ++ str Q = str V1 := (str_app V0 Q).trans (by rw [hV1])
  have nV1 : V1.length ≤ 7 := by rw [hV1, List.length_append]; omega
  have yV1 := str_size V1
  have kV1 : (9223372036854775807 < V0.length + Q.length) = False := eq_false (by omega)
  obtain ⟨V2, hV2⟩ : ∃ S, S = V1 ++ [46] := ⟨_, rfl⟩
  have eV2 : str V1 ++ { data := #[46] } = str V2 := (str_app V1 [46]).trans (by rw [hV2])
  have nV2 : V2.length ≤ 8 := by rw [hV2, List.length_append]; simp only [List.length_cons, List.length_nil]; omega
  have yV2 := str_size V2
  have kV2 : (9223372036854775807 < V1.length + 1) = False := eq_false (by omega)
  obtain ⟨V3, hV3⟩ : ∃ S, S = V2 ++ R := ⟨_, rfl⟩
  have eV3 : str V2 ++ str R = str V3 := (str_app V2 R).trans (by rw [hV3])
  have nV3 : V3.length ≤ 11 := by rw [hV3, List.length_append]; omega
  have yV3 := str_size V3
  have kV3 : (9223372036854775807 < V2.length + R.length) = False := eq_false (by omega)
  have hE : pShow4 n = S6 := by rw [hs4, hS6, hS5, hS4, hS3, hS2, hS1]; simp
  rw [hE] at b1 b2 C5
  rw [show [50, 53, 54] ++ 46 :: (Q ++ 46 :: R) = V3 by rw [hV3, hV2, hV1, hV0]; simp] at b3
  rw [show S6 ++ [46, 48] = S7 from hS7.symm] at b2
  have C6 := Lib.hid fun w hm => parse4_any S6 w hm (by omega)
  have C7 := Lib.hid fun w hm => parse4_any S7 w hm (by omega)
  have C8 := Lib.hid fun w hm => parse4_any V3 w hm (by omega)
  rw [b1] at C6
  rw [b2] at C7
  rw [b3] at C8
  have ev1 : ({ data := #[50, 53, 54, 46] } : ByteArray) ++ str Q = str V1 := by rw [← eV1, hV0]; rfl
  have kv1 : (9223372036854775807 < 4 + Q.length) = False := eq_false (by omega)
  clear lV0 eV1 kV1 hV0 hV1 hV2 hV3 hS1 hS2 hS3 hS4 hS5 hS6 hS7 hE b1 b2 b3 hs4 hP hQ hR hT
  have o1 : bits .or .u32 ((x : Int) * 16777216) ((y : Int) * 65536) = ((x * 16777216 + y * 65536 : Nat) : Int) := by
    have := u32_or_join 24 (x * 16777216) (y * 65536) (by omega) (by omega) (by omega) (by omega) (by omega)
    simpa using this
  have o2 : bits .or .u32 ((x : Int) * 16777216 + (y : Int) * 65536) ((z : Int) * 256) = (x : Int) * 16777216 + (y : Int) * 65536 + (z : Int) * 256 := by
    have := u32_or_join 16 (x * 16777216 + y * 65536) (z * 256) (by omega) (by omega) (by omega) (by omega) (by omega)
    simpa using this
  have o3 : bits .or .u32 ((x : Int) * 16777216 + (y : Int) * 65536 + (z : Int) * 256) (t : Int) = (n : Int) := by
    have := u32_or_join 8 (x * 16777216 + y * 65536 + z * 256) t (by omega) (by omega) (by omega) (by omega) (by omega)
    rw [show x * 16777216 + y * 65536 + z * 256 + t = n by omega] at this
    simpa using this
  clear hn
  go_enter Tryd.func7, Tryd.ntmps7
  go_wp2_with (first
    | (go_at_call 14; go_must (go_fit (begun7_any w hm ht)); rintro e w1 ⟨rfl, hb1⟩; have hm1 := hm.next hb1; have ht1 := ht.next hb1)
    | (go_at_call 21; go_fit (C1.out w1); rintro e w2 ⟨rfl, hb2⟩)
    | (go_at_call 21; go_fit (C2.out w2); rintro e w3 ⟨rfl, hb3⟩)
    | (go_at_call 21; go_fit (C3.out w3); rintro e w4 ⟨rfl, hb4⟩)
    | (go_at_call 21; go_fit (C4.out w4); rintro e w5 ⟨rfl, hb5⟩; have hb15 := bnext (bnext (bnext (bnext hb1 hb2) hb3) hb4) hb5; have hm5 := hm.next hb15)
    | (go_at_call 15; go_fit (C6.out w5 hm5); rintro e w6 ⟨rfl, hb6⟩; have hm6 := hm5.next hb6)
    | (go_at_call 15; go_fit (C7.out w6 hm6); rintro e w7 ⟨rfl, hb7⟩; have hm7 := hm6.next hb7)
    | (go_at_call 21; go_fit (C2.out w7); rintro e w8 ⟨rfl, hb8⟩)
    | (go_at_call 21; go_fit (C3.out w8); rintro e w9 ⟨rfl, hb9⟩; have hb79 := bnext hb8 hb9; have hm9 := hm7.next hb79)
    | (go_at_call 15; go_fit (C8.out w9 hm9); rintro e wa ⟨rfl, hba⟩; have hbF := bnext (bnext (bnext (bnext hb15 hb6) hb7) hb79) hba; have hma := hm.next hbF; have hta := ht.next hbF)
    | (go_at_call 19; go_fit (C5.out wa hma hta); rintro e wb ⟨rfl, hbb⟩))
  go_ret
  exact ⟨rfl, bnext hbF hbb⟩
end Go.Proofs.YtaglbcniomcfnaaDoor

