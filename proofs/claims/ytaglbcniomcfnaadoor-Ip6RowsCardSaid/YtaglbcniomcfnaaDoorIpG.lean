/- The walks of the reference's Show4 and Ends. -/
import Derived.Test.YtaglbcniomcfnaaDoorIpF
namespace Go.Proofs.YtaglbcniomcfnaaDoor
set_option linter.all false
open Go.RowKit

theorem show4_digs (a : Nat) : pShow4 a = digs 10 (a / 2 ^ 24 % 256) ++ 46 :: (digs 10 (a / 2 ^ 16 % 256) ++ 46 :: (digs 10 (a / 2 ^ 8 % 256) ++ 46 :: digs 10 (a % 256))) := by
  rw [show4_fours]; unfold fours; simp [Lib.join]
theorem digs_byte {u : Nat} (h : u < 256) : (digs 10 u).length ≤ 3 := by
  have := digs_len (b := 10) (by decide) 3 u (by omega)
  omega
theorem show4_len {a : Nat} : (pShow4 a).length ≤ 15 := by
  have h1 := digs_byte (u := a / 2 ^ 24 % 256) (by omega)
  have h2 := digs_byte (u := a / 2 ^ 16 % 256) (by omega)
  have h3 := digs_byte (u := a / 2 ^ 8 % 256) (by omega)
  have h4 := digs_byte (u := a % 256) (by omega)
  rw [show4_digs]
  simp only [List.length_append, List.length_cons]
  omega
theorem u32_wrapN {x : Nat} (h : x < 4294967296) : IntKind.u32.wrap (x : Int) = (x : Int) := by
  simp [IntKind.wrap, IntKind.bits, IntKind.signed]; omega
theorem u32_and255 {x : Nat} (h : x < 4294967296) : bits .and .u32 (x : Int) 255 = ((x % 256 : Nat) : Int) := by
  show IntKind.u32.wrap ((BitVec.ofInt 32 (x : Int) &&& BitVec.ofInt 32 ((255 : Nat) : Int)).toNat : Int) = _
  have e1 : BitVec.ofInt 32 (x : Int) = BitVec.ofNat 32 x := BitVec.ofInt_natCast ..
  have e2 : BitVec.ofInt 32 ((255 : Nat) : Int) = BitVec.ofNat 32 255 := BitVec.ofInt_natCast ..
  rw [e1, e2, BitVec.toNat_and, BitVec.toNat_ofNat, BitVec.toNat_ofNat, Nat.mod_eq_of_lt h, Nat.mod_eq_of_lt (show 255 < 2 ^ 32 by decide), show (255 : Nat) = 2 ^ 8 - 1 from rfl, Nat.and_two_pow_sub_one_eq_mod, u32_wrapN (by omega)]
theorem u32_piece {a k q : Nat} (h : a < 4294967296) (hq : q = a / k % 256) : bits .and .u32 ((a : Int) / (k : Int)) 255 = (q : Int) := by
  rw [hq, ← u32_and255 (x := a / k) (Nat.lt_of_le_of_lt (Nat.div_le_self _ _) h)]; rfl

set_option maxRecDepth 100000 in
set_option maxHeartbeats 4000000 in
theorem rshow4_any (a : Nat) (w : World) (ha : a < 4294967296) : Calls Tryd.prog 20 #[.int .u32 (a : Int)] w fun e w' => e = .returned (.string (str (pShow4 a))) ∧ Below w.heap.size w w' := by
  obtain ⟨p, hp⟩ : ∃ p : Nat, p = a / 2 ^ 24 % 256 := ⟨_, rfl⟩
  obtain ⟨q, hq⟩ : ∃ q : Nat, q = a / 2 ^ 16 % 256 := ⟨_, rfl⟩
  obtain ⟨r, hr⟩ : ∃ r : Nat, r = a / 2 ^ 8 % 256 := ⟨_, rfl⟩
  obtain ⟨t, ht⟩ : ∃ t : Nat, t = a % 256 := ⟨_, rfl⟩
  have HS := Lib.hid (show4_digs a)
  rw [← hp, ← hq, ← hr, ← ht] at HS
  have b1 : p < 256 := by omega
  have b2 : q < 256 := by omega
  have b3 : r < 256 := by omega
  have b4 : t < 256 := by omega
  have C1 := Lib.hid fun w => ten6_any p w (by omega)
  have C2 := Lib.hid fun w => ten6_any q w (by omega)
  have C3 := Lib.hid fun w => ten6_any r w (by omega)
  have C4 := Lib.hid fun w => ten6_any t w (by omega)
  have l1 := digs_byte b1
  have l2 := digs_byte b2
  have l3 := digs_byte b3
  have l4 := digs_byte b4
  obtain ⟨P, hP⟩ : ∃ P, P = digs 10 p := ⟨_, rfl⟩
  obtain ⟨Q, hQ⟩ : ∃ Q, Q = digs 10 q := ⟨_, rfl⟩
  obtain ⟨R, hR⟩ : ∃ R, R = digs 10 r := ⟨_, rfl⟩
  obtain ⟨T, hT⟩ : ∃ T, T = digs 10 t := ⟨_, rfl⟩
  rw [← hP] at C1 l1 HS
  rw [← hQ] at C2 l2 HS
  rw [← hR] at C3 l3 HS
  rw [← hT] at C4 l4 HS
  have i1 : (a : Int) / 16777216 = (p : Int) := by omega
  have i2 : bits .and .u32 ((a : Int) / 65536) 255 = (q : Int) := u32_piece (k := 65536) ha hq
  have i3 : bits .and .u32 ((a : Int) / 256) 255 = (r : Int) := u32_piece (k := 256) ha hr
  have i4 : bits .and .u32 (a : Int) 255 = (t : Int) := by rw [u32_and255 ha, ht]
  have j1 : IntKind.u64.wrap (p : Int) = (p : Int) := IntWalk.u64_in _ (by omega)
  have j2 : IntKind.u64.wrap (q : Int) = (q : Int) := IntWalk.u64_in _ (by omega)
  have j3 : IntKind.u64.wrap (r : Int) = (r : Int) := IntWalk.u64_in _ (by omega)
  have j4 : IntKind.u64.wrap (t : Int) = (t : Int) := IntWalk.u64_in _ (by omega)
  obtain ⟨S1, hS1⟩ : ∃ S, S = P ++ [46] := ⟨_, rfl⟩
  obtain ⟨S2, hS2⟩ : ∃ S, S = S1 ++ Q := ⟨_, rfl⟩
  obtain ⟨S3, hS3⟩ : ∃ S, S = S2 ++ [46] := ⟨_, rfl⟩
  obtain ⟨S4, hS4⟩ : ∃ S, S = S3 ++ R := ⟨_, rfl⟩
  obtain ⟨S5, hS5⟩ : ∃ S, S = S4 ++ [46] := ⟨_, rfl⟩
  obtain ⟨S6, hS6⟩ : ∃ S, S = S5 ++ T := ⟨_, rfl⟩
  have hF : pShow4 a = S6 := by rw [HS.out, hS6, hS5, hS4, hS3, hS2, hS1]; simp
  rw [hF]
  have e1 : str P ++ { data := #[46] } = str S1 := (str_app P [46]).trans (by rw [hS1])
  have e2 : str S1 ++ str Q = str S2 := (str_app S1 Q).trans (by rw [hS2])
  have e3 : str S2 ++ { data := #[46] } = str S3 := (str_app S2 [46]).trans (by rw [hS3])
  have e4 : str S3 ++ str R = str S4 := (str_app S3 R).trans (by rw [hS4])
  have e5 : str S4 ++ { data := #[46] } = str S5 := (str_app S4 [46]).trans (by rw [hS5])
  have e6 : str S5 ++ str T = str S6 := (str_app S5 T).trans (by rw [hS6])
  have n1 : S1.length ≤ 4 := by rw [hS1, List.length_append]; simp; omega
  have n2 : S2.length ≤ 7 := by rw [hS2, List.length_append]; omega
  have n3 : S3.length ≤ 8 := by rw [hS3, List.length_append]; simp; omega
  have n4 : S4.length ≤ 11 := by rw [hS4, List.length_append]; omega
  have n5 : S5.length ≤ 12 := by rw [hS5, List.length_append]; simp; omega
  have y0 := str_size P
  have y1 := str_size S1
  have y2 := str_size S2
  have y3 := str_size S3
  have y4 := str_size S4
  have y5 := str_size S5
  have z2 := str_size Q
  have z3 := str_size R
  have z4 := str_size T
  have k1 : (9223372036854775807 < P.length + 1) = False := eq_false (by omega)
  have k2 : (9223372036854775807 < S1.length + Q.length) = False := eq_false (by omega)
  have k3 : (9223372036854775807 < S2.length + 1) = False := eq_false (by omega)
  have k4 : (9223372036854775807 < S3.length + R.length) = False := eq_false (by omega)
  have k5 : (9223372036854775807 < S4.length + 1) = False := eq_false (by omega)
  have k6 : (9223372036854775807 < S5.length + T.length) = False := eq_false (by omega)
  clear hP hQ hR hT hp hq hr ht HS hF hS1 hS2 hS3 hS4 hS5 hS6
  go_enter Tryd.func20, Tryd.ntmps20
  go_wp2_with (first
    | (go_at_call 35; go_fit (C1.out _); rintro e w1 ⟨rfl, hb1⟩)
    | (go_at_call 35; go_fit (C2.out _); rintro e w2 ⟨rfl, hb2⟩)
    | (go_at_call 35; go_fit (C3.out _); rintro e w3 ⟨rfl, hb3⟩)
    | (go_at_call 35; go_fit (C4.out _); rintro e w4 ⟨rfl, hb4⟩))
  go_ret
  exact ⟨rfl, bnext (bnext (bnext hb1 hb2) hb3) hb4⟩
end Go.Proofs.YtaglbcniomcfnaaDoor

