/- The walks of the statement's base, and of the statement Ip4Parts. -/
import Derived.Test.YtaglbcniomcfnaaDoorLawIp2
namespace Go.Proofs.YtaglbcniomcfnaaDoor
set_option linter.all false
open Go.RowKit

theorem hex_lit : ∀ d, d < 16 → (({ data := #[48, 49, 50, 51, 52, 53, 54, 55, 56, 57, 97, 98, 99, 100, 101, 102] } : ByteArray).extract d (d + 1)).data.toList = [dch d] := by decide +kernel
theorem hex_lit' {d : Nat} (h : d < 16) : ({ data := #[48, 49, 50, 51, 52, 53, 54, 55, 56, 57, 97, 98, 99, 100, 101, 102] } : ByteArray).extract d (d + 1) = str [dch d] := by
  rw [← str_of (ByteArray.extract _ d (d + 1)), hex_lit d h]

set_option maxRecDepth 100000 in
set_option maxHeartbeats 4000000 in
theorem base7_any (n b : Nat) (F : List UInt8) (w : World) (hn : n < 18446744073709551616) (hb : 2 ≤ b) (hb16 : b ≤ 16) (hF : F.length ≤ 10) : Calls Tryd.prog 22 #[.int .u64 (n : Int), .int .u64 (b : Int), .string (str F)] w fun e w' => e = .returned (.string (str (F ++ digs b n))) ∧ Below w.heap.size w w' := by
  have hlen := Lib.hid (digs_len hb 64 n (Nat.lt_of_lt_of_le (show n < 2 ^ 64 by omega) (Nat.pow_le_pow_left hb 64)))
  have hzb : ((b : Int) == 0) = false := by rw [beq_eq_false_iff_ne]; omega
  have hzb2 : ¬ (b : Int) = 0 := by omega
  have yF := str_size F
  go_enter Tryd.func22, Tryd.ntmps22
  go_wp2
  go_loopg [0, 7] n (fun k s0 s7 wr => ∃ (m : Nat) (T : List UInt8), k = m ∧ s0 = .int .u64 (k : Int) ∧ s7 = .string (str T) ∧ k ≤ n ∧ T.length ≤ 64 ∧ Hid (digs b n = digs b k ++ T) ∧ Below w.heap.size w wr)
  case atStart => exact ⟨n, [], rfl, rfl, rfl, Nat.le_refl _, by simp, (List.append_nil _).symm, Below.refl _ _⟩
  case round =>
    obtain ⟨_, T, rfl, rfl, rfl, hm, hT, hD, hbel⟩ := hrel
    have hq0 := hbel.size
    obtain ⟨d, hd⟩ : ∃ d : Nat, d = gk % b := ⟨_, rfl⟩
    obtain ⟨q, hq⟩ : ∃ q : Nat, q = gk / b := ⟨_, rfl⟩
    have hdb : d < b := by rw [hd]; exact Nat.mod_lt _ (by omega)
    have hd16 : d < 16 := by omega
    have hqk : q ≤ gk := by rw [hq]; exact Nat.div_le_self _ _
    have hrem : ((gk : Int)).tmod (b : Int) = (d : Int) := by rw [hd]; exact (Int.ofNat_tmod gk b).symm
    have hquo : ((gk : Int)).tdiv (b : Int) = (q : Int) := by rw [hq]; exact (Int.ofNat_tdiv gk b).symm
    have hx := hex_lit' hd16
    have hv0 : IntKind.u64.wrap (d : Int) = (d : Int) := IntWalk.u64_in _ (by omega)
    have hv1 : IntKind.u64.wrap ((d : Int) + 1) = (d : Int) + 1 := IntWalk.u64_in _ (by omega)
    have hv3 : IntKind.u64.wrap (q : Int) = (q : Int) := IntWalk.u64_in _ (by omega)
    have e1 : str [dch d] ++ str T = str (dch d :: T) := str_app [dch d] T
    have y1 := str_size T
    have y2 : (str [dch d]).size = 1 := str_size [dch d]
    have k1 : (9223372036854775807 < 1 + T.length) = False := eq_false (by omega)
    have hlz : ∀ t : Nat, q = 0 → gk < b := fun _ h => by
      rw [hq] at h
      rcases Nat.lt_or_ge gk b with h1 | h1
      · exact h1
      · have := (Nat.le_div_iff_mul_le (show 0 < b by omega)).2 (show 1 * b ≤ gk by omega); omega
    by_cases hq1 : q = 0
    · have hkb := hlz 0 hq1
      have HF := Lib.hid (show digs b n = dch d :: T by
        rw [hD.out, digs_small hkb, show d = gk by rw [hd]; exact Nat.mod_eq_of_lt hkb]; rfl)
      have hz : ((q : Int) == 0) = true := by rw [beq_iff_eq]; omega
      have HL := Lib.hid (show (dch d :: T).length ≤ 64 by
        have h1 := hlen.out
        rw [HF.out] at h1
        omega)
      have y3 := str_size (dch d :: T)
      have e3 := str_app F (dch d :: T)
      have k3 : (9223372036854775807 < F.length + (dch d :: T).length) = False := eq_false (by have := HL.out; omega)
      rw [List.length_cons] at k3
      clear hd hq hlz
      go_wp2
      go_region
      all_goals go_wp2
      all_goals go_ret
      all_goals exact ⟨by rw [HF.out]; rfl, hbel.drew⟩
    · have hbk : b ≤ gk := by
        rcases Nat.lt_or_ge gk b with h1 | h1
        · exact absurd (by rw [hq]; exact Nat.div_eq_of_lt h1) hq1
        · exact h1
      have HF := Lib.hid (show digs b n = digs b q ++ dch d :: T by
        rw [hD.out, digs_big hb hbk, ← hq, ← hd, List.append_assoc]; rfl)
      have hz : ((q : Int) == 0) = false := by rw [beq_eq_false_iff_ne]; omega
      have hqm : q < gk := by rw [hq]; exact Nat.div_lt_self (by omega) (by omega)
      have HT := Lib.hid (show (dch d :: T).length ≤ 64 by
        have h1 := hlen.out
        rw [HF.out, List.length_append] at h1
        omega)
      clear hd hq hq1 hlz
      go_wp2
      go_region
      all_goals go_wp2
      all_goals go_roundg q
      all_goals first
        | (case measure => omega)
        | (case rel => exact ⟨q, dch d :: T, rfl, by go_num, rfl, by omega, HT.out, HF.out, hbel.drew⟩)

theorem u32_and_low {x : Nat} (k : Nat) (hk : k ≤ 31) (h : x < 4294967296) : bits .and .u32 (x : Int) ((2 ^ k - 1 : Nat) : Int) = ((x % 2 ^ k : Nat) : Int) := by
  have hp : 2 ^ k ≤ 2 ^ 31 := Nat.pow_le_pow_right (by decide) hk
  show IntKind.u32.wrap ((BitVec.ofInt 32 (x : Int) &&& BitVec.ofInt 32 ((2 ^ k - 1 : Nat) : Int)).toNat : Int) = _
  have e1 : BitVec.ofInt 32 (x : Int) = BitVec.ofNat 32 x := BitVec.ofInt_natCast ..
  have e2 : BitVec.ofInt 32 ((2 ^ k - 1 : Nat) : Int) = BitVec.ofNat 32 (2 ^ k - 1) := BitVec.ofInt_natCast ..
  have h0 : 0 < 2 ^ k := Nat.two_pow_pos k
  rw [e1, e2, BitVec.toNat_and, BitVec.toNat_ofNat, BitVec.toNat_ofNat, Nat.mod_eq_of_lt h, Nat.mod_eq_of_lt (show 2 ^ k - 1 < 2 ^ 32 by omega), Nat.and_two_pow_sub_one_eq_mod, u32_wrapN (by have := Nat.mod_lt x h0; omega)]

set_option maxRecDepth 100000 in
set_option maxHeartbeats 8000000 in
theorem ip4Parts_walk (a : Nat) (ha : a < 4294967296) (w : World) (hm : ML w) (ht : TB w) :
    Calls Tryd.prog 5 #[.int .u32 (a : Int)] w fun e w' => e = .returned (.bool true) ∧ Below w.heap.size w w' := by
  have hall := parts_all (a := a) (by omega)
  unfold tens at hall
  obtain ⟨p, hp⟩ : ∃ p : Nat, p = a / 2 ^ 24 := ⟨_, rfl⟩
  obtain ⟨q, hq⟩ : ∃ p : Nat, p = a / 2 ^ 16 % 256 := ⟨_, rfl⟩
  obtain ⟨r, hr⟩ : ∃ p : Nat, p = a % 2 ^ 16 := ⟨_, rfl⟩
  obtain ⟨m, hm'⟩ : ∃ p : Nat, p = a % 2 ^ 24 := ⟨_, rfl⟩
  rw [← hp, ← hq, ← hr, ← hm'] at hall
  have b1 : p < 256 := by omega
  have b2 : q < 256 := by omega
  have b3 : r < 65536 := by omega
  have b4 : m < 16777216 := by omega
  have i1 : (a : Int) / 16777216 = (p : Int) := by omega
  have i2 : bits .and .u32 ((a : Int) / 65536) 255 = (q : Int) := u32_piece (k := 65536) ha hq
  have i3 : bits .and .u32 (a : Int) 65535 = (r : Int) := by rw [hr]; exact u32_and_low 16 (by decide) ha
  have i4 : bits .and .u32 (a : Int) 16777215 = (m : Int) := by rw [hm']; exact u32_and_low 24 (by decide) ha
  have j0 : IntKind.u64.wrap (a : Int) = (a : Int) := IntWalk.u64_in _ (by omega)
  have j1 : IntKind.u64.wrap (p : Int) = (p : Int) := IntWalk.u64_in _ (by omega)
  have j2 : IntKind.u64.wrap (q : Int) = (q : Int) := IntWalk.u64_in _ (by omega)
  have j3 : IntKind.u64.wrap (r : Int) = (r : Int) := IntWalk.u64_in _ (by omega)
  have j4 : IntKind.u64.wrap (m : Int) = (m : Int) := IntWalk.u64_in _ (by omega)
  have D1 := Lib.hid fun w => ten6T_any a w (by omega)
  have D2 := Lib.hid fun w => ten6T_any p w (by omega)
  have D3 := Lib.hid fun w => ten6T_any m w (by omega)
  have D4 := Lib.hid fun w => ten6T_any q w (by omega)
  have D5 := Lib.hid fun w => ten6T_any r w (by omega)
  have E1 := Lib.hid fun w => base7_any a 8 [48] w (by omega) (by decide) (by decide) (by decide)
  have E2 := Lib.hid fun w => base7_any a 16 [48, 120] w (by omega) (by decide) (by decide) (by decide)
  have E3 := Lib.hid fun w => base7_any p 16 [48, 88] w (by omega) (by decide) (by decide) (by decide)
  have E4 := Lib.hid fun w => base7_any m 8 [48, 48] w (by omega) (by decide) (by decide) (by decide)
  have lA := digs_len (b := 10) (by decide) 10 a (by omega)
  have lP := digs_byte b1
  have lM := digs_len (b := 10) (by decide) 8 m (by omega)
  have lQ := digs_byte b2
  have lR := digs_len (b := 10) (by decide) 5 r (by omega)
  have lO := digs_len (b := 8) (by decide) 11 a (by omega)
  have lX := digs_len (b := 16) (by decide) 8 a (by omega)
  have lY := digs_len (b := 16) (by decide) 2 p (by omega)
  have lZ := digs_len (b := 8) (by decide) 8 m (by omega)
  obtain ⟨A0, hA0⟩ : ∃ P, P = digs 10 a := ⟨_, rfl⟩
  obtain ⟨P, hP⟩ : ∃ P, P = digs 10 p := ⟨_, rfl⟩
  obtain ⟨M, hM⟩ : ∃ P, P = digs 10 m := ⟨_, rfl⟩
  obtain ⟨Q, hQ⟩ : ∃ P, P = digs 10 q := ⟨_, rfl⟩
  obtain ⟨R, hR⟩ : ∃ P, P = digs 10 r := ⟨_, rfl⟩
  rw [← hA0] at D1 lA
  rw [← hP] at D2 lP
  rw [← hM] at D3 lM
  rw [← hQ] at D4 lQ
  rw [← hR] at D5 lR
  obtain ⟨O, hO⟩ : ∃ P, P = [48] ++ digs 8 a := ⟨_, rfl⟩
  obtain ⟨X, hX⟩ : ∃ P, P = [48, 120] ++ digs 16 a := ⟨_, rfl⟩
  obtain ⟨Y, hY⟩ : ∃ P, P = [48, 88] ++ digs 16 p := ⟨_, rfl⟩
  obtain ⟨Z, hZ⟩ : ∃ P, P = [48, 48] ++ digs 8 m := ⟨_, rfl⟩
  rw [← hO] at E1
  rw [← hX] at E2
  rw [← hY] at E3
  rw [← hZ] at E4
  have lO' : O.length ≤ 12 := by rw [hO, List.length_append]; simp only [List.length_cons, List.length_nil]; omega
  have lX' : X.length ≤ 10 := by rw [hX, List.length_append]; simp only [List.length_cons, List.length_nil]; omega
  have lY' : Y.length ≤ 4 := by rw [hY, List.length_append]; simp only [List.length_cons, List.length_nil]; omega
  have lZ' : Z.length ≤ 10 := by rw [hZ, List.length_append]; simp only [List.length_cons, List.length_nil]; omega
  have yP := str_size P
  have yM := str_size M
  have yQ := str_size Q
  have yR := str_size R
  have yY := str_size Y
  have yZ := str_size Z
  obtain ⟨S1, hS1⟩ : ∃ S, S = P ++ [46] := ⟨_, rfl⟩
  have eS1 : str P ++ { data := #[46] } = str S1 := (str_app P [46]).trans (by rw [hS1])
  have nS1 : S1.length ≤ 4 := by rw [hS1, List.length_append]; simp only [List.length_cons, List.length_nil]; omega
  have yS1 := str_size S1
  have kS1 : (9223372036854775807 < P.length + 1) = False := eq_false (by omega)
  obtain ⟨S2, hS2⟩ : ∃ S, S = S1 ++ M := ⟨_, rfl⟩
  have eS2 : str S1 ++ str M = str S2 := (str_app S1 M).trans (by rw [hS2])
  have nS2 : S2.length ≤ 12 := by rw [hS2, List.length_append]; omega
  have yS2 := str_size S2
  have kS2 : (9223372036854775807 < S1.length + M.length) = False := eq_false (by omega)
  obtain ⟨U1, hU1⟩ : ∃ S, S = S1 ++ Q := ⟨_, rfl⟩
  have eU1 : str S1 ++ str Q = str U1 := (str_app S1 Q).trans (by rw [hU1])
  have nU1 : U1.length ≤ 7 := by rw [hU1, List.length_append]; omega
  have yU1 := str_size U1
  have kU1 : (9223372036854775807 < S1.length + Q.length) = False := eq_false (by omega)
  obtain ⟨U2, hU2⟩ : ∃ S, S = U1 ++ [46] := ⟨_, rfl⟩
  have eU2 : str U1 ++ { data := #[46] } = str U2 := (str_app U1 [46]).trans (by rw [hU2])
  have nU2 : U2.length ≤ 8 := by rw [hU2, List.length_append]; simp only [List.length_cons, List.length_nil]; omega
  have yU2 := str_size U2
  have kU2 : (9223372036854775807 < U1.length + 1) = False := eq_false (by omega)
  obtain ⟨U3, hU3⟩ : ∃ S, S = U2 ++ R := ⟨_, rfl⟩
  have eU3 : str U2 ++ str R = str U3 := (str_app U2 R).trans (by rw [hU3])
  have nU3 : U3.length ≤ 13 := by rw [hU3, List.length_append]; omega
  have yU3 := str_size U3
  have kU3 : (9223372036854775807 < U2.length + R.length) = False := eq_false (by omega)
  obtain ⟨V1, hV1⟩ : ∃ S, S = Y ++ [46] := ⟨_, rfl⟩
  have eV1 : str Y ++ { data := #[46] } = str V1 := (str_app Y [46]).trans (by rw [hV1])
  have nV1 : V1.length ≤ 5 := by rw [hV1, List.length_append]; simp only [List.length_cons, List.length_nil]; omega
  have yV1 := str_size V1
  have kV1 : (9223372036854775807 < Y.length + 1) = False := eq_false (by omega)
  obtain ⟨V2, hV2⟩ : ∃ S, S = V1 ++ Z := ⟨_, rfl⟩
  have eV2 : str V1 ++ str Z = str V2 := (str_app V1 Z).trans (by rw [hV2])
  have nV2 : V2.length ≤ 15 := by rw [hV2, List.length_append]; omega
  have yV2 := str_size V2
  have kV2 : (9223372036854775807 < V1.length + Z.length) = False := eq_false (by omega)
  obtain ⟨L, hL⟩ : ∃ L, L = [A0, S2, U3, O, X, V2] := ⟨_, rfl⟩
  have hok : ∀ x ∈ L, pParse x = some a ∧ x.length ≤ 20 := by
    obtain ⟨q1, q2, q3, q4, q5, q6⟩ := hall
    rw [← hA0] at q1
    rw [← hP, ← hM] at q2
    rw [← hP, ← hQ, ← hR] at q3
    intro x hx
    rw [hL] at hx
    simp only [List.mem_cons, List.not_mem_nil, or_false] at hx
    rcases hx with rfl | rfl | rfl | rfl | rfl | rfl
    · exact ⟨q1, by omega⟩
    · exact ⟨by rw [hS2, hS1, List.append_assoc]; exact q2, by omega⟩
    · exact ⟨by rw [hU3, hU2, hU1, hS1]; simpa using q3, by omega⟩
    · exact ⟨by rw [hO]; exact q4, by omega⟩
    · exact ⟨by rw [hX]; exact q5, by omega⟩
    · exact ⟨by rw [hV2, hV1, hY, hZ]; simpa using q6, by omega⟩
  have HOK := Lib.hid hok
  have HL := Lib.hid hL
  clear hall hok hL hS1 hS2 hU1 hU2 hU3 hV1 hV2 hO hX hY hZ hA0 hP hQ hR hM hp hq hr hm' lO lX lY lZ
  go_enter Tryd.func5, Tryd.ntmps5
  go_wp2_with (first
    | (go_at_call 14; go_must (go_fit (begun7_any w hm ht)); rintro e w1 ⟨rfl, hb1⟩; have hm1 := hm.next hb1)
    | (go_at_call 21; go_fit (D1.out w1); rintro e w2 ⟨rfl, hb2⟩)
    | (go_at_call 21; go_fit (D2.out w2); rintro e w3 ⟨rfl, hb3⟩)
    | (go_at_call 21; go_fit (D3.out w3); rintro e w4 ⟨rfl, hb4⟩)
    | (go_at_call 21; go_fit (D2.out w4); rintro e w5 ⟨rfl, hb5⟩)
    | (go_at_call 21; go_fit (D4.out w5); rintro e w6 ⟨rfl, hb6⟩)
    | (go_at_call 21; go_fit (D5.out w6); rintro e w7 ⟨rfl, hb7⟩)
    | (go_at_call 22; go_fit (E1.out w7); rintro e w8 ⟨rfl, hb8⟩)
    | (go_at_call 22; go_fit (E2.out w8); rintro e w9 ⟨rfl, hb9⟩)
    | (go_at_call 22; go_fit (E3.out w9); rintro e wa ⟨rfl, hba⟩)
    | (go_at_call 22; go_fit (E4.out wa); rintro e wb ⟨rfl, hbb⟩; have hbF := bnext (bnext (bnext (bnext (bnext (bnext (bnext (bnext (bnext (bnext hb1 hb2) hb3) hb4) hb5) hb6) hb7) hb8) hb9) hba) hbb))
  have hF : Rd (wb.alloc (.cells (strs L).toArray 9)) (wb.alloc (.cells (strs L).toArray 9)).heap.size (some ⟨wb.heap.size, 0, none⟩) (strs L) := by
    have := @Rd.lit wb (strs L).toArray 9 (0, 0)
    simpa using this
  have hbG := bnew hbF (.cells (strs L).toArray 9)
  obtain ⟨wc, hwc⟩ : ∃ wc, wc = wb.alloc (.cells (strs L).toArray 9) := ⟨_, rfl⟩
  rw [← hwc] at hF hbG
  have HW := Lib.hid hwc
  have hmc := hm.next hbG
  clear hwc hbF hb1 hb2 hb3 hb4 hb5 hb6 hb7 hb8 hb9 hba hbb
  go_loopg [8] 6 (fun k i wr => ∃ j : Nat, k = 6 - j ∧ j ≤ 6 ∧ i = .int .i64 j ∧ Below wc.heap.size wc wr)
  case atStart => exact ⟨0, rfl, Nat.zero_le _, rfl, by rw [HW.out, HL.out]; exact Below.refl _ _⟩
  case round =>
    obtain ⟨j, rfl, hj, rfl, hbel⟩ := hrel
    by_cases hlt : j < 6
    · obtain ⟨b, off, x, hA, hb, hc, hx⟩ := (hF.below hbel).str_at (k := j) (by rw [HL.out]; exact hlt)
      injection hA with hA; injection hA with hA1 hA2'; subst hA1; subst hA2'
      obtain ⟨f1, f2⟩ := HOK.out x (List.mem_of_getElem? hx.out)
      rw [Nat.zero_add] at hc
      have hlt1 : (j : Int) < 6 := by omega
      have hj0 : (0 : Int) ≤ (j : Int) := by omega
      have C2 := Lib.hid (parse4_any x wr (hmc.next hbel) (by omega))
      rw [f1] at C2
      clear f1
      go_wp2_with (go_at_call 15; go_must (go_fit C2.out); rintro e w5 ⟨rfl, hb5⟩)
      go_roundg (6 - (j + 1))
      case measure => omega
      case rel => exact ⟨j + 1, rfl, by omega, by go_num, hbel.trans (hb5.mono hbel.size)⟩
    · obtain rfl : j = 6 := by omega
      clear hlt
      go_wp2
      go_ret
      exact ⟨rfl, hbG.trans (hbel.mono hbG.size)⟩
end Go.Proofs.YtaglbcniomcfnaaDoor

