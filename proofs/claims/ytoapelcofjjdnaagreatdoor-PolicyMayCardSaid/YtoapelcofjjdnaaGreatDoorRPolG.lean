/- A part of the proof. -/
import Derived.Test.YtoapelcofjjdnaaGreatDoorRPolF
import Derived.Test.YtoapelcofjjdnaaGreatDoorR24
import Derived.Test.YtoapelcofjjdnaaGreatDoorR18
namespace Go.Proofs.YtoapelcofjjdnaaGreatDoor
set_option linter.all false
open Go.RowKit
theorem itoa14_any (u : Nat) (hu : u ≤ 65535) (w : World) (ht : TB w) : Calls Tryz.prog 86 #[.int .i64 (u : Int)] w fun e w' => e = .returned (.string (str (digs 10 u))) ∧ Below w.heap.size w w' := by
 refine (Tryz.strconv_Itoa (u : Int) (by omega) (by omega) w ht).mono fun e w' ⟨he, k, os, hw⟩ => ⟨?_, hw ▸ below_grow (Nat.le_refl _) k os⟩
 rw [he, digs_ten]
 unfold Lib.itoa
 rw [if_neg (by omega)]
 rfl
theorem port_len {n : Nat} (h : n ≤ 65535) : (digs 10 n).length ≤ 5 := by have := digs_len (b := 10) (by decide) 5 n (by omega); omega
def uShowF (sch host q f : List UInt8) (L : List (List UInt8)) (port : Int) (asks marks : Bool) : List UInt8 :=
 sch ++ [58] ++ ([47, 47] ++ host) ++ (if port = -1 then [] else [58] ++ digs 10 port.toNat) ++ pShowP L ++ (if asks = true then [63] ++ q else []) ++ (if marks = true then [35] ++ f else [])
set_option maxRecDepth 100000 in
set_option maxHeartbeats 16000000 in
theorem pshow14 (sch host q f : List UInt8) (L : List (List UInt8)) (port : Int) (asks marks : Bool) (hp : -1 ≤ port ∧ port ≤ 65535) (A : Option Addr) (c : Nat) (w : World) (hr : Rd w w.heap.size A (strs L)) (ht : TB w) (h1 : sch.length ≤ 300) (h2 : host.length ≤ 1000) (h3 : q.length ≤ 900) (h4 : f.length ≤ 900) (h5 : L.length ≤ 301) (h6 : (pShowP L).length ≤ 1000000) :
  Calls Tryz.prog 65 #[.agg #[.string (str sch), .string (str host), .bool true, .int .i64 port, .slice A L.length c, .bool false, .string (str q), .bool asks, .string (str f), .bool marks]] w fun e w' => e = .returned (.string (str (uShowF sch host q f L port asks marks))) ∧ Below w.heap.size w w' := by
 obtain ⟨T, hT⟩ : ∃ T, T = uShowF sch host q f L port asks marks := ⟨_, rfl⟩
 rw [← hT]
 have y1 := str_size sch
 have y2 := str_size host
 have y3 := str_size q
 have y4 := str_size f
 have hB0 : Below w.heap.size w (w.alloc (.cells #[.string (str sch), .string (str host), .bool true, .int .i64 port, .slice A L.length c, .bool false, .string (str q), .bool asks, .string (str f), .bool marks] 44)) := bnew (Below.refl _ _) _
 have hr0 := hr.far hB0
 have ht0 := ht.next hB0
 obtain ⟨PS, hPS⟩ : ∃ PS, PS = pShowP L := ⟨_, rfl⟩
 have y5 := str_size PS
 have h6' : PS.length ≤ 1000000 := by rw [hPS]; exact h6
 have CP := Lib.hid fun (w' : World) (hr' : Rd w' w'.heap.size A (strs L)) => pshow_any A c L w' hr' (by omega) (by omega)
 rw [← hPS] at CP
 obtain ⟨D, hD⟩ : ∃ D, D = digs 10 port.toNat := ⟨_, rfl⟩
 have hDl : D.length ≤ 5 := by rw [hD]; exact port_len (by omega)
 have y6 := str_size D
 obtain ⟨S1, hS1⟩ : ∃ Z0, Z0 = sch ++ [58] := ⟨_, rfl⟩
 have eS1 : str sch ++ { data := #[58] } = str S1 := (str_app sch [58]).trans (by rw [hS1])
 have nS1 : S1.length ≤ 301 := by rw [hS1, List.length_append]; simp only [List.length_cons, List.length_nil]; omega
 have yS1 := str_size S1
 have kS1 : (9223372036854775807 < sch.length + 1) = False := eq_false (by omega)
 obtain ⟨T1, hT1⟩ : ∃ Z0, Z0 = [47, 47] ++ host := ⟨_, rfl⟩
 have eT1 : ({ data := #[47, 47] } : ByteArray) ++ str host = str T1 := (str_app [47, 47] host).trans (by rw [hT1])
 have nT1 : T1.length ≤ 1002 := by rw [hT1, List.length_append]; simp only [List.length_cons, List.length_nil]; omega
 have yT1 := str_size T1
 have kT1 : (9223372036854775807 < 2 + host.length) = False := eq_false (by omega)
 obtain ⟨S2, hS2⟩ : ∃ Z0, Z0 = S1 ++ T1 := ⟨_, rfl⟩
 have eS2 : str S1 ++ str T1 = str S2 := (str_app S1 T1).trans (by rw [hS2])
 have nS2 : S2.length ≤ 1303 := by rw [hS2, List.length_append]; omega
 have yS2 := str_size S2
 have kS2 : (9223372036854775807 < S1.length + T1.length) = False := eq_false (by omega)
 obtain ⟨T2, hT2⟩ : ∃ Z0, Z0 = [58] ++ D := ⟨_, rfl⟩
 have eT2 : ({ data := #[58] } : ByteArray) ++ str D = str T2 := (str_app [58] D).trans (by rw [hT2])
 have nT2 : T2.length ≤ 6 := by rw [hT2, List.length_append]; simp only [List.length_cons, List.length_nil]; omega
 have yT2 := str_size T2
 have kT2 : (9223372036854775807 < 1 + D.length) = False := eq_false (by omega)
 obtain ⟨S3, hS3⟩ : ∃ Z0, Z0 = S2 ++ T2 := ⟨_, rfl⟩
 have eS3 : str S2 ++ str T2 = str S3 := (str_app S2 T2).trans (by rw [hS3])
 have nS3 : S3.length ≤ 1309 := by rw [hS3, List.length_append]; omega
 have yS3 := str_size S3
 have kS3 : (9223372036854775807 < S2.length + T2.length) = False := eq_false (by omega)
 obtain ⟨Sp, hSp⟩ : ∃ Z0, Z0 = if port = -1 then S2 else S3 := ⟨_, rfl⟩
 have nSp : Sp.length ≤ 1309 := by rw [hSp]; split <;> omega
 obtain ⟨S4, hS4⟩ : ∃ Z0, Z0 = Sp ++ PS := ⟨_, rfl⟩
 have eS4 : str Sp ++ str PS = str S4 := (str_app Sp PS).trans (by rw [hS4])
 have nS4 : S4.length ≤ 1001309 := by rw [hS4, List.length_append]; omega
 have yS4 := str_size S4
 have kS4 : (9223372036854775807 < Sp.length + PS.length) = False := eq_false (by omega)
 obtain ⟨T3, hT3⟩ : ∃ Z0, Z0 = [63] ++ q := ⟨_, rfl⟩
 have eT3 : ({ data := #[63] } : ByteArray) ++ str q = str T3 := (str_app [63] q).trans (by rw [hT3])
 have nT3 : T3.length ≤ 901 := by rw [hT3, List.length_append]; simp only [List.length_cons, List.length_nil]; omega
 have yT3 := str_size T3
 have kT3 : (9223372036854775807 < 1 + q.length) = False := eq_false (by omega)
 obtain ⟨S5, hS5⟩ : ∃ Z0, Z0 = S4 ++ T3 := ⟨_, rfl⟩
 have eS5 : str S4 ++ str T3 = str S5 := (str_app S4 T3).trans (by rw [hS5])
 have nS5 : S5.length ≤ 1002210 := by rw [hS5, List.length_append]; omega
 have yS5 := str_size S5
 have kS5 : (9223372036854775807 < S4.length + T3.length) = False := eq_false (by omega)
 obtain ⟨Sa, hSa⟩ : ∃ Z0, Z0 = if asks = true then S5 else S4 := ⟨_, rfl⟩
 have nSa : Sa.length ≤ 1002210 := by rw [hSa]; split <;> omega
 obtain ⟨T4, hT4⟩ : ∃ Z0, Z0 = [35] ++ f := ⟨_, rfl⟩
 have eT4 : ({ data := #[35] } : ByteArray) ++ str f = str T4 := (str_app [35] f).trans (by rw [hT4])
 have nT4 : T4.length ≤ 901 := by rw [hT4, List.length_append]; simp only [List.length_cons, List.length_nil]; omega
 have yT4 := str_size T4
 have kT4 : (9223372036854775807 < 1 + f.length) = False := eq_false (by omega)
 obtain ⟨S6, hS6⟩ : ∃ Z0, Z0 = Sa ++ T4 := ⟨_, rfl⟩
 have eS6 : str Sa ++ str T4 = str S6 := (str_app Sa T4).trans (by rw [hS6])
 have nS6 : S6.length ≤ 1003111 := by rw [hS6, List.length_append]; omega
 have yS6 := str_size S6
 have kS6 : (9223372036854775807 < Sa.length + T4.length) = False := eq_false (by omega)
 obtain ⟨Sm, hSm⟩ : ∃ Z0, Z0 = if marks = true then S6 else Sa := ⟨_, rfl⟩
 have nSm : Sm.length ≤ 1003111 := by rw [hSm]; split <;> omega
 have HT := Lib.hid (show T = Sm by
  rw [hT]; unfold uShowF; rw [← hPS, ← hD]
  by_cases hp1 : port = -1 <;> cases asks <;> cases marks <;> simp [hp1, hSm, hS6, hT4, hSa, hS5, hT3, hS4, hSp, hS3, hT2, hS2, hT1, hS1])
 clear hT hPS hS1 hT1 hS2 hT2 hS3 hS4 hT3 hS5 hT4 hS6
 have hu0 : UrAt (w.alloc (.cells #[.string (str sch), .string (str host), .bool true, .int .i64 port, .slice A L.length c, .bool false, .string (str q), .bool asks, .string (str f), .bool marks] 44)) w.heap.size ⟨sch, host, true, port, [], false, q, asks, f, marks⟩ (.slice A L.length c) := UrAt.made w ⟨sch, host, true, port, [], false, q, asks, f, marks⟩ (.slice A L.length c)
 have m0 := hu0.c0
 have m1 := hu0.c1
 have m2 := hu0.c2
 have m3 := hu0.c3
 have m4 := hu0.c4
 have m5 := hu0.c5
 have m6 := hu0.c6
 have m7 := hu0.c7
 have m8 := hu0.c8
 have m9 := hu0.c9
 by_cases hp1 : port = -1
 case' pos =>
  rw [if_pos hp1] at hSp
  subst hp1
  have hB2 := hB0
  have hr2 := hr0
  have hu2 := hu0
 case' neg =>
  rw [if_neg hp1] at hSp
  obtain ⟨pn, rfl⟩ : ∃ pn : Nat, port = (pn : Int) := ⟨port.toNat, by omega⟩
  have hpn : pn ≤ 65535 := by omega
  have hD' : D = digs 10 pn := hD
  have CI := Lib.hid fun (w' : World) (ht' : TB w') => itoa14_any pn hpn w' ht'
  rw [← hD'] at CI
  clear hD'
  have q1 : ((pn : Int) != -1) = true := by rw [bne_iff_ne]; omega
  clear hp1
 all_goals
  clear hD
  subst hSp
  cases asks <;> cases marks <;> simp only [if_true, if_false, Bool.false_eq_true] at hSa hSm <;> subst hSa <;> subst hSm
 all_goals
  go_enter Tryz.func65, Tryz.ntmps65
  go_wp2_with (first
   | (go_at_call 86; go_must (go_fit (CI.out _ ht0)); rintro e w2 ⟨rfl, hb2⟩; have hB2 := bnext hB0 hb2; have hr2 := hr.far hB2; have hu2 := hu0.next hb2; have n20 := hu2.c0; have n21 := hu2.c1; have n22 := hu2.c2; have n23 := hu2.c3; have n24 := hu2.c4; have n25 := hu2.c5; have n26 := hu2.c6; have n27 := hu2.c7; have n28 := hu2.c8; have n29 := hu2.c9)
   | (go_at_call 103; go_must (go_fit (CP.out _ hr2)); rintro e w3 ⟨rfl, hb3⟩; have hB3 := bnext hB2 hb3; have hu3 := hu2.next hb3; have n30 := hu3.c0; have n31 := hu3.c1; have n32 := hu3.c2; have n33 := hu3.c3; have n34 := hu3.c4; have n35 := hu3.c5; have n36 := hu3.c6; have n37 := hu3.c7; have n38 := hu3.c8; have n39 := hu3.c9))
  go_ret
  rw [HT.out]
  exact ⟨rfl, hB3⟩
set_option maxRecDepth 100000 in
set_option maxHeartbeats 16000000 in
theorem rshow14 (sch host q f : List UInt8) (L : List (List UInt8)) (port : Int) (asks marks : Bool) (hp : -1 ≤ port ∧ port ≤ 65535) (A : Option Addr) (c : Nat) (w : World) (hr : Rd w w.heap.size A (strs L)) (h1 : sch.length ≤ 300) (h2 : host.length ≤ 1000) (h3 : q.length ≤ 900) (h4 : f.length ≤ 900) (h5 : L.length ≤ 301) (h6 : (pShowP L).length ≤ 1000000) :
  Calls Tryz.prog 66 #[.agg #[.string (str sch), .string (str host), .bool true, .int .i64 port, .slice A L.length c, .bool false, .string (str q), .bool asks, .string (str f), .bool marks]] w fun e w' => e = .returned (.string (str (uShowF sch host q f L port asks marks))) ∧ Below w.heap.size w w' := by
 obtain ⟨T, hT⟩ : ∃ T, T = uShowF sch host q f L port asks marks := ⟨_, rfl⟩
 rw [← hT]
 have y1 := str_size sch
 have y2 := str_size host
 have y3 := str_size q
 have y4 := str_size f
 have hB0 : Below w.heap.size w (w.alloc (.cells #[.string (str sch), .string (str host), .bool true, .int .i64 port, .slice A L.length c, .bool false, .string (str q), .bool asks, .string (str f), .bool marks] 44)) := bnew (Below.refl _ _) _
 have hr0 := hr.far hB0
 obtain ⟨PS, hPS⟩ : ∃ PS, PS = pShowP L := ⟨_, rfl⟩
 have y5 := str_size PS
 have h6' : PS.length ≤ 1000000 := by rw [hPS]; exact h6
 have CP := Lib.hid fun (w' : World) (hr' : Rd w' w'.heap.size A (strs L)) => rshowP_any A c L w' hr' (by omega) (by omega)
 rw [← hPS] at CP
 obtain ⟨D, hD⟩ : ∃ D, D = digs 10 port.toNat := ⟨_, rfl⟩
 have hDl : D.length ≤ 5 := by rw [hD]; exact port_len (by omega)
 have y6 := str_size D
 obtain ⟨S1, hS1⟩ : ∃ Z0, Z0 = sch ++ [58] := ⟨_, rfl⟩
 have eS1 : str sch ++ { data := #[58] } = str S1 := (str_app sch [58]).trans (by rw [hS1])
 have nS1 : S1.length ≤ 301 := by rw [hS1, List.length_append]; simp only [List.length_cons, List.length_nil]; omega
 have yS1 := str_size S1
 have kS1 : (9223372036854775807 < sch.length + 1) = False := eq_false (by omega)
 obtain ⟨T1, hT1⟩ : ∃ Z0, Z0 = S1 ++ [47, 47] := ⟨_, rfl⟩
 have eT1 : str S1 ++ { data := #[47, 47] } = str T1 := (str_app S1 [47, 47]).trans (by rw [hT1])
 have nT1 : T1.length ≤ 303 := by rw [hT1, List.length_append]; simp only [List.length_cons, List.length_nil]; omega
 have yT1 := str_size T1
 have kT1 : (9223372036854775807 < S1.length + 2) = False := eq_false (by omega)
 obtain ⟨S2, hS2⟩ : ∃ Z0, Z0 = T1 ++ host := ⟨_, rfl⟩
 have eS2 : str T1 ++ str host = str S2 := (str_app T1 host).trans (by rw [hS2])
 have nS2 : S2.length ≤ 1303 := by rw [hS2, List.length_append]; omega
 have yS2 := str_size S2
 have kS2 : (9223372036854775807 < T1.length + host.length) = False := eq_false (by omega)
 obtain ⟨T2, hT2⟩ : ∃ Z0, Z0 = S2 ++ [58] := ⟨_, rfl⟩
 have eT2 : str S2 ++ { data := #[58] } = str T2 := (str_app S2 [58]).trans (by rw [hT2])
 have nT2 : T2.length ≤ 1304 := by rw [hT2, List.length_append]; simp only [List.length_cons, List.length_nil]; omega
 have yT2 := str_size T2
 have kT2 : (9223372036854775807 < S2.length + 1) = False := eq_false (by omega)
 obtain ⟨S3, hS3⟩ : ∃ Z0, Z0 = T2 ++ D := ⟨_, rfl⟩
 have eS3 : str T2 ++ str D = str S3 := (str_app T2 D).trans (by rw [hS3])
 have nS3 : S3.length ≤ 1309 := by rw [hS3, List.length_append]; omega
 have yS3 := str_size S3
 have kS3 : (9223372036854775807 < T2.length + D.length) = False := eq_false (by omega)
 obtain ⟨Sp, hSp⟩ : ∃ Z0, Z0 = if port = -1 then S2 else S3 := ⟨_, rfl⟩
 have nSp : Sp.length ≤ 1309 := by rw [hSp]; split <;> omega
 obtain ⟨S4, hS4⟩ : ∃ Z0, Z0 = Sp ++ PS := ⟨_, rfl⟩
 have eS4 : str Sp ++ str PS = str S4 := (str_app Sp PS).trans (by rw [hS4])
 have nS4 : S4.length ≤ 1001309 := by rw [hS4, List.length_append]; omega
 have yS4 := str_size S4
 have kS4 : (9223372036854775807 < Sp.length + PS.length) = False := eq_false (by omega)
 obtain ⟨T3, hT3⟩ : ∃ Z0, Z0 = S4 ++ [63] := ⟨_, rfl⟩
 have eT3 : str S4 ++ { data := #[63] } = str T3 := (str_app S4 [63]).trans (by rw [hT3])
 have nT3 : T3.length ≤ 1001310 := by rw [hT3, List.length_append]; simp only [List.length_cons, List.length_nil]; omega
 have yT3 := str_size T3
 have kT3 : (9223372036854775807 < S4.length + 1) = False := eq_false (by omega)
 obtain ⟨S5, hS5⟩ : ∃ Z0, Z0 = T3 ++ q := ⟨_, rfl⟩
 have eS5 : str T3 ++ str q = str S5 := (str_app T3 q).trans (by rw [hS5])
 have nS5 : S5.length ≤ 1002210 := by rw [hS5, List.length_append]; omega
 have yS5 := str_size S5
 have kS5 : (9223372036854775807 < T3.length + q.length) = False := eq_false (by omega)
 obtain ⟨Sa, hSa⟩ : ∃ Z0, Z0 = if asks = true then S5 else S4 := ⟨_, rfl⟩
 have nSa : Sa.length ≤ 1002210 := by rw [hSa]; split <;> omega
 obtain ⟨T4, hT4⟩ : ∃ Z0, Z0 = Sa ++ [35] := ⟨_, rfl⟩
 have eT4 : str Sa ++ { data := #[35] } = str T4 := (str_app Sa [35]).trans (by rw [hT4])
 have nT4 : T4.length ≤ 1002211 := by rw [hT4, List.length_append]; simp only [List.length_cons, List.length_nil]; omega
 have yT4 := str_size T4
 have kT4 : (9223372036854775807 < Sa.length + 1) = False := eq_false (by omega)
 obtain ⟨S6, hS6⟩ : ∃ Z0, Z0 = T4 ++ f := ⟨_, rfl⟩
 have eS6 : str T4 ++ str f = str S6 := (str_app T4 f).trans (by rw [hS6])
 have nS6 : S6.length ≤ 1003111 := by rw [hS6, List.length_append]; omega
 have yS6 := str_size S6
 have kS6 : (9223372036854775807 < T4.length + f.length) = False := eq_false (by omega)
 obtain ⟨Sm, hSm⟩ : ∃ Z0, Z0 = if marks = true then S6 else Sa := ⟨_, rfl⟩
 have nSm : Sm.length ≤ 1003111 := by rw [hSm]; split <;> omega
 have HT := Lib.hid (show T = Sm by
  rw [hT]; unfold uShowF; rw [← hPS, ← hD]
  by_cases hp1 : port = -1 <;> cases asks <;> cases marks <;> simp [hp1, hSm, hS6, hT4, hSa, hS5, hT3, hS4, hSp, hS3, hT2, hS2, hT1, hS1])
 clear hT hPS hS1 hT1 hS2 hT2 hS3 hS4 hT3 hS5 hT4 hS6
 have hu0 : UrAt (w.alloc (.cells #[.string (str sch), .string (str host), .bool true, .int .i64 port, .slice A L.length c, .bool false, .string (str q), .bool asks, .string (str f), .bool marks] 44)) w.heap.size ⟨sch, host, true, port, [], false, q, asks, f, marks⟩ (.slice A L.length c) := UrAt.made w ⟨sch, host, true, port, [], false, q, asks, f, marks⟩ (.slice A L.length c)
 have m0 := hu0.c0
 have m1 := hu0.c1
 have m2 := hu0.c2
 have m3 := hu0.c3
 have m4 := hu0.c4
 have m5 := hu0.c5
 have m6 := hu0.c6
 have m7 := hu0.c7
 have m8 := hu0.c8
 have m9 := hu0.c9
 by_cases hp1 : port = -1
 case' pos =>
  rw [if_pos hp1] at hSp
  subst hp1
  have hB2 := hB0
  have hr2 := hr0
  have hu2 := hu0
 case' neg =>
  rw [if_neg hp1] at hSp
  obtain ⟨pn, rfl⟩ : ∃ pn : Nat, port = (pn : Int) := ⟨port.toNat, by omega⟩
  have hpn : pn ≤ 65535 := by omega
  have hD' : D = digs 10 pn := hD
  have CI := Lib.hid fun (w' : World) => ten6T_any pn w' (by omega)
  rw [← hD'] at CI
  clear hD'
  have q1 : ((pn : Int) != -1) = true := by rw [bne_iff_ne]; omega
  have q2 : IntKind.u64.wrap (pn : Int) = (pn : Int) := IntWalk.u64_in _ (by omega)
  clear hp1
 all_goals
  clear hD
  subst hSp
  cases asks <;> cases marks <;> simp only [if_true, if_false, Bool.false_eq_true] at hSa hSm <;> subst hSa <;> subst hSm
 all_goals
  go_enter Tryz.func66, Tryz.ntmps66
  go_wp2_with (first
   | (go_at_call 18; go_must (go_fit (CI.out _)); rintro e w2 ⟨rfl, hb2⟩; have hB2 := bnext hB0 hb2; have hr2 := hr.far hB2; have hu2 := hu0.next hb2; have n20 := hu2.c0; have n21 := hu2.c1; have n22 := hu2.c2; have n23 := hu2.c3; have n24 := hu2.c4; have n25 := hu2.c5; have n26 := hu2.c6; have n27 := hu2.c7; have n28 := hu2.c8; have n29 := hu2.c9)
   | (go_at_call 104; go_must (go_fit (CP.out _ hr2)); rintro e w3 ⟨rfl, rfl⟩))
  go_ret
  rw [HT.out]
  exact ⟨rfl, hB2⟩
end Go.Proofs.YtoapelcofjjdnaaGreatDoor
