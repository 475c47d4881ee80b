/- A part of the proof. -/
import Derived.Test.YtoapelcofjjdnaaGreatDoorRPolG
namespace Go.Proofs.YtoapelcofjjdnaaGreatDoor
set_option linter.all false
open Go.RowKit
def may14 (host : List UInt8) (l : List (List UInt8)) (T : List UInt8) : Int := if bad14 host l = true then 8 else if 400 < T.length then 4 else 0
theorem http_eq {sch : List UInt8} (h : sch = uHttp ∨ sch = uHttps) : ((sch != [104, 116, 116, 112]) = false ∧ (sch == [104, 116, 116, 112]) = true) ∨ ((sch != [104, 116, 116, 112]) = true ∧ (sch == [104, 116, 116, 112]) = false ∧ (sch != [104, 116, 116, 112, 115]) = false ∧ (sch == [104, 116, 116, 112, 115]) = true) := by
 rcases h with rfl | rfl
 · exact .inl ⟨rfl, rfl⟩
 · exact .inr ⟨rfl, rfl, rfl, rfl⟩
set_option maxRecDepth 100000 in
set_option maxHeartbeats 8000000 in
theorem pmay14 (sch host q f : List UInt8) (L : List (List UInt8)) (port : Int) (asks marks : Bool) (hp : -1 ≤ port ∧ port ≤ 65535) (A : Option Addr) (c : Nat) (w : World) (hr : Rd w w.heap.size A (strs L)) (h1 : sch.length ≤ 300) (h2 : host.length ≤ 1000) (h3 : q.length ≤ 900) (h4 : f.length ≤ 900) (h5 : L.length ≤ 301) (h6 : (pShowP L).length ≤ 1000000) (Al : Option Addr) (cl : Nat) (l : List (List UInt8)) (hrl : Rd w w.heap.size Al (strs l)) (hll : l.length ≤ 100000) (hq : LH w) (hsch : sch = uHttp ∨ sch = uHttps) (T : List UInt8) (hT : T = uShowF sch host q f L port asks marks) (hTl : T.length ≤ 2000000) :
  Calls Tryz.prog 29 #[.agg #[.string (str sch), .string (str host), .bool true, .int .i64 port, .slice A L.length c, .bool false, .string (str q), .bool asks, .string (str f), .bool marks], .slice Al l.length cl] w fun e w' => e = .returned (.int .i64 (may14 host l T)) ∧ Below w.heap.size w w' := by
 have htl := str_toL sch
 have yT := str_size T
 have hB0 : Below w.heap.size w (w.alloc (.cells #[.string (str sch), .string (str host), .bool true, .int .i64 port, .slice A L.length c, .bool false, .string (str q), .bool asks, .string (str f), .bool marks] 44)) := bnew (Below.refl _ _) _
 have hu0 : UrAt (w.alloc (.cells #[.string (str sch), .string (str host), .bool true, .int .i64 port, .slice A L.length c, .bool false, .string (str q), .bool asks, .string (str f), .bool marks] 44)) w.heap.size ⟨sch, host, true, port, [], false, q, asks, f, marks⟩ (.slice A L.length c) := UrAt.made w ⟨sch, host, true, port, [], false, q, asks, f, marks⟩ (.slice A L.length c)
 have m0 := hu0.c0
 have m1 := hu0.c1
 have m2 := hu0.c2
 have m3 := hu0.c3
 have m4 := hu0.c4
 have m5 := hu0.c5
 have m6 := hu0.c6
 have m7 := hu0.c7
 have m8 := hu0.c8
 have m9 := hu0.c9
 have hr0 := hr.far hB0
 have hrl0 := hrl.far hB0
 have hq0 := hq.next hB0
 have CS := Lib.hid fun (w' : World) (hr' : Rd w' w'.heap.size A (strs L)) (ht' : TB w') => pshow14 sch host q f L port asks marks hp A c w' hr' ht' h1 h2 h3 h4 h5 h6
 rw [← hT] at CS
 have HV := Lib.hid (show may14 host l T = if bad14 host l = true then 8 else if 400 < T.length then 4 else 0 from rfl)
 have hh := http_eq hsch
 clear hT hsch
 have CP := Lib.hid fun (w' : World) (hq' : LH w') (hr' : Rd w' w'.heap.size Al (strs l)) => place_any host Al cl l w' hq' hr' h2 hll
 cases hb : bad14 host l with
 | true =>
  rw [hb] at CP HV
  have HE := Lib.hid (HV.out.trans (if_pos rfl))
  clear hb HV
  rcases hh with ⟨g1, g2⟩ | ⟨g1, g2, g3, g4⟩
  all_goals
   go_enter Tryz.func29, Tryz.ntmps29
   go_wp2_with (first
    | (go_at_call 64; go_must (go_fit (CP.out (w.alloc (.cells #[.string (str sch), .string (str host), .bool true, .int .i64 port, .slice A L.length c, .bool false, .string (str q), .bool asks, .string (str f), .bool marks] 44)) hq0 hrl0)); rintro e w2 ⟨rfl, hb2⟩; have hB2 := bnext hB0 hb2; have hr2 := hr.far hB2; have hq2 := hq.next hB2; have hu2 := hu0.next hb2; have n0 := hu2.c0; have n1 := hu2.c1; have n2 := hu2.c2; have n3 := hu2.c3; have n4 := hu2.c4; have n5 := hu2.c5; have n6 := hu2.c6; have n7 := hu2.c7; have n8 := hu2.c8; have n9 := hu2.c9))
   go_ret
   exact ⟨ret_int HE.out.symm, hB2⟩
 | false =>
  rw [hb] at CP HV
  have HN := Lib.hid (HV.out.trans (if_neg (by decide)))
  clear hb HV
  by_cases h400 : (400 : Int) < (T.length : Int)
  ·
   have HE := Lib.hid (HN.out.trans (if_pos (by omega)))
   rcases hh with ⟨g1, g2⟩ | ⟨g1, g2, g3, g4⟩
   all_goals
    go_enter Tryz.func29, Tryz.ntmps29
    go_wp2_with (first
     | (go_at_call 64; go_must (go_fit (CP.out (w.alloc (.cells #[.string (str sch), .string (str host), .bool true, .int .i64 port, .slice A L.length c, .bool false, .string (str q), .bool asks, .string (str f), .bool marks] 44)) hq0 hrl0)); rintro e w2 ⟨rfl, hb2⟩; have hB2 := bnext hB0 hb2; have hr2 := hr.far hB2; have hq2 := hq.next hB2; have hu2 := hu0.next hb2; have n0 := hu2.c0; have n1 := hu2.c1; have n2 := hu2.c2; have n3 := hu2.c3; have n4 := hu2.c4; have n5 := hu2.c5; have n6 := hu2.c6; have n7 := hu2.c7; have n8 := hu2.c8; have n9 := hu2.c9)
     | (go_at_call 65; go_must (go_fit (CS.out w2 hr2 hq2.2.1)); rintro e ws ⟨rfl, hbs⟩))
    go_ret
    exact ⟨ret_int HE.out.symm, bnext hB2 hbs⟩
  ·
   have h400I : (T.length : Int) ≤ 400 := by omega
   have HE := Lib.hid (HN.out.trans (if_neg (by omega)))
   clear h400
   rcases hh with ⟨g1, g2⟩ | ⟨g1, g2, g3, g4⟩
   all_goals
    go_enter Tryz.func29, Tryz.ntmps29
    go_wp2_with (first
     | (go_at_call 64; go_must (go_fit (CP.out (w.alloc (.cells #[.string (str sch), .string (str host), .bool true, .int .i64 port, .slice A L.length c, .bool false, .string (str q), .bool asks, .string (str f), .bool marks] 44)) hq0 hrl0)); rintro e w2 ⟨rfl, hb2⟩; have hB2 := bnext hB0 hb2; have hr2 := hr.far hB2; have hq2 := hq.next hB2; have hu2 := hu0.next hb2; have n0 := hu2.c0; have n1 := hu2.c1; have n2 := hu2.c2; have n3 := hu2.c3; have n4 := hu2.c4; have n5 := hu2.c5; have n6 := hu2.c6; have n7 := hu2.c7; have n8 := hu2.c8; have n9 := hu2.c9)
     | (go_at_call 65; go_must (go_fit (CS.out w2 hr2 hq2.2.1)); rintro e ws ⟨rfl, hbs⟩))
    go_ret
    exact ⟨ret_int HE.out.symm, bnext hB2 hbs⟩
set_option maxRecDepth 100000 in
set_option maxHeartbeats 8000000 in
theorem rmay14 (sch host q f : List UInt8) (L : List (List UInt8)) (port : Int) (asks marks : Bool) (hp : -1 ≤ port ∧ port ≤ 65535) (A : Option Addr) (c : Nat) (w : World) (hr : Rd w w.heap.size A (strs L)) (h1 : sch.length ≤ 300) (h2 : host.length ≤ 1000) (h3 : q.length ≤ 900) (h4 : f.length ≤ 900) (h5 : L.length ≤ 301) (h6 : (pShowP L).length ≤ 1000000) (Al : Option Addr) (cl : Nat) (l : List (List UInt8)) (hrl : Rd w w.heap.size Al (strs l)) (hll : l.length ≤ 100000) (hq : LH w) (hsch : sch = uHttp ∨ sch = uHttps) (T : List UInt8) (hT : T = uShowF sch host q f L port asks marks) (hTl : T.length ≤ 2000000) :
  Calls Tryz.prog 30 #[.agg #[.string (str sch), .string (str host), .bool true, .int .i64 port, .slice A L.length c, .bool false, .string (str q), .bool asks, .string (str f), .bool marks], .slice Al l.length cl] w fun e w' => e = .returned (.int .i64 (may14 host l T)) ∧ Below w.heap.size w w' := by
 have htl := str_toL sch
 have yT := str_size T
 have hB0 : Below w.heap.size w (w.alloc (.cells #[.string (str sch), .string (str host), .bool true, .int .i64 port, .slice A L.length c, .bool false, .string (str q), .bool asks, .string (str f), .bool marks] 44)) := bnew (Below.refl _ _) _
 have hu0 : UrAt (w.alloc (.cells #[.string (str sch), .string (str host), .bool true, .int .i64 port, .slice A L.length c, .bool false, .string (str q), .bool asks, .string (str f), .bool marks] 44)) w.heap.size ⟨sch, host, true, port, [], false, q, asks, f, marks⟩ (.slice A L.length c) := UrAt.made w ⟨sch, host, true, port, [], false, q, asks, f, marks⟩ (.slice A L.length c)
 have m0 := hu0.c0
 have m1 := hu0.c1
 have m2 := hu0.c2
 have m3 := hu0.c3
 have m4 := hu0.c4
 have m5 := hu0.c5
 have m6 := hu0.c6
 have m7 := hu0.c7
 have m8 := hu0.c8
 have m9 := hu0.c9
 have hr0 := hr.far hB0
 have hrl0 := hrl.far hB0
 have hq0 := hq.next hB0
 have CS := Lib.hid fun (w' : World) (hr' : Rd w' w'.heap.size A (strs L)) => rshow14 sch host q f L port asks marks hp A c w' hr' h1 h2 h3 h4 h5 h6
 rw [← hT] at CS
 have HV := Lib.hid (show may14 host l T = if bad14 host l = true then 8 else if 400 < T.length then 4 else 0 from rfl)
 have hh := http_eq hsch
 clear hT hsch
 have C4 := Lib.hid fun (w' : World) (hq' : LH w') => rip4_any host w' hq' (by omega)
 have C6 := Lib.hid fun (w' : World) (hq' : LH w') => rip6_any host w' hq' h2
 have CB := Lib.hid fun (w' : World) (hr' : Rd w' w'.heap.size Al (strs l)) => rblocked_any host Al cl l w' hr' (by omega) hll
 obtain ⟨b, hb⟩ : ∃ b, b = blk host l := ⟨_, rfl⟩
 have HB := Lib.hid (show bad14 host l = (bad4 host || (bad6 host || b)) by rw [hb]; rfl)
 rw [← hb] at CB
 clear hb
 obtain ⟨R, hR⟩ : ∃ R, R = may14 host l T := ⟨_, rfl⟩
 rw [← hR] at HV ⊢
 clear hR
 cases h4 : hIP4 host with
 | none =>
  have C4 := Lib.hid fun (w' : World) (hq' : LH w') => (show Calls Tryz.prog 32 #[.string (str host)] w' fun e w'' => e = .returned (.tuple #[.int .u32 0, .bool false]) ∧ Below w'.heap.size w' w'' by have := C4.out w' hq'; rwa [h4] at this)
  have H4 := Lib.hid (show bad14 host l = (bad6 host || b) by rw [HB.out]; unfold bad4; rw [h4]; rfl)
  clear h4 HB
  cases h6 : hIP6 host with
  | none =>
   have C6 := Lib.hid fun (w' : World) (hq' : LH w') => (show Calls Tryz.prog 33 #[.string (str host)] w' fun e w'' => e = .returned (.tuple #[.agg #[.int .u16 0, .int .u16 0, .int .u16 0, .int .u16 0, .int .u16 0, .int .u16 0, .int .u16 0, .int .u16 0], .bool false]) ∧ Below w'.heap.size w' w'' by have := C6.out w' hq'; rwa [h6] at this)
   have HX := Lib.hid (show bad14 host l = b by rw [H4.out]; unfold bad6; rw [h6]; rfl)
   clear h6
   cases b
   case' true =>
    have HE := Lib.hid (show R = 8 by rw [HV.out, HX.out]; rfl)
   case' false =>
    have HN := Lib.hid (show R = if 400 < T.length then 4 else 0 by rw [HV.out, HX.out]; rfl)
    by_cases h400 : (400 : Int) < (T.length : Int)
    case' pos => have HE := Lib.hid (HN.out.trans (if_pos (by omega)))
    case' neg =>
     have h400I : (T.length : Int) ≤ 400 := by omega
     have HE := Lib.hid (HN.out.trans (if_neg (by omega)))
     clear h400
   all_goals
    rcases hh with ⟨g1, g2⟩ | ⟨g1, g2, g3, g4⟩
    all_goals
     go_enter Tryz.func30, Tryz.ntmps30
     go_wp2_with (first
      | (go_at_call 32; go_must (go_fit (C4.out (w.alloc (.cells #[.string (str sch), .string (str host), .bool true, .int .i64 port, .slice A L.length c, .bool false, .string (str q), .bool asks, .string (str f), .bool marks] 44)) hq0)); rintro e w2 ⟨rfl, hb2⟩; have hB2 := bnext hB0 hb2; have hq2 := hq.next hB2; have hu2 := hu0.next hb2; have n0 := hu2.c0; have n1 := hu2.c1; have n2 := hu2.c2; have n3 := hu2.c3; have n4 := hu2.c4; have n5 := hu2.c5; have n6 := hu2.c6; have n7 := hu2.c7; have n8 := hu2.c8; have n9 := hu2.c9)
      | (go_at_call 33; go_must (go_fit (C6.out w2 hq2)); rintro e w3 ⟨rfl, hb3⟩; have hB3 := bnew (bnext hB2 hb3) (.cells #[.int .u16 0, .int .u16 0, .int .u16 0, .int .u16 0, .int .u16 0, .int .u16 0, .int .u16 0, .int .u16 0] 24); have hrl3 := hrl.far hB3; have hr3 := hr.far hB3; have hq3 := hq.next hB3; have hBn : Below w3.heap.size w3 (w3.alloc (.cells #[.int .u16 0, .int .u16 0, .int .u16 0, .int .u16 0, .int .u16 0, .int .u16 0, .int .u16 0, .int .u16 0] 24)) := bnew (Below.refl _ _) _; have hu3 := (hu2.next hb3).next hBn; have k0 := hu3.c0; have k1 := hu3.c1; have k2 := hu3.c2; have k3 := hu3.c3; have k4 := hu3.c4; have k5 := hu3.c5; have k6 := hu3.c6; have k7 := hu3.c7; have k8 := hu3.c8; have k9 := hu3.c9)
      | (go_at_call 27; go_must (go_fit (CB.out (w3.alloc (.cells #[.int .u16 0, .int .u16 0, .int .u16 0, .int .u16 0, .int .u16 0, .int .u16 0, .int .u16 0, .int .u16 0] 24)) hrl3)); rintro e w6 ⟨rfl, hb6⟩; have hB6 := bnext hB3 hb6; have hr6 := hr.far hB6; have hu6 := hu3.next hb6; have i0 := hu6.c0; have i1 := hu6.c1; have i2 := hu6.c2; have i3 := hu6.c3; have i4 := hu6.c4; have i5 := hu6.c5; have i6 := hu6.c6; have i7 := hu6.c7; have i8 := hu6.c8; have i9 := hu6.c9)
      | (go_at_call 66; go_must (go_fit (CS.out w6 hr6)); rintro e ws ⟨rfl, hbs⟩))
     go_ret
     first
      | exact ⟨ret_int HE.out.symm, bnext hB6 hbs⟩
      | exact ⟨ret_int HE.out.symm, hB6⟩
  | some n =>
   obtain ⟨a0, a1, a2, a3, a4, a5, a6, a7, rfl⟩ := eight_list (hIP6_eight h6)
   have C6 := Lib.hid fun (w' : World) (hq' : LH w') => (show Calls Tryz.prog 33 #[.string (str host)] w' fun e w'' => e = .returned (.tuple #[.agg #[.int .u16 (a0 : Int), .int .u16 (a1 : Int), .int .u16 (a2 : Int), .int .u16 (a3 : Int), .int .u16 (a4 : Int), .int .u16 (a5 : Int), .int .u16 (a6 : Int), .int .u16 (a7 : Int)], .bool true]) ∧ Below w'.heap.size w' w'' by have := C6.out w' hq'; rwa [h6] at this)
   have CI := Lib.hid fun w => rfree6_any a0 a1 a2 a3 a4 a5 a6 a7 (hIP6_lt h6) w
   rw [← free6_eq rfl (hIP6_lt h6)] at CI
   have H6 := Lib.hid (show bad14 host l = (!free6 [a0, a1, a2, a3, a4, a5, a6, a7] || b) by rw [H4.out]; unfold bad6; rw [h6])
   clear h6
   cases hf6 : free6 [a0, a1, a2, a3, a4, a5, a6, a7] with
   | false =>
    rw [hf6] at CI
    have HX := Lib.hid (show bad14 host l = true by rw [H6.out, hf6]; rfl)
    clear hf6 H6
    have HE := Lib.hid (show R = 8 by rw [HV.out, HX.out]; rfl)
    clear HV HX
    rcases hh with ⟨g1, g2⟩ | ⟨g1, g2, g3, g4⟩
    all_goals
     go_enter Tryz.func30, Tryz.ntmps30
     go_wp2_with (first
      | (go_at_call 32; go_must (go_fit (C4.out (w.alloc (.cells #[.string (str sch), .string (str host), .bool true, .int .i64 port, .slice A L.length c, .bool false, .string (str q), .bool asks, .string (str f), .bool marks] 44)) hq0)); rintro e w2 ⟨rfl, hb2⟩; have hB2 := bnext hB0 hb2; have hq2 := hq.next hB2; have hu2 := hu0.next hb2; have n0 := hu2.c0; have n1 := hu2.c1; have n2 := hu2.c2; have n3 := hu2.c3; have n4 := hu2.c4; have n5 := hu2.c5; have n6 := hu2.c6; have n7 := hu2.c7; have n8 := hu2.c8; have n9 := hu2.c9)
      | (go_at_call 33; go_must (go_fit (C6.out w2 hq2)); rintro e w3 ⟨rfl, hb3⟩; have hB3 := bnew (bnext hB2 hb3) (.cells #[.int .u16 (a0 : Int), .int .u16 (a1 : Int), .int .u16 (a2 : Int), .int .u16 (a3 : Int), .int .u16 (a4 : Int), .int .u16 (a5 : Int), .int .u16 (a6 : Int), .int .u16 (a7 : Int)] 24); have hrl3 := hrl.far hB3; have hr3 := hr.far hB3; have hq3 := hq.next hB3; have hBn : Below w3.heap.size w3 (w3.alloc (.cells #[.int .u16 (a0 : Int), .int .u16 (a1 : Int), .int .u16 (a2 : Int), .int .u16 (a3 : Int), .int .u16 (a4 : Int), .int .u16 (a5 : Int), .int .u16 (a6 : Int), .int .u16 (a7 : Int)] 24)) := bnew (Below.refl _ _) _; have hu3 := (hu2.next hb3).next hBn; have k0 := hu3.c0; have k1 := hu3.c1; have k2 := hu3.c2; have k3 := hu3.c3; have k4 := hu3.c4; have k5 := hu3.c5; have k6 := hu3.c6; have k7 := hu3.c7; have k8 := hu3.c8; have k9 := hu3.c9)
      | (go_at_call 25; go_must (go_fit (CI.out (w3.alloc (.cells #[.int .u16 (a0 : Int), .int .u16 (a1 : Int), .int .u16 (a2 : Int), .int .u16 (a3 : Int), .int .u16 (a4 : Int), .int .u16 (a5 : Int), .int .u16 (a6 : Int), .int .u16 (a7 : Int)] 24)))); rintro e w5 ⟨rfl, hb5⟩; have hB5 := bnext hB3 hb5; have hrl5 := hrl.far hB5; have hr5 := hr.far hB5; have hu5 := hu3.next hb5; have j0 := hu5.c0; have j1 := hu5.c1; have j2 := hu5.c2; have j3 := hu5.c3; have j4 := hu5.c4; have j5 := hu5.c5; have j6 := hu5.c6; have j7 := hu5.c7; have j8 := hu5.c8; have j9 := hu5.c9))
     go_ret
     exact ⟨ret_int HE.out.symm, hB5⟩
   | true =>
    rw [hf6] at CI
    have HX := Lib.hid (show bad14 host l = b by rw [H6.out, hf6]; rfl)
    clear hf6 H6
    cases b
    case' true =>
     have HE := Lib.hid (show R = 8 by rw [HV.out, HX.out]; rfl)
    case' false =>
     have HN := Lib.hid (show R = if 400 < T.length then 4 else 0 by rw [HV.out, HX.out]; rfl)
     by_cases h400 : (400 : Int) < (T.length : Int)
     case' pos => have HE := Lib.hid (HN.out.trans (if_pos (by omega)))
     case' neg =>
      have h400I : (T.length : Int) ≤ 400 := by omega
      have HE := Lib.hid (HN.out.trans (if_neg (by omega)))
      clear h400
    all_goals
     rcases hh with ⟨g1, g2⟩ | ⟨g1, g2, g3, g4⟩
     all_goals
      go_enter Tryz.func30, Tryz.ntmps30
      go_wp2_with (first
       | (go_at_call 32; go_must (go_fit (C4.out (w.alloc (.cells #[.string (str sch), .string (str host), .bool true, .int .i64 port, .slice A L.length c, .bool false, .string (str q), .bool asks, .string (str f), .bool marks] 44)) hq0)); rintro e w2 ⟨rfl, hb2⟩; have hB2 := bnext hB0 hb2; have hq2 := hq.next hB2; have hu2 := hu0.next hb2; have n0 := hu2.c0; have n1 := hu2.c1; have n2 := hu2.c2; have n3 := hu2.c3; have n4 := hu2.c4; have n5 := hu2.c5; have n6 := hu2.c6; have n7 := hu2.c7; have n8 := hu2.c8; have n9 := hu2.c9)
       | (go_at_call 33; go_must (go_fit (C6.out w2 hq2)); rintro e w3 ⟨rfl, hb3⟩; have hB3 := bnew (bnext hB2 hb3) (.cells #[.int .u16 (a0 : Int), .int .u16 (a1 : Int), .int .u16 (a2 : Int), .int .u16 (a3 : Int), .int .u16 (a4 : Int), .int .u16 (a5 : Int), .int .u16 (a6 : Int), .int .u16 (a7 : Int)] 24); have hrl3 := hrl.far hB3; have hr3 := hr.far hB3; have hq3 := hq.next hB3; have hBn : Below w3.heap.size w3 (w3.alloc (.cells #[.int .u16 (a0 : Int), .int .u16 (a1 : Int), .int .u16 (a2 : Int), .int .u16 (a3 : Int), .int .u16 (a4 : Int), .int .u16 (a5 : Int), .int .u16 (a6 : Int), .int .u16 (a7 : Int)] 24)) := bnew (Below.refl _ _) _; have hu3 := (hu2.next hb3).next hBn; have k0 := hu3.c0; have k1 := hu3.c1; have k2 := hu3.c2; have k3 := hu3.c3; have k4 := hu3.c4; have k5 := hu3.c5; have k6 := hu3.c6; have k7 := hu3.c7; have k8 := hu3.c8; have k9 := hu3.c9)
       | (go_at_call 25; go_must (go_fit (CI.out (w3.alloc (.cells #[.int .u16 (a0 : Int), .int .u16 (a1 : Int), .int .u16 (a2 : Int), .int .u16 (a3 : Int), .int .u16 (a4 : Int), .int .u16 (a5 : Int), .int .u16 (a6 : Int), .int .u16 (a7 : Int)] 24)))); rintro e w5 ⟨rfl, hb5⟩; have hB5 := bnext hB3 hb5; have hrl5 := hrl.far hB5; have hr5 := hr.far hB5; have hu5 := hu3.next hb5; have j0 := hu5.c0; have j1 := hu5.c1; have j2 := hu5.c2; have j3 := hu5.c3; have j4 := hu5.c4; have j5 := hu5.c5; have j6 := hu5.c6; have j7 := hu5.c7; have j8 := hu5.c8; have j9 := hu5.c9)
       | (go_at_call 27; go_must (go_fit (CB.out w5 hrl5)); rintro e w6 ⟨rfl, hb6⟩; have hB6 := bnext hB5 hb6; have hr6 := hr.far hB6; have hu6 := hu5.next hb6; have i0 := hu6.c0; have i1 := hu6.c1; have i2 := hu6.c2; have i3 := hu6.c3; have i4 := hu6.c4; have i5 := hu6.c5; have i6 := hu6.c6; have i7 := hu6.c7; have i8 := hu6.c8; have i9 := hu6.c9)
       | (go_at_call 66; go_must (go_fit (CS.out w6 hr6)); rintro e ws ⟨rfl, hbs⟩))
      go_ret
      first
       | exact ⟨ret_int HE.out.symm, bnext hB6 hbs⟩
       | exact ⟨ret_int HE.out.symm, hB6⟩
 | some a =>
  have C4 := Lib.hid fun (w' : World) (hq' : LH w') => (show Calls Tryz.prog 32 #[.string (str host)] w' fun e w'' => e = .returned (.tuple #[.int .u32 (a : Int), .bool true]) ∧ Below w'.heap.size w' w'' by have := C4.out w' hq'; rwa [h4] at this)
  have CF := Lib.hid fun w => rfree4_any a (hIP4_lt h4) w
  rw [← free4_eq (hIP4_lt h4)] at CF
  cases hf : free4 a with
  | false =>
   rw [hf] at CF
   have H4 := Lib.hid (show bad14 host l = true by rw [HB.out]; unfold bad4; rw [h4]; show (!free4 a || _) = true; rw [hf]; rfl)
   clear h4 hf HB
   cases h6 : hIP6 host with
   | none =>
    have C6 := Lib.hid fun (w' : World) (hq' : LH w') => (show Calls Tryz.prog 33 #[.string (str host)] w' fun e w'' => e = .returned (.tuple #[.agg #[.int .u16 0, .int .u16 0, .int .u16 0, .int .u16 0, .int .u16 0, .int .u16 0, .int .u16 0, .int .u16 0], .bool false]) ∧ Below w'.heap.size w' w'' by have := C6.out w' hq'; rwa [h6] at this)
    have HX := Lib.hid H4.out
    clear h6
    have HE := Lib.hid (show R = 8 by rw [HV.out, HX.out]; rfl)
    clear HV HX
    rcases hh with ⟨g1, g2⟩ | ⟨g1, g2, g3, g4⟩
    all_goals
     go_enter Tryz.func30, Tryz.ntmps30
     go_wp2_with (first
      | (go_at_call 32; go_must (go_fit (C4.out (w.alloc (.cells #[.string (str sch), .string (str host), .bool true, .int .i64 port, .slice A L.length c, .bool false, .string (str q), .bool asks, .string (str f), .bool marks] 44)) hq0)); rintro e w2 ⟨rfl, hb2⟩; have hB2 := bnext hB0 hb2; have hq2 := hq.next hB2; have hu2 := hu0.next hb2; have n0 := hu2.c0; have n1 := hu2.c1; have n2 := hu2.c2; have n3 := hu2.c3; have n4 := hu2.c4; have n5 := hu2.c5; have n6 := hu2.c6; have n7 := hu2.c7; have n8 := hu2.c8; have n9 := hu2.c9)
      | (go_at_call 33; go_must (go_fit (C6.out w2 hq2)); rintro e w3 ⟨rfl, hb3⟩; have hB3 := bnew (bnext hB2 hb3) (.cells #[.int .u16 0, .int .u16 0, .int .u16 0, .int .u16 0, .int .u16 0, .int .u16 0, .int .u16 0, .int .u16 0] 24); have hrl3 := hrl.far hB3; have hr3 := hr.far hB3; have hq3 := hq.next hB3; have hBn : Below w3.heap.size w3 (w3.alloc (.cells #[.int .u16 0, .int .u16 0, .int .u16 0, .int .u16 0, .int .u16 0, .int .u16 0, .int .u16 0, .int .u16 0] 24)) := bnew (Below.refl _ _) _; have hu3 := (hu2.next hb3).next hBn; have k0 := hu3.c0; have k1 := hu3.c1; have k2 := hu3.c2; have k3 := hu3.c3; have k4 := hu3.c4; have k5 := hu3.c5; have k6 := hu3.c6; have k7 := hu3.c7; have k8 := hu3.c8; have k9 := hu3.c9)
      | (go_at_call 23; go_must (go_fit (CF.out _)); rintro e wf ⟨rfl, rfl⟩))
     go_ret
     exact ⟨ret_int HE.out.symm, hB3⟩
   | some n =>
    obtain ⟨a0, a1, a2, a3, a4, a5, a6, a7, rfl⟩ := eight_list (hIP6_eight h6)
    have C6 := Lib.hid fun (w' : World) (hq' : LH w') => (show Calls Tryz.prog 33 #[.string (str host)] w' fun e w'' => e = .returned (.tuple #[.agg #[.int .u16 (a0 : Int), .int .u16 (a1 : Int), .int .u16 (a2 : Int), .int .u16 (a3 : Int), .int .u16 (a4 : Int), .int .u16 (a5 : Int), .int .u16 (a6 : Int), .int .u16 (a7 : Int)], .bool true]) ∧ Below w'.heap.size w' w'' by have := C6.out w' hq'; rwa [h6] at this)
    have HX := Lib.hid H4.out
    clear h6
    have HE := Lib.hid (show R = 8 by rw [HV.out, HX.out]; rfl)
    clear HV HX
    rcases hh with ⟨g1, g2⟩ | ⟨g1, g2, g3, g4⟩
    all_goals
     go_enter Tryz.func30, Tryz.ntmps30
     go_wp2_with (first
      | (go_at_call 32; go_must (go_fit (C4.out (w.alloc (.cells #[.string (str sch), .string (str host), .bool true, .int .i64 port, .slice A L.length c, .bool false, .string (str q), .bool asks, .string (str f), .bool marks] 44)) hq0)); rintro e w2 ⟨rfl, hb2⟩; have hB2 := bnext hB0 hb2; have hq2 := hq.next hB2; have hu2 := hu0.next hb2; have n0 := hu2.c0; have n1 := hu2.c1; have n2 := hu2.c2; have n3 := hu2.c3; have n4 := hu2.c4; have n5 := hu2.c5; have n6 := hu2.c6; have n7 := hu2.c7; have n8 := hu2.c8; have n9 := hu2.c9)
      | (go_at_call 33; go_must (go_fit (C6.out w2 hq2)); rintro e w3 ⟨rfl, hb3⟩; have hB3 := bnew (bnext hB2 hb3) (.cells #[.int .u16 (a0 : Int), .int .u16 (a1 : Int), .int .u16 (a2 : Int), .int .u16 (a3 : Int), .int .u16 (a4 : Int), .int .u16 (a5 : Int), .int .u16 (a6 : Int), .int .u16 (a7 : Int)] 24); have hrl3 := hrl.far hB3; have hr3 := hr.far hB3; have hq3 := hq.next hB3; have hBn : Below w3.heap.size w3 (w3.alloc (.cells #[.int .u16 (a0 : Int), .int .u16 (a1 : Int), .int .u16 (a2 : Int), .int .u16 (a3 : Int), .int .u16 (a4 : Int), .int .u16 (a5 : Int), .int .u16 (a6 : Int), .int .u16 (a7 : Int)] 24)) := bnew (Below.refl _ _) _; have hu3 := (hu2.next hb3).next hBn; have k0 := hu3.c0; have k1 := hu3.c1; have k2 := hu3.c2; have k3 := hu3.c3; have k4 := hu3.c4; have k5 := hu3.c5; have k6 := hu3.c6; have k7 := hu3.c7; have k8 := hu3.c8; have k9 := hu3.c9)
      | (go_at_call 23; go_must (go_fit (CF.out _)); rintro e wf ⟨rfl, rfl⟩))
     go_ret
     exact ⟨ret_int HE.out.symm, hB3⟩
  | true =>
   rw [hf] at CF
   have H4 := Lib.hid (show bad14 host l = (bad6 host || b) by rw [HB.out]; unfold bad4; rw [h4]; show (!free4 a || _) = _; rw [hf]; rfl)
   clear h4 hf HB
   cases h6 : hIP6 host with
   | none =>
    have C6 := Lib.hid fun (w' : World) (hq' : LH w') => (show Calls Tryz.prog 33 #[.string (str host)] w' fun e w'' => e = .returned (.tuple #[.agg #[.int .u16 0, .int .u16 0, .int .u16 0, .int .u16 0, .int .u16 0, .int .u16 0, .int .u16 0, .int .u16 0], .bool false]) ∧ Below w'.heap.size w' w'' by have := C6.out w' hq'; rwa [h6] at this)
    have HX := Lib.hid (show bad14 host l = b by rw [H4.out]; unfold bad6; rw [h6]; rfl)
    clear h6
    cases b
    case' true =>
     have HE := Lib.hid (show R = 8 by rw [HV.out, HX.out]; rfl)
    case' false =>
     have HN := Lib.hid (show R = if 400 < T.length then 4 else 0 by rw [HV.out, HX.out]; rfl)
     by_cases h400 : (400 : Int) < (T.length : Int)
     case' pos => have HE := Lib.hid (HN.out.trans (if_pos (by omega)))
     case' neg =>
      have h400I : (T.length : Int) ≤ 400 := by omega
      have HE := Lib.hid (HN.out.trans (if_neg (by omega)))
      clear h400
    all_goals
     rcases hh with ⟨g1, g2⟩ | ⟨g1, g2, g3, g4⟩
     all_goals
      go_enter Tryz.func30, Tryz.ntmps30
      go_wp2_with (first
       | (go_at_call 32; go_must (go_fit (C4.out (w.alloc (.cells #[.string (str sch), .string (str host), .bool true, .int .i64 port, .slice A L.length c, .bool false, .string (str q), .bool asks, .string (str f), .bool marks] 44)) hq0)); rintro e w2 ⟨rfl, hb2⟩; have hB2 := bnext hB0 hb2; have hq2 := hq.next hB2; have hu2 := hu0.next hb2; have n0 := hu2.c0; have n1 := hu2.c1; have n2 := hu2.c2; have n3 := hu2.c3; have n4 := hu2.c4; have n5 := hu2.c5; have n6 := hu2.c6; have n7 := hu2.c7; have n8 := hu2.c8; have n9 := hu2.c9)
       | (go_at_call 33; go_must (go_fit (C6.out w2 hq2)); rintro e w3 ⟨rfl, hb3⟩; have hB3 := bnew (bnext hB2 hb3) (.cells #[.int .u16 0, .int .u16 0, .int .u16 0, .int .u16 0, .int .u16 0, .int .u16 0, .int .u16 0, .int .u16 0] 24); have hrl3 := hrl.far hB3; have hr3 := hr.far hB3; have hq3 := hq.next hB3; have hBn : Below w3.heap.size w3 (w3.alloc (.cells #[.int .u16 0, .int .u16 0, .int .u16 0, .int .u16 0, .int .u16 0, .int .u16 0, .int .u16 0, .int .u16 0] 24)) := bnew (Below.refl _ _) _; have hu3 := (hu2.next hb3).next hBn; have k0 := hu3.c0; have k1 := hu3.c1; have k2 := hu3.c2; have k3 := hu3.c3; have k4 := hu3.c4; have k5 := hu3.c5; have k6 := hu3.c6; have k7 := hu3.c7; have k8 := hu3.c8; have k9 := hu3.c9)
       | (go_at_call 23; go_must (go_fit (CF.out _)); rintro e wf ⟨rfl, rfl⟩)
       | (go_at_call 27; go_must (go_fit (CB.out (w3.alloc (.cells #[.int .u16 0, .int .u16 0, .int .u16 0, .int .u16 0, .int .u16 0, .int .u16 0, .int .u16 0, .int .u16 0] 24)) hrl3)); rintro e w6 ⟨rfl, hb6⟩; have hB6 := bnext hB3 hb6; have hr6 := hr.far hB6; have hu6 := hu3.next hb6; have i0 := hu6.c0; have i1 := hu6.c1; have i2 := hu6.c2; have i3 := hu6.c3; have i4 := hu6.c4; have i5 := hu6.c5; have i6 := hu6.c6; have i7 := hu6.c7; have i8 := hu6.c8; have i9 := hu6.c9)
       | (go_at_call 66; go_must (go_fit (CS.out w6 hr6)); rintro e ws ⟨rfl, hbs⟩))
      go_ret
      first
       | exact ⟨ret_int HE.out.symm, bnext hB6 hbs⟩
       | exact ⟨ret_int HE.out.symm, hB6⟩
   | some n =>
    obtain ⟨a0, a1, a2, a3, a4, a5, a6, a7, rfl⟩ := eight_list (hIP6_eight h6)
    have C6 := Lib.hid fun (w' : World) (hq' : LH w') => (show Calls Tryz.prog 33 #[.string (str host)] w' fun e w'' => e = .returned (.tuple #[.agg #[.int .u16 (a0 : Int), .int .u16 (a1 : Int), .int .u16 (a2 : Int), .int .u16 (a3 : Int), .int .u16 (a4 : Int), .int .u16 (a5 : Int), .int .u16 (a6 : Int), .int .u16 (a7 : Int)], .bool true]) ∧ Below w'.heap.size w' w'' by have := C6.out w' hq'; rwa [h6] at this)
    have CI := Lib.hid fun w => rfree6_any a0 a1 a2 a3 a4 a5 a6 a7 (hIP6_lt h6) w
    rw [← free6_eq rfl (hIP6_lt h6)] at CI
    have H6 := Lib.hid (show bad14 host l = (!free6 [a0, a1, a2, a3, a4, a5, a6, a7] || b) by rw [H4.out]; unfold bad6; rw [h6])
    clear h6
    cases hf6 : free6 [a0, a1, a2, a3, a4, a5, a6, a7] with
    | false =>
     rw [hf6] at CI
     have HX := Lib.hid (show bad14 host l = true by rw [H6.out, hf6]; rfl)
     clear hf6 H6
     have HE := Lib.hid (show R = 8 by rw [HV.out, HX.out]; rfl)
     clear HV HX
     rcases hh with ⟨g1, g2⟩ | ⟨g1, g2, g3, g4⟩
     all_goals
      go_enter Tryz.func30, Tryz.ntmps30
      go_wp2_with (first
       | (go_at_call 32; go_must (go_fit (C4.out (w.alloc (.cells #[.string (str sch), .string (str host), .bool true, .int .i64 port, .slice A L.length c, .bool false, .string (str q), .bool asks, .string (str f), .bool marks] 44)) hq0)); rintro e w2 ⟨rfl, hb2⟩; have hB2 := bnext hB0 hb2; have hq2 := hq.next hB2; have hu2 := hu0.next hb2; have n0 := hu2.c0; have n1 := hu2.c1; have n2 := hu2.c2; have n3 := hu2.c3; have n4 := hu2.c4; have n5 := hu2.c5; have n6 := hu2.c6; have n7 := hu2.c7; have n8 := hu2.c8; have n9 := hu2.c9)
       | (go_at_call 33; go_must (go_fit (C6.out w2 hq2)); rintro e w3 ⟨rfl, hb3⟩; have hB3 := bnew (bnext hB2 hb3) (.cells #[.int .u16 (a0 : Int), .int .u16 (a1 : Int), .int .u16 (a2 : Int), .int .u16 (a3 : Int), .int .u16 (a4 : Int), .int .u16 (a5 : Int), .int .u16 (a6 : Int), .int .u16 (a7 : Int)] 24); have hrl3 := hrl.far hB3; have hr3 := hr.far hB3; have hq3 := hq.next hB3; have hBn : Below w3.heap.size w3 (w3.alloc (.cells #[.int .u16 (a0 : Int), .int .u16 (a1 : Int), .int .u16 (a2 : Int), .int .u16 (a3 : Int), .int .u16 (a4 : Int), .int .u16 (a5 : Int), .int .u16 (a6 : Int), .int .u16 (a7 : Int)] 24)) := bnew (Below.refl _ _) _; have hu3 := (hu2.next hb3).next hBn; have k0 := hu3.c0; have k1 := hu3.c1; have k2 := hu3.c2; have k3 := hu3.c3; have k4 := hu3.c4; have k5 := hu3.c5; have k6 := hu3.c6; have k7 := hu3.c7; have k8 := hu3.c8; have k9 := hu3.c9)
       | (go_at_call 23; go_must (go_fit (CF.out _)); rintro e wf ⟨rfl, rfl⟩)
       | (go_at_call 25; go_must (go_fit (CI.out (w3.alloc (.cells #[.int .u16 (a0 : Int), .int .u16 (a1 : Int), .int .u16 (a2 : Int), .int .u16 (a3 : Int), .int .u16 (a4 : Int), .int .u16 (a5 : Int), .int .u16 (a6 : Int), .int .u16 (a7 : Int)] 24)))); rintro e w5 ⟨rfl, hb5⟩; have hB5 := bnext hB3 hb5; have hrl5 := hrl.far hB5; have hr5 := hr.far hB5; have hu5 := hu3.next hb5; have j0 := hu5.c0; have j1 := hu5.c1; have j2 := hu5.c2; have j3 := hu5.c3; have j4 := hu5.c4; have j5 := hu5.c5; have j6 := hu5.c6; have j7 := hu5.c7; have j8 := hu5.c8; have j9 := hu5.c9))
      go_ret
      exact ⟨ret_int HE.out.symm, hB5⟩
    | true =>
     rw [hf6] at CI
     have HX := Lib.hid (show bad14 host l = b by rw [H6.out, hf6]; rfl)
     clear hf6 H6
     cases b
     case' true =>
      have HE := Lib.hid (show R = 8 by rw [HV.out, HX.out]; rfl)
     case' false =>
      have HN := Lib.hid (show R = if 400 < T.length then 4 else 0 by rw [HV.out, HX.out]; rfl)
      by_cases h400 : (400 : Int) < (T.length : Int)
      case' pos => have HE := Lib.hid (HN.out.trans (if_pos (by omega)))
      case' neg =>
       have h400I : (T.length : Int) ≤ 400 := by omega
       have HE := Lib.hid (HN.out.trans (if_neg (by omega)))
       clear h400
     all_goals
      rcases hh with ⟨g1, g2⟩ | ⟨g1, g2, g3, g4⟩
      all_goals
       go_enter Tryz.func30, Tryz.ntmps30
       go_wp2_with (first
        | (go_at_call 32; go_must (go_fit (C4.out (w.alloc (.cells #[.string (str sch), .string (str host), .bool true, .int .i64 port, .slice A L.length c, .bool false, .string (str q), .bool asks, .string (str f), .bool marks] 44)) hq0)); rintro e w2 ⟨rfl, hb2⟩; have hB2 := bnext hB0 hb2; have hq2 := hq.next hB2; have hu2 := hu0.next hb2; have n0 := hu2.c0; have n1 := hu2.c1; have n2 := hu2.c2; have n3 := hu2.c3; have n4 := hu2.c4; have n5 := hu2.c5; have n6 := hu2.c6; have n7 := hu2.c7; have n8 := hu2.c8; have n9 := hu2.c9)
        | (go_at_call 33; go_must (go_fit (C6.out w2 hq2)); rintro e w3 ⟨rfl, hb3⟩; have hB3 := bnew (bnext hB2 hb3) (.cells #[.int .u16 (a0 : Int), .int .u16 (a1 : Int), .int .u16 (a2 : Int), .int .u16 (a3 : Int), .int .u16 (a4 : Int), .int .u16 (a5 : Int), .int .u16 (a6 : Int), .int .u16 (a7 : Int)] 24); have hrl3 := hrl.far hB3; have hr3 := hr.far hB3; have hq3 := hq.next hB3; have hBn : Below w3.heap.size w3 (w3.alloc (.cells #[.int .u16 (a0 : Int), .int .u16 (a1 : Int), .int .u16 (a2 : Int), .int .u16 (a3 : Int), .int .u16 (a4 : Int), .int .u16 (a5 : Int), .int .u16 (a6 : Int), .int .u16 (a7 : Int)] 24)) := bnew (Below.refl _ _) _; have hu3 := (hu2.next hb3).next hBn; have k0 := hu3.c0; have k1 := hu3.c1; have k2 := hu3.c2; have k3 := hu3.c3; have k4 := hu3.c4; have k5 := hu3.c5; have k6 := hu3.c6; have k7 := hu3.c7; have k8 := hu3.c8; have k9 := hu3.c9)
        | (go_at_call 23; go_must (go_fit (CF.out _)); rintro e wf ⟨rfl, rfl⟩)
        | (go_at_call 25; go_must (go_fit (CI.out (w3.alloc (.cells #[.int .u16 (a0 : Int), .int .u16 (a1 : Int), .int .u16 (a2 : Int), .int .u16 (a3 : Int), .int .u16 (a4 : Int), .int .u16 (a5 : Int), .int .u16 (a6 : Int), .int .u16 (a7 : Int)] 24)))); rintro e w5 ⟨rfl, hb5⟩; have hB5 := bnext hB3 hb5; have hrl5 := hrl.far hB5; have hr5 := hr.far hB5; have hu5 := hu3.next hb5; have j0 := hu5.c0; have j1 := hu5.c1; have j2 := hu5.c2; have j3 := hu5.c3; have j4 := hu5.c4; have j5 := hu5.c5; have j6 := hu5.c6; have j7 := hu5.c7; have j8 := hu5.c8; have j9 := hu5.c9)
        | (go_at_call 27; go_must (go_fit (CB.out w5 hrl5)); rintro e w6 ⟨rfl, hb6⟩; have hB6 := bnext hB5 hb6; have hr6 := hr.far hB6; have hu6 := hu5.next hb6; have i0 := hu6.c0; have i1 := hu6.c1; have i2 := hu6.c2; have i3 := hu6.c3; have i4 := hu6.c4; have i5 := hu6.c5; have i6 := hu6.c6; have i7 := hu6.c7; have i8 := hu6.c8; have i9 := hu6.c9)
        | (go_at_call 66; go_must (go_fit (CS.out w6 hr6)); rintro e ws ⟨rfl, hbs⟩))
       go_ret
       first
        | exact ⟨ret_int HE.out.symm, bnext hB6 hbs⟩
        | exact ⟨ret_int HE.out.symm, hB6⟩
end Go.Proofs.YtoapelcofjjdnaaGreatDoor
