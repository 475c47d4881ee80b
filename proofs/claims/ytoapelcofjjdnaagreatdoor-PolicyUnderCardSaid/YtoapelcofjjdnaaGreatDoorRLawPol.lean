/- The walks of the statements of layer 14: begun, PolicyNumbers, PolicyHosts. -/
import Derived.Test.YtoapelcofjjdnaaGreatDoorRUrlJ
import Derived.Test.YtoapelcofjjdnaaGreatDoorR20
import Derived.Test.YtoapelcofjjdnaaGreatDoorR10
import Derived.Deep.RegionHeld3
namespace Go.Proofs.YtoapelcofjjdnaaGreatDoor
set_option linter.all false
open Go.RowKit
theorem url_ok {s : List UInt8} {o : Uo} {w : World} (h : uUrl s = some o) :
  Calls Tryz.prog 28 #[.string (str s), .pointer none] w fun e w' => ∃ A c, e = .returned (.tuple #[.agg #[.string (str o.sch), .string (str o.host), .bool o.has, .int .i64 o.port, .slice A o.path.length c, .bool o.opq, .string (str o.query), .bool o.asks, .string (str o.frag), .bool o.marks], .int .i64 0]) ∧ Rd w' w'.heap.size A (strs o.path) ∧ Below w.heap.size w w' :=
 (url_any s w).mono fun e w' ⟨hv, hb⟩ => by
  rw [h] at hv
  obtain ⟨A, c, he, hr⟩ := hv
  exact ⟨A, c, he, hr, hb⟩
theorem pmay_scheme (sch host query frag : List UInt8) (has opq asks marks : Bool) (port : Int) (v vs : Value) (w : World) (h1 : sch ≠ uHttp) (h2 : sch ≠ uHttps) :
  Calls Tryz.prog 29 #[.agg #[.string (str sch), .string (str host), .bool has, .int .i64 port, v, .bool opq, .string (str query), .bool asks, .string (str frag), .bool marks], vs] w fun e w' => e = .returned (.int .i64 7) ∧ Below w.heap.size w w' := by
 have hu : UrAt (w.alloc (.cells #[.string (str sch), .string (str host), .bool has, .int .i64 port, v, .bool opq, .string (str query), .bool asks, .string (str frag), .bool marks] 44)) w.heap.size ⟨sch, host, has, port, [], opq, query, asks, frag, marks⟩ v   := UrAt.made w ⟨sch, host, has, port, [], opq, query, asks, frag, marks⟩ v
 have c0 := hu.c0
 have htl := str_toL sch
 have q1 : (sch != [104, 116, 116, 112]) = true := by rw [bne_iff_ne]; exact h1
 have q2 : (sch != [104, 116, 116, 112, 115]) = true := by rw [bne_iff_ne]; exact h2
 have q3 : (sch == [104, 116, 116, 112]) = false := by rw [beq_eq_false_iff_ne]; exact h1
 have q4 : (sch == [104, 116, 116, 112, 115]) = false := by rw [beq_eq_false_iff_ne]; exact h2
 clear h1 h2
 go_enter Tryz.func29, Tryz.ntmps29
 go_wp2
 go_ret
 exact ⟨rfl, bnew (Below.refl _ _) _⟩
def u14 : List UInt8 := [102, 116, 112, 58, 47, 47, 97]
def o14 : Uo := ⟨[102, 116, 112], [97], true, -1, [[]], false, [], false, [], false⟩
def b14a : List UInt8 := [97, 46, 108, 111, 99, 97, 108, 104, 111, 115, 116]
set_option maxRecDepth 100000 in
set_option maxHeartbeats 4000000 in
theorem begun14_any (w : World) (hm : ML w) : Calls Tryz.prog 21 #[] w fun e w' => e = .returned (.bool true) ∧ Below w.heap.size w w' := by
 have p1 : uUrl u14 = some o14 := by decide +kernel
 have p2 : free4 16909060 = true := by decide +kernel
 have p3 : free4 167772160 = false := by decide +kernel
 have p4 : free6 [0, 0, 0, 0, 0, 0, 0, 1] = false := by decide +kernel
 have p5 : free6 [8193, 0, 0, 0, 0, 0, 0, 0] = true := by decide +kernel
 have p6 : blk b14a [] = true := by decide +kernel
 have p7 : blk [97] [] = false := by decide +kernel
 have C1 := Lib.hid fun w => url_ok (w := w) p1
 have C2 := Lib.hid fun w => pip4_any 16909060 (by decide) w
 have C3 := Lib.hid fun w => pip4_any 167772160 (by decide) w
 have C4 := Lib.hid fun w => pip6_any 0 0 0 0 0 0 0 1 (by decide) w
 have C5 := Lib.hid fun w => pip6_any 8193 0 0 0 0 0 0 0 (by decide) w
 have C6 := Lib.hid fun w hm => pblocked_any b14a none 0 [] w Rd.nil hm (by decide) (by decide)
 have C7 := Lib.hid fun w hm => pblocked_any [97] none 0 [] w Rd.nil hm (by decide) (by decide)
 have C8 := Lib.hid fun v w => pmay_scheme [102, 116, 112] [97] [] [] true false false false (-1) v (.slice none 0 0) w (by decide) (by decide)
 rw [p2] at C2
 rw [p3] at C3
 rw [p4] at C4
 rw [p5] at C5
 rw [p6] at C6
 rw [p7] at C7
 clear p1 p2 p3 p4 p5 p6 p7
 go_enter Tryz.func21, Tryz.ntmps21
 go_wp2_with (first
  | (go_at_call 28; go_must (go_fit (C1.out w)); rintro e w1 ⟨A1, c1, rfl, hr1, hb1⟩; have hU1 : UrAt (w1.alloc (.cells #[.string (str [102, 116, 112]), .string (str [97]), .bool true, .int .i64 (-1), .slice A1 1 c1, .bool false, .string (str []), .bool false, .string (str []), .bool false] 44)) w1.heap.size o14 (.slice A1 1 c1) := UrAt.made w1 o14 _; have hB1 := bnew hb1 (.cells #[.string (str [102, 116, 112]), .string (str [97]), .bool true, .int .i64 (-1), .slice A1 1 c1, .bool false, .string (str []), .bool false, .string (str []), .bool false] 44))
  | (go_at_call 22; go_fit (C2.out _); rintro e w2 ⟨rfl, hb2⟩; have hU2 := hU1.next hb2; have hB2 := bnext hB1 hb2)
  | (go_at_call 22; go_must (go_fit (C3.out w2)); rintro e w3 ⟨rfl, hb3⟩; have hU3 := hU2.next hb3; have hB3 := bnext hB2 hb3)
  | (go_at_call 24; go_fit (C4.out w3); rintro e w4 ⟨rfl, hb4⟩; have hU4 := hU3.next hb4; have hB4 := bnext hB3 hb4)
  | (go_at_call 24; go_must (go_fit (C5.out w4)); rintro e w5 ⟨rfl, hb5⟩; have hU5 := hU4.next hb5; have hB5 := bnext hB4 hb5; have hm5 := hm.next hB5)
  | (go_at_call 26; go_fit (C6.out w5 hm5); rintro e w6 ⟨rfl, hb6⟩; have hU6 := hU5.next hb6; have hB6 := bnext hB5 hb6; have hm6 := hm.next hB6)
  | (go_at_call 26; go_must (go_fit (C7.out w6 hm6)); rintro e w7 ⟨rfl, hb7⟩; have hU7 := hU6.next hb7; have hB7 := bnext hB6 hb7; have kc0 := hU7.c0; have kc1 := hU7.c1; have kc2 := hU7.c2; have kc3 := hU7.c3; have kc4 := hU7.c4; have kc5 := hU7.c5; have kc6 := hU7.c6; have kc7 := hU7.c7; have kc8 := hU7.c8; have kc9 := hU7.c9)
  | (go_at_call 29; go_must (go_fit (C8.out _ w7)); rintro e w8 ⟨rfl, hb8⟩))
 go_ret
 exact ⟨rfl, bnext hB7 hb8⟩
theorem c8_below {w0 w1 : World} {g : Nat} {v0 v1 v2 v3 v4 v5 v6 v7 : Value} (hb : Below w0.heap.size w0 w1) (hg : g < w0.heap.size) (h : w0.cell? ⟨g, 0, none⟩ = some v0 ∧ w0.cell? ⟨g, 1, none⟩ = some v1 ∧ w0.cell? ⟨g, 2, none⟩ = some v2 ∧ w0.cell? ⟨g, 3, none⟩ = some v3 ∧ w0.cell? ⟨g, 4, none⟩ = some v4 ∧ w0.cell? ⟨g, 5, none⟩ = some v5 ∧ w0.cell? ⟨g, 6, none⟩ = some v6 ∧ w0.cell? ⟨g, 7, none⟩ = some v7) :
  w1.cell? ⟨g, 0, none⟩ = some v0 ∧ w1.cell? ⟨g, 1, none⟩ = some v1 ∧ w1.cell? ⟨g, 2, none⟩ = some v2 ∧ w1.cell? ⟨g, 3, none⟩ = some v3 ∧ w1.cell? ⟨g, 4, none⟩ = some v4 ∧ w1.cell? ⟨g, 5, none⟩ = some v5 ∧ w1.cell? ⟨g, 6, none⟩ = some v6 ∧ w1.cell? ⟨g, 7, none⟩ = some v7 := by
 obtain ⟨h0, h1, h2, h3, h4, h5, h6, h7⟩ := h
 exact ⟨cell_on hb h0 hg, cell_on hb h1 hg, cell_on hb h2 hg, cell_on hb h3 hg, cell_on hb h4 hg, cell_on hb h5 hg, cell_on hb h6 hg, cell_on hb h7 hg⟩
set_option maxRecDepth 100000 in
set_option maxHeartbeats 8000000 in
theorem policyNumbers_walk (a : Nat) (ha : a < 4294967296) (a0 a1 a2 a3 a4 a5 a6 a7 : Nat) (h16 : ∀ x ∈ [a0, a1, a2, a3, a4, a5, a6, a7], x < 65536) (w : World) (hm : ML w) :
  Calls Tryz.prog 5 #[.int .u32 (a : Int), .agg #[.int .u16 (a0 : Int), .int .u16 (a1 : Int), .int .u16 (a2 : Int), .int .u16 (a3 : Int), .int .u16 (a4 : Int), .int .u16 (a5 : Int), .int .u16 (a6 : Int), .int .u16 (a7 : Int)]] w fun e w' => e = .returned (.bool true) ∧ Below w.heap.size w w' := by
 have D1 := Lib.hid fun w => pip4_any a ha w
 have D2 := Lib.hid fun w => rfree4_any a ha w
 have D3 := Lib.hid fun w => pip6_any a0 a1 a2 a3 a4 a5 a6 a7 h16 w
 have D4 := Lib.hid fun w => rfree6_any a0 a1 a2 a3 a4 a5 a6 a7 h16 w
 rw [← free4_eq ha] at D2
 rw [← free6_eq rfl h16] at D4
 obtain ⟨b, hb⟩ : ∃ b, b = free4 a := ⟨_, rfl⟩
 obtain ⟨d, hd⟩ : ∃ d, d = free6 [a0, a1, a2, a3, a4, a5, a6, a7] := ⟨_, rfl⟩
 rw [← hb] at D1 D2
 rw [← hd] at D3 D4
 clear hb hd h16
 have hR0 : Row (w.alloc (.cells #[.int .u16 (a0 : Int), .int .u16 (a1 : Int), .int .u16 (a2 : Int), .int .u16 (a3 : Int), .int .u16 (a4 : Int), .int .u16 (a5 : Int), .int .u16 (a6 : Int), .int .u16 (a7 : Int)] 24)) w.heap.size (qs [a0, a1, a2, a3, a4, a5, a6, a7]) := Row.made14 w #[.int .u16 (a0 : Int), .int .u16 (a1 : Int), .int .u16 (a2 : Int), .int .u16 (a3 : Int), .int .u16 (a4 : Int), .int .u16 (a5 : Int), .int .u16 (a6 : Int), .int .u16 (a7 : Int)] 24
 have hz0 : w.heap.size < (w.alloc (.cells #[.int .u16 (a0 : Int), .int .u16 (a1 : Int), .int .u16 (a2 : Int), .int .u16 (a3 : Int), .int .u16 (a4 : Int), .int .u16 (a5 : Int), .int .u16 (a6 : Int), .int .u16 (a7 : Int)] 24)).heap.size := by simp
 have c0 : ((w.alloc (.cells #[.int .u16 (a0 : Int), .int .u16 (a1 : Int), .int .u16 (a2 : Int), .int .u16 (a3 : Int), .int .u16 (a4 : Int), .int .u16 (a5 : Int), .int .u16 (a6 : Int), .int .u16 (a7 : Int)] 24)).cell? ⟨w.heap.size, 0, none⟩ = some (.int .u16 (a0 : Int)) ∧ (w.alloc (.cells #[.int .u16 (a0 : Int), .int .u16 (a1 : Int), .int .u16 (a2 : Int), .int .u16 (a3 : Int), .int .u16 (a4 : Int), .int .u16 (a5 : Int), .int .u16 (a6 : Int), .int .u16 (a7 : Int)] 24)).cell? ⟨w.heap.size, 1, none⟩ = some (.int .u16 (a1 : Int)) ∧ (w.alloc (.cells #[.int .u16 (a0 : Int), .int .u16 (a1 : Int), .int .u16 (a2 : Int), .int .u16 (a3 : Int), .int .u16 (a4 : Int), .int .u16 (a5 : Int), .int .u16 (a6 : Int), .int .u16 (a7 : Int)] 24)).cell? ⟨w.heap.size, 2, none⟩ = some (.int .u16 (a2 : Int)) ∧ (w.alloc (.cells #[.int .u16 (a0 : Int), .int .u16 (a1 : Int), .int .u16 (a2 : Int), .int .u16 (a3 : Int), .int .u16 (a4 : Int), .int .u16 (a5 : Int), .int .u16 (a6 : Int), .int .u16 (a7 : Int)] 24)).cell? ⟨w.heap.size, 3, none⟩ = some (.int .u16 (a3 : Int)) ∧ (w.alloc (.cells #[.int .u16 (a0 : Int), .int .u16 (a1 : Int), .int .u16 (a2 : Int), .int .u16 (a3 : Int), .int .u16 (a4 : Int), .int .u16 (a5 : Int), .int .u16 (a6 : Int), .int .u16 (a7 : Int)] 24)).cell? ⟨w.heap.size, 4, none⟩ = some (.int .u16 (a4 : Int)) ∧ (w.alloc (.cells #[.int .u16 (a0 : Int), .int .u16 (a1 : Int), .int .u16 (a2 : Int), .int .u16 (a3 : Int), .int .u16 (a4 : Int), .int .u16 (a5 : Int), .int .u16 (a6 : Int), .int .u16 (a7 : Int)] 24)).cell? ⟨w.heap.size, 5, none⟩ = some (.int .u16 (a5 : Int)) ∧ (w.alloc (.cells #[.int .u16 (a0 : Int), .int .u16 (a1 : Int), .int .u16 (a2 : Int), .int .u16 (a3 : Int), .int .u16 (a4 : Int), .int .u16 (a5 : Int), .int .u16 (a6 : Int), .int .u16 (a7 : Int)] 24)).cell? ⟨w.heap.size, 6, none⟩ = some (.int .u16 (a6 : Int)) ∧ (w.alloc (.cells #[.int .u16 (a0 : Int), .int .u16 (a1 : Int), .int .u16 (a2 : Int), .int .u16 (a3 : Int), .int .u16 (a4 : Int), .int .u16 (a5 : Int), .int .u16 (a6 : Int), .int .u16 (a7 : Int)] 24)).cell? ⟨w.heap.size, 7, none⟩ = some (.int .u16 (a7 : Int))) := ⟨hR0.1 0 _ rfl, hR0.1 1 _ rfl, hR0.1 2 _ rfl, hR0.1 3 _ rfl, hR0.1 4 _ rfl, hR0.1 5 _ rfl, hR0.1 6 _ rfl, hR0.1 7 _ rfl⟩
 have hB0 : Below w.heap.size w (w.alloc (.cells #[.int .u16 (a0 : Int), .int .u16 (a1 : Int), .int .u16 (a2 : Int), .int .u16 (a3 : Int), .int .u16 (a4 : Int), .int .u16 (a5 : Int), .int .u16 (a6 : Int), .int .u16 (a7 : Int)] 24)) := bnew (Below.refl _ _) _
 have hm0 := hm.next hB0
 go_enter Tryz.func5, Tryz.ntmps5
 go_wp2_with (go_at_call 21; go_must (go_fit (begun14_any _ hm0)); rintro e w1 ⟨rfl, hb1⟩)
 have c1 := c8_below hb1 hz0 c0
 have hz1 : w.heap.size < w1.heap.size := Nat.lt_of_lt_of_le hz0 hb1.size
 have hB1 := bnext hB0 hb1
 clear hR0 c0 hm0 hB0 hz0 hb1
 have cd : (w1.drew.cell? ⟨w.heap.size, 0, none⟩ = some (.int .u16 (a0 : Int)) ∧ w1.drew.cell? ⟨w.heap.size, 1, none⟩ = some (.int .u16 (a1 : Int)) ∧ w1.drew.cell? ⟨w.heap.size, 2, none⟩ = some (.int .u16 (a2 : Int)) ∧ w1.drew.cell? ⟨w.heap.size, 3, none⟩ = some (.int .u16 (a3 : Int)) ∧ w1.drew.cell? ⟨w.heap.size, 4, none⟩ = some (.int .u16 (a4 : Int)) ∧ w1.drew.cell? ⟨w.heap.size, 5, none⟩ = some (.int .u16 (a5 : Int)) ∧ w1.drew.cell? ⟨w.heap.size, 6, none⟩ = some (.int .u16 (a6 : Int)) ∧ w1.drew.cell? ⟨w.heap.size, 7, none⟩ = some (.int .u16 (a7 : Int))) := c8_below (Below.drew (Below.refl w1.heap.size w1)) hz1 c1
 have hBd := Below.drew hB1
 have hzd : w.heap.size < w1.drew.heap.size := hz1
 go_region_held3 (fun w' => (w'.cell? ⟨w.heap.size, 0, none⟩ = some (.int .u16 (a0 : Int)) ∧ w'.cell? ⟨w.heap.size, 1, none⟩ = some (.int .u16 (a1 : Int)) ∧ w'.cell? ⟨w.heap.size, 2, none⟩ = some (.int .u16 (a2 : Int)) ∧ w'.cell? ⟨w.heap.size, 3, none⟩ = some (.int .u16 (a3 : Int)) ∧ w'.cell? ⟨w.heap.size, 4, none⟩ = some (.int .u16 (a4 : Int)) ∧ w'.cell? ⟨w.heap.size, 5, none⟩ = some (.int .u16 (a5 : Int)) ∧ w'.cell? ⟨w.heap.size, 6, none⟩ = some (.int .u16 (a6 : Int)) ∧ w'.cell? ⟨w.heap.size, 7, none⟩ = some (.int .u16 (a7 : Int)))) (first | exact cd | exact c2 | exact c3 | exact c4) (first
  | (go_at_call 22; go_fit (D1.out w1.drew); rintro e w2 ⟨rfl, hb2⟩; have c2 := c8_below hb2 hzd cd; have hB2 := bnext hBd hb2; have hz2 : w.heap.size < w2.heap.size := Nat.lt_of_lt_of_le hzd hb2.size)
  | (go_at_call 23; go_fit (D2.out w2); rintro e w2b ⟨rfl, rfl⟩)
  | (go_at_call 24; go_fit (D3.out w2); rintro e w3 ⟨rfl, hb3⟩; have c3 := c8_below hb3 hz2 c2; have hB3 := bnext hB2 hb3)
  | (go_at_call 25; go_fit (D4.out w3); rintro e w4 ⟨rfl, hb4⟩; have c4 := c8_below hb4 (Nat.lt_of_lt_of_le hz2 hb3.size) c3; have hB4 := bnext hB3 hb4))
 all_goals
  (try go_wp2)
  go_ret
  exact ⟨by simp, hB4⟩
end Go.Proofs.YtoapelcofjjdnaaGreatDoor
