/- A part of the proof. -/
import Derived.Test.YtoapelcofjjdnaaGreatDoorRUrlJ
import Derived.Test.YtoapelcofjjdnaaGreatDoorR20
import Derived.Test.YtoapelcofjjdnaaGreatDoorR10
import Derived.Deep.RegionHeld3
namespace Go.Proofs.YtoapelcofjjdnaaGreatDoor
set_option linter.all false
open Go.RowKit
theorem url_ok {s : List UInt8} {o : Uo} {w : World} (h : uUrl s = some o) :
  Calls Tryz.prog 28 #[.string (str s), .pointer none] w fun e w' => ∃ A c, e = .returned (.tuple #[.agg #[.string (str o.sch), .string (str o.host), .bool o.has, .int .i64 o.port, .slice A o.path.length c, .bool o.opq, .string (str o.query), .bool o.asks, .string (str o.frag), .bool o.marks], .int .i64 0]) ∧ Rd w' w'.heap.size A (strs o.path) ∧ Below w.heap.size w w' :=
 (url_any s w).mono fun e w' ⟨hv, hb⟩ => by
  rw [h] at hv
  obtain ⟨A, c, he, hr⟩ := hv
  exact ⟨A, c, he, hr, hb⟩
theorem pmay_scheme (sch host query frag : List UInt8) (has opq asks marks : Bool) (port : Int) (v vs : Value) (w : World) (h1 : sch ≠ uHttp) (h2 : sch ≠ uHttps) :
  Calls Tryz.prog 29 #[.agg #[.string (str sch), .string (str host), .bool has, .int .i64 port, v, .bool opq, .string (str query), .bool asks, .string (str frag), .bool marks], vs] w fun e w' => e = .returned (.int .i64 7) ∧ Below w.heap.size w w' := by
 have hu : UrAt (w.alloc (.cells #[.string (str sch), .string (str host), .bool has, .int .i64 port, v, .bool opq, .string (str query), .bool asks, .string (str frag), .bool marks] 44)) w.heap.size ⟨sch, host, has, port, [], opq, query, asks, frag, marks⟩ v   := UrAt.made w ⟨sch, host, has, port, [], opq, query, asks, frag, marks⟩ v
 have c0 := hu.c0
 have htl := str_toL sch
 have q1 : (sch != [104, 116, 116, 112]) = true := by rw [bne_iff_ne]; exact h1
 have q2 : (sch != [104, 116, 116, 112, 115]) = true := by rw [bne_iff_ne]; exact h2
 have q3 : (sch == [104, 116, 116, 112]) = false := by rw [beq_eq_false_iff_ne]; exact h1
 have q4 : (sch == [104, 116, 116, 112, 115]) = false := by rw [beq_eq_false_iff_ne]; exact h2
 clear h1 h2
 go_enter Tryz.func29, Tryz.ntmps29
 go_wp2
 go_ret
 exact ⟨rfl, bnew (Below.refl _ _) _⟩
def u14 : List UInt8 := [102, 116, 112, 58, 47, 47, 97]
def o14 : Uo := ⟨[102, 116, 112], [97], true, -1, [[]], false, [], false, [], false⟩
def b14a : List UInt8 := [97, 46, 108, 111, 99, 97, 108, 104, 111, 115, 116]
set_option maxRecDepth 100000 in
set_option maxHeartbeats 4000000 in
theorem begun14_any (w : World) (hm : ML w) : Calls Tryz.prog 21 #[] w fun e w' => e = .returned (.bool true) ∧ Below w.heap.size w w' := by
 have p1 : uUrl u14 = some o14 := by decide +kernel
 have p2 : free4 16909060 = true := by decide +kernel
 have p3 : free4 167772160 = false := by decide +kernel
 have p4 : free6 [0, 0, 0, 0, 0, 0, 0, 1] = false := by decide +kernel
 have p5 : free6 [8193, 0, 0, 0, 0, 0, 0, 0] = true := by decide +kernel
 have p6 : blk b14a [] = true := by decide +kernel
 have p7 : blk [97] [] = false := by decide +kernel
 have C1 := Lib.hid fun w => url_ok (w := w) p1
 have C2 := Lib.hid fun w => pip4_any 16909060 (by decide) w
 have C3 := Lib.hid fun w => pip4_any 167772160 (by decide) w
 have C4 := Lib.hid fun w => pip6_any 0 0 0 0 0 0 0 1 (by decide) w
 have C5 := Lib.hid fun w => pip6_any 8193 0 0 0 0 0 0 0 (by decide) w
 have C6 := Lib.hid fun w hm => pblocked_any b14a none 0 [] w Rd.nil hm (by decide) (by decide)
 have C7 := Lib.hid fun w hm => pblocked_any [97] none 0 [] w Rd.nil hm (by decide) (by decide)
 have C8 := Lib.hid fun v w => pmay_scheme [102, 116, 112] [97] [] [] true false false false (-1) v (.slice none 0 0) w (by decide) (by decide)
 rw [p2] at C2
 rw [p3] at C3
 rw [p4] at C4
 rw [p5] at C5
 rw [p6] at C6
 rw [p7] at C7
 clear p1 p2 p3 p4 p5 p6 p7
 go_enter Tryz.func21, Tryz.ntmps21
 go_wp2_with (first
  | (go_at_call 28; go_must (go_fit (C1.out w)); rintro e w1 ⟨A1, c1, rfl, hr1, hb1⟩; have hU1 : UrAt (w1.alloc (.cells #[.string (str [102, 116, 112]), .string (str [97]), .bool true, .int .i64 (-1), .slice A1 1 c1, .bool false, .string (str []), .bool false, .string (str []), .bool false] 44)) w1.heap.size o14 (.slice A1 1 c1) := UrAt.made w1 o14 _; have hB1 := bnew hb1 (.cells #[.string (str [102, 116, 112]), .string (str [97]), .bool true, .int .i64 (-1), .slice A1 1 c1, .bool false, .string (str []), .bool false, .string (str []), .bool false] 44))
  | (go_at_call 22; go_fit (C2.out _); rintro e w2 ⟨rfl, hb2⟩; have hU2 := hU1.next hb2; have hB2 := bnext hB1 hb2)
  | (go_at_call 22; go_must (go_fit (C3.out w2)); rintro e w3 ⟨rfl, hb3⟩; have hU3 := hU2.next hb3; have hB3 := bnext hB2 hb3)
  | (go_at_call 24; go_fit (C4.out w3); rintro e w4 ⟨rfl, hb4⟩; have hU4 := hU3.next hb4; have hB4 := bnext hB3 hb4)
  | (go_at_call 24; go_must (go_fit (C5.out w4)); rintro e w5 ⟨rfl, hb5⟩; have hU5 := hU4.next hb5; have hB5 := bnext hB4 hb5; have hm5 := hm.next hB5)
  | (go_at_call 26; go_fit (C6.out w5 hm5); rintro e w6 ⟨rfl, hb6⟩; have hU6 := hU5.next hb6; have hB6 := bnext hB5 hb6; have hm6 := hm.next hB6)
  | (go_at_call 26; go_must (go_fit (C7.out w6 hm6)); rintro e w7 ⟨rfl, hb7⟩; have hU7 := hU6.next hb7; have hB7 := bnext hB6 hb7; have kc0 := hU7.c0; have kc1 := hU7.c1; have kc2 := hU7.c2; have kc3 := hU7.c3; have kc4 := hU7.c4; have kc5 := hU7.c5; have kc6 := hU7.c6; have kc7 := hU7.c7; have kc8 := hU7.c8; have kc9 := hU7.c9)
  | (go_at_call 29; go_must (go_fit (C8.out _ w7)); rintro e w8 ⟨rfl, hb8⟩))
 go_ret
 exact ⟨rfl, bnext hB7 hb8⟩
end Go.Proofs.YtoapelcofjjdnaaGreatDoor
