/- The walk of the statement HostNumbers. -/
import Derived.Test.YtfandijagdiggaaGreatDoorKLawHost
import Derived.Test.YtfandijagdiggaaGreatDoorK15
import Derived.Test.YtfandijagdiggaaGreatDoorK12
import Derived.Deep.RegionHeld3
namespace Go.Proofs.YtfandijagdiggaaGreatDoor
set_option linter.all false
open Go.RowKit

theorem Row.c8 {w : World} {g : Nat} {v0 v1 v2 v3 v4 v5 v6 v7 : Value} (h : Row w g [v0, v1, v2, v3, v4, v5, v6, v7]) :
    w.cell? ⟨g, 0, none⟩ = some v0 ∧ w.cell? ⟨g, 1, none⟩ = some v1 ∧ w.cell? ⟨g, 2, none⟩ = some v2 ∧ w.cell? ⟨g, 3, none⟩ = some v3 ∧ w.cell? ⟨g, 4, none⟩ = some v4 ∧ w.cell? ⟨g, 5, none⟩ = some v5 ∧ w.cell? ⟨g, 6, none⟩ = some v6 ∧ w.cell? ⟨g, 7, none⟩ = some v7 :=
  ⟨h.1 0 _ rfl, h.1 1 _ rfl, h.1 2 _ rfl, h.1 3 _ rfl, h.1 4 _ rfl, h.1 5 _ rfl, h.1 6 _ rfl, h.1 7 _ rfl⟩
set_option maxRecDepth 100000 in
set_option maxHeartbeats 8000000 in
theorem hostNumbers_walk (a : Nat) (ha : a < 4294967296) (l : List Nat) (a0 a1 a2 a3 a4 a5 a6 a7 : Nat) (hl : l = [a0, a1, a2, a3, a4, a5, a6, a7]) (h16 : ∀ x ∈ l, x < 65536) (w : World) (hq : LH w) :
    Calls Tryz.prog 3 #[.int .u32 (a : Int), .agg #[.int .u16 (a0 : Int), .int .u16 (a1 : Int), .int .u16 (a2 : Int), .int .u16 (a3 : Int), .int .u16 (a4 : Int), .int .u16 (a5 : Int), .int .u16 (a6 : Int), .int .u16 (a7 : Int)]] w fun e w' => e = .returned (.bool true) ∧ Below w.heap.size w w' := by
  have h8 : l.length = 8 := by rw [hl]; rfl
  have h32 : a < 2 ^ 32 := ha
  have q1 : hParse (digs 10 a) true = some (pShow4 a) := by rw [hParse_name (name_head (name_digs h32)), hName_digs h32]
  have q2 : ∀ sp, hParse ([91] ++ pShow6 l ++ [93]) sp = some ([91] ++ pShow6 l ++ [93]) := fun sp => by rw [hParse_long rfl, hLong_show h8 h16]
  have q3 := hIP4_show h32
  have q4 := hIP6_show h8 h16
  have q5 := hIP4_long (pShow6 l)
  have q6 := hIP6_four a
  have hT := show6_len h16 h8
  have hS := @show4_len a
  have hDl : (digs 10 a).length ≤ 10 := by have := digs_len (b := 10) (by decide) 10 a (by omega); omega
  have C4 := Lib.hid fun w => rshow4_any a w ha
  have C6 := Lib.hid fun w => show6r_any l a0 a1 a2 a3 a4 a5 a6 a7 hl h16 w
  have CT := Lib.hid fun w => ten6T_any a w (by omega)
  obtain ⟨D, hDe⟩ : ∃ D, D = digs 10 a := ⟨_, rfl⟩
  obtain ⟨S, hSe⟩ : ∃ S, S = pShow4 a := ⟨_, rfl⟩
  obtain ⟨T, hTe⟩ : ∃ T, T = pShow6 l := ⟨_, rfl⟩
  rw [← hDe] at q1 CT hDl
  rw [← hSe] at q1 q3 q6 C4 hS
  rw [← hTe] at q2 q4 q5 C6 hT
  rw [hl] at q4
  have yT := str_size T
  have e1 : ({ data := #[91] } : ByteArray) ++ str T = str ([91] ++ T) := str_app [91] T
  have k1 : (9223372036854775807 < 1 + T.length) = False := eq_false (by omega)
  obtain ⟨U, hU⟩ : ∃ U, U = [91] ++ T := ⟨_, rfl⟩
  have hUl : U.length = T.length + 1 := by rw [hU]; rfl
  rw [← hU] at e1 q2 q4 q5
  have yU : (str U).size = T.length + 1 := by rw [str_size, hUl]
  have e2 : str U ++ ({ data := #[93] } : ByteArray) = str (U ++ [93]) := str_app U [93]
  have k2 : (9223372036854775807 < T.length + 1 + 1) = False := eq_false (by omega)
  obtain ⟨V, hV⟩ : ∃ V, V = U ++ [93] := ⟨_, rfl⟩
  have hVl : V.length ≤ 1000 := by rw [hV, List.length_append, hUl]; simp; omega
  rw [← hV] at e2 q2 q4 q5
  have D1 := Lib.hid fun w h => hp_some (w := w) q1 h (by omega)
  have D2 := Lib.hid fun w h => hp_some (w := w) (q2 true) h hVl
  have D3 := Lib.hid fun w h => hp_some (w := w) (q2 false) h hVl
  have D4 := Lib.hid fun w h => ip4_some (w := w) q3 h (by omega)
  have D5 := Lib.hid fun w h => ip6_some (w := w) q4 h hVl
  have D6 := Lib.hid fun w h => ip4_none (w := w) q5 h hVl
  have D7 := Lib.hid fun w h => ip6_none (w := w) q6 h (by omega)
  have eS := str_eqB S S
  rw [decide_eq_true rfl] at eS
  have eV := str_eqB V V
  rw [decide_eq_true rfl] at eV
  have hwu : IntKind.u64.wrap (a : Int) = (a : Int) := IntWalk.u64_in _ (by omega)
  clear q1 q2 q3 q4 q5 q6 hU hV hTe hSe hDe hl h16 h8 h32
  have hR0 : Row (w.alloc (.cells #[.int .u16 (a0 : Int), .int .u16 (a1 : Int), .int .u16 (a2 : Int), .int .u16 (a3 : Int), .int .u16 (a4 : Int), .int .u16 (a5 : Int), .int .u16 (a6 : Int), .int .u16 (a7 : Int)] 24)) w.heap.size [.int .u16 (a0 : Int), .int .u16 (a1 : Int), .int .u16 (a2 : Int), .int .u16 (a3 : Int), .int .u16 (a4 : Int), .int .u16 (a5 : Int), .int .u16 (a6 : Int), .int .u16 (a7 : Int)] := Row.made w #[.int .u16 (a0 : Int), .int .u16 (a1 : Int), .int .u16 (a2 : Int), .int .u16 (a3 : Int), .int .u16 (a4 : Int), .int .u16 (a5 : Int), .int .u16 (a6 : Int), .int .u16 (a7 : Int)] 24
  have hB0 : Below w.heap.size w (w.alloc (.cells #[.int .u16 (a0 : Int), .int .u16 (a1 : Int), .int .u16 (a2 : Int), .int .u16 (a3 : Int), .int .u16 (a4 : Int), .int .u16 (a5 : Int), .int .u16 (a6 : Int), .int .u16 (a7 : Int)] 24)) := (Below.refl _ _).alloc (Nat.le_refl _) _
  have hq0 := hq.next hB0
  have heq := eqA8 (a0 : Int) a1 a2 a3 a4 a5 a6 a7
  go_enter Tryz.func3, Tryz.ntmps3
  go_wp2_with (go_at_call 14; go_must (go_fit (begun9_any _ hq0)); rintro e w1 ⟨rfl, hb1⟩; have hR1 := Row.below hR0 hb1 hR0.2.2; have hB1 := bnext hB0 hb1)
  have hR1d := Row.below hR1 (Below.drew (Below.refl w1.heap.size w1)) hR1.2.2
  have hB1d := Below.drew hB1
  have c1 := hR1d.c8
  go_region_held3 (fun w' => w'.cell? ⟨w.heap.size, 0, none⟩ = some (.int .u16 (a0 : Int)) ∧ w'.cell? ⟨w.heap.size, 1, none⟩ = some (.int .u16 (a1 : Int)) ∧ w'.cell? ⟨w.heap.size, 2, none⟩ = some (.int .u16 (a2 : Int)) ∧ w'.cell? ⟨w.heap.size, 3, none⟩ = some (.int .u16 (a3 : Int)) ∧ w'.cell? ⟨w.heap.size, 4, none⟩ = some (.int .u16 (a4 : Int)) ∧ w'.cell? ⟨w.heap.size, 5, none⟩ = some (.int .u16 (a5 : Int)) ∧ w'.cell? ⟨w.heap.size, 6, none⟩ = some (.int .u16 (a6 : Int)) ∧ w'.cell? ⟨w.heap.size, 7, none⟩ = some (.int .u16 (a7 : Int))) (first | exact c1 | exact c2 | exact c3) (first
    | (go_at_call 15; go_fit (C4.out w1.drew); rintro e w2 ⟨rfl, hb2⟩; have hR2 := hR1d.below hb2 hR1d.2.2; have c2 := hR2.c8; have hB2 := bnext hB1d hb2)
    | (go_at_call 16; go_fit (C6.out w2); rintro e w3 ⟨rfl, hb3⟩; have hR3 := hR2.below hb3 hR2.2.2; have c3 := hR3.c8; have hB3 := bnext hB2 hb3; have hq3 := hq.next hB3))
  clear hR1 hR1d hR0 c1 c2 hR2 e1 e2 k1 k2 yT yU
  go_wp2_with (first
    | (go_at_call 18; go_must (go_fit (CT.out w3)); rintro e w4 ⟨rfl, hb4⟩; have hq4 := hq3.next hb4)
    | (go_at_call 17; go_fit (D1.out w4 hq4); rintro e w5 ⟨rfl, hb5⟩; have hq5 := hq4.next hb5)
    | (go_at_call 17; go_fit (D2.out w5 hq5); rintro e w6 ⟨rfl, hb6⟩; have hq6 := hq5.next hb6)
    | (go_at_call 17; go_fit (D3.out w6 hq6); rintro e w7 ⟨rfl, hb7⟩; have hq7 := hq6.next hb7)
    | (go_at_call 19; go_fit (D4.out w7 hq7); rintro e w8 ⟨rfl, hb8⟩; have hq8 := hq7.next hb8)
    | (go_at_call 20; go_fit (D5.out w8 hq8); rintro e w9 ⟨rfl, hb9⟩; have hb39 := bnew (bnext (bnext (bnext (bnext (bnext hb4 hb5) hb6) hb7) hb8) hb9) (.cells #[.int .u16 (a0 : Int), .int .u16 (a1 : Int), .int .u16 (a2 : Int), .int .u16 (a3 : Int), .int .u16 (a4 : Int), .int .u16 (a5 : Int), .int .u16 (a6 : Int), .int .u16 (a7 : Int)] 24); have hqA := hq3.next hb39; have hRA := Row.below hR3 hb39 hR3.2.2; have hYA : Row (w9.alloc (.cells #[.int .u16 (a0 : Int), .int .u16 (a1 : Int), .int .u16 (a2 : Int), .int .u16 (a3 : Int), .int .u16 (a4 : Int), .int .u16 (a5 : Int), .int .u16 (a6 : Int), .int .u16 (a7 : Int)] 24)) w9.heap.size [.int .u16 (a0 : Int), .int .u16 (a1 : Int), .int .u16 (a2 : Int), .int .u16 (a3 : Int), .int .u16 (a4 : Int), .int .u16 (a5 : Int), .int .u16 (a6 : Int), .int .u16 (a7 : Int)] := Row.made w9 #[.int .u16 (a0 : Int), .int .u16 (a1 : Int), .int .u16 (a2 : Int), .int .u16 (a3 : Int), .int .u16 (a4 : Int), .int .u16 (a5 : Int), .int .u16 (a6 : Int), .int .u16 (a7 : Int)] 24)
    | (go_at_call 19; go_fit (D6.out _ hqA); rintro e wb ⟨rfl, hbb⟩; have hqB := hqA.next hbb; have hRB := Row.below hRA hbb hRA.2.2; have hYB := Row.below hYA hbb hYA.2.2)
    | (go_at_call 20; go_fit (D7.out _ hqB); rintro e wc ⟨rfl, hbc⟩; have hRC := Row.far (Row.below hRB hbc hRB.2.2) (.cells #[.int .u16 0, .int .u16 0, .int .u16 0, .int .u16 0, .int .u16 0, .int .u16 0, .int .u16 0, .int .u16 0] 24); have hYC := Row.far (Row.below hYB hbc hYB.2.2) (.cells #[.int .u16 0, .int .u16 0, .int .u16 0, .int .u16 0, .int .u16 0, .int .u16 0, .int .u16 0, .int .u16 0] 24); obtain ⟨x0, x1, x2, x3, x4, x5, x6, x7⟩ := hRC.c8; obtain ⟨y0, y1, y2, y3, y4, y5, y6, y7⟩ := hYC.c8))
  go_ret
  exact ⟨rfl, bnew (bnext (bnext (bnext hB3 hb39) hbb) hbc) _⟩
end Go.Proofs.YtfandijagdiggaaGreatDoor
