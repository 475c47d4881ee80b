/- The walk of the statement Ip6All. -/
import Derived.Test.YtoapelcofjjdnaaDoorK12
import Derived.Test.YtoapelcofjjdnaaDoorK11
import Derived.Test.YtoapelcofjjdnaaDoorKSixW
import Derived.Deep.RegionHeld3
namespace Go.Proofs.YtoapelcofjjdnaaDoor
set_option linter.all false
open Go.RowKit

theorem Row.c8i {w : World} {g : Nat} {v0 v1 v2 v3 v4 v5 v6 v7 : Value} (h : Row w g [v0, v1, v2, v3, v4, v5, v6, v7]) :
    w.cell? ⟨g, 0, none⟩ = some v0 ∧ w.cell? ⟨g, 1, none⟩ = some v1 ∧ w.cell? ⟨g, 2, none⟩ = some v2 ∧ w.cell? ⟨g, 3, none⟩ = some v3 ∧ w.cell? ⟨g, 4, none⟩ = some v4 ∧ w.cell? ⟨g, 5, none⟩ = some v5 ∧ w.cell? ⟨g, 6, none⟩ = some v6 ∧ w.cell? ⟨g, 7, none⟩ = some v7 :=
  ⟨h.1 0 _ rfl, h.1 1 _ rfl, h.1 2 _ rfl, h.1 3 _ rfl, h.1 4 _ rfl, h.1 5 _ rfl, h.1 6 _ rfl, h.1 7 _ rfl⟩
theorem eight_of6 {a : List Nat} (h : a.length = 8) : ∃ a0 a1 a2 a3 a4 a5 a6 a7, a = [a0, a1, a2, a3, a4, a5, a6, a7] := by
  match a, h with
  | [a0, a1, a2, a3, a4, a5, a6, a7], _ => exact ⟨a0, a1, a2, a3, a4, a5, a6, a7, rfl⟩
theorem adr_eight6 (s : List UInt8) : ∃ a0 a1 a2 a3 a4 a5 a6 a7 : Nat, adr (pParse6 s) = .agg #[.int .u16 (a0 : Int), .int .u16 (a1 : Int), .int .u16 (a2 : Int), .int .u16 (a3 : Int), .int .u16 (a4 : Int), .int .u16 (a5 : Int), .int .u16 (a6 : Int), .int .u16 (a7 : Int)] := by
  cases h : pParse6 s with
  | none => exact ⟨0, 0, 0, 0, 0, 0, 0, 0, rfl⟩
  | some a =>
    obtain ⟨a0, a1, a2, a3, a4, a5, a6, a7, rfl⟩ := eight_of6 ((pParse6_ok h).1)
    exact ⟨a0, a1, a2, a3, a4, a5, a6, a7, rfl⟩
set_option maxRecDepth 100000 in
set_option maxHeartbeats 8000000 in
theorem ip6All_of (s : List UInt8) (n : Int) (b : List Nat) (b0 b1 b2 b3 b4 b5 b6 b7 : Nat) (hb : b = [b0, b1, b2, b3, b4, b5, b6, b7]) (h16 : ∀ x ∈ b, x < 65536) (w : World) (hq : L8 w) (hs : (s.length : Int) ≤ 60) (HP : Hid (ret6 (pParse6 s) = .returned (.tuple #[adr (pParse6 s), .int .i64 n]))) :
    Calls Tryd.prog 3 #[.string (str s), .agg #[.int .u16 (b0 : Int), .int .u16 (b1 : Int), .int .u16 (b2 : Int), .int .u16 (b3 : Int), .int .u16 (b4 : Int), .int .u16 (b5 : Int), .int .u16 (b6 : Int), .int .u16 (b7 : Int)]] w fun e w' => e = .returned (.bool true) ∧ Below w.heap.size w w' := by
  have hsz := str_size s
  obtain ⟨a0, a1, a2, a3, a4, a5, a6, a7, ha⟩ := adr_eight6 s
  have D1 := Lib.hid fun w hev => parse6_any s w hev (by omega)
  have D2 := Lib.hid fun w => rparse6_any s w (by omega)
  rw [← parse6_eq] at D2
  rw [HP.out, ha] at D1 D2
  have C1 := Lib.hid fun w hd => show6_any b b0 b1 b2 b3 b4 b5 b6 b7 hb h16 w hd
  have C2 := Lib.hid fun w => show6r_any b b0 b1 b2 b3 b4 b5 b6 b7 hb h16 w
  obtain ⟨T, hTe⟩ : ∃ T, T = pShow6 b := ⟨_, rfl⟩
  rw [← hTe] at C1 C2
  have et := str_eqB T T
  rw [decide_eq_true rfl] at et
  clear hTe hb h16 ha HP
  have hR0 : Row (w.alloc (.cells #[.int .u16 (b0 : Int), .int .u16 (b1 : Int), .int .u16 (b2 : Int), .int .u16 (b3 : Int), .int .u16 (b4 : Int), .int .u16 (b5 : Int), .int .u16 (b6 : Int), .int .u16 (b7 : Int)] 23)) w.heap.size [.int .u16 (b0 : Int), .int .u16 (b1 : Int), .int .u16 (b2 : Int), .int .u16 (b3 : Int), .int .u16 (b4 : Int), .int .u16 (b5 : Int), .int .u16 (b6 : Int), .int .u16 (b7 : Int)] := Row.made w #[.int .u16 (b0 : Int), .int .u16 (b1 : Int), .int .u16 (b2 : Int), .int .u16 (b3 : Int), .int .u16 (b4 : Int), .int .u16 (b5 : Int), .int .u16 (b6 : Int), .int .u16 (b7 : Int)] 23
  have hB0 : Below w.heap.size w (w.alloc (.cells #[.int .u16 (b0 : Int), .int .u16 (b1 : Int), .int .u16 (b2 : Int), .int .u16 (b3 : Int), .int .u16 (b4 : Int), .int .u16 (b5 : Int), .int .u16 (b6 : Int), .int .u16 (b7 : Int)] 23)) := (Below.refl _ _).alloc (Nat.le_refl _) _
  have hq0 := hq.next hB0
  have heq := eqA8 (a0 : Int) a1 a2 a3 a4 a5 a6 a7
  go_enter Tryd.func3, Tryd.ntmps3
  go_wp2_with (first
    | (go_at_call 4; go_must (go_fit (begun8_any _ hq0)); rintro e w1 ⟨rfl, hb1⟩; have hR1 := Row.below hR0 hb1 hR0.2.2; have hB1 := bnext hB0 hb1; have hq1 := hq.next hB1)
    | (go_at_call 5; go_must (go_fit (D1.out w1 hq1.1)); rintro e w2 ⟨rfl, hb2⟩; have hR2 := Row.far (Row.below hR1 hb2 hR1.2.2) (.cells #[.int .u16 (a0 : Int), .int .u16 (a1 : Int), .int .u16 (a2 : Int), .int .u16 (a3 : Int), .int .u16 (a4 : Int), .int .u16 (a5 : Int), .int .u16 (a6 : Int), .int .u16 (a7 : Int)] 23); have hB2 := bnew (bnext hB1 hb2) (.cells #[.int .u16 (a0 : Int), .int .u16 (a1 : Int), .int .u16 (a2 : Int), .int .u16 (a3 : Int), .int .u16 (a4 : Int), .int .u16 (a5 : Int), .int .u16 (a6 : Int), .int .u16 (a7 : Int)] 23); have hY2 : Row (w2.alloc (.cells #[.int .u16 (a0 : Int), .int .u16 (a1 : Int), .int .u16 (a2 : Int), .int .u16 (a3 : Int), .int .u16 (a4 : Int), .int .u16 (a5 : Int), .int .u16 (a6 : Int), .int .u16 (a7 : Int)] 23)) w2.heap.size [.int .u16 (a0 : Int), .int .u16 (a1 : Int), .int .u16 (a2 : Int), .int .u16 (a3 : Int), .int .u16 (a4 : Int), .int .u16 (a5 : Int), .int .u16 (a6 : Int), .int .u16 (a7 : Int)] := Row.made w2 #[.int .u16 (a0 : Int), .int .u16 (a1 : Int), .int .u16 (a2 : Int), .int .u16 (a3 : Int), .int .u16 (a4 : Int), .int .u16 (a5 : Int), .int .u16 (a6 : Int), .int .u16 (a7 : Int)] 23)
    | (go_at_call 6; go_must (go_fit (D2.out _)); rintro e w3 ⟨rfl, hb3⟩))
  obtain ⟨w4, hw4⟩ : ∃ w4, w4 = w3.alloc (.cells #[.int .u16 (a0 : Int), .int .u16 (a1 : Int), .int .u16 (a2 : Int), .int .u16 (a3 : Int), .int .u16 (a4 : Int), .int .u16 (a5 : Int), .int .u16 (a6 : Int), .int .u16 (a7 : Int)] 23) := ⟨_, rfl⟩
  have hR4 : Row w4 w.heap.size [.int .u16 (b0 : Int), .int .u16 (b1 : Int), .int .u16 (b2 : Int), .int .u16 (b3 : Int), .int .u16 (b4 : Int), .int .u16 (b5 : Int), .int .u16 (b6 : Int), .int .u16 (b7 : Int)] := hw4 ▸ Row.far (Row.below hR2 hb3 hR2.2.2) _
  have hY4 : Row w4 w2.heap.size [.int .u16 (a0 : Int), .int .u16 (a1 : Int), .int .u16 (a2 : Int), .int .u16 (a3 : Int), .int .u16 (a4 : Int), .int .u16 (a5 : Int), .int .u16 (a6 : Int), .int .u16 (a7 : Int)] := hw4 ▸ Row.far (Row.below hY2 hb3 hY2.2.2) _
  have hZ4 : Row w4 w3.heap.size [.int .u16 (a0 : Int), .int .u16 (a1 : Int), .int .u16 (a2 : Int), .int .u16 (a3 : Int), .int .u16 (a4 : Int), .int .u16 (a5 : Int), .int .u16 (a6 : Int), .int .u16 (a7 : Int)] := hw4 ▸ Row.made w3 #[.int .u16 (a0 : Int), .int .u16 (a1 : Int), .int .u16 (a2 : Int), .int .u16 (a3 : Int), .int .u16 (a4 : Int), .int .u16 (a5 : Int), .int .u16 (a6 : Int), .int .u16 (a7 : Int)] 23
  have hB4 : Below w.heap.size w w4 := hw4 ▸ bnew (bnext hB2 hb3) _
  rw [← hw4]
  clear hw4
  obtain ⟨g5, hg5⟩ : ∃ g, g = w2.heap.size := ⟨_, rfl⟩
  obtain ⟨g7, hg7⟩ : ∃ g, g = w3.heap.size := ⟨_, rfl⟩
  rw [← hg5] at hY4 ⊢
  rw [← hg7] at hZ4 ⊢
  clear hg5 hg7
  have hRd := Row.below hR4 (Below.drew (Below.refl w4.heap.size w4)) hR4.2.2
  have hYd := Row.below hY4 (Below.drew (Below.refl w4.heap.size w4)) hY4.2.2
  have hZd := Row.below hZ4 (Below.drew (Below.refl w4.heap.size w4)) hZ4.2.2
  have hBd := Below.drew hB4
  have hqd := hq.next hBd
  have c4 := And.intro hRd.c8i (And.intro hYd.c8i hZd.c8i)
  go_region_held3 (fun w' => (w'.cell? ⟨w.heap.size, 0, none⟩ = some (.int .u16 (b0 : Int)) ∧ w'.cell? ⟨w.heap.size, 1, none⟩ = some (.int .u16 (b1 : Int)) ∧ w'.cell? ⟨w.heap.size, 2, none⟩ = some (.int .u16 (b2 : Int)) ∧ w'.cell? ⟨w.heap.size, 3, none⟩ = some (.int .u16 (b3 : Int)) ∧ w'.cell? ⟨w.heap.size, 4, none⟩ = some (.int .u16 (b4 : Int)) ∧ w'.cell? ⟨w.heap.size, 5, none⟩ = some (.int .u16 (b5 : Int)) ∧ w'.cell? ⟨w.heap.size, 6, none⟩ = some (.int .u16 (b6 : Int)) ∧ w'.cell? ⟨w.heap.size, 7, none⟩ = some (.int .u16 (b7 : Int))) ∧ (w'.cell? ⟨g5, 0, none⟩ = some (.int .u16 (a0 : Int)) ∧ w'.cell? ⟨g5, 1, none⟩ = some (.int .u16 (a1 : Int)) ∧ w'.cell? ⟨g5, 2, none⟩ = some (.int .u16 (a2 : Int)) ∧ w'.cell? ⟨g5, 3, none⟩ = some (.int .u16 (a3 : Int)) ∧ w'.cell? ⟨g5, 4, none⟩ = some (.int .u16 (a4 : Int)) ∧ w'.cell? ⟨g5, 5, none⟩ = some (.int .u16 (a5 : Int)) ∧ w'.cell? ⟨g5, 6, none⟩ = some (.int .u16 (a6 : Int)) ∧ w'.cell? ⟨g5, 7, none⟩ = some (.int .u16 (a7 : Int))) ∧ (w'.cell? ⟨g7, 0, none⟩ = some (.int .u16 (a0 : Int)) ∧ w'.cell? ⟨g7, 1, none⟩ = some (.int .u16 (a1 : Int)) ∧ w'.cell? ⟨g7, 2, none⟩ = some (.int .u16 (a2 : Int)) ∧ w'.cell? ⟨g7, 3, none⟩ = some (.int .u16 (a3 : Int)) ∧ w'.cell? ⟨g7, 4, none⟩ = some (.int .u16 (a4 : Int)) ∧ w'.cell? ⟨g7, 5, none⟩ = some (.int .u16 (a5 : Int)) ∧ w'.cell? ⟨g7, 6, none⟩ = some (.int .u16 (a6 : Int)) ∧ w'.cell? ⟨g7, 7, none⟩ = some (.int .u16 (a7 : Int)))) (first | exact c4 | exact c5 | exact c6) (first
    | (go_at_call 7; go_fit (C1.out w4.drew hqd.2); rintro e w5 ⟨rfl, hb5⟩; have hR5 := hRd.below hb5 hRd.2.2; have hY5 := hYd.below hb5 hYd.2.2; have hZ5 := hZd.below hb5 hZd.2.2; have c5 := And.intro hR5.c8i (And.intro hY5.c8i hZ5.c8i); have hB5 := bnext hBd hb5)
    | (go_at_call 8; go_fit (C2.out w5); rintro e w6 ⟨rfl, hb6⟩; have hR6 := hR5.below hb6 hR5.2.2; have hY6 := hY5.below hb6 hY5.2.2; have hZ6 := hZ5.below hb6 hZ5.2.2; have c6 := And.intro hR6.c8i (And.intro hY6.c8i hZ6.c8i); have hB6 := bnext hB5 hb6))
  all_goals
    go_wp2
    go_ret
    exact ⟨rfl, hB6⟩
set_option maxRecDepth 100000 in
set_option maxHeartbeats 4000000 in
theorem ip6All_walk (s : List UInt8) (b : List Nat) (b0 b1 b2 b3 b4 b5 b6 b7 : Nat) (hb : b = [b0, b1, b2, b3, b4, b5, b6, b7]) (h16 : ∀ x ∈ b, x < 65536) (w : World) (hq : L8 w) :
    Calls Tryd.prog 3 #[.string (str s), .agg #[.int .u16 (b0 : Int), .int .u16 (b1 : Int), .int .u16 (b2 : Int), .int .u16 (b3 : Int), .int .u16 (b4 : Int), .int .u16 (b5 : Int), .int .u16 (b6 : Int), .int .u16 (b7 : Int)]] w fun e w' => e = .returned (.bool true) ∧ Below w.heap.size w w' := by
  have hsz := str_size s
  by_cases h60 : (s.length : Int) ≤ 60
  · cases ho : pParse6 s with
    | none => exact ip6All_of s 5 b b0 b1 b2 b3 b4 b5 b6 b7 hb h16 w hq h60 (Lib.hid (by rw [ho]; rfl))
    | some t => exact ip6All_of s 0 b b0 b1 b2 b3 b4 b5 b6 b7 hb h16 w hq h60 (Lib.hid (by rw [ho]; rfl))
  · have hI : (60 : Int) < (s.length : Int) := by omega
    clear h60
    have hB0 : Below w.heap.size w (w.alloc (.cells #[.int .u16 (b0 : Int), .int .u16 (b1 : Int), .int .u16 (b2 : Int), .int .u16 (b3 : Int), .int .u16 (b4 : Int), .int .u16 (b5 : Int), .int .u16 (b6 : Int), .int .u16 (b7 : Int)] 23)) := (Below.refl _ _).alloc (Nat.le_refl _) _
    have hq0 := hq.next hB0
    go_enter Tryd.func3, Tryd.ntmps3
    go_wp2_with (go_at_call 4; go_must (go_fit (begun8_any _ hq0)); rintro e w1 ⟨rfl, hb1⟩)
    go_ret
    exact ⟨rfl, bnext hB0 hb1⟩
end Go.Proofs.YtoapelcofjjdnaaDoor
