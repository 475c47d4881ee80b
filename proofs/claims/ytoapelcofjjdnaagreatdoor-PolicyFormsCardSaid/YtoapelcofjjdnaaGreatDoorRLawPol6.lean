/- A part of the proof. -/
import Derived.Test.YtoapelcofjjdnaaGreatDoorRLawPol5
import Derived.Deep.RegionHeld3
namespace Go.Proofs.YtoapelcofjjdnaaGreatDoor
set_option linter.all false
open Go.RowKit
theorem url_no {s : List UInt8} {w : World} (h : uUrl s = none) :
  Calls Tryz.prog 28 #[.string (str s), .pointer none] w fun e w' => (∃ n : Int, (n != 0) = true ∧ e = .returned (.tuple #[.agg #[.string (str []), .string (str []), .bool false, .int .i64 0, .slice none 0 0, .bool false, .string (str []), .bool false, .string (str []), .bool false], .int .i64 n])) ∧ Below w.heap.size w w' :=
 (url_any s w).mono fun e w' ⟨hv, hb⟩ => by
  rw [h] at hv
  obtain ⟨n, hn, he⟩ := hv
  exact ⟨⟨n, by rw [bne_iff_ne]; exact beq_eq_false_iff_ne.1 hn, he⟩, hb⟩
theorem UrAt.all {w : World} {g : Nat} {o : Uo} {A : Option Addr} {c : Nat} (h : UrAt w g o (.slice A o.path.length c)) : w.cell? ⟨g, 0, none⟩ = some (.string (str o.sch)) ∧ w.cell? ⟨g, 1, none⟩ = some (.string (str o.host)) ∧ w.cell? ⟨g, 2, none⟩ = some (.bool o.has) ∧ w.cell? ⟨g, 3, none⟩ = some (.int .i64 o.port) ∧ w.cell? ⟨g, 4, none⟩ = some (.slice A o.path.length c) ∧ w.cell? ⟨g, 5, none⟩ = some (.bool o.opq) ∧ w.cell? ⟨g, 6, none⟩ = some (.string (str o.query)) ∧ w.cell? ⟨g, 7, none⟩ = some (.bool o.asks) ∧ w.cell? ⟨g, 8, none⟩ = some (.string (str o.frag)) ∧ w.cell? ⟨g, 9, none⟩ = some (.bool o.marks) :=
 ⟨h.c0, h.c1, h.c2, h.c3, h.c4, h.c5, h.c6, h.c7, h.c8, h.c9⟩
set_option maxRecDepth 100000 in
set_option maxHeartbeats 8000000 in
theorem policyMay_none (s : List UInt8) (Al : Option Addr) (cl : Nat) (l : List (List UInt8)) (w : World) (hrl : Rd w w.heap.size Al (strs l)) (hq : LH w) (h200 : (s.length : Int) ≤ 200) (h4 : (l.length : Int) ≤ 4) (ho : uUrl s = none) :
  Calls Tryz.prog 7 #[.string (str s), .slice Al l.length cl] w fun e w' => e = .returned (.bool true) ∧ Below w.heap.size w w' := by
 have hsz := str_size s
 have CU := Lib.hid fun w => url_no (w := w) ho
 clear ho
 go_enter Tryz.func7, Tryz.ntmps7
 go_wp2_with (go_at_call 21; go_must (go_fit (begun14_any _ hq.1)); rintro e w1 ⟨rfl, hb1⟩)
 have hrl1 := hrl.far hb1
 go_loopg [5] (l.length) (fun k s5 wr => ∃ j : Nat, k = l.length - j ∧ j ≤ l.length ∧ s5 = .int .i64 (j : Int) ∧ w1 = wr)
 case atStart => exact ⟨0, rfl, Nat.zero_le _, rfl, rfl⟩
 case round =>
  obtain ⟨j, rfl, hj, rfl, rfl⟩ := hrel
  by_cases hlt : j < l.length
  ·
   obtain ⟨b0, off, x, hA, hb', hcx, hx⟩ := hrl1.str_at (k := j) hlt
   subst hA
   have hlt1 : (j : Int) < (l.length : Int) := by omega
   have hj0 : (0 : Int) ≤ (j : Int) := by omega
   have hsx := str_size x
   by_cases h30 : (30 : Int) < (x.length : Int)
   ·
    go_wp2
    go_ret
    exact ⟨rfl, hb1⟩
   ·
    have h30I : (x.length : Int) ≤ 30 := by omega
    clear h30
    go_wp2
    go_roundg (l.length - (j + 1))
    case measure => omega
    case rel => exact ⟨j + 1, rfl, by omega, by go_num, rfl⟩
  ·
   obtain rfl : j = l.length := by omega
   clear hlt
   go_wp2_with (go_at_call 28; go_must (go_fit (CU.out _)); rintro e w2 ⟨⟨n, hn, rfl⟩, hb2⟩)
   (try go_quiet (fail))
   (try go_wp2)
   go_ret
   exact ⟨rfl, below_drewN (bnew (bnext hb1 hb2) _) _⟩
set_option maxRecDepth 100000 in
set_option maxHeartbeats 8000000 in
theorem policyMay_some (s : List UInt8) (o : Uo) (Al : Option Addr) (cl : Nat) (l : List (List UInt8)) (w : World) (hrl : Rd w w.heap.size Al (strs l)) (hq : LH w) (h200 : (s.length : Int) ≤ 200) (h4 : (l.length : Int) ≤ 4) (ho : uUrl s = some o) :
  Calls Tryz.prog 7 #[.string (str s), .slice Al l.length cl] w fun e w' => e = .returned (.bool true) ∧ Below w.heap.size w w' := by
 have hsz := str_size s
 have CU := Lib.hid fun w => url_ok (w := w) ho
 have hf := uUrl_fits ho (by omega)
 have D1 := Lib.hid fun (A : Option Addr) (c : Nat) (w : World) (hr : Rd w w.heap.size A (strs o.path)) (hrl : Rd w w.heap.size Al (strs l)) (hq : LH w) => pmayU_any o hf (url_special_host ho) A c w hr Al cl l hrl (by omega) hq
 have D2 := Lib.hid fun (A : Option Addr) (c : Nat) (w : World) (hr : Rd w w.heap.size A (strs o.path)) (hrl : Rd w w.heap.size Al (strs l)) (hq : LH w) => rmayU_any o hf (url_special_host ho) A c w hr Al cl l hrl (by omega) hq
 obtain ⟨m, hm⟩ : ∃ m, m = mayU o l := ⟨_, rfl⟩
 rw [← hm] at D1 D2
 clear ho hf hm
 go_enter Tryz.func7, Tryz.ntmps7
 go_wp2_with (go_at_call 21; go_must (go_fit (begun14_any _ hq.1)); rintro e w1 ⟨rfl, hb1⟩)
 have hrl1 := hrl.far hb1
 have hq1 := hq.next hb1
 go_loopg [5] (l.length) (fun k s5 wr => ∃ j : Nat, k = l.length - j ∧ j ≤ l.length ∧ s5 = .int .i64 (j : Int) ∧ w1 = wr)
 case atStart => exact ⟨0, rfl, Nat.zero_le _, rfl, rfl⟩
 case round =>
  obtain ⟨j, rfl, hj, rfl, rfl⟩ := hrel
  by_cases hlt : j < l.length
  ·
   obtain ⟨b0, off, x, hA, hb', hcx, hx⟩ := hrl1.str_at (k := j) hlt
   subst hA
   have hlt1 : (j : Int) < (l.length : Int) := by omega
   have hj0 : (0 : Int) ≤ (j : Int) := by omega
   have hsx := str_size x
   by_cases h30 : (30 : Int) < (x.length : Int)
   ·
    go_wp2
    go_ret
    exact ⟨rfl, hb1⟩
   ·
    have h30I : (x.length : Int) ≤ 30 := by omega
    clear h30
    go_wp2
    go_roundg (l.length - (j + 1))
    case measure => omega
    case rel => exact ⟨j + 1, rfl, by omega, by go_num, rfl⟩
  ·
   obtain rfl : j = l.length := by omega
   clear hlt
   go_wp2_with (go_at_call 28; go_must (go_fit (CU.out _)); rintro e w2 ⟨A, c, rfl, hr2, hb2⟩)
   obtain ⟨W, hW⟩ : ∃ W, W = w2.alloc (.cells #[.string (str o.sch), .string (str o.host), .bool o.has, .int .i64 o.port, .slice A o.path.length c, .bool o.opq, .string (str o.query), .bool o.asks, .string (str o.frag), .bool o.marks] 44) := ⟨_, rfl⟩
   have huW : UrAt W w2.heap.size o (.slice A o.path.length c) := hW ▸ UrAt.made w2 o _
   have hBW : Below w.heap.size w W := hW ▸ bnew (bnext hb1 hb2) _
   have hrW : Rd W W.heap.size A (strs o.path) := hW ▸ hr2.new _
   rw [← hW]
   obtain ⟨g, hg⟩ : ∃ g, g = w2.heap.size := ⟨_, rfl⟩
   rw [← hg] at huW ⊢
   clear hW hg
   have hud := huW.next (Below.drew (Below.refl W.heap.size W))
   have hBd := Below.drew hBW
   have hrd : Rd W.drew W.drew.heap.size A (strs o.path) := hrW.far (Below.drew (Below.refl W.heap.size W))
   have hrld := hrl.far hBd
   have hqd := hq.next hBd
   have cd := UrAt.all hud
   go_region_held3 (fun w' => w'.cell? ⟨g, 0, none⟩ = some (.string (str o.sch)) ∧ w'.cell? ⟨g, 1, none⟩ = some (.string (str o.host)) ∧ w'.cell? ⟨g, 2, none⟩ = some (.bool o.has) ∧ w'.cell? ⟨g, 3, none⟩ = some (.int .i64 o.port) ∧ w'.cell? ⟨g, 4, none⟩ = some (.slice A o.path.length c) ∧ w'.cell? ⟨g, 5, none⟩ = some (.bool o.opq) ∧ w'.cell? ⟨g, 6, none⟩ = some (.string (str o.query)) ∧ w'.cell? ⟨g, 7, none⟩ = some (.bool o.asks) ∧ w'.cell? ⟨g, 8, none⟩ = some (.string (str o.frag)) ∧ w'.cell? ⟨g, 9, none⟩ = some (.bool o.marks)) (first | exact cd | exact c3 | exact c4) (first
    | (go_at_call 29; go_fit (D1.out A c W.drew hrd hrld hqd); rintro e w3 ⟨rfl, hb3⟩; have hu3 := hud.next hb3; have c3 := UrAt.all hu3; have hB3 := bnext hBd hb3; have hr3 := hrd.far hb3; have hrl3 := hrl.far hB3; have hq3 := hq.next hB3)
    | (go_at_call 30; go_fit (D2.out A c w3 hr3 hrl3 hq3); rintro e w4 ⟨rfl, hb4⟩; have hu4 := hu3.next hb4; have c4 := UrAt.all hu4; have hB4 := bnext hB3 hb4))
   all_goals
    (try go_wp2)
    go_ret
    exact ⟨by simp, hB4⟩
theorem policyMay_walk (s : List UInt8) (Al : Option Addr) (cl : Nat) (l : List (List UInt8)) (w : World) (hrl : Rd w w.heap.size Al (strs l)) (hq : LH w) :
  Calls Tryz.prog 7 #[.string (str s), .slice Al l.length cl] w fun e w' => e = .returned (.bool true) ∧ Below w.heap.size w w' := by
 have hsz := str_size s
 by_cases h200 : (200 : Int) < (s.length : Int)
 ·
  skip
  go_enter Tryz.func7, Tryz.ntmps7
  go_wp2_with (go_at_call 21; go_must (go_fit (begun14_any _ hq.1)); rintro e w1 ⟨rfl, hb1⟩)
  go_ret
  exact ⟨rfl, hb1⟩
 ·
  by_cases h4 : (4 : Int) < (l.length : Int)
  ·
   have h200I : (s.length : Int) ≤ 200 := by omega
   clear h200
   go_enter Tryz.func7, Tryz.ntmps7
   go_wp2_with (go_at_call 21; go_must (go_fit (begun14_any _ hq.1)); rintro e w1 ⟨rfl, hb1⟩)
   go_ret
   exact ⟨rfl, hb1⟩
  ·
   cases ho : uUrl s with
   | none => exact policyMay_none s Al cl l w hrl hq (by omega) (by omega) ho
   | some o => exact policyMay_some s o Al cl l w hrl hq (by omega) (by omega) ho
end Go.Proofs.YtoapelcofjjdnaaGreatDoor
