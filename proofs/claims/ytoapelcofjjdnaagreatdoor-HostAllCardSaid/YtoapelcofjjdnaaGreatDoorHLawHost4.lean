/- A part of the proof. -/
import Derived.Test.YtoapelcofjjdnaaGreatDoorHLawHost3
import Derived.Test.YtoapelcofjjdnaaGreatDoorH20
namespace Go.Proofs.YtoapelcofjjdnaaGreatDoor
set_option linter.all false
open Go.RowKit
theorem hIP6_eight {s : List UInt8} {a : List Nat} (h : hIP6 s = some a) : a.length = 8 := by
 unfold hIP6 at h
 split at h
 ·
  obtain ⟨b, h1, h2⟩ := Option.bind_eq_some_iff.1 h
  split at h2
  · injection h2 with h2; subst h2; exact (pParse6_ok h1).1
  · cases h2
 · cases h
theorem adr_eight (s : List UInt8) : ∃ a0 a1 a2 a3 a4 a5 a6 a7 : Nat, adr (hIP6 s) = .agg #[.int .u16 (a0 : Int), .int .u16 (a1 : Int), .int .u16 (a2 : Int), .int .u16 (a3 : Int), .int .u16 (a4 : Int), .int .u16 (a5 : Int), .int .u16 (a6 : Int), .int .u16 (a7 : Int)] := by
 cases h : hIP6 s with
 | none => exact ⟨0, 0, 0, 0, 0, 0, 0, 0, rfl⟩
 | some a =>
  obtain ⟨a0, a1, a2, a3, a4, a5, a6, a7, rfl⟩ := eight_of (hIP6_eight h)
  exact ⟨a0, a1, a2, a3, a4, a5, a6, a7, rfl⟩
set_option maxRecDepth 100000 in
set_option maxHeartbeats 8000000 in
theorem hostAll_of (s t : List UInt8) (sp : Bool) (n : Int) (hn : n = 0 ∨ n = 5) (w : World) (hq : LH w) (hs : (s.length : Int) ≤ 100) (ht : t.length ≤ 1000) (HP : Hid (nameV (hParse s sp) = .tuple #[.string (str t), .int .i64 n])) :
  Calls Tryz.prog 12 #[.string (str s), .bool sp] w fun e w' => e = .returned (.bool true) ∧ Below w.heap.size w w' := by
 have hsz := str_size s
 obtain ⟨a0, a1, a2, a3, a4, a5, a6, a7, ha⟩ := adr_eight t
 have D1 := Lib.hid fun w h => (hparse_any s sp w h (by omega))
 have D2 := Lib.hid fun w => (rhost_any s sp w (by omega))
 have D3 := Lib.hid fun w h => (hip4_any t w h (by omega))
 have D4 := Lib.hid fun w h => (rip4_any t w h (by omega))
 have D5 := Lib.hid fun w h => (hip6_any t w h ht)
 have D6 := Lib.hid fun w h => (rip6_any t w h ht)
 rw [HP.out] at D1 D2
 unfold ip4V at D3 D4
 unfold ip6V at D5 D6
 rw [ha] at D5 D6
 obtain ⟨x, hx⟩ : ∃ x, x = (hIP4 t).getD 0 := ⟨_, rfl⟩
 obtain ⟨b4, hb4⟩ : ∃ b, b = (hIP4 t).isSome := ⟨_, rfl⟩
 obtain ⟨b6, hb6⟩ : ∃ b, b = (hIP6 t).isSome := ⟨_, rfl⟩
 rw [← hx, ← hb4] at D3 D4
 rw [← hb6] at D5 D6
 clear hx hb4 hb6 ha
 have et := str_eqB t t
 rw [decide_eq_true rfl] at et
 have heq := eqA8 (a0 : Int) a1 a2 a3 a4 a5 a6 a7
 rcases hn with rfl | rfl
 all_goals
  cases b4 <;> cases b6
  all_goals
   go_enter Tryz.func12, Tryz.ntmps12
   go_wp2_with (first
    | (go_at_call 14; go_must (go_fit (begun9_any w hq)); rintro e w1 ⟨rfl, hb1⟩; have hq1 := hq.next hb1)
    | (go_at_call 17; go_must (go_fit (D1.out w1 hq1)); rintro e w2 ⟨rfl, hb2⟩)
    | (go_at_call 31; go_must (go_fit (D2.out w2)); rintro e w3 ⟨rfl, hb3⟩; have hb13 := bnext (bnext hb1 hb2) hb3; have hq3 := hq.next hb13)
    | (go_at_call 19; go_must (go_fit (D3.out w3 hq3)); rintro e w4 ⟨rfl, hb4⟩; have hb14 := bnext hb13 hb4; have hq4 := hq.next hb14)
    | (go_at_call 32; go_must (go_fit (D4.out w4 hq4)); rintro e w5 ⟨rfl, hb5⟩; have hb15 := bnext hb14 hb5; have hq5 := hq.next hb15)
    | (go_at_call 20; go_must (go_fit (D5.out w5 hq5)); rintro e w6 ⟨rfl, hb6⟩; have hbA := bnew (bnext hb15 hb6) (.cells #[.int .u16 (a0 : Int), .int .u16 (a1 : Int), .int .u16 (a2 : Int), .int .u16 (a3 : Int), .int .u16 (a4 : Int), .int .u16 (a5 : Int), .int .u16 (a6 : Int), .int .u16 (a7 : Int)] 24); have hqA := hq.next hbA; have hYA : Row (w6.alloc (.cells #[.int .u16 (a0 : Int), .int .u16 (a1 : Int), .int .u16 (a2 : Int), .int .u16 (a3 : Int), .int .u16 (a4 : Int), .int .u16 (a5 : Int), .int .u16 (a6 : Int), .int .u16 (a7 : Int)] 24)) w6.heap.size [.int .u16 (a0 : Int), .int .u16 (a1 : Int), .int .u16 (a2 : Int), .int .u16 (a3 : Int), .int .u16 (a4 : Int), .int .u16 (a5 : Int), .int .u16 (a6 : Int), .int .u16 (a7 : Int)] := Row.made w6 #[.int .u16 (a0 : Int), .int .u16 (a1 : Int), .int .u16 (a2 : Int), .int .u16 (a3 : Int), .int .u16 (a4 : Int), .int .u16 (a5 : Int), .int .u16 (a6 : Int), .int .u16 (a7 : Int)] 24)
    | (go_at_call 33; go_must (go_fit (D6.out _ hqA)); rintro e w7 ⟨rfl, hb7⟩; have hbB := bnew (bnext hbA hb7) (.cells #[.int .u16 (a0 : Int), .int .u16 (a1 : Int), .int .u16 (a2 : Int), .int .u16 (a3 : Int), .int .u16 (a4 : Int), .int .u16 (a5 : Int), .int .u16 (a6 : Int), .int .u16 (a7 : Int)] 24); have hYB := Row.far (Row.below hYA hb7 hYA.2.2) (.cells #[.int .u16 (a0 : Int), .int .u16 (a1 : Int), .int .u16 (a2 : Int), .int .u16 (a3 : Int), .int .u16 (a4 : Int), .int .u16 (a5 : Int), .int .u16 (a6 : Int), .int .u16 (a7 : Int)] 24); have hZB : Row (w7.alloc (.cells #[.int .u16 (a0 : Int), .int .u16 (a1 : Int), .int .u16 (a2 : Int), .int .u16 (a3 : Int), .int .u16 (a4 : Int), .int .u16 (a5 : Int), .int .u16 (a6 : Int), .int .u16 (a7 : Int)] 24)) w7.heap.size [.int .u16 (a0 : Int), .int .u16 (a1 : Int), .int .u16 (a2 : Int), .int .u16 (a3 : Int), .int .u16 (a4 : Int), .int .u16 (a5 : Int), .int .u16 (a6 : Int), .int .u16 (a7 : Int)] := Row.made w7 #[.int .u16 (a0 : Int), .int .u16 (a1 : Int), .int .u16 (a2 : Int), .int .u16 (a3 : Int), .int .u16 (a4 : Int), .int .u16 (a5 : Int), .int .u16 (a6 : Int), .int .u16 (a7 : Int)] 24; obtain ⟨x0, x1, x2, x3, x4, x5, x6, x7⟩ := hYB.c8; obtain ⟨y0, y1, y2, y3, y4, y5, y6, y7⟩ := hZB.c8))
   go_ret
   exact ⟨rfl, hbB⟩
set_option maxRecDepth 100000 in
set_option maxHeartbeats 4000000 in
theorem hostAll_walk (s : List UInt8) (sp : Bool) (w : World) (hq : LH w) :
  Calls Tryz.prog 12 #[.string (str s), .bool sp] w fun e w' => e = .returned (.bool true) ∧ Below w.heap.size w w' := by
 have hsz := str_size s
 by_cases h100 : (s.length : Int) ≤ 100
 ·
  cases ho : hParse s sp with
  | none => exact hostAll_of s [] sp 5 (.inr rfl) w hq h100 (by decide) (Lib.hid (by rw [ho]; rfl))
  | some t => exact hostAll_of s t sp 0 (.inl rfl) w hq h100 (hp_len ho (by omega)) (Lib.hid (by rw [ho]; rfl))
 ·
  have hI : (100 : Int) < (s.length : Int) := by omega
  clear h100
  go_enter Tryz.func12, Tryz.ntmps12
  go_wp2_with (go_at_call 14; go_must (go_fit (begun9_any w hq)); rintro e w1 ⟨rfl, hb1⟩; have hq1 := hq.next hb1)
  go_ret
  exact ⟨rfl, hb1⟩
end Go.Proofs.YtoapelcofjjdnaaGreatDoor
