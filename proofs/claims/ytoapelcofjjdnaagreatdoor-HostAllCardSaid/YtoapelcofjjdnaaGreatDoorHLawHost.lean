/- A part of the proof. -/
import Derived.Test.YtoapelcofjjdnaaGreatDoorH20
namespace Go.Proofs.YtoapelcofjjdnaaGreatDoor
set_option linter.all false
open Go.RowKit
theorem hp_some {s t : List UInt8} {sp : Bool} {w : World} (h : hParse s sp = some t) (hq : LH w) (hs : s.length ≤ 1000) :
  Calls Tryz.prog 17 #[.string (str s), .bool sp] w fun e w' => e = .returned (.tuple #[.string (str t), .int .i64 0]) ∧ Below w.heap.size w w' := by
 have := hparse_any s sp w hq hs
 rwa [h] at this
theorem ip4_some {s : List UInt8} {a : Nat} {w : World} (h : hIP4 s = some a) (hq : LH w) (hs : s.length ≤ 1000) :
  Calls Tryz.prog 19 #[.string (str s)] w fun e w' => e = .returned (.tuple #[.int .u32 (a : Int), .bool true]) ∧ Below w.heap.size w w' := by
 have := hip4_any s w hq (by omega)
 rwa [h] at this
theorem ip6_some {s : List UInt8} {a0 a1 a2 a3 a4 a5 a6 a7 : Nat} {w : World} (h : hIP6 s = some [a0, a1, a2, a3, a4, a5, a6, a7]) (hq : LH w) (hs : s.length ≤ 1000) :
  Calls Tryz.prog 20 #[.string (str s)] w fun e w' => e = .returned (.tuple #[.agg #[.int .u16 (a0 : Int), .int .u16 (a1 : Int), .int .u16 (a2 : Int), .int .u16 (a3 : Int), .int .u16 (a4 : Int), .int .u16 (a5 : Int), .int .u16 (a6 : Int), .int .u16 (a7 : Int)], .bool true]) ∧ Below w.heap.size w w' := by
 have := hip6_any s w hq hs
 rwa [h] at this
theorem hp_len {s t : List UInt8} {sp : Bool} (h : hParse s sp = some t) (hs : s.length ≤ 100) : t.length ≤ 1000 := by
 unfold hParse at h
 split at h
 ·
  unfold hLong at h
  split at h
  ·
   cases e : pParse6 (hIn s) with
   | none => rw [e] at h; cases h
   | some a =>
    rw [e] at h
    injection h with h
    subst h
    have := show6_len (pParse6_ok e).2 (pParse6_ok e).1
    simp only [List.length_append, List.length_cons, List.length_nil]
    omega
  · cases h
 ·
  split at h
  ·
   unfold hName at h
   cases e : dASCII (pDec s) with
   | none => rw [e] at h; cases h
   | some d =>
    rw [e] at h
    replace h : (if pEnds d = true then (pParse d).map pShow4 else some d) = some t := h
    split at h
    ·
     cases e2 : pParse d with
     | none => rw [e2] at h; cases h
     | some a =>
      rw [e2] at h
      injection h with h
      subst h
      rw [show4_fours]
      have := fours_len a
      omega
    ·
     injection h with h
     subst h
     obtain ⟨L, hN, _⟩ := name_of e
     have := (dEnd_some hN.fin).2.2
     omega
  ·
   split at h
   · cases h
   ·
    injection h with h
    subst h
    have := pEnc_le 0 s
    omega
def b9a : List UInt8 := [37, 52, 49, 46, 99, 111, 109]
def b9b : List UInt8 := [91, 58, 58, 48, 93]
def b9c : List UInt8 := [65]
def b9d : List UInt8 := [49, 46, 50, 46, 51, 46, 52]
def b9e : List UInt8 := [91, 58, 58, 93]
set_option maxRecDepth 100000 in
set_option maxHeartbeats 4000000 in
theorem begun9_any (w : World) (hq : LH w) : Calls Tryz.prog 14 #[] w fun e w' => e = .returned (.bool true) ∧ Below w.heap.size w w' := by
 have p1 : hParse b9a true = some [97, 46, 99, 111, 109] := by decide +kernel
 have p2 : hParse b9b true = some [91, 58, 58, 93] := by decide +kernel
 have p3 : hParse b9c false = some [65] := by decide +kernel
 have p4 : hIP4 b9d = some 16909060 := by decide +kernel
 have p5 : hIP6 b9e = some [0, 0, 0, 0, 0, 0, 0, 0] := by decide +kernel
 have C1 := Lib.hid fun w h => hp_some (w := w) p1 h (by decide)
 have C2 := Lib.hid fun w h => hp_some (w := w) p2 h (by decide)
 have C3 := Lib.hid fun w h => hp_some (w := w) p3 h (by decide)
 have C4 := Lib.hid fun w h => ip4_some (w := w) p4 h (by decide)
 have C5 := Lib.hid fun w h => ip6_some (w := w) p5 h (by decide)
 clear p1 p2 p3 p4 p5
 have t1 := str_toL [97, 46, 99, 111, 109]
 have t2 := str_toL [91, 58, 58, 93]
 have t3 := str_toL [65]
 go_enter Tryz.func14, Tryz.ntmps14
 go_wp2_with (first
  | (go_at_call 17; go_fit (C1.out w hq); rintro e w1 ⟨rfl, hb1⟩; have hq1 := hq.next hb1)
  | (go_at_call 17; go_fit (C2.out w1 hq1); rintro e w2 ⟨rfl, hb2⟩; have hq2 := hq1.next hb2)
  | (go_at_call 17; go_must (go_fit (C3.out w2 hq2)); rintro e w3 ⟨rfl, hb3⟩; have hq3 := hq2.next hb3)
  | (go_at_call 19; go_must (go_fit (C4.out w3 hq3)); rintro e w4 ⟨rfl, hb4⟩; have hq4 := hq3.next hb4)
  | (go_at_call 20; go_must (go_fit (C5.out w4 hq4)); rintro e w5 ⟨rfl, hb5⟩))
 go_ret
 exact ⟨rfl, bnew (bnext (bnext (bnext (bnext hb1 hb2) hb3) hb4) hb5) _⟩
end Go.Proofs.YtoapelcofjjdnaaGreatDoor
