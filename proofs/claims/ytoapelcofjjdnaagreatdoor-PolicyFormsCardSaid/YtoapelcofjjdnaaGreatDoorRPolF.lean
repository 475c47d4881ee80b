/- A part of the proof. -/
import Derived.Test.YtoapelcofjjdnaaGreatDoorRLawPol
import Derived.Test.YtoapelcofjjdnaaGreatDoorR25
namespace Go.Proofs.YtoapelcofjjdnaaGreatDoor
set_option linter.all false
open Go.RowKit
def bad4 (s : List UInt8) : Bool := match hIP4 s with | some a => !free4 a | none => false
def bad6 (s : List UInt8) : Bool := match hIP6 s with | some a => !free6 a | none => false
def bad14 (s : List UInt8) (l : List (List UInt8)) : Bool := bad4 s || (bad6 s || blk s l)
theorem hIP4_lt {s : List UInt8} {a : Nat} (h : hIP4 s = some a) : a < 4294967296 := by
 unfold hIP4 at h
 obtain ⟨b, h1, h2⟩ := Option.bind_eq_some_iff.1 h
 split at h2
 · injection h2 with h2; subst h2; exact pParse_lt h1
 · cases h2
theorem hIP6_lt {s : List UInt8} {a : List Nat} (h : hIP6 s = some a) : ∀ x ∈ a, x < 65536 := by
 unfold hIP6 at h
 split at h
 ·
  obtain ⟨b, h1, h2⟩ := Option.bind_eq_some_iff.1 h
  split at h2
  · injection h2 with h2; subst h2; exact (pParse6_ok h1).2
  · cases h2
 · cases h
set_option maxRecDepth 100000 in
set_option maxHeartbeats 8000000 in
theorem place_any (s : List UInt8) (A : Option Addr) (c : Nat) (l : List (List UInt8)) (w : World) (hq : LH w) (hr : Rd w w.heap.size A (strs l)) (hs : s.length ≤ 1000) (hl : l.length ≤ 100000) :
  Calls Tryz.prog 64 #[.string (str s), .slice A l.length c] w fun e w' => e = .returned (.bool (!bad14 s l)) ∧ Below w.heap.size w w' := by
 have CB := Lib.hid fun (w' : World) (hr' : Rd w' w'.heap.size A (strs l)) (hm' : ML w') => pblocked_any s A c l w' hr' hm' (by omega) hl
 obtain ⟨b, hb⟩ : ∃ b, b = blk s l := ⟨_, rfl⟩
 have HV := Lib.hid (show bad14 s l = (bad4 s || (bad6 s || b)) by rw [hb]; rfl)
 rw [← hb] at CB
 clear hb
 obtain ⟨R, hR⟩ : ∃ R, R = bad14 s l := ⟨_, rfl⟩
 rw [← hR] at HV ⊢
 clear hR
 cases h4 : hIP4 s with
 | none =>
  have C4 := Lib.hid fun w h => ip4_none (w := w) h4 h hs
  have HV4 := Lib.hid (show R = (bad6 s || b) by rw [HV.out]; unfold bad4; rw [h4]; rfl)
  clear h4 HV
  cases h6 : hIP6 s with
  | none =>
   have C6 := Lib.hid fun w h => ip6_none (w := w) h6 h hs
   have HE := Lib.hid (show R = b by rw [HV4.out]; unfold bad6; rw [h6]; rfl)
   clear h6 HV4
   go_enter Tryz.func64, Tryz.ntmps64
   go_wp2_with (first
    | (go_at_call 19; go_must (go_fit (C4.out w hq)); rintro e w2 ⟨rfl, hb2⟩; have hB2 : Below w.heap.size w w2 := hb2)
    | (go_at_call 20; go_must (go_fit (C6.out w2 (hq.next hB2))); rintro e w4 ⟨rfl, hb4⟩; have hB4 := bnew (bnext hB2 hb4) (.cells #[.int .u16 0, .int .u16 0, .int .u16 0, .int .u16 0, .int .u16 0, .int .u16 0, .int .u16 0, .int .u16 0] 24))
    | (go_at_call 26; go_must (go_fit (CB.out (w4.alloc (.cells #[.int .u16 0, .int .u16 0, .int .u16 0, .int .u16 0, .int .u16 0, .int .u16 0, .int .u16 0, .int .u16 0] 24)) (hr.far hB4) (hq.next hB4).1)); rintro e w6 ⟨rfl, hb6⟩; have hB6 := bnext hB4 hb6))
   go_ret
   exact ⟨ret_bool (by rw [HE.out]), hB6⟩
  | some n =>
   obtain ⟨a0, a1, a2, a3, a4, a5, a6, a7, rfl⟩ := eight_list (hIP6_eight h6)
   have C6 := Lib.hid fun w h => ip6_some (w := w) h6 h hs
   have CI := Lib.hid fun w => pip6_any a0 a1 a2 a3 a4 a5 a6 a7 (hIP6_lt h6) w
   have HV6 := Lib.hid (show R = (!free6 [a0, a1, a2, a3, a4, a5, a6, a7] || b) by rw [HV4.out]; unfold bad6; rw [h6])
   clear h6 HV4
   cases hf6 : free6 [a0, a1, a2, a3, a4, a5, a6, a7] with
   | false =>
    rw [hf6] at CI
    have HE := Lib.hid (show R = true by rw [HV6.out, hf6]; rfl)
    clear hf6 HV6
    go_enter Tryz.func64, Tryz.ntmps64
    go_wp2_with (first
     | (go_at_call 19; go_must (go_fit (C4.out w hq)); rintro e w2 ⟨rfl, hb2⟩; have hB2 : Below w.heap.size w w2 := hb2)
     | (go_at_call 20; go_must (go_fit (C6.out w2 (hq.next hB2))); rintro e w4 ⟨rfl, hb4⟩; have hB4 := bnew (bnext hB2 hb4) (.cells #[.int .u16 (a0 : Int), .int .u16 (a1 : Int), .int .u16 (a2 : Int), .int .u16 (a3 : Int), .int .u16 (a4 : Int), .int .u16 (a5 : Int), .int .u16 (a6 : Int), .int .u16 (a7 : Int)] 24))
     | (go_at_call 24; go_must (go_fit (CI.out (w4.alloc (.cells #[.int .u16 (a0 : Int), .int .u16 (a1 : Int), .int .u16 (a2 : Int), .int .u16 (a3 : Int), .int .u16 (a4 : Int), .int .u16 (a5 : Int), .int .u16 (a6 : Int), .int .u16 (a7 : Int)] 24)))); rintro e w5 ⟨rfl, hb5⟩; have hB5 := bnext hB4 hb5))
    go_ret
    exact ⟨ret_bool (by rw [HE.out]; rfl), hB5⟩
   | true =>
    rw [hf6] at CI
    have HE := Lib.hid (show R = b by rw [HV6.out, hf6]; rfl)
    clear hf6 HV6
    go_enter Tryz.func64, Tryz.ntmps64
    go_wp2_with (first
     | (go_at_call 19; go_must (go_fit (C4.out w hq)); rintro e w2 ⟨rfl, hb2⟩; have hB2 : Below w.heap.size w w2 := hb2)
     | (go_at_call 20; go_must (go_fit (C6.out w2 (hq.next hB2))); rintro e w4 ⟨rfl, hb4⟩; have hB4 := bnew (bnext hB2 hb4) (.cells #[.int .u16 (a0 : Int), .int .u16 (a1 : Int), .int .u16 (a2 : Int), .int .u16 (a3 : Int), .int .u16 (a4 : Int), .int .u16 (a5 : Int), .int .u16 (a6 : Int), .int .u16 (a7 : Int)] 24))
     | (go_at_call 24; go_must (go_fit (CI.out (w4.alloc (.cells #[.int .u16 (a0 : Int), .int .u16 (a1 : Int), .int .u16 (a2 : Int), .int .u16 (a3 : Int), .int .u16 (a4 : Int), .int .u16 (a5 : Int), .int .u16 (a6 : Int), .int .u16 (a7 : Int)] 24)))); rintro e w5 ⟨rfl, hb5⟩; have hB5 := bnext hB4 hb5)
     | (go_at_call 26; go_must (go_fit (CB.out w5 (hr.far hB5) (hq.next hB5).1)); rintro e w6 ⟨rfl, hb6⟩; have hB6 := bnext hB5 hb6))
    go_ret
    exact ⟨ret_bool (by rw [HE.out]), hB6⟩
 | some a =>
  have C4 := Lib.hid fun w h => ip4_some (w := w) h4 h hs
  have CF := Lib.hid fun w => pip4_any a (hIP4_lt h4) w
  cases hf : free4 a with
  | false =>
   rw [hf] at CF
   have HE := Lib.hid (show R = true by rw [HV.out]; unfold bad4; rw [h4]; show (!free4 a || _) = true; rw [hf]; rfl)
   clear h4 hf HV
   go_enter Tryz.func64, Tryz.ntmps64
   go_wp2_with (first
    | (go_at_call 19; go_must (go_fit (C4.out w hq)); rintro e w2 ⟨rfl, hb2⟩; have hB2 : Below w.heap.size w w2 := hb2)
    | (go_at_call 22; go_must (go_fit (CF.out w2)); rintro e w3 ⟨rfl, hb3⟩; have hB3 := bnext hB2 hb3))
   go_ret
   exact ⟨ret_bool (by rw [HE.out]; rfl), hB3⟩
  | true =>
   rw [hf] at CF
   have HV4 := Lib.hid (show R = (bad6 s || b) by rw [HV.out]; unfold bad4; rw [h4]; show (!free4 a || _) = _; rw [hf]; rfl)
   clear h4 hf HV
   cases h6 : hIP6 s with
   | none =>
    have C6 := Lib.hid fun w h => ip6_none (w := w) h6 h hs
    have HE := Lib.hid (show R = b by rw [HV4.out]; unfold bad6; rw [h6]; rfl)
    clear h6 HV4
    go_enter Tryz.func64, Tryz.ntmps64
    go_wp2_with (first
     | (go_at_call 19; go_must (go_fit (C4.out w hq)); rintro e w2 ⟨rfl, hb2⟩; have hB2 : Below w.heap.size w w2 := hb2)
     | (go_at_call 22; go_must (go_fit (CF.out w2)); rintro e w3 ⟨rfl, hb3⟩; have hB3 := bnext hB2 hb3)
     | (go_at_call 20; go_must (go_fit (C6.out w3 (hq.next hB3))); rintro e w4 ⟨rfl, hb4⟩; have hB4 := bnew (bnext hB3 hb4) (.cells #[.int .u16 0, .int .u16 0, .int .u16 0, .int .u16 0, .int .u16 0, .int .u16 0, .int .u16 0, .int .u16 0] 24))
     | (go_at_call 26; go_must (go_fit (CB.out (w4.alloc (.cells #[.int .u16 0, .int .u16 0, .int .u16 0, .int .u16 0, .int .u16 0, .int .u16 0, .int .u16 0, .int .u16 0] 24)) (hr.far hB4) (hq.next hB4).1)); rintro e w6 ⟨rfl, hb6⟩; have hB6 := bnext hB4 hb6))
    go_ret
    exact ⟨ret_bool (by rw [HE.out]), hB6⟩
   | some n =>
    obtain ⟨a0, a1, a2, a3, a4, a5, a6, a7, rfl⟩ := eight_list (hIP6_eight h6)
    have C6 := Lib.hid fun w h => ip6_some (w := w) h6 h hs
    have CI := Lib.hid fun w => pip6_any a0 a1 a2 a3 a4 a5 a6 a7 (hIP6_lt h6) w
    have HV6 := Lib.hid (show R = (!free6 [a0, a1, a2, a3, a4, a5, a6, a7] || b) by rw [HV4.out]; unfold bad6; rw [h6])
    clear h6 HV4
    cases hf6 : free6 [a0, a1, a2, a3, a4, a5, a6, a7] with
    | false =>
     rw [hf6] at CI
     have HE := Lib.hid (show R = true by rw [HV6.out, hf6]; rfl)
     clear hf6 HV6
     go_enter Tryz.func64, Tryz.ntmps64
     go_wp2_with (first
      | (go_at_call 19; go_must (go_fit (C4.out w hq)); rintro e w2 ⟨rfl, hb2⟩; have hB2 : Below w.heap.size w w2 := hb2)
      | (go_at_call 22; go_must (go_fit (CF.out w2)); rintro e w3 ⟨rfl, hb3⟩; have hB3 := bnext hB2 hb3)
      | (go_at_call 20; go_must (go_fit (C6.out w3 (hq.next hB3))); rintro e w4 ⟨rfl, hb4⟩; have hB4 := bnew (bnext hB3 hb4) (.cells #[.int .u16 (a0 : Int), .int .u16 (a1 : Int), .int .u16 (a2 : Int), .int .u16 (a3 : Int), .int .u16 (a4 : Int), .int .u16 (a5 : Int), .int .u16 (a6 : Int), .int .u16 (a7 : Int)] 24))
      | (go_at_call 24; go_must (go_fit (CI.out (w4.alloc (.cells #[.int .u16 (a0 : Int), .int .u16 (a1 : Int), .int .u16 (a2 : Int), .int .u16 (a3 : Int), .int .u16 (a4 : Int), .int .u16 (a5 : Int), .int .u16 (a6 : Int), .int .u16 (a7 : Int)] 24)))); rintro e w5 ⟨rfl, hb5⟩; have hB5 := bnext hB4 hb5))
     go_ret
     exact ⟨ret_bool (by rw [HE.out]; rfl), hB5⟩
    | true =>
     rw [hf6] at CI
     have HE := Lib.hid (show R = b by rw [HV6.out, hf6]; rfl)
     clear hf6 HV6
     go_enter Tryz.func64, Tryz.ntmps64
     go_wp2_with (first
      | (go_at_call 19; go_must (go_fit (C4.out w hq)); rintro e w2 ⟨rfl, hb2⟩; have hB2 : Below w.heap.size w w2 := hb2)
      | (go_at_call 22; go_must (go_fit (CF.out w2)); rintro e w3 ⟨rfl, hb3⟩; have hB3 := bnext hB2 hb3)
      | (go_at_call 20; go_must (go_fit (C6.out w3 (hq.next hB3))); rintro e w4 ⟨rfl, hb4⟩; have hB4 := bnew (bnext hB3 hb4) (.cells #[.int .u16 (a0 : Int), .int .u16 (a1 : Int), .int .u16 (a2 : Int), .int .u16 (a3 : Int), .int .u16 (a4 : Int), .int .u16 (a5 : Int), .int .u16 (a6 : Int), .int .u16 (a7 : Int)] 24))
      | (go_at_call 24; go_must (go_fit (CI.out (w4.alloc (.cells #[.int .u16 (a0 : Int), .int .u16 (a1 : Int), .int .u16 (a2 : Int), .int .u16 (a3 : Int), .int .u16 (a4 : Int), .int .u16 (a5 : Int), .int .u16 (a6 : Int), .int .u16 (a7 : Int)] 24)))); rintro e w5 ⟨rfl, hb5⟩; have hB5 := bnext hB4 hb5)
      | (go_at_call 26; go_must (go_fit (CB.out w5 (hr.far hB5) (hq.next hB5).1)); rintro e w6 ⟨rfl, hb6⟩; have hB6 := bnext hB5 hb6))
     go_ret
     exact ⟨ret_bool (by rw [HE.out]), hB6⟩
end Go.Proofs.YtoapelcofjjdnaaGreatDoor
