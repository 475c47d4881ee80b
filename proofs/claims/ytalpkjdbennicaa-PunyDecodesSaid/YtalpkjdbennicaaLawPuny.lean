/- The walks of the statements of layer 5, puny: begun, PunyEncodes, PunyBack. -/
import Derived.Test.YtalpkjdbennicaaPunyF
import Derived.Test.YtalpkjdbennicaaPunyK
namespace Go.Proofs.Ytalpkjdbennicaa
set_option linter.all false
open Go.RowKit

set_option maxRecDepth 100000 in
set_option maxHeartbeats 4000000 in
theorem begun5_any (w : World) : Calls Try.prog 43 #[] w fun e w' => e = .returned (.bool true) ∧ Below w.heap.size w w' := by
  have p1 : puny [98, 252, 99, 104, 101, 114] = some [98, 99, 104, 101, 114, 45, 107, 118, 97] := by decide +kernel
  have p2 : unpuny [98, 99, 104, 101, 114, 45, 107, 118, 97] = some [98, 252, 99, 104, 101, 114] := by decide +kernel
  have C1 := Lib.hid fun A c w (h : Rd w w.heap.size A (runes [98, 252, 99, 104, 101, 114])) => pencode_any A c [98, 252, 99, 104, 101, 114] w h (by decide)
  have C2 := Lib.hid fun w => pdecode_any [98, 99, 104, 101, 114, 45, 107, 118, 97] w (by decide)
  rw [p1] at C1
  rw [p2] at C2
  dsimp only [punyV] at C1
  clear p1 p2
  have t1 : (str [98, 99, 104, 101, 114, 45, 107, 118, 97]).toList = [98, 99, 104, 101, 114, 45, 107, 118, 97] := str_toL _
  go_enter Try.func43, Try.ntmps43
  go_wp2_with (first
    | (go_at_call 44; go_must (go_fit (C1.out (some ⟨w.heap.size, 0, none⟩) 6 (w.alloc (.cells #[.int .i32 98, .int .i32 252, .int .i32 99, .int .i32 104, .int .i32 101, .int .i32 114] 21)) Rd.lit)); rintro e w1 ⟨rfl, hb1⟩)
    | (go_at_call 46; go_must (go_fit (C2.out w1)); rintro e w2 ⟨hb2, v2, rfl, hown2⟩; obtain ⟨A2, c2, rfl, hc2, hm2, hr2⟩ := own_rd hown2; obtain ⟨g2, o2, rfl, hg2, hce2⟩ := hr2 (by decide); have hcz := hce2 1 (.int .i32 252) rfl; clear hce2))
  go_ret
  exact ⟨rfl, bnext (bnext (bnew (Below.refl _ _) _) hb1) hb2⟩

set_option maxRecDepth 100000 in
set_option maxHeartbeats 4000000 in
theorem punyEncodes_walk (A : Option Addr) (k : Nat) (l : List Int) (w : World) (hr : Rd w w.heap.size A (runes l)) (hlm : l.length ≤ 9223372036854775807) :
    Calls Try.prog 18 #[.slice A l.length k] w fun e w' => e = .returned (.bool true) ∧ Below w.heap.size w w' := by
  by_cases h70 : (l.length : Int) ≤ 70
  · have C1 := Lib.hid fun w (h : Rd w w.heap.size A (runes l)) => pencode_any A k l w h (by omega)
    have C2 := Lib.hid fun w (h : Rd w w.heap.size A (runes l)) => rpuny_any A k l w h (by omega)
    obtain ⟨o, ho⟩ : ∃ o, o = puny l := ⟨_, rfl⟩
    rw [← ho] at C1 C2
    clear ho
    rcases o with _ | s
    all_goals
      dsimp only [punyV] at C1 C2
      go_enter Try.func18, Try.ntmps18
      go_wp2_with (first
        | (go_at_call 43; go_must (go_fit (begun5_any w)); rintro e w1 ⟨rfl, hb1⟩; have hr1 := hr.next hb1)
        | (go_at_call 44; go_must (go_fit (C1.out w1 hr1)); rintro e w2 ⟨rfl, hb2⟩; have hr2 := hr1.next hb2)
        | (go_at_call 45; go_must (go_fit (C2.out w2 hr2)); rintro e w3 ⟨rfl, hb3⟩))
      go_ret
      exact ⟨ret_bool (by simp), bnext (bnext hb1 hb2) hb3⟩
  · have h70' : 70 < (l.length : Int) := by omega
    clear h70
    go_enter Try.func18, Try.ntmps18
    go_wp2_with (go_at_call 43; go_must (go_fit (begun5_any w)); rintro e w1 ⟨rfl, hb1⟩)
    go_ret
    exact ⟨rfl, hb1⟩

set_option maxRecDepth 100000 in
set_option maxHeartbeats 4000000 in
theorem punyBack_walk (A : Option Addr) (k : Nat) (l : List Int) (w : World) (hr : Rd w w.heap.size A (runes l)) (hlm : l.length ≤ 9223372036854775807) :
    Calls Try.prog 20 #[.slice A l.length k] w fun e w' => e = .returned (.bool true) ∧ Below w.heap.size w w' := by
  by_cases h30 : (l.length : Int) ≤ 30
  · have C1 := Lib.hid fun w (h : Rd w w.heap.size A (runes l)) => pencode_any A k l w h (by omega)
    obtain ⟨o, ho⟩ : ∃ o, puny l = o := ⟨_, rfl⟩
    rw [ho] at C1
    have HO := Lib.hid ho
    clear ho
    rcases o with _ | s
    · dsimp only [punyV] at C1
      go_enter Try.func20, Try.ntmps20
      go_wp2_with (first
        | (go_at_call 43; go_must (go_fit (begun5_any w)); rintro e w1 ⟨rfl, hb1⟩; have hr1 := hr.next hb1)
        | (go_at_call 44; go_must (go_fit (C1.out w1 hr1)); rintro e w2 ⟨rfl, hb2⟩))
      go_ret
      exact ⟨ret_bool (by rw [str_toL]; rfl), bnext hb1 hb2⟩
    · have hsz := str_size s
      dsimp only [punyV] at C1
      by_cases h200 : s.length ≤ 200
      · have h200' : (s.length : Int) ≤ 200 := by omega
        have C2 := Lib.hid fun w => pdecode_any s w (by omega)
        rw [unpuny_puny HO.out h200] at C2
        have C3 := Lib.hid fun A2 c2 w (h : Rd w w.heap.size A2 (runes l)) (h' : Rd w w.heap.size A (runes l)) => same_any A2 A c2 k l l w h h' (by omega) (by omega)
        rw [sameB_self] at C3
        go_enter Try.func20, Try.ntmps20
        go_wp2_with (first
          | (go_at_call 43; go_must (go_fit (begun5_any w)); rintro e w1 ⟨rfl, hb1⟩; have hr1 := hr.next hb1)
          | (go_at_call 44; go_must (go_fit (C1.out w1 hr1)); rintro e w2 ⟨rfl, hb2⟩; have hr2 := hr1.next hb2)
          | (go_at_call 46; go_must (go_fit (C2.out w2)); rintro e w3 ⟨hb3, v3, rfl, hown3⟩; obtain ⟨A3, c3, rfl, hc3, hm3, hx3⟩ := own_rd hown3; have hr3 := hr2.next hb3)
          | (go_at_call 26; go_must (go_fit (C3.out A3 c3 w3 hx3 hr3)); rintro e w4 ⟨rfl, hb4⟩))
        go_ret
        exact ⟨ret_bool rfl, bnext (bnext (bnext hb1 hb2) hb3) hb4⟩
      · have h200' : 200 < (s.length : Int) := by omega
        clear h200
        go_enter Try.func20, Try.ntmps20
        go_wp2_with (first
          | (go_at_call 43; go_must (go_fit (begun5_any w)); rintro e w1 ⟨rfl, hb1⟩; have hr1 := hr.next hb1)
          | (go_at_call 44; go_must (go_fit (C1.out w1 hr1)); rintro e w2 ⟨rfl, hb2⟩))
        go_ret
        exact ⟨rfl, bnext hb1 hb2⟩
  · have h30' : 30 < (l.length : Int) := by omega
    clear h30
    go_enter Try.func20, Try.ntmps20
    go_wp2_with (go_at_call 43; go_must (go_fit (begun5_any w)); rintro e w1 ⟨rfl, hb1⟩)
    go_ret
    exact ⟨rfl, hb1⟩
end Go.Proofs.Ytalpkjdbennicaa
