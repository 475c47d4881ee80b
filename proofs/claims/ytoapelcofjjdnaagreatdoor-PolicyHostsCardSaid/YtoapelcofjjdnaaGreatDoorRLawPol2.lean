/- The walks of the statements PolicyHosts and PolicyUnder. -/
import Derived.Test.YtoapelcofjjdnaaGreatDoorRLawPol
namespace Go.Proofs.YtoapelcofjjdnaaGreatDoor
set_option linter.all false
open Go.RowKit
set_option maxRecDepth 100000 in
set_option maxHeartbeats 4000000 in
theorem policyHosts_walk (h : List UInt8) (A : Option Addr) (c : Nat) (l : List (List UInt8)) (w : World) (hr : Rd w w.heap.size A (strs l)) (hm : ML w) :
  Calls Tryz.prog 6 #[.string (str h), .slice A l.length c] w fun e w' => e = .returned (.bool true) ∧ Below w.heap.size w w' := by
 have hsz := str_size h
 by_cases h60 : (60 : Int) < (h.length : Int)
 ·
  skip
  go_enter Tryz.func6, Tryz.ntmps6
  go_wp2_with (go_at_call 21; go_must (go_fit (begun14_any _ hm)); rintro e w1 ⟨rfl, hb1⟩)
  go_ret
  exact ⟨rfl, hb1⟩
 ·
  have h60I : (h.length : Int) ≤ 60 := by omega
  by_cases h6 : (6 : Int) < (l.length : Int)
  ·
   clear h60
   go_enter Tryz.func6, Tryz.ntmps6
   go_wp2_with (go_at_call 21; go_must (go_fit (begun14_any _ hm)); rintro e w1 ⟨rfl, hb1⟩)
   go_ret
   exact ⟨rfl, hb1⟩
  ·
   have h6I : (l.length : Int) ≤ 6 := by omega
   have D1 := Lib.hid fun (w' : World) (hr' : Rd w' w'.heap.size A (strs l)) (hm' : ML w') => pblocked_any h A c l w' hr' hm' (by omega) (by omega)
   have D2 := Lib.hid fun (w' : World) (hr' : Rd w' w'.heap.size A (strs l)) => rblocked_any h A c l w' hr' (by omega) (by omega)
   obtain ⟨b, hb⟩ : ∃ b, b = blk h l := ⟨_, rfl⟩
   rw [← hb] at D1 D2
   clear hb h60 h6
   go_enter Tryz.func6, Tryz.ntmps6
   go_wp2_with (go_at_call 21; go_must (go_fit (begun14_any _ hm)); rintro e w1 ⟨rfl, hb1⟩)
   have hr1 := hr.far hb1
   have hm1 := hm.next hb1
   go_loopg [5] (l.length) (fun k s5 wr => ∃ j : Nat, k = l.length - j ∧ j ≤ l.length ∧ s5 = .int .i64 (j : Int) ∧ w1 = wr)
   case atStart => exact ⟨0, rfl, Nat.zero_le _, rfl, rfl⟩
   case round =>
    obtain ⟨j, rfl, hj, rfl, rfl⟩ := hrel
    by_cases hlt : j < l.length
    ·
     obtain ⟨b0, off, x, hA, hb', hcx, hx⟩ := hr1.str_at (k := j) hlt
     subst hA
     have hlt1 : (j : Int) < (l.length : Int) := by omega
     have hj0 : (0 : Int) ≤ (j : Int) := by omega
     have hsx := str_size x
     by_cases h30 : (30 : Int) < (x.length : Int)
     ·
      go_wp2
      go_ret
      exact ⟨rfl, hb1⟩
     ·
      have h30I : (x.length : Int) ≤ 30 := by omega
      clear h30
      go_wp2
      go_roundg (l.length - (j + 1))
      case measure => omega
      case rel => exact ⟨j + 1, rfl, by omega, by go_num, rfl⟩
    ·
     obtain rfl : j = l.length := by omega
     clear hlt
     go_wp2_with (first
      | (go_at_call 26; go_must (go_fit (D1.out w1 hr1 hm1)); rintro e w2 ⟨rfl, hb2⟩; have hr2 := hr1.far hb2)
      | (go_at_call 27; go_must (go_fit (D2.out w2 hr2)); rintro e w3 ⟨rfl, hb3⟩))
     go_ret
     exact ⟨by simp, bnext (bnext hb1 hb2) hb3⟩
end Go.Proofs.YtoapelcofjjdnaaGreatDoor
