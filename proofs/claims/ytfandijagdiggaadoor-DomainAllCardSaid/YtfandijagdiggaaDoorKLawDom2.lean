/- The walk of the statement DomainAll. -/
import Derived.Test.YtfandijagdiggaaDoorKLawDom
import Derived.Test.YtfandijagdiggaaDoorK14
import Derived.Test.YtfandijagdiggaaDoorK08
import Derived.Deep.RegionHeld3
namespace Go.Proofs.YtfandijagdiggaaDoor
set_option linter.all false
open Go.RowKit

theorem rlabels6_any (s : List UInt8) (w : World) (hs : s.length ≤ 100000) :
    Calls Tryd.prog 13 #[.string (str s)] w fun e w' => ∃ v, e = .returned v ∧ w'.ownsRow w.heap.size 9 1 v (cuts 46 s).length (strs (cuts 46 s)) ∧ Below w.heap.size w w' := by
  have C := Lib.hid (cut6_any s 46 w hs)
  go_enter Tryd.func13, Tryd.ntmps13
  go_wp2_with (go_at_call 27; go_must (go_fit C.out); rintro e w1 ⟨v1, rfl, hown1, hb1⟩)
  go_ret
  exact ⟨_, rfl, hown1, hb1⟩
theorem str_atD {w : World} {B n : Nat} {A : Option Addr} {c : Nat} {l : List UInt8} (hr : Rd w B A (bytes l)) (hn : n = l.length) : (convert 22 9 (.slice A n c)).run Tryd.prog w = .ok (.string (str l)) w :=
  run_strM Tryd.underlying22 Tryd.underlying5 Tryd.underlying9 hr hn
set_option maxRecDepth 100000 in
set_option maxHeartbeats 8000000 in
theorem domainAll_walk (A : Option Addr) (k : Nat) (b : List UInt8) (w : World) (hm : ML w) (hr : Rd w w.heap.size A (bytes b)) (hk : b.length ≤ k) (hkm : k ≤ maxLen) :
    Calls Tryd.prog 3 #[.slice A b.length k] w fun e w' => e = .returned (.bool true) ∧ Below w.heap.size w w' := by
  by_cases h410 : (b.length : Int) ≤ 410
  · have C1 := Lib.hid fun w h => dascii_any A k b w h hk hkm
    have C2 := Lib.hid fun w h => rascii_any A k b w h hk hkm
    have CL := Lib.hid fun w h => dlabels_any b w h (by omega)
    have CR := Lib.hid fun w => rlabels6_any b w (by omega)
    have CS := Lib.hid fun A1 c1 A2 c2 w h1 h2 => sameT_any A1 A2 c1 c2 (cuts 46 b) (cuts 46 b) w h1 h2 (by have := cuts_le 46 b; omega) (by have := cuts_le 46 b; omega)
    rw [sameT_self] at CS
    obtain ⟨o, ho⟩ : ∃ o, o = dASCII b := ⟨_, rfl⟩
    rw [← ho] at C1 C2
    clear ho
    rcases o with _ | s
    · dsimp only [nameV] at C1 C2
      have t1 : (str []).toList = [] := str_toL _
      go_enter Tryd.func3, Tryd.ntmps3
      go_wp2_with (first
        | (go_at_call 8; go_must (go_fit (begun6_any w hm)); rintro e w1 ⟨rfl, hb1⟩; have hr1 := hr.next hb1)
        | (go_at_call 9; go_must (go_fit (C1.out w1 hr1)); rintro e w2 ⟨rfl, hb2⟩; have hr2 := hr1.next hb2)
        | (go_at_call 10; go_must (go_fit (C2.out w2 hr2)); rintro e w3 ⟨rfl, hb3⟩; have hr3 := hr2.next hb3; have hb13 := bnext (bnext hb1 hb2) hb3; have hm3 := hm.next hb13))
      have hs0 := str_atD (c := k) (w := w3.drew) hr3.drew rfl
      have hm3' := hm3.drew
      have CL3 := Lib.hid (CL.out w3.drew hm3')
      go_region_held3 (fun w' => (convert 22 9 (.slice A b.length k)).run Tryd.prog w' = .ok (.string (str b)) w') (first | exact hs0 | exact hs4 | exact hs5 | exact hs8) (first
        | (go_at_call 12; go_fit CL3.out; rintro e w4 ⟨rfl, hx4, hb4⟩; have hr4 := Rd.next (w := w3.drew) hr3 hb4; have hs4 := str_atD (c := k) hr4 rfl; have CR4 := Lib.hid (CR.out w4))
        | (go_at_call 13; go_fit CR4.out; rintro e w5 ⟨v5, rfl, hown5, hb5⟩; obtain ⟨A5, c5, rfl, hc5, hm5, hy5⟩ := own_rd hown5; have hx5 := hx4.next hb5; have hr5 := hr4.next hb5; have hs5 := str_atD (c := k) hr5 rfl; have CS5 := Lib.hid (CS.out _ (cuts 46 b).length A5 c5 w5 hx5 hy5))
        | (go_at_call 11; go_fit CS5.out; rintro e w8 ⟨rfl, hb8⟩; have hr8 := hr5.next hb8; have hs8 := str_atD (c := k) hr8 rfl; have hfin := bnext (bnext (bnext (Below.drew hb13) hb4) hb5) hb8))
      all_goals
        go_wp2
        go_ret
        exact ⟨ret_bool (by simp), hfin⟩
    · dsimp only [nameV] at C1 C2
      have t1 := str_eqB s s
      rw [decide_eq_true rfl] at t1
      go_enter Tryd.func3, Tryd.ntmps3
      go_wp2_with (first
        | (go_at_call 8; go_must (go_fit (begun6_any w hm)); rintro e w1 ⟨rfl, hb1⟩; have hr1 := hr.next hb1)
        | (go_at_call 9; go_must (go_fit (C1.out w1 hr1)); rintro e w2 ⟨rfl, hb2⟩; have hr2 := hr1.next hb2)
        | (go_at_call 10; go_must (go_fit (C2.out w2 hr2)); rintro e w3 ⟨rfl, hb3⟩; have hr3 := hr2.next hb3; have hb13 := bnext (bnext hb1 hb2) hb3; have hm3 := hm.next hb13))
      have hs0 := str_atD (c := k) (w := w3.drew) hr3.drew rfl
      have hm3' := hm3.drew
      have CL3 := Lib.hid (CL.out w3.drew hm3')
      go_region_held3 (fun w' => (convert 22 9 (.slice A b.length k)).run Tryd.prog w' = .ok (.string (str b)) w') (first | exact hs0 | exact hs4 | exact hs5 | exact hs8) (first
        | (go_at_call 12; go_fit CL3.out; rintro e w4 ⟨rfl, hx4, hb4⟩; have hr4 := Rd.next (w := w3.drew) hr3 hb4; have hs4 := str_atD (c := k) hr4 rfl; have CR4 := Lib.hid (CR.out w4))
        | (go_at_call 13; go_fit CR4.out; rintro e w5 ⟨v5, rfl, hown5, hb5⟩; obtain ⟨A5, c5, rfl, hc5, hm5, hy5⟩ := own_rd hown5; have hx5 := hx4.next hb5; have hr5 := hr4.next hb5; have hs5 := str_atD (c := k) hr5 rfl; have CS5 := Lib.hid (CS.out _ (cuts 46 b).length A5 c5 w5 hx5 hy5))
        | (go_at_call 11; go_fit CS5.out; rintro e w8 ⟨rfl, hb8⟩; have hr8 := hr5.next hb8; have hs8 := str_atD (c := k) hr8 rfl; have hfin := bnext (bnext (bnext (Below.drew hb13) hb4) hb5) hb8))
      all_goals
        go_wp2
        go_ret
        exact ⟨ret_bool (by simp), hfin⟩
  · have hI : (410 : Int) < (b.length : Int) := by omega
    clear h410
    go_enter Tryd.func3, Tryd.ntmps3
    go_wp2_with (go_at_call 8; go_must (go_fit (begun6_any w hm)); rintro e w1 ⟨rfl, hb1⟩; have hr1 := hr.next hb1)
    go_ret
    exact ⟨rfl, hb1⟩
end Go.Proofs.YtfandijagdiggaaDoor
