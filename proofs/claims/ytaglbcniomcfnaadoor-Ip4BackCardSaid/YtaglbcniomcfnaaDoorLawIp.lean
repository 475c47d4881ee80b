/- The walks of the statements of layer 7, ip4: begun, Ip4All, Ip4Back, Ip4Order. -/
import Derived.Test.YtaglbcniomcfnaaDoorIpI
namespace Go.Proofs.YtaglbcniomcfnaaDoor
set_option linter.all false
open Go.RowKit

def beg7 : List UInt8 := [48, 120, 55, 102, 46, 49]
set_option maxRecDepth 100000 in
set_option maxHeartbeats 4000000 in
theorem begun7_any (w : World) (hm : ML w) (ht : TB w) : Calls Tryd.prog 14 #[] w fun e w' => e = .returned (.bool true) ∧ Below w.heap.size w w' := by
  have p1 : pParse [48, 120, 55, 102, 46, 49] = some 2130706433 := by decide +kernel
  have p2 : pShow4 2130706433 = [49, 50, 55, 46, 48, 46, 48, 46, 49] := by decide +kernel
  have p3 : pEnds [97, 46, 49] = true := by decide +kernel
  have p4 : pEnds [49, 46, 97] = false := by decide +kernel
  have C1 := Lib.hid fun w hm => parse4_any [48, 120, 55, 102, 46, 49] w hm (by decide)
  have C2 := Lib.hid fun w hm ht => show4_any 2130706433 w hm ht (by decide)
  have C3 := Lib.hid fun w hm => ends4_any [97, 46, 49] w hm (by decide)
  have C4 := Lib.hid fun w hm => ends4_any [49, 46, 97] w hm (by decide)
  rw [p1] at C1
  rw [p2] at C2
  rw [p3] at C3
  rw [p4] at C4
  clear p1 p2 p3 p4
  have t1 : (str [49, 50, 55, 46, 48, 46, 48, 46, 49]).toList = [49, 50, 55, 46, 48, 46, 48, 46, 49] := str_toL _
  go_enter Tryd.func14, Tryd.ntmps14
  go_wp2_with (first
    | (go_at_call 15; go_must (go_fit (C1.out _ hm)); rintro e w1 ⟨rfl, hb1⟩; have hm1 := hm.next hb1; have ht1 := ht.next hb1)
    | (go_at_call 19; go_must (go_fit (C2.out _ hm1 ht1)); rintro e w2 ⟨rfl, hb2⟩; have hm2 := hm1.next hb2)
    | (go_at_call 17; go_fit (C3.out _ hm2); rintro e w3 ⟨rfl, hb3⟩; have hm3 := hm2.next hb3)
    | (go_at_call 17; go_fit (C4.out _ hm3); rintro e w4 ⟨rfl, hb4⟩))
  go_ret
  exact ⟨rfl, bnext (bnext (bnext hb1 hb2) hb3) hb4⟩


set_option maxRecDepth 100000 in
set_option maxHeartbeats 8000000 in
theorem ip4All_walk (s : List UInt8) (a : Nat) (ha : a < 4294967296) (w : World) (hm : ML w) (ht : TB w) (hsm : s.length ≤ maxLen) :
    Calls Tryd.prog 3 #[.string (str s), .int .u32 (a : Int)] w fun e w' => e = .returned (.bool true) ∧ Below w.heap.size w w' := by
  unfold maxLen at hsm
  have hsz := str_size s
  by_cases h60 : (s.length : Int) ≤ 60
  · have C1 := Lib.hid fun w hm => parse4_any s w hm (by omega)
    have C2 := Lib.hid fun w => rparse4_any s w (by omega)
    have C3 := Lib.hid fun w hm => ends4_any s w hm (by omega)
    have C4 := Lib.hid fun w => rends6_any s w (by omega)
    have C5 := Lib.hid fun w hm ht => show4_any a w hm ht ha
    have C6 := Lib.hid fun w => rshow4_any a w ha
    obtain ⟨o, ho⟩ : ∃ o, o = pParse s := ⟨_, rfl⟩
    rw [← ho] at C1 C2
    obtain ⟨u, hu⟩ : ∃ u, u = pEnds s := ⟨_, rfl⟩
    rw [← hu] at C3 C4
    obtain ⟨T, hT⟩ : ∃ T, T = pShow4 a := ⟨_, rfl⟩
    rw [← hT] at C5 C6
    clear ho hu hT
    have t1 : ((str T).toList == (str T).toList) = true := by simp
    have q1 : (u == u) = true := by simp
    go_enter Tryd.func3, Tryd.ntmps3
    cases o <;> cases u
    all_goals
      go_wp2_with (first
        | (go_at_call 14; go_must (go_fit (begun7_any w hm ht)); rintro e w1 ⟨rfl, hb1⟩; have hm1 := hm.next hb1; have ht1 := ht.next hb1)
        | (go_at_call 15; go_must (go_fit (C1.out w1 hm1)); rintro e w2 ⟨rfl, hb2⟩; have hm2 := hm1.next hb2; have ht2 := ht1.next hb2)
        | (go_at_call 16; go_must (go_fit (C2.out w2)); rintro e w3 ⟨rfl, hb3⟩; have hm3 := hm2.next hb3; have ht3 := ht2.next hb3)
        | (go_at_call 17; go_must (go_fit (C3.out w3 hm3)); rintro e w4 ⟨rfl, hb4⟩; have hm4 := hm3.next hb4; have ht4 := ht3.next hb4)
        | (go_at_call 18; go_must (go_fit (C4.out w4)); rintro e w5 ⟨rfl, hb5⟩; have hm5 := hm4.next hb5; have ht5 := ht4.next hb5)
        | (go_at_call 19; go_must (go_fit (C5.out w5 hm5 ht5)); rintro e w6 ⟨rfl, hb6⟩)
        | (go_at_call 20; go_must (go_fit (C6.out w6)); rintro e w7 ⟨rfl, hb7⟩))
      go_ret
      exact ⟨rfl, bnext (bnext (bnext (bnext (bnext (bnext hb1 hb2) hb3) hb4) hb5) hb6) hb7⟩
  · have h60' : 60 < (s.length : Int) := by omega
    clear h60
    go_enter Tryd.func3, Tryd.ntmps3
    go_wp2_with (go_at_call 14; go_must (go_fit (begun7_any w hm ht)); rintro e w1 ⟨rfl, hb1⟩)
    go_ret
    exact ⟨rfl, hb1⟩

set_option maxRecDepth 100000 in
set_option maxHeartbeats 8000000 in
theorem ip4Back_walk (a : Nat) (ha : a < 4294967296) (w : World) (hm : ML w) (ht : TB w) :
    Calls Tryd.prog 4 #[.int .u32 (a : Int)] w fun e w' => e = .returned (.bool true) ∧ Below w.heap.size w w' := by
  have hl := show4_len (a := a)
  have b1 := ip4_back (a := a) ha
  have b2 := ip4_back_dot (a := a) ha
  have b3 := ip4_ends (a := a)
  have b4 := ip4_ends_dot (a := a)
  have C0 := Lib.hid fun w hm ht => show4_any a w hm ht ha
  obtain ⟨T, hT⟩ : ∃ T, T = pShow4 a := ⟨_, rfl⟩
  rw [← hT] at C0 b1 b2 b3 b4 hl
  obtain ⟨U, hU⟩ : ∃ U, U = T ++ [46] := ⟨_, rfl⟩
  rw [← hU] at b2 b4
  have hul : U.length ≤ 100 := by rw [hU, List.length_append]; simp; omega
  have C1 := Lib.hid fun w hm => parse4_any T w hm (by omega)
  have C2 := Lib.hid fun w hm => parse4_any U w hm (by omega)
  have C3 := Lib.hid fun w hm => ends4_any T w hm (by omega)
  have C4 := Lib.hid fun w hm => ends4_any U w hm (by omega)
  rw [b1] at C1
  rw [b2] at C2
  rw [b3] at C3
  rw [b4] at C4
  have hsz := str_size T
  have e1 : str T ++ { data := #[46] } = str U := (str_app T [46]).trans (by rw [hU])
  have k1 : (9223372036854775807 < T.length + 1) = False := eq_false (by omega)
  clear b1 b2 b3 b4 hT hU
  go_enter Tryd.func4, Tryd.ntmps4
  go_wp2_with (first
    | (go_at_call 14; go_must (go_fit (begun7_any w hm ht)); rintro e w1 ⟨rfl, hb1⟩; have hm1 := hm.next hb1; have ht1 := ht.next hb1)
    | (go_at_call 19; go_must (go_fit (C0.out w1 hm1 ht1)); rintro e w2 ⟨rfl, hb2⟩; have hm2 := hm1.next hb2)
    | (go_at_call 15; go_fit (C1.out w2 hm2); rintro e w3 ⟨rfl, hb3⟩; have hm3 := hm2.next hb3)
    | (go_at_call 15; go_fit (C2.out w3 hm3); rintro e w4 ⟨rfl, hb4⟩; have hm4 := hm3.next hb4)
    | (go_at_call 17; go_fit (C3.out w4 hm4); rintro e w5 ⟨rfl, hb5⟩; have hm5 := hm4.next hb5)
    | (go_at_call 17; go_fit (C4.out w5 hm5); rintro e w6 ⟨rfl, hb6⟩))
  go_ret
  exact ⟨rfl, bnext (bnext (bnext (bnext (bnext hb1 hb2) hb3) hb4) hb5) hb6⟩
end Go.Proofs.YtaglbcniomcfnaaDoor

