/- The walks of strconv.Itoa at a byte, and of ip4.Show. -/
import Derived.Test.YtaglbcniomcfnaaDoorIpH
namespace Go.Proofs.YtaglbcniomcfnaaDoor
set_option linter.all false
open Go.RowKit

theorem below_grow {B : Nat} {w : World} (hB : B ≤ w.heap.size) (k : Nat) (os : Array Obj) : Below B w (Go.Sort.grow (w.drewN k) os) :=
  ⟨rfl, rfl, rfl, by show w.heap.size ≤ (w.heap ++ os).size; rw [Array.size_append]; omega, fun j hj => by
    show (w.heap ++ os)[j]? = w.heap[j]?
    rw [Array.getElem?_append_left (by omega)]⟩
theorem itoa_any (u : Nat) (hu : u < 256) (w : World) (ht : TB w) : Calls Tryd.prog 33 #[.int .i64 (u : Int)] w fun e w' => e = .returned (.string (str (digs 10 u))) ∧ Below w.heap.size w w' := by
  refine (Tryd.strconv_Itoa (u : Int) (by omega) (by omega) w ht).mono fun e w' ⟨he, k, os, hw⟩ => ⟨?_, hw ▸ below_grow (Nat.le_refl _) k os⟩
  rw [he, digs_ten]
  unfold Lib.itoa
  rw [if_neg (by omega)]
  rfl
theorem fours_at {a j : Nat} (h : j < 4) : (fours a)[j]? = some (digs 10 (a / 2 ^ (8 * (3 - j)) % 256)) := by
  obtain rfl | rfl | rfl | rfl : j = 0 ∨ j = 1 ∨ j = 2 ∨ j = 3 := by omega
  all_goals simp [fours]
theorem fours_take {a j : Nat} {D : List UInt8} (h : (fours a)[j]? = some D) : (fours a).take (j + 1) = (fours a).take j ++ [D] := by
  obtain ⟨hj, e⟩ := List.getElem?_eq_some_iff.1 h
  rw [take_snoc' _ j hj, e]

set_option maxRecDepth 100000 in
set_option maxHeartbeats 4000000 in
theorem show4_any (a : Nat) (w : World) (hm : ML w) (ht : TB w) (ha : a < 4294967296) : Calls Tryd.prog 19 #[.int .u32 (a : Int)] w fun e w' => e = .returned (.string (str (pShow4 a))) ∧ Below w.heap.size w w' := by
  go_enter Tryd.func19, Tryd.ntmps19
  go_wp2
  go_loopg [3, 4] 4 (fun k s3 s4 wr => ∃ j : Nat, k = 4 - j ∧ j ≤ 4 ∧ s4 = .int .i64 (3 - (j : Int)) ∧ wr.ownsRow w.heap.size 9 1 s3 j (strs ((fours a).take j)) ∧ Below w.heap.size w wr)
  case atStart => exact ⟨0, rfl, Nat.zero_le _, rfl, World.ownsRow_nil _ _ _ _, Below.refl _ _⟩
  case round =>
    obtain ⟨j, rfl, hj, rfl, hown, hbel⟩ := hrel
    obtain ⟨A3, c3, rfl, hc3, hm3⟩ := own_shape hown
    have hq0 := hbel.size
    by_cases hlt : j < 4
    · obtain ⟨m, hmj⟩ : ∃ m : Nat, m = 8 * (3 - j) := ⟨_, rfl⟩
      have HD := Lib.hid (fours_at (a := a) hlt)
      rw [← hmj] at HD
      have hm24 : m ≤ 24 := by omega
      obtain ⟨u, hu⟩ : ∃ u : Nat, u = a / 2 ^ m % 256 := ⟨_, rfl⟩
      rw [← hu] at HD
      have hu256 : u < 256 := by rw [hu]; exact Nat.mod_lt _ (by decide)
      have hj0 : (0 : Int) ≤ 3 - (j : Int) := by omega
      have hw1 : IntKind.i64.wrap (8 * (3 - (j : Int))) = (m : Int) := by rw [IntWalk.i64_in _ (by omega)]; omega
      have C1 := Lib.hid (itoa_any u hu256 wr (ht.next hbel))
      have HT := Lib.hid (fours_take HD.out)
      obtain ⟨v, hv⟩ : ∃ v : Nat, v = a / 2 ^ m := ⟨_, rfl⟩
      have hvl : v < 4294967296 := by rw [hv]; exact Nat.lt_of_le_of_lt (Nat.div_le_self _ _) ha
      have hdv : (a : Int) / 2 ^ m = (v : Int) := by rw [hv]; simp
      have hbt : bits .and .u32 (v : Int) 255 = (u : Int) := by rw [u32_and255 hvl, hu, hv]
      have hown' := fun w' (hb : Below wr.heap.size wr w') => own_below hown hb (Nat.le_refl _)
      have HW := Lib.hid hown'
      clear hu hmj hown' hv
      go_wp2_with (first
        | (go_at_call 33; go_must (go_fit C1.out); rintro e w1 ⟨rfl, hb1⟩; have hown1 := HW.out w1 hb1; have hq1 := hb1.size)
        | (at_builtin; go_loud (refine wpList_append_lit rfl _ _ _ rfl w.heap.size _ _ 1 16 Tryd.underlying35 info_strU rfl (by decide) _ _ _ rfl hown1 _ 1 1 _ rfl rfl (by simp [Value.oneCell']) (by omega) (by decide) (by omega) ?_; intro A5 c5 w5 hc5 hm5 hown5 hb5 hg5)))
      go_roundg (4 - (j + 1))
      case measure => omega
      case rel =>
        refine ⟨j + 1, rfl, by omega, by go_num, ?_, (hbel.trans (hb1.mono hq0)).trans hb5⟩
        rw [HT.out, strs_append]
        exact hown5
    · obtain rfl : j = 4 := by omega
      rw [show (fours a).take 4 = fours a from rfl] at hown
      have hj4 : ¬ (0 : Int) ≤ 3 - ((4 : Nat) : Int) := by omega
      obtain ⟨A6, c6, e6, hc6, hm6, hx6⟩ := own_rdN hown
      injection e6 with e6 _ e7
      subst e6 e7
      have CJ := Lib.hid (join_any 46 A3 c3 (fours a) wr hx6 hc3 (by rw [show (fours a).length = 4 from rfl]; decide) (by rw [← show4_fours]; have := show4_len (a := a); omega))
      rw [← show4_fours, show (fours a).length = 4 from rfl] at CJ
      go_wp2_with (go_at_call 34; go_must (go_fit CJ.out); rintro e w7 ⟨rfl, hb7⟩)
      go_ret
      exact ⟨rfl, hbel.trans (hb7.mono hbel.size)⟩
end Go.Proofs.YtaglbcniomcfnaaDoor

