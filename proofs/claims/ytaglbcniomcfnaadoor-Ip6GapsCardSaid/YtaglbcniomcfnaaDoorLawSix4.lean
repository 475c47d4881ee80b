/- The walk of the statement Ip6Gaps. -/
import Derived.Test.YtaglbcniomcfnaaDoorLawSix3
import Derived.Test.YtaglbcniomcfnaaDoorSixR
import Derived.Deep.RegionHeld3
namespace Go.Proofs.YtaglbcniomcfnaaDoor
set_option linter.all false
open Go.RowKit

theorem opAt22 {α : Type} {a0 a1 a2 a3 a4 a5 a6 a7 a8 a9 a10 a11 a12 a13 a14 a15 a16 a17 a18 a19 a20 a21 a22 : α} {l : List α} : (List.toArray (a0 :: a1 :: a2 :: a3 :: a4 :: a5 :: a6 :: a7 :: a8 :: a9 :: a10 :: a11 :: a12 :: a13 :: a14 :: a15 :: a16 :: a17 :: a18 :: a19 :: a20 :: a21 :: a22 :: l))[22]? = some a22 := rfl
theorem opAt23 {α : Type} {a0 a1 a2 a3 a4 a5 a6 a7 a8 a9 a10 a11 a12 a13 a14 a15 a16 a17 a18 a19 a20 a21 a22 a23 : α} {l : List α} : (List.toArray (a0 :: a1 :: a2 :: a3 :: a4 :: a5 :: a6 :: a7 :: a8 :: a9 :: a10 :: a11 :: a12 :: a13 :: a14 :: a15 :: a16 :: a17 :: a18 :: a19 :: a20 :: a21 :: a22 :: a23 :: l))[23]? = some a23 := rfl
theorem opAt24 {α : Type} {a0 a1 a2 a3 a4 a5 a6 a7 a8 a9 a10 a11 a12 a13 a14 a15 a16 a17 a18 a19 a20 a21 a22 a23 a24 : α} {l : List α} : (List.toArray (a0 :: a1 :: a2 :: a3 :: a4 :: a5 :: a6 :: a7 :: a8 :: a9 :: a10 :: a11 :: a12 :: a13 :: a14 :: a15 :: a16 :: a17 :: a18 :: a19 :: a20 :: a21 :: a22 :: a23 :: a24 :: l))[24]? = some a24 := rfl
theorem opAt25 {α : Type} {a0 a1 a2 a3 a4 a5 a6 a7 a8 a9 a10 a11 a12 a13 a14 a15 a16 a17 a18 a19 a20 a21 a22 a23 a24 a25 : α} {l : List α} : (List.toArray (a0 :: a1 :: a2 :: a3 :: a4 :: a5 :: a6 :: a7 :: a8 :: a9 :: a10 :: a11 :: a12 :: a13 :: a14 :: a15 :: a16 :: a17 :: a18 :: a19 :: a20 :: a21 :: a22 :: a23 :: a24 :: a25 :: l))[25]? = some a25 := rfl
theorem opAt26 {α : Type} {a0 a1 a2 a3 a4 a5 a6 a7 a8 a9 a10 a11 a12 a13 a14 a15 a16 a17 a18 a19 a20 a21 a22 a23 a24 a25 a26 : α} {l : List α} : (List.toArray (a0 :: a1 :: a2 :: a3 :: a4 :: a5 :: a6 :: a7 :: a8 :: a9 :: a10 :: a11 :: a12 :: a13 :: a14 :: a15 :: a16 :: a17 :: a18 :: a19 :: a20 :: a21 :: a22 :: a23 :: a24 :: a25 :: a26 :: l))[26]? = some a26 := rfl
theorem opAt27 {α : Type} {a0 a1 a2 a3 a4 a5 a6 a7 a8 a9 a10 a11 a12 a13 a14 a15 a16 a17 a18 a19 a20 a21 a22 a23 a24 a25 a26 a27 : α} {l : List α} : (List.toArray (a0 :: a1 :: a2 :: a3 :: a4 :: a5 :: a6 :: a7 :: a8 :: a9 :: a10 :: a11 :: a12 :: a13 :: a14 :: a15 :: a16 :: a17 :: a18 :: a19 :: a20 :: a21 :: a22 :: a23 :: a24 :: a25 :: a26 :: a27 :: l))[27]? = some a27 := rfl
theorem opAt28 {α : Type} {a0 a1 a2 a3 a4 a5 a6 a7 a8 a9 a10 a11 a12 a13 a14 a15 a16 a17 a18 a19 a20 a21 a22 a23 a24 a25 a26 a27 a28 : α} {l : List α} : (List.toArray (a0 :: a1 :: a2 :: a3 :: a4 :: a5 :: a6 :: a7 :: a8 :: a9 :: a10 :: a11 :: a12 :: a13 :: a14 :: a15 :: a16 :: a17 :: a18 :: a19 :: a20 :: a21 :: a22 :: a23 :: a24 :: a25 :: a26 :: a27 :: a28 :: l))[28]? = some a28 := rfl
theorem opAt29 {α : Type} {a0 a1 a2 a3 a4 a5 a6 a7 a8 a9 a10 a11 a12 a13 a14 a15 a16 a17 a18 a19 a20 a21 a22 a23 a24 a25 a26 a27 a28 a29 : α} {l : List α} : (List.toArray (a0 :: a1 :: a2 :: a3 :: a4 :: a5 :: a6 :: a7 :: a8 :: a9 :: a10 :: a11 :: a12 :: a13 :: a14 :: a15 :: a16 :: a17 :: a18 :: a19 :: a20 :: a21 :: a22 :: a23 :: a24 :: a25 :: a26 :: a27 :: a28 :: a29 :: l))[29]? = some a29 := rfl
theorem opAt30 {α : Type} {a0 a1 a2 a3 a4 a5 a6 a7 a8 a9 a10 a11 a12 a13 a14 a15 a16 a17 a18 a19 a20 a21 a22 a23 a24 a25 a26 a27 a28 a29 a30 : α} {l : List α} : (List.toArray (a0 :: a1 :: a2 :: a3 :: a4 :: a5 :: a6 :: a7 :: a8 :: a9 :: a10 :: a11 :: a12 :: a13 :: a14 :: a15 :: a16 :: a17 :: a18 :: a19 :: a20 :: a21 :: a22 :: a23 :: a24 :: a25 :: a26 :: a27 :: a28 :: a29 :: a30 :: l))[30]? = some a30 := rfl
set_option maxRecDepth 100000 in
set_option maxHeartbeats 16000000 in
theorem ip6Gaps_walk (A : Option Addr) (c : Nat) (l : List Nat) (at' : UInt8) (w : World) (hr : Rd w w.heap.size A (u16s l)) (hx16 : ∀ x ∈ l, x < 65536) (hq : L8 w) :
    Calls Tryd.prog 13 #[.slice A l.length c, .int .u8 (at'.toNat : Int)] w fun e w' => e = .returned (.bool true) ∧ Below w.heap.size w w' := by
  by_cases h7 : 7 < l.length
  · have h7i : (7 : Int) < (l.length : Int) := by omega
    go_enter Tryd.func13, Tryd.ntmps13
    go_wp2_with (go_at_call 23; go_must (go_fit (begun8_any _ hq)); rintro e w1 ⟨rfl, hb1⟩)
    go_ret
    exact ⟨rfl, hb1⟩
  have h7' : l.length ≤ 7 := by omega
  have h7i : ¬ (7 : Int) < (l.length : Int) := by omega
  obtain ⟨k, hk⟩ : ∃ k, k = at'.toNat % (l.length + 1) := ⟨_, rfl⟩
  have hkl : k ≤ l.length := by have := Nat.mod_lt at'.toNat (show 0 < l.length + 1 by omega); omega
  have km : Int.tmod (at'.toNat : Int) ((l.length : Int) + 1) = (k : Int) := by rw [hk]; rfl
  have kz : ¬ ((l.length : Int) + 1 = 0) := by omega
  have p1 := Lib.hid (gapS_some h7' hkl hx16)
  have p2 := Lib.hid (gapS_two (k := k) hx16)
  have p3 := Lib.hid (gapS_one (k := k) hx16)
  have H16 := Lib.hid hx16
  have H7 := Lib.hid h7'
  have hat := byte_lt at'
  clear hk hx16
  go_enter Tryd.func13, Tryd.ntmps13
  go_wp2_with (go_at_call 23; go_must (go_fit (begun8_any _ hq)); rintro e w1 ⟨rfl, hb1⟩; have hX := Row.made w1 #[.int .u16 0, .int .u16 0, .int .u16 0, .int .u16 0, .int .u16 0, .int .u16 0, .int .u16 0, .int .u16 0] 39; have hbX := bnew hb1 (.cells #[.int .u16 0, .int .u16 0, .int .u16 0, .int .u16 0, .int .u16 0, .int .u16 0, .int .u16 0, .int .u16 0] 39); have hXs := hb1.size)
  go_loopg [6, 8] l.length (fun m s6 s8 wr => ∃ (i : Nat) (S : List UInt8), m = l.length - i ∧ i ≤ l.length ∧ s8 = .int .i64 i ∧ s6 = .string (str S) ∧ S.length ≤ 6 * i ∧ Hid (S = gapT l k i) ∧ Row wr w1.heap.size (u16s (gapW l k i)) ∧ Below w.heap.size w wr)
  case atStart => exact ⟨0, [], rfl, Nat.zero_le _, rfl, rfl, by simp, Lib.hid (by unfold gapT; rw [if_pos (Nat.zero_le _)]; rfl), by unfold gapW; rw [if_pos (Nat.zero_le _)]; exact hX, hbX⟩
  case round =>
    obtain ⟨i, S, rfl, hi, rfl, rfl, hSl, HS, hR, hbel⟩ := hrel
    by_cases hlt : i < l.length
    · obtain ⟨x, hx⟩ : ∃ x, l[i]? = some x := ⟨_, List.getElem?_eq_getElem (by omega)⟩
      have hx16 := H16.out x (List.mem_of_getElem? hx)
      obtain ⟨b, off, rfl, hbl, hcc⟩ := (hr.below hbel) (by rw [u16s_len]; omega)
      have hc := hcc i _ (u16s_get hx)
      have hi0 : (0 : Int) ≤ (i : Int) := by omega
      have hi7 : i < 7 := by have := H7.out; omega
      have hil : (i : Int) < (l.length : Int) := by omega
      have HW := Lib.hid (gapW_len H7.out hkl hi)
      have HX := Lib.hid hx
      clear hcc hx
      obtain ⟨d0, hd0⟩ : ∃ d0 : Nat, d0 = x / 4096 := ⟨_, rfl⟩
      obtain ⟨q1, hq1⟩ : ∃ q1 : Nat, q1 = x / 256 := ⟨_, rfl⟩
      obtain ⟨q2, hq2⟩ : ∃ q2 : Nat, q2 = x / 16 := ⟨_, rfl⟩
      obtain ⟨d1, hd1⟩ : ∃ d1 : Nat, d1 = q1 % 16 := ⟨_, rfl⟩
      obtain ⟨d2, hd2⟩ : ∃ d2 : Nat, d2 = q2 % 16 := ⟨_, rfl⟩
      obtain ⟨d3, hd3⟩ : ∃ d3 : Nat, d3 = x % 16 := ⟨_, rfl⟩
      have i0 : (x : Int) / 4096 = (d0 : Int) := by rw [hd0]; rfl
      have i1 : (x : Int) / 256 = (q1 : Int) := by rw [hq1]; rfl
      have i2 : (x : Int) / 16 = (q2 : Int) := by rw [hq2]; rfl
      have b1 := u16_and15 (x := q1) (by omega)
      have b2 := u16_and15 (x := q2) (by omega)
      have b3 := u16_and15 (x := x) hx16
      rw [← hd1] at b1
      rw [← hd2] at b2
      rw [← hd3] at b3
      have g0 := fun h => sign16_at (d := d0) (by omega) h
      have g1 := fun h => sign16_at (d := d1) (by omega) h
      have g2 := fun h => sign16_at (d := d2) (by omega) h
      have g3 := fun h => sign16_at (d := d3) (by omega) h
      have l0 : (d0 : Int) < 16 := by omega
      have l1 : (d1 : Int) < 16 := by omega
      have l2 : (d2 : Int) < 16 := by omega
      have l3 : (d3 : Int) < 16 := by omega
      have m0 : d0 < 16 := by omega
      have m1 : d1 < 16 := by omega
      have m2 : d2 < 16 := by omega
      have m3 : d3 < 16 := by omega
      obtain ⟨P, hP⟩ : ∃ P, P = [dch d0, dch d1, dch d2, dch d3] := ⟨_, rfl⟩
      have HPD := Lib.hid (show dig4 x = P by rw [hP]; unfold dig4; rw [hd0, hd1, hd2, hd3, hq1, hq2])
      have hPl : P.length = 4 := by rw [hP]; rfl
      have hst := str_atN (w := (wr.alloc (.cells #[.int .u8 ((dch d0).toNat : Int), .int .u8 ((dch d1).toNat : Int), .int .u8 ((dch d2).toNat : Int), .int .u8 ((dch d3).toNat : Int)] 5)).drew) (n := 4) (c := 4) (l := P) (by have := @Rd.lit wr #[.int .u8 ((dch d0).toNat : Int), .int .u8 ((dch d1).toNat : Int), .int .u8 ((dch d2).toNat : Int), .int .u8 ((dch d3).toNat : Int)] 5 (0, 0); rw [hP]; exact this) hPl.symm
      have hyP := str_size P
      have hyS := str_size S
      have hcN : ∀ o : Obj, (wr.alloc o).cell? ⟨b, off + i, none⟩ = some (.int .u16 (x : Int)) := fun o => (World.cell?_alloc_some wr _ o (by rw [hc]; rfl)).trans hc
      clear hd0 hd1 hd2 hd3 hq1 hq2 hP
      have hbN := (hbel.alloc hbel.size (.cells #[.int .u8 ((dch d0).toNat : Int), .int .u8 ((dch d1).toNat : Int), .int .u8 ((dch d2).toNat : Int), .int .u8 ((dch d3).toNat : Int)] 5)).drew
      have hRN := (hR.far (.cells #[.int .u8 ((dch d0).toNat : Int), .int .u8 ((dch d1).toNat : Int), .int .u8 ((dch d2).toNat : Int), .int .u8 ((dch d3).toNat : Int)] 5))
      by_cases hik : i = k
      · subst hik
        have hhi : i ≤ i := Nat.le_refl i
        have HTK := Lib.hid (gapT_at HX.out)
        obtain ⟨S1, hS1⟩ : ∃ Z0, Z0 = S ++ [58, 58] := ⟨_, rfl⟩
        have eS1 : str S ++ { data := #[58, 58] } = str S1 := (str_app S [58, 58]).trans (by rw [hS1])
        have nS1 : S1.length ≤ 50 := by rw [hS1, List.length_append]; simp only [List.length_cons, List.length_nil]; omega
        have yS1 := str_size S1
        have kS1 : (9223372036854775807 < S.length + 2) = False := eq_false (by omega)
        obtain ⟨S2, hS2⟩ : ∃ Z0, Z0 = S1 ++ P := ⟨_, rfl⟩
        have eS2 : str S1 ++ str P = str S2 := (str_app S1 P).trans (by rw [hS2])
        have nS2 : S2.length ≤ 60 := by rw [hS2, List.length_append]; omega
        have yS2 := str_size S2
        have kS2 : (9223372036854775807 < S1.length + P.length) = False := eq_false (by omega)
        have kP4 : (9223372036854775807 < S1.length + 4) = False := eq_false (by omega)
        have HT := Lib.hid (show S2 = gapT l i (i + 1) by rw [hS2, hS1, show gapT l i (i + 1) = _ from HTK.out, HS.out, HPD.out])
        have HL := Lib.hid (show S2.length ≤ 6 * (i + 1) by rw [hS2, hS1]; simp only [List.length_append, List.length_cons, List.length_nil]; omega)
        obtain ⟨r, hr8⟩ : ∃ r, r = 8 - l.length + i := ⟨_, rfl⟩
        have hHW := gapW_hi H7.out HX.out hhi
        rw [← hr8] at hHW
        replace hHW := Lib.hid hHW
        have hw0 : r < (u16s (gapW l i i)).length := by rw [u16s_len, HW.out]; omega
        have hr80 : (0 : Int) ≤ (r : Int) := by omega
        have hr88 : (r : Int) < 8 := by omega
        have hrw : (8 : Int) - (l.length : Int) + (i : Int) = (r : Int) := by omega
        have hfx := fun o => (hR.far o).2.1 r hw0
        obtain ⟨old, hold⟩ : ∃ old, (u16s (gapW l i i))[r]? = some old := ⟨_, List.getElem?_eq_getElem hw0⟩
        have hcx := fun o => (hR.far o).1 r _ hold
        have hset := hRN.set hw0 (.int .u16 (x : Int))
        rw [u16s_set, hHW.out] at hset
        have hbS := hbN.setCell (p := ⟨w1.heap.size, r, none⟩) hXs (.int .u16 (x : Int))
        clear hS1 hS2 hold
        subst hr8
        go_wp2
        refine wp_region_held_drew (S := fun w' => w'.cell? ⟨b, off + i, none⟩ = some (.int .u16 (x : Int))) (by kernel_rfl) hc (fun hHeld => ?_)
        refine wpAnyH_take (i := 0) (v := ?_) opAt0 (by kernel_rfl) (by kernel_rfl) (by kernel_rfl) (fun _ _ _ h => h) (Or.inl ⟨by rfl, ?_⟩) (by assumption) ?_
        rotate_left
        · (intro w hSw; (try dsimp only at hSw); go_simp; (try with_reducible rfl))
        try simp only [Act.put, List.setIfInBounds_toArray, List.set_cons_zero, List.set_cons_succ]
        refine wpAnyH_take (i := 1) (v := ?_) opAt1 (by kernel_rfl) (by kernel_rfl) (by kernel_rfl) (fun _ _ _ h => h) (Or.inl ⟨by rfl, ?_⟩) (by assumption) ?_
        rotate_left
        · (intro w hSw; (try dsimp only at hSw); go_simp; (try with_reducible rfl))
        try simp only [Act.put, List.setIfInBounds_toArray, List.set_cons_zero, List.set_cons_succ]
        refine wpAnyH_take (i := 2) (v := ?_) opAt2 (by kernel_rfl) (by kernel_rfl) (by kernel_rfl) (fun _ _ _ h => h) (Or.inl ⟨by rfl, ?_⟩) (by assumption) ?_
        rotate_left
        · (intro w hSw; (try dsimp only at hSw); go_simp; (try with_reducible rfl))
        try simp only [Act.put, List.setIfInBounds_toArray, List.set_cons_zero, List.set_cons_succ]
        refine wpAnyH_take (i := 3) (v := ?_) opAt3 (by kernel_rfl) (by kernel_rfl) (by kernel_rfl) (fun _ _ _ h => h) (Or.inl ⟨by rfl, ?_⟩) (by assumption) ?_
        rotate_left
        · (intro w hSw; (try dsimp only at hSw); go_simp; (try with_reducible rfl))
        try simp only [Act.put, List.setIfInBounds_toArray, List.set_cons_zero, List.set_cons_succ]
        refine wpAnyH_take (i := 4) (v := ?_) opAt4 (by kernel_rfl) (by kernel_rfl) (by kernel_rfl) (fun _ _ _ h => h) (Or.inl ⟨by rfl, ?_⟩) (by assumption) ?_
        rotate_left
        · (intro w hSw; (try dsimp only at hSw); go_simp; (try with_reducible rfl))
        try simp only [Act.put, List.setIfInBounds_toArray, List.set_cons_zero, List.set_cons_succ]
        refine wpAnyH_take (i := 5) (v := ?_) opAt5 (by kernel_rfl) (by kernel_rfl) (by kernel_rfl) (fun _ _ _ h => h) (Or.inl ⟨by rfl, ?_⟩) (by assumption) ?_
        rotate_left
        · (intro w hSw; (try dsimp only at hSw); go_simp; (try with_reducible rfl))
        try simp only [Act.put, List.setIfInBounds_toArray, List.set_cons_zero, List.set_cons_succ]
        refine wpAnyH_take (i := 6) (v := ?_) opAt6 (by kernel_rfl) (by kernel_rfl) (by kernel_rfl) (fun _ _ _ h => h) (Or.inl ⟨by rfl, ?_⟩) (by assumption) ?_
        rotate_left
        · (intro w hSw; (try dsimp only at hSw); go_simp; (try with_reducible rfl))
        try simp only [Act.put, List.setIfInBounds_toArray, List.set_cons_zero, List.set_cons_succ]
        refine wpAnyH_take (i := 7) (v := ?_) opAt7 (by kernel_rfl) (by kernel_rfl) (by kernel_rfl) (fun _ _ _ h => h) (Or.inl ⟨by rfl, ?_⟩) (by assumption) ?_
        rotate_left
        · (intro w hSw; (try dsimp only at hSw); go_simp; (try with_reducible rfl))
        try simp only [Act.put, List.setIfInBounds_toArray, List.set_cons_zero, List.set_cons_succ]
        refine wpAnyH_take (i := 8) (v := ?_) opAt8 (by kernel_rfl) (by kernel_rfl) (by kernel_rfl) (fun _ _ _ h => h) (Or.inl ⟨by rfl, ?_⟩) (by assumption) ?_
        rotate_left
        · (intro w hSw; (try dsimp only at hSw); go_simp; (try with_reducible rfl))
        try simp only [Act.put, List.setIfInBounds_toArray, List.set_cons_zero, List.set_cons_succ]
        refine wpAnyH_take (i := 9) (v := ?_) opAt9 (by kernel_rfl) (by kernel_rfl) (by kernel_rfl) (fun _ _ _ h => h) (Or.inl ⟨by rfl, ?_⟩) (by assumption) ?_
        rotate_left
        · (intro w hSw; (try dsimp only at hSw); go_simp; (try with_reducible rfl))
        try simp only [Act.put, List.setIfInBounds_toArray, List.set_cons_zero, List.set_cons_succ]
        refine wpAnyH_take (i := 10) (v := ?_) opAt10 (by kernel_rfl) (by kernel_rfl) (by kernel_rfl) (fun _ _ _ h => h) (Or.inl ⟨by rfl, ?_⟩) (by assumption) ?_
        rotate_left
        · (intro w hSw; (try dsimp only at hSw); go_simp; (try with_reducible rfl))
        try simp only [Act.put, List.setIfInBounds_toArray, List.set_cons_zero, List.set_cons_succ]
        refine wpAnyH_take (i := 11) (v := ?_) opAt11 (by kernel_rfl) (by kernel_rfl) (by kernel_rfl) (fun _ _ _ h => h) (Or.inl ⟨by rfl, ?_⟩) (by assumption) ?_
        rotate_left
        · (intro w hSw; (try dsimp only at hSw); go_simp; (try with_reducible rfl))
        try simp only [Act.put, List.setIfInBounds_toArray, List.set_cons_zero, List.set_cons_succ]
        refine wpAnyH_take (i := 12) (v := ?_) opAt12 (by kernel_rfl) (by kernel_rfl) (by kernel_rfl) (fun _ _ _ h => h) (Or.inl ⟨by rfl, ?_⟩) (by assumption) ?_
        rotate_left
        · (intro w hSw; (try dsimp only at hSw); go_simp; (try with_reducible rfl))
        try simp only [Act.put, List.setIfInBounds_toArray, List.set_cons_zero, List.set_cons_succ]
        refine wpAnyH_take (i := 13) (v := ?_) opAt13 (by kernel_rfl) (by kernel_rfl) (by kernel_rfl) (fun _ _ _ h => h) (Or.inl ⟨by rfl, ?_⟩) (by assumption) ?_
        rotate_left
        · (intro w hSw; (try dsimp only at hSw); go_simp; (try with_reducible rfl))
        try simp only [Act.put, List.setIfInBounds_toArray, List.set_cons_zero, List.set_cons_succ]
        refine wpAnyH_take (i := 14) (v := ?_) opAt14 (by kernel_rfl) (by kernel_rfl) (by kernel_rfl) (fun _ _ _ h => h) (Or.inl ⟨by rfl, ?_⟩) (by assumption) ?_
        rotate_left
        · (intro w hSw; (try dsimp only at hSw); go_simp; (try with_reducible rfl))
        try simp only [Act.put, List.setIfInBounds_toArray, List.set_cons_zero, List.set_cons_succ]
        refine wpAnyH_take (i := 15) (v := ?_) opAt15 (by kernel_rfl) (by kernel_rfl) (by kernel_rfl) (fun _ _ _ h => h) (Or.inl ⟨by rfl, ?_⟩) (by assumption) ?_
        rotate_left
        · (intro w hSw; (try dsimp only at hSw); go_simp; (try with_reducible rfl))
        try simp only [Act.put, List.setIfInBounds_toArray, List.set_cons_zero, List.set_cons_succ]
        refine wpAnyH_take (i := 16) (v := ?_) opAt16 (by kernel_rfl) (by kernel_rfl) (by kernel_rfl) (fun _ _ _ h => h) (Or.inl ⟨by rfl, ?_⟩) (by assumption) ?_
        rotate_left
        · (intro w hSw; (try dsimp only at hSw); go_simp; (try with_reducible rfl))
        try simp only [Act.put, List.setIfInBounds_toArray, List.set_cons_zero, List.set_cons_succ]
        refine wpAnyH_take (i := 17) (v := ?_) opAt17 (by kernel_rfl) (by kernel_rfl) (by kernel_rfl) (fun _ _ _ h => h) (Or.inl ⟨by rfl, ?_⟩) (by assumption) ?_
        rotate_left
        · (intro w hSw; (try dsimp only at hSw); go_simp; (try with_reducible rfl))
        try simp only [Act.put, List.setIfInBounds_toArray, List.set_cons_zero, List.set_cons_succ]
        refine wpAnyH_take (i := 18) (v := ?_) opAt18 (by kernel_rfl) (by kernel_rfl) (by kernel_rfl) (fun _ _ _ h => h) (Or.inl ⟨by rfl, ?_⟩) (by assumption) ?_
        rotate_left
        · (intro w hSw; (try dsimp only at hSw); go_simp; (try with_reducible rfl))
        try simp only [Act.put, List.setIfInBounds_toArray, List.set_cons_zero, List.set_cons_succ]
        refine wpAnyH_take (i := 19) (v := ?_) opAt19 (by kernel_rfl) (by kernel_rfl) (by kernel_rfl) (fun _ _ _ h => h) (Or.inl ⟨by rfl, ?_⟩) (by assumption) ?_
        rotate_left
        · (intro w hSw; (try dsimp only at hSw); go_simp; (try with_reducible rfl))
        try simp only [Act.put, List.setIfInBounds_toArray, List.set_cons_zero, List.set_cons_succ]
        refine wpAnyH_take (i := 20) (v := ?_) opAt20 (by kernel_rfl) (by kernel_rfl) (by kernel_rfl) (fun _ _ _ h => h) (Or.inl ⟨by rfl, ?_⟩) (by assumption) ?_
        rotate_left
        · (intro w hSw; (try dsimp only at hSw); go_simp; (try with_reducible rfl))
        try simp only [Act.put, List.setIfInBounds_toArray, List.set_cons_zero, List.set_cons_succ]
        refine wpAnyH_take (i := 21) (v := ?_) opAt21 (by kernel_rfl) (by kernel_rfl) (by kernel_rfl) (fun _ _ _ h => h) (Or.inl ⟨by rfl, ?_⟩) (by assumption) ?_
        rotate_left
        · (intro w hSw; (try dsimp only at hSw); go_simp; (try with_reducible rfl))
        try simp only [Act.put, List.setIfInBounds_toArray, List.set_cons_zero, List.set_cons_succ]
        refine wpAnyH_take (i := 22) (v := ?_) opAt22 (by kernel_rfl) (by kernel_rfl) (by kernel_rfl) (fun _ _ _ h => h) (Or.inl ⟨by rfl, ?_⟩) (by assumption) ?_
        rotate_left
        · (intro w hSw; (try dsimp only at hSw); go_simp; (try with_reducible rfl))
        try simp only [Act.put, List.setIfInBounds_toArray, List.set_cons_zero, List.set_cons_succ]
        refine wpAnyH_take (i := 23) (v := ?_) opAt23 (by kernel_rfl) (by kernel_rfl) (by kernel_rfl) (fun _ _ _ h => h) (Or.inl ⟨by rfl, ?_⟩) (by assumption) ?_
        rotate_left
        · (intro w hSw; (try dsimp only at hSw); go_simp; (try with_reducible rfl))
        try simp only [Act.put, List.setIfInBounds_toArray, List.set_cons_zero, List.set_cons_succ]
        refine wpAnyH_take (i := 24) (v := ?_) opAt24 (by kernel_rfl) (by kernel_rfl) (by kernel_rfl) (fun _ _ _ h => h) (Or.inl ⟨by rfl, ?_⟩) (by assumption) ?_
        rotate_left
        · (intro w hSw; (try dsimp only at hSw); go_simp; (try with_reducible rfl))
        try simp only [Act.put, List.setIfInBounds_toArray, List.set_cons_zero, List.set_cons_succ]
        refine wpAnyH_take (i := 25) (v := ?_) opAt25 (by kernel_rfl) (by kernel_rfl) (by kernel_rfl) (fun _ _ _ h => h) (Or.inl ⟨by rfl, ?_⟩) (by assumption) ?_
        rotate_left
        · (intro w hSw; (try dsimp only at hSw); go_simp; (try with_reducible rfl))
        try simp only [Act.put, List.setIfInBounds_toArray, List.set_cons_zero, List.set_cons_succ]
        refine wpAnyH_take (i := 26) (v := ?_) opAt26 (by kernel_rfl) (by kernel_rfl) (by kernel_rfl) (fun _ _ _ h => h) (Or.inl ⟨by rfl, ?_⟩) (by assumption) ?_
        rotate_left
        · (intro w hSw; (try dsimp only at hSw); go_simp; (try with_reducible rfl))
        try simp only [Act.put, List.setIfInBounds_toArray, List.set_cons_zero, List.set_cons_succ]
        refine wpAnyH_ready (rs := [27]) (by kernel_rfl) (by simp) (AllReadyH.cons opAt27 (fun K hK => ?_) AllReadyH.nil)
        go_simp
        refine hK.out _ _ ?_ (fun hHeld => ?_)
        · (try dsimp only); first | exact hc | exact hcN _
        clear hK K
        try simp only [Act.put, List.setIfInBounds_toArray, List.set_cons_zero, List.set_cons_succ]
        refine wpAnyH_ready (rs := [28]) (by kernel_rfl) (by simp) (AllReadyH.cons opAt28 (fun K hK => ?_) AllReadyH.nil)
        go_simp
        refine hK.out _ _ ?_ (fun hHeld => ?_)
        · (try dsimp only); first | exact hc | exact hcN _
        clear hK K
        try simp only [Act.put, List.setIfInBounds_toArray, List.set_cons_zero, List.set_cons_succ]
        refine wpAnyH_take (i := 29) (v := ?_) opAt29 (by kernel_rfl) (by kernel_rfl) (by kernel_rfl) (fun _ _ _ h => h) (Or.inl ⟨by rfl, ?_⟩) (by assumption) ?_
        rotate_left
        · (intro w hSw; (try dsimp only at hSw); go_simp; (try with_reducible rfl))
        try simp only [Act.put, List.setIfInBounds_toArray, List.set_cons_zero, List.set_cons_succ]
        refine wpAnyH_take (i := 30) (v := ?_) opAt30 (by kernel_rfl) (by kernel_rfl) (by kernel_rfl) (fun _ _ _ h => h) (Or.inl ⟨by rfl, ?_⟩) (by assumption) ?_
        rotate_left
        · (intro w hSw; (try dsimp only at hSw); go_simp; (try with_reducible rfl))
        try simp only [Act.put, List.setIfInBounds_toArray, List.set_cons_zero, List.set_cons_succ]
        refine wpAnyH_done (by kernel_rfl) ?_ _
        go_wp2
        go_roundg (l.length - (i + 1))
        case measure => omega
        case rel => exact ⟨i + 1, S2, rfl, by omega, by go_num, rfl, HL.out, HT.out, hset, hbS⟩
      · have hikI : ¬ (i : Int) = (k : Int) := by omega
        by_cases h0 : i = 0
        · have hlo : i < k := by omega
          have h0I : ¬ (0 : Int) < (i : Int) := by omega
          have HTK := Lib.hid (show gapT l k (i + 1) = gapT l k i ++ dig4 x by rw [h0]; exact gapT_first (by rw [← h0]; exact HX.out) (by omega))
          obtain ⟨S2, hS2⟩ : ∃ Z0, Z0 = S ++ P := ⟨_, rfl⟩
          have eS2 : str S ++ str P = str S2 := (str_app S P).trans (by rw [hS2])
          have nS2 : S2.length ≤ 60 := by rw [hS2, List.length_append]; omega
          have yS2 := str_size S2
          have kS2 : (9223372036854775807 < S.length + P.length) = False := eq_false (by omega)
          have kP4 : (9223372036854775807 < S.length + 4) = False := eq_false (by omega)
          have HT := Lib.hid (show S2 = gapT l k (i + 1) by rw [hS2, show gapT l k (i + 1) = _ from HTK.out, HS.out, HPD.out])
          have HL := Lib.hid (show S2.length ≤ 6 * (i + 1) by rw [hS2]; simp only [List.length_append, List.length_cons, List.length_nil]; omega)
          have hHW := Lib.hid (gapW_lo H7.out HX.out hlo)
          have hw0 : i < (u16s (gapW l k i)).length := by rw [u16s_len, HW.out]; omega
          have hkk : (i : Int) < (k : Int) := by omega
          have hst8 : (i : Int) < 8 := by omega
          have hfx := fun o => (hR.far o).2.1 i hw0
          obtain ⟨old, hold⟩ : ∃ old, (u16s (gapW l k i))[i]? = some old := ⟨_, List.getElem?_eq_getElem hw0⟩
          have hcx := fun o => (hR.far o).1 i _ hold
          have hset := hRN.set hw0 (.int .u16 (x : Int))
          rw [u16s_set, hHW.out] at hset
          have hbS := hbN.setCell (p := ⟨w1.heap.size, i, none⟩) hXs (.int .u16 (x : Int))
          clear hS2 hold
          have hc0 : wr.cell? ⟨b, off, none⟩ = some (.int .u16 (x : Int)) := by have := hc; rw [h0] at this; exact this
          have hcN0 : ∀ o : Obj, (wr.alloc o).cell? ⟨b, off, none⟩ = some (.int .u16 (x : Int)) := by intro o; have := hcN o; rw [h0] at this; exact this
          clear hc hcN
          subst h0
          go_wp2
          refine wp_region_held_drew (S := fun w' => w'.cell? ⟨b, off, none⟩ = some (.int .u16 (x : Int))) (by kernel_rfl) hc0 (fun hHeld => ?_)
          refine wpAnyH_take (i := 0) (v := ?_) opAt0 (by kernel_rfl) (by kernel_rfl) (by kernel_rfl) (fun _ _ _ h => h) (Or.inl ⟨by rfl, ?_⟩) (by assumption) ?_
          rotate_left
          · (intro w hSw; (try dsimp only at hSw); go_simp; (try with_reducible rfl))
          try simp only [Act.put, List.setIfInBounds_toArray, List.set_cons_zero, List.set_cons_succ]
          refine wpAnyH_take (i := 1) (v := ?_) opAt1 (by kernel_rfl) (by kernel_rfl) (by kernel_rfl) (fun _ _ _ h => h) (Or.inl ⟨by rfl, ?_⟩) (by assumption) ?_
          rotate_left
          · (intro w hSw; (try dsimp only at hSw); go_simp; (try with_reducible rfl))
          try simp only [Act.put, List.setIfInBounds_toArray, List.set_cons_zero, List.set_cons_succ]
          refine wpAnyH_take (i := 2) (v := ?_) opAt2 (by kernel_rfl) (by kernel_rfl) (by kernel_rfl) (fun _ _ _ h => h) (Or.inl ⟨by rfl, ?_⟩) (by assumption) ?_
          rotate_left
          · (intro w hSw; (try dsimp only at hSw); go_simp; (try with_reducible rfl))
          try simp only [Act.put, List.setIfInBounds_toArray, List.set_cons_zero, List.set_cons_succ]
          refine wpAnyH_take (i := 3) (v := ?_) opAt3 (by kernel_rfl) (by kernel_rfl) (by kernel_rfl) (fun _ _ _ h => h) (Or.inl ⟨by rfl, ?_⟩) (by assumption) ?_
          rotate_left
          · (intro w hSw; (try dsimp only at hSw); go_simp; (try with_reducible rfl))
          try simp only [Act.put, List.setIfInBounds_toArray, List.set_cons_zero, List.set_cons_succ]
          refine wpAnyH_take (i := 4) (v := ?_) opAt4 (by kernel_rfl) (by kernel_rfl) (by kernel_rfl) (fun _ _ _ h => h) (Or.inl ⟨by rfl, ?_⟩) (by assumption) ?_
          rotate_left
          · (intro w hSw; (try dsimp only at hSw); go_simp; (try with_reducible rfl))
          try simp only [Act.put, List.setIfInBounds_toArray, List.set_cons_zero, List.set_cons_succ]
          refine wpAnyH_take (i := 5) (v := ?_) opAt5 (by kernel_rfl) (by kernel_rfl) (by kernel_rfl) (fun _ _ _ h => h) (Or.inl ⟨by rfl, ?_⟩) (by assumption) ?_
          rotate_left
          · (intro w hSw; (try dsimp only at hSw); go_simp; (try with_reducible rfl))
          try simp only [Act.put, List.setIfInBounds_toArray, List.set_cons_zero, List.set_cons_succ]
          refine wpAnyH_take (i := 6) (v := ?_) opAt6 (by kernel_rfl) (by kernel_rfl) (by kernel_rfl) (fun _ _ _ h => h) (Or.inl ⟨by rfl, ?_⟩) (by assumption) ?_
          rotate_left
          · (intro w hSw; (try dsimp only at hSw); go_simp; (try with_reducible rfl))
          try simp only [Act.put, List.setIfInBounds_toArray, List.set_cons_zero, List.set_cons_succ]
          refine wpAnyH_take (i := 7) (v := ?_) opAt7 (by kernel_rfl) (by kernel_rfl) (by kernel_rfl) (fun _ _ _ h => h) (Or.inl ⟨by rfl, ?_⟩) (by assumption) ?_
          rotate_left
          · (intro w hSw; (try dsimp only at hSw); go_simp; (try with_reducible rfl))
          try simp only [Act.put, List.setIfInBounds_toArray, List.set_cons_zero, List.set_cons_succ]
          refine wpAnyH_take (i := 8) (v := ?_) opAt8 (by kernel_rfl) (by kernel_rfl) (by kernel_rfl) (fun _ _ _ h => h) (Or.inl ⟨by rfl, ?_⟩) (by assumption) ?_
          rotate_left
          · (intro w hSw; (try dsimp only at hSw); go_simp; (try with_reducible rfl))
          try simp only [Act.put, List.setIfInBounds_toArray, List.set_cons_zero, List.set_cons_succ]
          refine wpAnyH_take (i := 9) (v := ?_) opAt9 (by kernel_rfl) (by kernel_rfl) (by kernel_rfl) (fun _ _ _ h => h) (Or.inl ⟨by rfl, ?_⟩) (by assumption) ?_
          rotate_left
          · (intro w hSw; (try dsimp only at hSw); go_simp; (try with_reducible rfl))
          try simp only [Act.put, List.setIfInBounds_toArray, List.set_cons_zero, List.set_cons_succ]
          refine wpAnyH_take (i := 10) (v := ?_) opAt10 (by kernel_rfl) (by kernel_rfl) (by kernel_rfl) (fun _ _ _ h => h) (Or.inl ⟨by rfl, ?_⟩) (by assumption) ?_
          rotate_left
          · (intro w hSw; (try dsimp only at hSw); go_simp; (try with_reducible rfl))
          try simp only [Act.put, List.setIfInBounds_toArray, List.set_cons_zero, List.set_cons_succ]
          refine wpAnyH_take (i := 11) (v := ?_) opAt11 (by kernel_rfl) (by kernel_rfl) (by kernel_rfl) (fun _ _ _ h => h) (Or.inl ⟨by rfl, ?_⟩) (by assumption) ?_
          rotate_left
          · (intro w hSw; (try dsimp only at hSw); go_simp; (try with_reducible rfl))
          try simp only [Act.put, List.setIfInBounds_toArray, List.set_cons_zero, List.set_cons_succ]
          refine wpAnyH_take (i := 12) (v := ?_) opAt12 (by kernel_rfl) (by kernel_rfl) (by kernel_rfl) (fun _ _ _ h => h) (Or.inl ⟨by rfl, ?_⟩) (by assumption) ?_
          rotate_left
          · (intro w hSw; (try dsimp only at hSw); go_simp; (try with_reducible rfl))
          try simp only [Act.put, List.setIfInBounds_toArray, List.set_cons_zero, List.set_cons_succ]
          refine wpAnyH_take (i := 13) (v := ?_) opAt13 (by kernel_rfl) (by kernel_rfl) (by kernel_rfl) (fun _ _ _ h => h) (Or.inl ⟨by rfl, ?_⟩) (by assumption) ?_
          rotate_left
          · (intro w hSw; (try dsimp only at hSw); go_simp; (try with_reducible rfl))
          try simp only [Act.put, List.setIfInBounds_toArray, List.set_cons_zero, List.set_cons_succ]
          refine wpAnyH_take (i := 14) (v := ?_) opAt14 (by kernel_rfl) (by kernel_rfl) (by kernel_rfl) (fun _ _ _ h => h) (Or.inl ⟨by rfl, ?_⟩) (by assumption) ?_
          rotate_left
          · (intro w hSw; (try dsimp only at hSw); go_simp; (try with_reducible rfl))
          try simp only [Act.put, List.setIfInBounds_toArray, List.set_cons_zero, List.set_cons_succ]
          refine wpAnyH_take (i := 15) (v := ?_) opAt15 (by kernel_rfl) (by kernel_rfl) (by kernel_rfl) (fun _ _ _ h => h) (Or.inl ⟨by rfl, ?_⟩) (by assumption) ?_
          rotate_left
          · (intro w hSw; (try dsimp only at hSw); go_simp; (try with_reducible rfl))
          try simp only [Act.put, List.setIfInBounds_toArray, List.set_cons_zero, List.set_cons_succ]
          refine wpAnyH_take (i := 16) (v := ?_) opAt16 (by kernel_rfl) (by kernel_rfl) (by kernel_rfl) (fun _ _ _ h => h) (Or.inl ⟨by rfl, ?_⟩) (by assumption) ?_
          rotate_left
          · (intro w hSw; (try dsimp only at hSw); go_simp; (try with_reducible rfl))
          try simp only [Act.put, List.setIfInBounds_toArray, List.set_cons_zero, List.set_cons_succ]
          refine wpAnyH_take (i := 17) (v := ?_) opAt17 (by kernel_rfl) (by kernel_rfl) (by kernel_rfl) (fun _ _ _ h => h) (Or.inl ⟨by rfl, ?_⟩) (by assumption) ?_
          rotate_left
          · (intro w hSw; (try dsimp only at hSw); go_simp; (try with_reducible rfl))
          try simp only [Act.put, List.setIfInBounds_toArray, List.set_cons_zero, List.set_cons_succ]
          refine wpAnyH_take (i := 18) (v := ?_) opAt18 (by kernel_rfl) (by kernel_rfl) (by kernel_rfl) (fun _ _ _ h => h) (Or.inl ⟨by rfl, ?_⟩) (by assumption) ?_
          rotate_left
          · (intro w hSw; (try dsimp only at hSw); go_simp; (try with_reducible rfl))
          try simp only [Act.put, List.setIfInBounds_toArray, List.set_cons_zero, List.set_cons_succ]
          refine wpAnyH_take (i := 19) (v := ?_) opAt19 (by kernel_rfl) (by kernel_rfl) (by kernel_rfl) (fun _ _ _ h => h) (Or.inl ⟨by rfl, ?_⟩) (by assumption) ?_
          rotate_left
          · (intro w hSw; (try dsimp only at hSw); go_simp; (try with_reducible rfl))
          try simp only [Act.put, List.setIfInBounds_toArray, List.set_cons_zero, List.set_cons_succ]
          refine wpAnyH_take (i := 20) (v := ?_) opAt20 (by kernel_rfl) (by kernel_rfl) (by kernel_rfl) (fun _ _ _ h => h) (Or.inl ⟨by rfl, ?_⟩) (by assumption) ?_
          rotate_left
          · (intro w hSw; (try dsimp only at hSw); go_simp; (try with_reducible rfl))
          try simp only [Act.put, List.setIfInBounds_toArray, List.set_cons_zero, List.set_cons_succ]
          refine wpAnyH_take (i := 21) (v := ?_) opAt21 (by kernel_rfl) (by kernel_rfl) (by kernel_rfl) (fun _ _ _ h => h) (Or.inl ⟨by rfl, ?_⟩) (by assumption) ?_
          rotate_left
          · (intro w hSw; (try dsimp only at hSw); go_simp; (try with_reducible rfl))
          try simp only [Act.put, List.setIfInBounds_toArray, List.set_cons_zero, List.set_cons_succ]
          refine wpAnyH_take (i := 22) (v := ?_) opAt22 (by kernel_rfl) (by kernel_rfl) (by kernel_rfl) (fun _ _ _ h => h) (Or.inl ⟨by rfl, ?_⟩) (by assumption) ?_
          rotate_left
          · (intro w hSw; (try dsimp only at hSw); go_simp; (try with_reducible rfl))
          try simp only [Act.put, List.setIfInBounds_toArray, List.set_cons_zero, List.set_cons_succ]
          refine wpAnyH_take (i := 23) (v := ?_) opAt23 (by kernel_rfl) (by kernel_rfl) (by kernel_rfl) (fun _ _ _ h => h) (Or.inl ⟨by rfl, ?_⟩) (by assumption) ?_
          rotate_left
          · (intro w hSw; (try dsimp only at hSw); go_simp; (try with_reducible rfl))
          try simp only [Act.put, List.setIfInBounds_toArray, List.set_cons_zero, List.set_cons_succ]
          refine wpAnyH_take (i := 24) (v := ?_) opAt24 (by kernel_rfl) (by kernel_rfl) (by kernel_rfl) (fun _ _ _ h => h) (Or.inl ⟨by rfl, ?_⟩) (by assumption) ?_
          rotate_left
          · (intro w hSw; (try dsimp only at hSw); go_simp; (try with_reducible rfl))
          try simp only [Act.put, List.setIfInBounds_toArray, List.set_cons_zero, List.set_cons_succ]
          refine wpAnyH_take (i := 25) (v := ?_) opAt25 (by kernel_rfl) (by kernel_rfl) (by kernel_rfl) (fun _ _ _ h => h) (Or.inl ⟨by rfl, ?_⟩) (by assumption) ?_
          rotate_left
          · (intro w hSw; (try dsimp only at hSw); go_simp; (try with_reducible rfl))
          try simp only [Act.put, List.setIfInBounds_toArray, List.set_cons_zero, List.set_cons_succ]
          refine wpAnyH_take (i := 26) (v := ?_) opAt26 (by kernel_rfl) (by kernel_rfl) (by kernel_rfl) (fun _ _ _ h => h) (Or.inl ⟨by rfl, ?_⟩) (by assumption) ?_
          rotate_left
          · (intro w hSw; (try dsimp only at hSw); go_simp; (try with_reducible rfl))
          try simp only [Act.put, List.setIfInBounds_toArray, List.set_cons_zero, List.set_cons_succ]
          refine wpAnyH_ready (rs := [27]) (by kernel_rfl) (by simp) (AllReadyH.cons opAt27 (fun K hK => ?_) AllReadyH.nil)
          go_simp
          refine hK.out _ _ ?_ (fun hHeld => ?_)
          · (try dsimp only); first | exact hc0 | exact hcN0 _
          clear hK K
          try simp only [Act.put, List.setIfInBounds_toArray, List.set_cons_zero, List.set_cons_succ]
          refine wpAnyH_ready (rs := [28]) (by kernel_rfl) (by simp) (AllReadyH.cons opAt28 (fun K hK => ?_) AllReadyH.nil)
          go_simp
          refine hK.out _ _ ?_ (fun hHeld => ?_)
          · (try dsimp only); first | exact hc0 | exact hcN0 _
          clear hK K
          try simp only [Act.put, List.setIfInBounds_toArray, List.set_cons_zero, List.set_cons_succ]
          refine wpAnyH_take (i := 29) (v := ?_) opAt29 (by kernel_rfl) (by kernel_rfl) (by kernel_rfl) (fun _ _ _ h => h) (Or.inl ⟨by rfl, ?_⟩) (by assumption) ?_
          rotate_left
          · (intro w hSw; (try dsimp only at hSw); go_simp; (try with_reducible rfl))
          try simp only [Act.put, List.setIfInBounds_toArray, List.set_cons_zero, List.set_cons_succ]
          refine wpAnyH_take (i := 30) (v := ?_) opAt30 (by kernel_rfl) (by kernel_rfl) (by kernel_rfl) (fun _ _ _ h => h) (Or.inl ⟨by rfl, ?_⟩) (by assumption) ?_
          rotate_left
          · (intro w hSw; (try dsimp only at hSw); go_simp; (try with_reducible rfl))
          try simp only [Act.put, List.setIfInBounds_toArray, List.set_cons_zero, List.set_cons_succ]
          refine wpAnyH_done (by kernel_rfl) ?_ _
          go_wp2
          go_roundg (l.length - (0 + 1))
          case measure => omega
          case rel => exact ⟨0 + 1, S2, rfl, by omega, by go_num, rfl, HL.out, HT.out, hset, hbS⟩
        · have h0I : (0 : Int) < (i : Int) := by omega
          have HTK := Lib.hid (gapT_next HX.out hik (by omega))
          by_cases hlo : i < k
          · skip
            obtain ⟨S1, hS1⟩ : ∃ Z0, Z0 = S ++ [58] := ⟨_, rfl⟩
            have eS1 : str S ++ { data := #[58] } = str S1 := (str_app S [58]).trans (by rw [hS1])
            have nS1 : S1.length ≤ 50 := by rw [hS1, List.length_append]; simp only [List.length_cons, List.length_nil]; omega
            have yS1 := str_size S1
            have kS1 : (9223372036854775807 < S.length + 1) = False := eq_false (by omega)
            obtain ⟨S2, hS2⟩ : ∃ Z0, Z0 = S1 ++ P := ⟨_, rfl⟩
            have eS2 : str S1 ++ str P = str S2 := (str_app S1 P).trans (by rw [hS2])
            have nS2 : S2.length ≤ 60 := by rw [hS2, List.length_append]; omega
            have yS2 := str_size S2
            have kS2 : (9223372036854775807 < S1.length + P.length) = False := eq_false (by omega)
            have kP4 : (9223372036854775807 < S1.length + 4) = False := eq_false (by omega)
            have HT := Lib.hid (show S2 = gapT l k (i + 1) by rw [hS2, hS1, show gapT l k (i + 1) = _ from HTK.out, HS.out, HPD.out])
            have HL := Lib.hid (show S2.length ≤ 6 * (i + 1) by rw [hS2, hS1]; simp only [List.length_append, List.length_cons, List.length_nil]; omega)
            have hHW := Lib.hid (gapW_lo H7.out HX.out hlo)
            have hw0 : i < (u16s (gapW l k i)).length := by rw [u16s_len, HW.out]; omega
            have hkk : (i : Int) < (k : Int) := by omega
            have hst8 : (i : Int) < 8 := by omega
            have hfx := fun o => (hR.far o).2.1 i hw0
            obtain ⟨old, hold⟩ : ∃ old, (u16s (gapW l k i))[i]? = some old := ⟨_, List.getElem?_eq_getElem hw0⟩
            have hcx := fun o => (hR.far o).1 i _ hold
            have hset := hRN.set hw0 (.int .u16 (x : Int))
            rw [u16s_set, hHW.out] at hset
            have hbS := hbN.setCell (p := ⟨w1.heap.size, i, none⟩) hXs (.int .u16 (x : Int))
            clear hS1 hS2 hold
            go_wp2
            refine wp_region_held_drew (S := fun w' => w'.cell? ⟨b, off + i, none⟩ = some (.int .u16 (x : Int))) (by kernel_rfl) hc (fun hHeld => ?_)
            refine wpAnyH_take (i := 0) (v := ?_) opAt0 (by kernel_rfl) (by kernel_rfl) (by kernel_rfl) (fun _ _ _ h => h) (Or.inl ⟨by rfl, ?_⟩) (by assumption) ?_
            rotate_left
            · (intro w hSw; (try dsimp only at hSw); go_simp; (try with_reducible rfl))
            try simp only [Act.put, List.setIfInBounds_toArray, List.set_cons_zero, List.set_cons_succ]
            refine wpAnyH_take (i := 1) (v := ?_) opAt1 (by kernel_rfl) (by kernel_rfl) (by kernel_rfl) (fun _ _ _ h => h) (Or.inl ⟨by rfl, ?_⟩) (by assumption) ?_
            rotate_left
            · (intro w hSw; (try dsimp only at hSw); go_simp; (try with_reducible rfl))
            try simp only [Act.put, List.setIfInBounds_toArray, List.set_cons_zero, List.set_cons_succ]
            refine wpAnyH_take (i := 2) (v := ?_) opAt2 (by kernel_rfl) (by kernel_rfl) (by kernel_rfl) (fun _ _ _ h => h) (Or.inl ⟨by rfl, ?_⟩) (by assumption) ?_
            rotate_left
            · (intro w hSw; (try dsimp only at hSw); go_simp; (try with_reducible rfl))
            try simp only [Act.put, List.setIfInBounds_toArray, List.set_cons_zero, List.set_cons_succ]
            refine wpAnyH_take (i := 3) (v := ?_) opAt3 (by kernel_rfl) (by kernel_rfl) (by kernel_rfl) (fun _ _ _ h => h) (Or.inl ⟨by rfl, ?_⟩) (by assumption) ?_
            rotate_left
            · (intro w hSw; (try dsimp only at hSw); go_simp; (try with_reducible rfl))
            try simp only [Act.put, List.setIfInBounds_toArray, List.set_cons_zero, List.set_cons_succ]
            refine wpAnyH_take (i := 4) (v := ?_) opAt4 (by kernel_rfl) (by kernel_rfl) (by kernel_rfl) (fun _ _ _ h => h) (Or.inl ⟨by rfl, ?_⟩) (by assumption) ?_
            rotate_left
            · (intro w hSw; (try dsimp only at hSw); go_simp; (try with_reducible rfl))
            try simp only [Act.put, List.setIfInBounds_toArray, List.set_cons_zero, List.set_cons_succ]
            refine wpAnyH_take (i := 5) (v := ?_) opAt5 (by kernel_rfl) (by kernel_rfl) (by kernel_rfl) (fun _ _ _ h => h) (Or.inl ⟨by rfl, ?_⟩) (by assumption) ?_
            rotate_left
            · (intro w hSw; (try dsimp only at hSw); go_simp; (try with_reducible rfl))
            try simp only [Act.put, List.setIfInBounds_toArray, List.set_cons_zero, List.set_cons_succ]
            refine wpAnyH_take (i := 6) (v := ?_) opAt6 (by kernel_rfl) (by kernel_rfl) (by kernel_rfl) (fun _ _ _ h => h) (Or.inl ⟨by rfl, ?_⟩) (by assumption) ?_
            rotate_left
            · (intro w hSw; (try dsimp only at hSw); go_simp; (try with_reducible rfl))
            try simp only [Act.put, List.setIfInBounds_toArray, List.set_cons_zero, List.set_cons_succ]
            refine wpAnyH_take (i := 7) (v := ?_) opAt7 (by kernel_rfl) (by kernel_rfl) (by kernel_rfl) (fun _ _ _ h => h) (Or.inl ⟨by rfl, ?_⟩) (by assumption) ?_
            rotate_left
            · (intro w hSw; (try dsimp only at hSw); go_simp; (try with_reducible rfl))
            try simp only [Act.put, List.setIfInBounds_toArray, List.set_cons_zero, List.set_cons_succ]
            refine wpAnyH_take (i := 8) (v := ?_) opAt8 (by kernel_rfl) (by kernel_rfl) (by kernel_rfl) (fun _ _ _ h => h) (Or.inl ⟨by rfl, ?_⟩) (by assumption) ?_
            rotate_left
            · (intro w hSw; (try dsimp only at hSw); go_simp; (try with_reducible rfl))
            try simp only [Act.put, List.setIfInBounds_toArray, List.set_cons_zero, List.set_cons_succ]
            refine wpAnyH_take (i := 9) (v := ?_) opAt9 (by kernel_rfl) (by kernel_rfl) (by kernel_rfl) (fun _ _ _ h => h) (Or.inl ⟨by rfl, ?_⟩) (by assumption) ?_
            rotate_left
            · (intro w hSw; (try dsimp only at hSw); go_simp; (try with_reducible rfl))
            try simp only [Act.put, List.setIfInBounds_toArray, List.set_cons_zero, List.set_cons_succ]
            refine wpAnyH_take (i := 10) (v := ?_) opAt10 (by kernel_rfl) (by kernel_rfl) (by kernel_rfl) (fun _ _ _ h => h) (Or.inl ⟨by rfl, ?_⟩) (by assumption) ?_
            rotate_left
            · (intro w hSw; (try dsimp only at hSw); go_simp; (try with_reducible rfl))
            try simp only [Act.put, List.setIfInBounds_toArray, List.set_cons_zero, List.set_cons_succ]
            refine wpAnyH_take (i := 11) (v := ?_) opAt11 (by kernel_rfl) (by kernel_rfl) (by kernel_rfl) (fun _ _ _ h => h) (Or.inl ⟨by rfl, ?_⟩) (by assumption) ?_
            rotate_left
            · (intro w hSw; (try dsimp only at hSw); go_simp; (try with_reducible rfl))
            try simp only [Act.put, List.setIfInBounds_toArray, List.set_cons_zero, List.set_cons_succ]
            refine wpAnyH_take (i := 12) (v := ?_) opAt12 (by kernel_rfl) (by kernel_rfl) (by kernel_rfl) (fun _ _ _ h => h) (Or.inl ⟨by rfl, ?_⟩) (by assumption) ?_
            rotate_left
            · (intro w hSw; (try dsimp only at hSw); go_simp; (try with_reducible rfl))
            try simp only [Act.put, List.setIfInBounds_toArray, List.set_cons_zero, List.set_cons_succ]
            refine wpAnyH_take (i := 13) (v := ?_) opAt13 (by kernel_rfl) (by kernel_rfl) (by kernel_rfl) (fun _ _ _ h => h) (Or.inl ⟨by rfl, ?_⟩) (by assumption) ?_
            rotate_left
            · (intro w hSw; (try dsimp only at hSw); go_simp; (try with_reducible rfl))
            try simp only [Act.put, List.setIfInBounds_toArray, List.set_cons_zero, List.set_cons_succ]
            refine wpAnyH_take (i := 14) (v := ?_) opAt14 (by kernel_rfl) (by kernel_rfl) (by kernel_rfl) (fun _ _ _ h => h) (Or.inl ⟨by rfl, ?_⟩) (by assumption) ?_
            rotate_left
            · (intro w hSw; (try dsimp only at hSw); go_simp; (try with_reducible rfl))
            try simp only [Act.put, List.setIfInBounds_toArray, List.set_cons_zero, List.set_cons_succ]
            refine wpAnyH_take (i := 15) (v := ?_) opAt15 (by kernel_rfl) (by kernel_rfl) (by kernel_rfl) (fun _ _ _ h => h) (Or.inl ⟨by rfl, ?_⟩) (by assumption) ?_
            rotate_left
            · (intro w hSw; (try dsimp only at hSw); go_simp; (try with_reducible rfl))
            try simp only [Act.put, List.setIfInBounds_toArray, List.set_cons_zero, List.set_cons_succ]
            refine wpAnyH_take (i := 16) (v := ?_) opAt16 (by kernel_rfl) (by kernel_rfl) (by kernel_rfl) (fun _ _ _ h => h) (Or.inl ⟨by rfl, ?_⟩) (by assumption) ?_
            rotate_left
            · (intro w hSw; (try dsimp only at hSw); go_simp; (try with_reducible rfl))
            try simp only [Act.put, List.setIfInBounds_toArray, List.set_cons_zero, List.set_cons_succ]
            refine wpAnyH_take (i := 17) (v := ?_) opAt17 (by kernel_rfl) (by kernel_rfl) (by kernel_rfl) (fun _ _ _ h => h) (Or.inl ⟨by rfl, ?_⟩) (by assumption) ?_
            rotate_left
            · (intro w hSw; (try dsimp only at hSw); go_simp; (try with_reducible rfl))
            try simp only [Act.put, List.setIfInBounds_toArray, List.set_cons_zero, List.set_cons_succ]
            refine wpAnyH_take (i := 18) (v := ?_) opAt18 (by kernel_rfl) (by kernel_rfl) (by kernel_rfl) (fun _ _ _ h => h) (Or.inl ⟨by rfl, ?_⟩) (by assumption) ?_
            rotate_left
            · (intro w hSw; (try dsimp only at hSw); go_simp; (try with_reducible rfl))
            try simp only [Act.put, List.setIfInBounds_toArray, List.set_cons_zero, List.set_cons_succ]
            refine wpAnyH_take (i := 19) (v := ?_) opAt19 (by kernel_rfl) (by kernel_rfl) (by kernel_rfl) (fun _ _ _ h => h) (Or.inl ⟨by rfl, ?_⟩) (by assumption) ?_
            rotate_left
            · (intro w hSw; (try dsimp only at hSw); go_simp; (try with_reducible rfl))
            try simp only [Act.put, List.setIfInBounds_toArray, List.set_cons_zero, List.set_cons_succ]
            refine wpAnyH_take (i := 20) (v := ?_) opAt20 (by kernel_rfl) (by kernel_rfl) (by kernel_rfl) (fun _ _ _ h => h) (Or.inl ⟨by rfl, ?_⟩) (by assumption) ?_
            rotate_left
            · (intro w hSw; (try dsimp only at hSw); go_simp; (try with_reducible rfl))
            try simp only [Act.put, List.setIfInBounds_toArray, List.set_cons_zero, List.set_cons_succ]
            refine wpAnyH_take (i := 21) (v := ?_) opAt21 (by kernel_rfl) (by kernel_rfl) (by kernel_rfl) (fun _ _ _ h => h) (Or.inl ⟨by rfl, ?_⟩) (by assumption) ?_
            rotate_left
            · (intro w hSw; (try dsimp only at hSw); go_simp; (try with_reducible rfl))
            try simp only [Act.put, List.setIfInBounds_toArray, List.set_cons_zero, List.set_cons_succ]
            refine wpAnyH_take (i := 22) (v := ?_) opAt22 (by kernel_rfl) (by kernel_rfl) (by kernel_rfl) (fun _ _ _ h => h) (Or.inl ⟨by rfl, ?_⟩) (by assumption) ?_
            rotate_left
            · (intro w hSw; (try dsimp only at hSw); go_simp; (try with_reducible rfl))
            try simp only [Act.put, List.setIfInBounds_toArray, List.set_cons_zero, List.set_cons_succ]
            refine wpAnyH_take (i := 23) (v := ?_) opAt23 (by kernel_rfl) (by kernel_rfl) (by kernel_rfl) (fun _ _ _ h => h) (Or.inl ⟨by rfl, ?_⟩) (by assumption) ?_
            rotate_left
            · (intro w hSw; (try dsimp only at hSw); go_simp; (try with_reducible rfl))
            try simp only [Act.put, List.setIfInBounds_toArray, List.set_cons_zero, List.set_cons_succ]
            refine wpAnyH_take (i := 24) (v := ?_) opAt24 (by kernel_rfl) (by kernel_rfl) (by kernel_rfl) (fun _ _ _ h => h) (Or.inl ⟨by rfl, ?_⟩) (by assumption) ?_
            rotate_left
            · (intro w hSw; (try dsimp only at hSw); go_simp; (try with_reducible rfl))
            try simp only [Act.put, List.setIfInBounds_toArray, List.set_cons_zero, List.set_cons_succ]
            refine wpAnyH_take (i := 25) (v := ?_) opAt25 (by kernel_rfl) (by kernel_rfl) (by kernel_rfl) (fun _ _ _ h => h) (Or.inl ⟨by rfl, ?_⟩) (by assumption) ?_
            rotate_left
            · (intro w hSw; (try dsimp only at hSw); go_simp; (try with_reducible rfl))
            try simp only [Act.put, List.setIfInBounds_toArray, List.set_cons_zero, List.set_cons_succ]
            refine wpAnyH_take (i := 26) (v := ?_) opAt26 (by kernel_rfl) (by kernel_rfl) (by kernel_rfl) (fun _ _ _ h => h) (Or.inl ⟨by rfl, ?_⟩) (by assumption) ?_
            rotate_left
            · (intro w hSw; (try dsimp only at hSw); go_simp; (try with_reducible rfl))
            try simp only [Act.put, List.setIfInBounds_toArray, List.set_cons_zero, List.set_cons_succ]
            refine wpAnyH_ready (rs := [27]) (by kernel_rfl) (by simp) (AllReadyH.cons opAt27 (fun K hK => ?_) AllReadyH.nil)
            go_simp
            refine hK.out _ _ ?_ (fun hHeld => ?_)
            · (try dsimp only); first | exact hc | exact hcN _
            clear hK K
            try simp only [Act.put, List.setIfInBounds_toArray, List.set_cons_zero, List.set_cons_succ]
            refine wpAnyH_ready (rs := [28]) (by kernel_rfl) (by simp) (AllReadyH.cons opAt28 (fun K hK => ?_) AllReadyH.nil)
            go_simp
            refine hK.out _ _ ?_ (fun hHeld => ?_)
            · (try dsimp only); first | exact hc | exact hcN _
            clear hK K
            try simp only [Act.put, List.setIfInBounds_toArray, List.set_cons_zero, List.set_cons_succ]
            refine wpAnyH_take (i := 29) (v := ?_) opAt29 (by kernel_rfl) (by kernel_rfl) (by kernel_rfl) (fun _ _ _ h => h) (Or.inl ⟨by rfl, ?_⟩) (by assumption) ?_
            rotate_left
            · (intro w hSw; (try dsimp only at hSw); go_simp; (try with_reducible rfl))
            try simp only [Act.put, List.setIfInBounds_toArray, List.set_cons_zero, List.set_cons_succ]
            refine wpAnyH_take (i := 30) (v := ?_) opAt30 (by kernel_rfl) (by kernel_rfl) (by kernel_rfl) (fun _ _ _ h => h) (Or.inl ⟨by rfl, ?_⟩) (by assumption) ?_
            rotate_left
            · (intro w hSw; (try dsimp only at hSw); go_simp; (try with_reducible rfl))
            try simp only [Act.put, List.setIfInBounds_toArray, List.set_cons_zero, List.set_cons_succ]
            refine wpAnyH_done (by kernel_rfl) ?_ _
            go_wp2
            go_roundg (l.length - (i + 1))
            case measure => omega
            case rel => exact ⟨i + 1, S2, rfl, by omega, by go_num, rfl, HL.out, HT.out, hset, hbS⟩
          · have hhi : k ≤ i := by omega
            obtain ⟨S1, hS1⟩ : ∃ Z0, Z0 = S ++ [58] := ⟨_, rfl⟩
            have eS1 : str S ++ { data := #[58] } = str S1 := (str_app S [58]).trans (by rw [hS1])
            have nS1 : S1.length ≤ 50 := by rw [hS1, List.length_append]; simp only [List.length_cons, List.length_nil]; omega
            have yS1 := str_size S1
            have kS1 : (9223372036854775807 < S.length + 1) = False := eq_false (by omega)
            obtain ⟨S2, hS2⟩ : ∃ Z0, Z0 = S1 ++ P := ⟨_, rfl⟩
            have eS2 : str S1 ++ str P = str S2 := (str_app S1 P).trans (by rw [hS2])
            have nS2 : S2.length ≤ 60 := by rw [hS2, List.length_append]; omega
            have yS2 := str_size S2
            have kS2 : (9223372036854775807 < S1.length + P.length) = False := eq_false (by omega)
            have kP4 : (9223372036854775807 < S1.length + 4) = False := eq_false (by omega)
            have HT := Lib.hid (show S2 = gapT l k (i + 1) by rw [hS2, hS1, show gapT l k (i + 1) = _ from HTK.out, HS.out, HPD.out])
            have HL := Lib.hid (show S2.length ≤ 6 * (i + 1) by rw [hS2, hS1]; simp only [List.length_append, List.length_cons, List.length_nil]; omega)
            obtain ⟨r, hr8⟩ : ∃ r, r = 8 - l.length + i := ⟨_, rfl⟩
            have hHW := gapW_hi H7.out HX.out hhi
            rw [← hr8] at hHW
            replace hHW := Lib.hid hHW
            have hw0 : r < (u16s (gapW l k i)).length := by rw [u16s_len, HW.out]; omega
            have hkk : ¬ (i : Int) < (k : Int) := by omega
            have hr80 : (0 : Int) ≤ (r : Int) := by omega
            have hr88 : (r : Int) < 8 := by omega
            have hrw : (8 : Int) - (l.length : Int) + (i : Int) = (r : Int) := by omega
            have hfx := fun o => (hR.far o).2.1 r hw0
            obtain ⟨old, hold⟩ : ∃ old, (u16s (gapW l k i))[r]? = some old := ⟨_, List.getElem?_eq_getElem hw0⟩
            have hcx := fun o => (hR.far o).1 r _ hold
            have hset := hRN.set hw0 (.int .u16 (x : Int))
            rw [u16s_set, hHW.out] at hset
            have hbS := hbN.setCell (p := ⟨w1.heap.size, r, none⟩) hXs (.int .u16 (x : Int))
            clear hS1 hS2 hold
            subst hr8
            go_wp2
            refine wp_region_held_drew (S := fun w' => w'.cell? ⟨b, off + i, none⟩ = some (.int .u16 (x : Int))) (by kernel_rfl) hc (fun hHeld => ?_)
            refine wpAnyH_take (i := 0) (v := ?_) opAt0 (by kernel_rfl) (by kernel_rfl) (by kernel_rfl) (fun _ _ _ h => h) (Or.inl ⟨by rfl, ?_⟩) (by assumption) ?_
            rotate_left
            · (intro w hSw; (try dsimp only at hSw); go_simp; (try with_reducible rfl))
            try simp only [Act.put, List.setIfInBounds_toArray, List.set_cons_zero, List.set_cons_succ]
            refine wpAnyH_take (i := 1) (v := ?_) opAt1 (by kernel_rfl) (by kernel_rfl) (by kernel_rfl) (fun _ _ _ h => h) (Or.inl ⟨by rfl, ?_⟩) (by assumption) ?_
            rotate_left
            · (intro w hSw; (try dsimp only at hSw); go_simp; (try with_reducible rfl))
            try simp only [Act.put, List.setIfInBounds_toArray, List.set_cons_zero, List.set_cons_succ]
            refine wpAnyH_take (i := 2) (v := ?_) opAt2 (by kernel_rfl) (by kernel_rfl) (by kernel_rfl) (fun _ _ _ h => h) (Or.inl ⟨by rfl, ?_⟩) (by assumption) ?_
            rotate_left
            · (intro w hSw; (try dsimp only at hSw); go_simp; (try with_reducible rfl))
            try simp only [Act.put, List.setIfInBounds_toArray, List.set_cons_zero, List.set_cons_succ]
            refine wpAnyH_take (i := 3) (v := ?_) opAt3 (by kernel_rfl) (by kernel_rfl) (by kernel_rfl) (fun _ _ _ h => h) (Or.inl ⟨by rfl, ?_⟩) (by assumption) ?_
            rotate_left
            · (intro w hSw; (try dsimp only at hSw); go_simp; (try with_reducible rfl))
            try simp only [Act.put, List.setIfInBounds_toArray, List.set_cons_zero, List.set_cons_succ]
            refine wpAnyH_take (i := 4) (v := ?_) opAt4 (by kernel_rfl) (by kernel_rfl) (by kernel_rfl) (fun _ _ _ h => h) (Or.inl ⟨by rfl, ?_⟩) (by assumption) ?_
            rotate_left
            · (intro w hSw; (try dsimp only at hSw); go_simp; (try with_reducible rfl))
            try simp only [Act.put, List.setIfInBounds_toArray, List.set_cons_zero, List.set_cons_succ]
            refine wpAnyH_take (i := 5) (v := ?_) opAt5 (by kernel_rfl) (by kernel_rfl) (by kernel_rfl) (fun _ _ _ h => h) (Or.inl ⟨by rfl, ?_⟩) (by assumption) ?_
            rotate_left
            · (intro w hSw; (try dsimp only at hSw); go_simp; (try with_reducible rfl))
            try simp only [Act.put, List.setIfInBounds_toArray, List.set_cons_zero, List.set_cons_succ]
            refine wpAnyH_take (i := 6) (v := ?_) opAt6 (by kernel_rfl) (by kernel_rfl) (by kernel_rfl) (fun _ _ _ h => h) (Or.inl ⟨by rfl, ?_⟩) (by assumption) ?_
            rotate_left
            · (intro w hSw; (try dsimp only at hSw); go_simp; (try with_reducible rfl))
            try simp only [Act.put, List.setIfInBounds_toArray, List.set_cons_zero, List.set_cons_succ]
            refine wpAnyH_take (i := 7) (v := ?_) opAt7 (by kernel_rfl) (by kernel_rfl) (by kernel_rfl) (fun _ _ _ h => h) (Or.inl ⟨by rfl, ?_⟩) (by assumption) ?_
            rotate_left
            · (intro w hSw; (try dsimp only at hSw); go_simp; (try with_reducible rfl))
            try simp only [Act.put, List.setIfInBounds_toArray, List.set_cons_zero, List.set_cons_succ]
            refine wpAnyH_take (i := 8) (v := ?_) opAt8 (by kernel_rfl) (by kernel_rfl) (by kernel_rfl) (fun _ _ _ h => h) (Or.inl ⟨by rfl, ?_⟩) (by assumption) ?_
            rotate_left
            · (intro w hSw; (try dsimp only at hSw); go_simp; (try with_reducible rfl))
            try simp only [Act.put, List.setIfInBounds_toArray, List.set_cons_zero, List.set_cons_succ]
            refine wpAnyH_take (i := 9) (v := ?_) opAt9 (by kernel_rfl) (by kernel_rfl) (by kernel_rfl) (fun _ _ _ h => h) (Or.inl ⟨by rfl, ?_⟩) (by assumption) ?_
            rotate_left
            · (intro w hSw; (try dsimp only at hSw); go_simp; (try with_reducible rfl))
            try simp only [Act.put, List.setIfInBounds_toArray, List.set_cons_zero, List.set_cons_succ]
            refine wpAnyH_take (i := 10) (v := ?_) opAt10 (by kernel_rfl) (by kernel_rfl) (by kernel_rfl) (fun _ _ _ h => h) (Or.inl ⟨by rfl, ?_⟩) (by assumption) ?_
            rotate_left
            · (intro w hSw; (try dsimp only at hSw); go_simp; (try with_reducible rfl))
            try simp only [Act.put, List.setIfInBounds_toArray, List.set_cons_zero, List.set_cons_succ]
            refine wpAnyH_take (i := 11) (v := ?_) opAt11 (by kernel_rfl) (by kernel_rfl) (by kernel_rfl) (fun _ _ _ h => h) (Or.inl ⟨by rfl, ?_⟩) (by assumption) ?_
            rotate_left
            · (intro w hSw; (try dsimp only at hSw); go_simp; (try with_reducible rfl))
            try simp only [Act.put, List.setIfInBounds_toArray, List.set_cons_zero, List.set_cons_succ]
            refine wpAnyH_take (i := 12) (v := ?_) opAt12 (by kernel_rfl) (by kernel_rfl) (by kernel_rfl) (fun _ _ _ h => h) (Or.inl ⟨by rfl, ?_⟩) (by assumption) ?_
            rotate_left
            · (intro w hSw; (try dsimp only at hSw); go_simp; (try with_reducible rfl))
            try simp only [Act.put, List.setIfInBounds_toArray, List.set_cons_zero, List.set_cons_succ]
            refine wpAnyH_take (i := 13) (v := ?_) opAt13 (by kernel_rfl) (by kernel_rfl) (by kernel_rfl) (fun _ _ _ h => h) (Or.inl ⟨by rfl, ?_⟩) (by assumption) ?_
            rotate_left
            · (intro w hSw; (try dsimp only at hSw); go_simp; (try with_reducible rfl))
            try simp only [Act.put, List.setIfInBounds_toArray, List.set_cons_zero, List.set_cons_succ]
            refine wpAnyH_take (i := 14) (v := ?_) opAt14 (by kernel_rfl) (by kernel_rfl) (by kernel_rfl) (fun _ _ _ h => h) (Or.inl ⟨by rfl, ?_⟩) (by assumption) ?_
            rotate_left
            · (intro w hSw; (try dsimp only at hSw); go_simp; (try with_reducible rfl))
            try simp only [Act.put, List.setIfInBounds_toArray, List.set_cons_zero, List.set_cons_succ]
            refine wpAnyH_take (i := 15) (v := ?_) opAt15 (by kernel_rfl) (by kernel_rfl) (by kernel_rfl) (fun _ _ _ h => h) (Or.inl ⟨by rfl, ?_⟩) (by assumption) ?_
            rotate_left
            · (intro w hSw; (try dsimp only at hSw); go_simp; (try with_reducible rfl))
            try simp only [Act.put, List.setIfInBounds_toArray, List.set_cons_zero, List.set_cons_succ]
            refine wpAnyH_take (i := 16) (v := ?_) opAt16 (by kernel_rfl) (by kernel_rfl) (by kernel_rfl) (fun _ _ _ h => h) (Or.inl ⟨by rfl, ?_⟩) (by assumption) ?_
            rotate_left
            · (intro w hSw; (try dsimp only at hSw); go_simp; (try with_reducible rfl))
            try simp only [Act.put, List.setIfInBounds_toArray, List.set_cons_zero, List.set_cons_succ]
            refine wpAnyH_take (i := 17) (v := ?_) opAt17 (by kernel_rfl) (by kernel_rfl) (by kernel_rfl) (fun _ _ _ h => h) (Or.inl ⟨by rfl, ?_⟩) (by assumption) ?_
            rotate_left
            · (intro w hSw; (try dsimp only at hSw); go_simp; (try with_reducible rfl))
            try simp only [Act.put, List.setIfInBounds_toArray, List.set_cons_zero, List.set_cons_succ]
            refine wpAnyH_take (i := 18) (v := ?_) opAt18 (by kernel_rfl) (by kernel_rfl) (by kernel_rfl) (fun _ _ _ h => h) (Or.inl ⟨by rfl, ?_⟩) (by assumption) ?_
            rotate_left
            · (intro w hSw; (try dsimp only at hSw); go_simp; (try with_reducible rfl))
            try simp only [Act.put, List.setIfInBounds_toArray, List.set_cons_zero, List.set_cons_succ]
            refine wpAnyH_take (i := 19) (v := ?_) opAt19 (by kernel_rfl) (by kernel_rfl) (by kernel_rfl) (fun _ _ _ h => h) (Or.inl ⟨by rfl, ?_⟩) (by assumption) ?_
            rotate_left
            · (intro w hSw; (try dsimp only at hSw); go_simp; (try with_reducible rfl))
            try simp only [Act.put, List.setIfInBounds_toArray, List.set_cons_zero, List.set_cons_succ]
            refine wpAnyH_take (i := 20) (v := ?_) opAt20 (by kernel_rfl) (by kernel_rfl) (by kernel_rfl) (fun _ _ _ h => h) (Or.inl ⟨by rfl, ?_⟩) (by assumption) ?_
            rotate_left
            · (intro w hSw; (try dsimp only at hSw); go_simp; (try with_reducible rfl))
            try simp only [Act.put, List.setIfInBounds_toArray, List.set_cons_zero, List.set_cons_succ]
            refine wpAnyH_take (i := 21) (v := ?_) opAt21 (by kernel_rfl) (by kernel_rfl) (by kernel_rfl) (fun _ _ _ h => h) (Or.inl ⟨by rfl, ?_⟩) (by assumption) ?_
            rotate_left
            · (intro w hSw; (try dsimp only at hSw); go_simp; (try with_reducible rfl))
            try simp only [Act.put, List.setIfInBounds_toArray, List.set_cons_zero, List.set_cons_succ]
            refine wpAnyH_take (i := 22) (v := ?_) opAt22 (by kernel_rfl) (by kernel_rfl) (by kernel_rfl) (fun _ _ _ h => h) (Or.inl ⟨by rfl, ?_⟩) (by assumption) ?_
            rotate_left
            · (intro w hSw; (try dsimp only at hSw); go_simp; (try with_reducible rfl))
            try simp only [Act.put, List.setIfInBounds_toArray, List.set_cons_zero, List.set_cons_succ]
            refine wpAnyH_take (i := 23) (v := ?_) opAt23 (by kernel_rfl) (by kernel_rfl) (by kernel_rfl) (fun _ _ _ h => h) (Or.inl ⟨by rfl, ?_⟩) (by assumption) ?_
            rotate_left
            · (intro w hSw; (try dsimp only at hSw); go_simp; (try with_reducible rfl))
            try simp only [Act.put, List.setIfInBounds_toArray, List.set_cons_zero, List.set_cons_succ]
            refine wpAnyH_take (i := 24) (v := ?_) opAt24 (by kernel_rfl) (by kernel_rfl) (by kernel_rfl) (fun _ _ _ h => h) (Or.inl ⟨by rfl, ?_⟩) (by assumption) ?_
            rotate_left
            · (intro w hSw; (try dsimp only at hSw); go_simp; (try with_reducible rfl))
            try simp only [Act.put, List.setIfInBounds_toArray, List.set_cons_zero, List.set_cons_succ]
            refine wpAnyH_take (i := 25) (v := ?_) opAt25 (by kernel_rfl) (by kernel_rfl) (by kernel_rfl) (fun _ _ _ h => h) (Or.inl ⟨by rfl, ?_⟩) (by assumption) ?_
            rotate_left
            · (intro w hSw; (try dsimp only at hSw); go_simp; (try with_reducible rfl))
            try simp only [Act.put, List.setIfInBounds_toArray, List.set_cons_zero, List.set_cons_succ]
            refine wpAnyH_take (i := 26) (v := ?_) opAt26 (by kernel_rfl) (by kernel_rfl) (by kernel_rfl) (fun _ _ _ h => h) (Or.inl ⟨by rfl, ?_⟩) (by assumption) ?_
            rotate_left
            · (intro w hSw; (try dsimp only at hSw); go_simp; (try with_reducible rfl))
            try simp only [Act.put, List.setIfInBounds_toArray, List.set_cons_zero, List.set_cons_succ]
            refine wpAnyH_ready (rs := [27]) (by kernel_rfl) (by simp) (AllReadyH.cons opAt27 (fun K hK => ?_) AllReadyH.nil)
            go_simp
            refine hK.out _ _ ?_ (fun hHeld => ?_)
            · (try dsimp only); first | exact hc | exact hcN _
            clear hK K
            try simp only [Act.put, List.setIfInBounds_toArray, List.set_cons_zero, List.set_cons_succ]
            refine wpAnyH_ready (rs := [28]) (by kernel_rfl) (by simp) (AllReadyH.cons opAt28 (fun K hK => ?_) AllReadyH.nil)
            go_simp
            refine hK.out _ _ ?_ (fun hHeld => ?_)
            · (try dsimp only); first | exact hc | exact hcN _
            clear hK K
            try simp only [Act.put, List.setIfInBounds_toArray, List.set_cons_zero, List.set_cons_succ]
            refine wpAnyH_take (i := 29) (v := ?_) opAt29 (by kernel_rfl) (by kernel_rfl) (by kernel_rfl) (fun _ _ _ h => h) (Or.inl ⟨by rfl, ?_⟩) (by assumption) ?_
            rotate_left
            · (intro w hSw; (try dsimp only at hSw); go_simp; (try with_reducible rfl))
            try simp only [Act.put, List.setIfInBounds_toArray, List.set_cons_zero, List.set_cons_succ]
            refine wpAnyH_take (i := 30) (v := ?_) opAt30 (by kernel_rfl) (by kernel_rfl) (by kernel_rfl) (fun _ _ _ h => h) (Or.inl ⟨by rfl, ?_⟩) (by assumption) ?_
            rotate_left
            · (intro w hSw; (try dsimp only at hSw); go_simp; (try with_reducible rfl))
            try simp only [Act.put, List.setIfInBounds_toArray, List.set_cons_zero, List.set_cons_succ]
            refine wpAnyH_done (by kernel_rfl) ?_ _
            go_wp2
            go_roundg (l.length - (i + 1))
            case measure => omega
            case rel => exact ⟨i + 1, S2, rfl, by omega, by go_num, rfl, HL.out, HT.out, hset, hbS⟩
    · obtain rfl : i = l.length := by omega
      have hil : ¬ (l.length : Int) < (l.length : Int) := by omega
      obtain ⟨b0, b1, b2, b3, b4, b5, b6, b7, hb8⟩ : ∃ b0 b1 b2 b3 b4 b5 b6 b7 : Nat, gapW l k l.length = [b0, b1, b2, b3, b4, b5, b6, b7] := by
        have := gapW_len H7.out hkl (Nat.le_refl l.length)
        match gapW l k l.length, this with
        | [b0, b1, b2, b3, b4, b5, b6, b7], _ => exact ⟨_, _, _, _, _, _, _, _, rfl⟩
      have P1 := p1.out
      have P2 := p2.out
      have P3 := p3.out
      rw [hb8] at P1 hR
      have hSm : S.length ≤ 42 := by have := H7.out; omega
      have hyS := str_size S
      have hqr := hq.next hbel
      have heq := eqA8 (b0 : Int) b1 b2 b3 b4 b5 b6 b7
      clear hb8 p1 p2 p3
      by_cases hkn : k = l.length
      · have hknI : (k : Int) = (l.length : Int) := by omega
        obtain ⟨U, hU⟩ : ∃ Z0, Z0 = S ++ [58, 58] := ⟨_, rfl⟩
        have eU : str S ++ { data := #[58, 58] } = str U := (str_app S [58, 58]).trans (by rw [hU])
        have nU : U.length ≤ 50 := by rw [hU, List.length_append]; simp only [List.length_cons, List.length_nil]; omega
        have yU := str_size U
        have kU : (9223372036854775807 < S.length + 2) = False := eq_false (by omega)
        have eW : U = gapS l k := by rw [hU, HS.out, hkn]; exact gapS_end
        clear hU hkn
        rw [← eW] at P1 P2 P3
        obtain ⟨V1, hV1⟩ : ∃ Z0, Z0 = U ++ [58, 58] := ⟨_, rfl⟩
        have eV1 : str U ++ { data := #[58, 58] } = str V1 := (str_app U [58, 58]).trans (by rw [hV1])
        have nV1 : V1.length ≤ 60 := by rw [hV1, List.length_append]; simp only [List.length_cons, List.length_nil]; omega
        have yV1 := str_size V1
        have kV1 : (9223372036854775807 < U.length + 2) = False := eq_false (by omega)
        obtain ⟨V2, hV2⟩ : ∃ Z0, Z0 = U ++ [58] := ⟨_, rfl⟩
        have eV2 : str U ++ { data := #[58] } = str V2 := (str_app U [58]).trans (by rw [hV2])
        have nV2 : V2.length ≤ 60 := by rw [hV2, List.length_append]; simp only [List.length_cons, List.length_nil]; omega
        have yV2 := str_size V2
        have kV2 : (9223372036854775807 < U.length + 1) = False := eq_false (by omega)
        rw [← hV1] at P2
        rw [← hV2] at P3
        have C1 := Lib.hid fun w hev => parse6_some U P1 w hev (by omega)
        have C2 := Lib.hid fun w hev => parse6_none V1 P2 w hev (by omega)
        have C3 := Lib.hid fun w hev => parse6_none V2 P3 w hev (by omega)
        clear P1 P2 P3 hV1 hV2 eW HS
        go_wp2_with (first
          | (go_at_call 24; go_fit (C1.out _ hqr.1); rintro e w4 ⟨rfl, hb4⟩; have hRw4 := hR.below hb4 hR.2.2; have hbC := bnew (bnext hbel hb4) (.cells #[.int .u16 (b0 : Int), .int .u16 (b1 : Int), .int .u16 (b2 : Int), .int .u16 (b3 : Int), .int .u16 (b4 : Int), .int .u16 (b5 : Int), .int .u16 (b6 : Int), .int .u16 (b7 : Int)] 39); have hqC := hq.next hbC; have hR4 := Row.made w4 #[.int .u16 (b0 : Int), .int .u16 (b1 : Int), .int .u16 (b2 : Int), .int .u16 (b3 : Int), .int .u16 (b4 : Int), .int .u16 (b5 : Int), .int .u16 (b6 : Int), .int .u16 (b7 : Int)] 39)
          | (go_at_call 24; go_fit (C2.out _ hqC.1); rintro e w6 ⟨rfl, hb6⟩; have hRw6 := (hRw4.far _).below hb6 (hRw4.far (.cells #[.int .u16 (b0 : Int), .int .u16 (b1 : Int), .int .u16 (b2 : Int), .int .u16 (b3 : Int), .int .u16 (b4 : Int), .int .u16 (b5 : Int), .int .u16 (b6 : Int), .int .u16 (b7 : Int)] 39)).2.2; have hR46 := hR4.below hb6 hR4.2.2; have hbD := bnew (bnext hbC hb6) (.cells #[.int .u16 0, .int .u16 0, .int .u16 0, .int .u16 0, .int .u16 0, .int .u16 0, .int .u16 0, .int .u16 0] 39); have hqD := hq.next hbD)
          | (go_at_call 24; go_fit (C3.out _ hqD.1); rintro e w8 ⟨rfl, hb8⟩; have hRw8 := (hRw6.far _).below hb8 (hRw6.far (.cells #[.int .u16 0, .int .u16 0, .int .u16 0, .int .u16 0, .int .u16 0, .int .u16 0, .int .u16 0, .int .u16 0] 39)).2.2; have hR48 := (hR46.far _).below hb8 (hR46.far (.cells #[.int .u16 0, .int .u16 0, .int .u16 0, .int .u16 0, .int .u16 0, .int .u16 0, .int .u16 0, .int .u16 0] 39)).2.2; have x0 : ∀ o, (w8.alloc o).cell? ⟨w1.heap.size, 0, none⟩ = some (.int .u16 (b0 : Int)) := fun o => (Row.far hRw8 o).1 0 _ rfl; have y0 : ∀ o, (w8.alloc o).cell? ⟨w4.heap.size, 0, none⟩ = some (.int .u16 (b0 : Int)) := fun o => (Row.far hR48 o).1 0 _ rfl; have x1 : ∀ o, (w8.alloc o).cell? ⟨w1.heap.size, 1, none⟩ = some (.int .u16 (b1 : Int)) := fun o => (Row.far hRw8 o).1 1 _ rfl; have y1 : ∀ o, (w8.alloc o).cell? ⟨w4.heap.size, 1, none⟩ = some (.int .u16 (b1 : Int)) := fun o => (Row.far hR48 o).1 1 _ rfl; have x2 : ∀ o, (w8.alloc o).cell? ⟨w1.heap.size, 2, none⟩ = some (.int .u16 (b2 : Int)) := fun o => (Row.far hRw8 o).1 2 _ rfl; have y2 : ∀ o, (w8.alloc o).cell? ⟨w4.heap.size, 2, none⟩ = some (.int .u16 (b2 : Int)) := fun o => (Row.far hR48 o).1 2 _ rfl; have x3 : ∀ o, (w8.alloc o).cell? ⟨w1.heap.size, 3, none⟩ = some (.int .u16 (b3 : Int)) := fun o => (Row.far hRw8 o).1 3 _ rfl; have y3 : ∀ o, (w8.alloc o).cell? ⟨w4.heap.size, 3, none⟩ = some (.int .u16 (b3 : Int)) := fun o => (Row.far hR48 o).1 3 _ rfl; have x4 : ∀ o, (w8.alloc o).cell? ⟨w1.heap.size, 4, none⟩ = some (.int .u16 (b4 : Int)) := fun o => (Row.far hRw8 o).1 4 _ rfl; have y4 : ∀ o, (w8.alloc o).cell? ⟨w4.heap.size, 4, none⟩ = some (.int .u16 (b4 : Int)) := fun o => (Row.far hR48 o).1 4 _ rfl; have x5 : ∀ o, (w8.alloc o).cell? ⟨w1.heap.size, 5, none⟩ = some (.int .u16 (b5 : Int)) := fun o => (Row.far hRw8 o).1 5 _ rfl; have y5 : ∀ o, (w8.alloc o).cell? ⟨w4.heap.size, 5, none⟩ = some (.int .u16 (b5 : Int)) := fun o => (Row.far hR48 o).1 5 _ rfl; have x6 : ∀ o, (w8.alloc o).cell? ⟨w1.heap.size, 6, none⟩ = some (.int .u16 (b6 : Int)) := fun o => (Row.far hRw8 o).1 6 _ rfl; have y6 : ∀ o, (w8.alloc o).cell? ⟨w4.heap.size, 6, none⟩ = some (.int .u16 (b6 : Int)) := fun o => (Row.far hR48 o).1 6 _ rfl; have x7 : ∀ o, (w8.alloc o).cell? ⟨w1.heap.size, 7, none⟩ = some (.int .u16 (b7 : Int)) := fun o => (Row.far hRw8 o).1 7 _ rfl; have y7 : ∀ o, (w8.alloc o).cell? ⟨w4.heap.size, 7, none⟩ = some (.int .u16 (b7 : Int)) := fun o => (Row.far hR48 o).1 7 _ rfl))
        go_ret
        exact ⟨rfl, bnew (bnext hbD hb8) _⟩
      · have hknI : ¬ (k : Int) = (l.length : Int) := by omega
        have eW : S = gapS l k := by rw [HS.out]; exact gapS_mid (by omega)
        have nU : S.length ≤ 50 := by omega
        clear hkn
        rw [← eW] at P1 P2 P3
        obtain ⟨V1, hV1⟩ : ∃ Z0, Z0 = S ++ [58, 58] := ⟨_, rfl⟩
        have eV1 : str S ++ { data := #[58, 58] } = str V1 := (str_app S [58, 58]).trans (by rw [hV1])
        have nV1 : V1.length ≤ 60 := by rw [hV1, List.length_append]; simp only [List.length_cons, List.length_nil]; omega
        have yV1 := str_size V1
        have kV1 : (9223372036854775807 < S.length + 2) = False := eq_false (by omega)
        obtain ⟨V2, hV2⟩ : ∃ Z0, Z0 = S ++ [58] := ⟨_, rfl⟩
        have eV2 : str S ++ { data := #[58] } = str V2 := (str_app S [58]).trans (by rw [hV2])
        have nV2 : V2.length ≤ 60 := by rw [hV2, List.length_append]; simp only [List.length_cons, List.length_nil]; omega
        have yV2 := str_size V2
        have kV2 : (9223372036854775807 < S.length + 1) = False := eq_false (by omega)
        rw [← hV1] at P2
        rw [← hV2] at P3
        have C1 := Lib.hid fun w hev => parse6_some S P1 w hev (by omega)
        have C2 := Lib.hid fun w hev => parse6_none V1 P2 w hev (by omega)
        have C3 := Lib.hid fun w hev => parse6_none V2 P3 w hev (by omega)
        clear P1 P2 P3 hV1 hV2 eW HS
        go_wp2_with (first
          | (go_at_call 24; go_fit (C1.out _ hqr.1); rintro e w4 ⟨rfl, hb4⟩; have hRw4 := hR.below hb4 hR.2.2; have hbC := bnew (bnext hbel hb4) (.cells #[.int .u16 (b0 : Int), .int .u16 (b1 : Int), .int .u16 (b2 : Int), .int .u16 (b3 : Int), .int .u16 (b4 : Int), .int .u16 (b5 : Int), .int .u16 (b6 : Int), .int .u16 (b7 : Int)] 39); have hqC := hq.next hbC; have hR4 := Row.made w4 #[.int .u16 (b0 : Int), .int .u16 (b1 : Int), .int .u16 (b2 : Int), .int .u16 (b3 : Int), .int .u16 (b4 : Int), .int .u16 (b5 : Int), .int .u16 (b6 : Int), .int .u16 (b7 : Int)] 39)
          | (go_at_call 24; go_fit (C2.out _ hqC.1); rintro e w6 ⟨rfl, hb6⟩; have hRw6 := (hRw4.far _).below hb6 (hRw4.far (.cells #[.int .u16 (b0 : Int), .int .u16 (b1 : Int), .int .u16 (b2 : Int), .int .u16 (b3 : Int), .int .u16 (b4 : Int), .int .u16 (b5 : Int), .int .u16 (b6 : Int), .int .u16 (b7 : Int)] 39)).2.2; have hR46 := hR4.below hb6 hR4.2.2; have hbD := bnew (bnext hbC hb6) (.cells #[.int .u16 0, .int .u16 0, .int .u16 0, .int .u16 0, .int .u16 0, .int .u16 0, .int .u16 0, .int .u16 0] 39); have hqD := hq.next hbD)
          | (go_at_call 24; go_fit (C3.out _ hqD.1); rintro e w8 ⟨rfl, hb8⟩; have hRw8 := (hRw6.far _).below hb8 (hRw6.far (.cells #[.int .u16 0, .int .u16 0, .int .u16 0, .int .u16 0, .int .u16 0, .int .u16 0, .int .u16 0, .int .u16 0] 39)).2.2; have hR48 := (hR46.far _).below hb8 (hR46.far (.cells #[.int .u16 0, .int .u16 0, .int .u16 0, .int .u16 0, .int .u16 0, .int .u16 0, .int .u16 0, .int .u16 0] 39)).2.2; have x0 : ∀ o, (w8.alloc o).cell? ⟨w1.heap.size, 0, none⟩ = some (.int .u16 (b0 : Int)) := fun o => (Row.far hRw8 o).1 0 _ rfl; have y0 : ∀ o, (w8.alloc o).cell? ⟨w4.heap.size, 0, none⟩ = some (.int .u16 (b0 : Int)) := fun o => (Row.far hR48 o).1 0 _ rfl; have x1 : ∀ o, (w8.alloc o).cell? ⟨w1.heap.size, 1, none⟩ = some (.int .u16 (b1 : Int)) := fun o => (Row.far hRw8 o).1 1 _ rfl; have y1 : ∀ o, (w8.alloc o).cell? ⟨w4.heap.size, 1, none⟩ = some (.int .u16 (b1 : Int)) := fun o => (Row.far hR48 o).1 1 _ rfl; have x2 : ∀ o, (w8.alloc o).cell? ⟨w1.heap.size, 2, none⟩ = some (.int .u16 (b2 : Int)) := fun o => (Row.far hRw8 o).1 2 _ rfl; have y2 : ∀ o, (w8.alloc o).cell? ⟨w4.heap.size, 2, none⟩ = some (.int .u16 (b2 : Int)) := fun o => (Row.far hR48 o).1 2 _ rfl; have x3 : ∀ o, (w8.alloc o).cell? ⟨w1.heap.size, 3, none⟩ = some (.int .u16 (b3 : Int)) := fun o => (Row.far hRw8 o).1 3 _ rfl; have y3 : ∀ o, (w8.alloc o).cell? ⟨w4.heap.size, 3, none⟩ = some (.int .u16 (b3 : Int)) := fun o => (Row.far hR48 o).1 3 _ rfl; have x4 : ∀ o, (w8.alloc o).cell? ⟨w1.heap.size, 4, none⟩ = some (.int .u16 (b4 : Int)) := fun o => (Row.far hRw8 o).1 4 _ rfl; have y4 : ∀ o, (w8.alloc o).cell? ⟨w4.heap.size, 4, none⟩ = some (.int .u16 (b4 : Int)) := fun o => (Row.far hR48 o).1 4 _ rfl; have x5 : ∀ o, (w8.alloc o).cell? ⟨w1.heap.size, 5, none⟩ = some (.int .u16 (b5 : Int)) := fun o => (Row.far hRw8 o).1 5 _ rfl; have y5 : ∀ o, (w8.alloc o).cell? ⟨w4.heap.size, 5, none⟩ = some (.int .u16 (b5 : Int)) := fun o => (Row.far hR48 o).1 5 _ rfl; have x6 : ∀ o, (w8.alloc o).cell? ⟨w1.heap.size, 6, none⟩ = some (.int .u16 (b6 : Int)) := fun o => (Row.far hRw8 o).1 6 _ rfl; have y6 : ∀ o, (w8.alloc o).cell? ⟨w4.heap.size, 6, none⟩ = some (.int .u16 (b6 : Int)) := fun o => (Row.far hR48 o).1 6 _ rfl; have x7 : ∀ o, (w8.alloc o).cell? ⟨w1.heap.size, 7, none⟩ = some (.int .u16 (b7 : Int)) := fun o => (Row.far hRw8 o).1 7 _ rfl; have y7 : ∀ o, (w8.alloc o).cell? ⟨w4.heap.size, 7, none⟩ = some (.int .u16 (b7 : Int)) := fun o => (Row.far hR48 o).1 7 _ rfl))
        go_ret
        exact ⟨rfl, bnew (bnext hbD hb8) _⟩
end Go.Proofs.YtaglbcniomcfnaaDoor

