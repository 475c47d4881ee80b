/- The walks of the statements QueryBack, QueryMost, QueryForms. -/
import Derived.Test.YtpoaeppapmbkpaaDoorLawQry
namespace Go.Proofs.YtpoaeppapmbkpaaDoor
set_option linter.all false
open Go.RowKit

def qFrom : List (List UInt8) := [[], [38, 38], [97], [61], [97, 61], [61, 98], [97, 61, 98, 61, 99], [97, 43, 98, 61, 37, 50, 48], [37, 52, 49, 61, 37, 50, 98], [255, 61, 49], [97, 38, 97, 61, 49]]
def qTo : List (List UInt8) := [[], [], [97, 61], [61], [97, 61], [61, 98], [97, 61, 98, 37, 51, 68, 99], [97, 43, 98, 61, 43], [65, 61, 37, 50, 66], [37, 69, 70, 37, 66, 70, 37, 66, 68, 61, 49], [97, 61, 38, 97, 61, 49]]
theorem qForms_all : ∀ j, j < 11 → (qFrom.getD j []).length ≤ 20 ∧ qShow (qPairs (qFrom.getD j [])) = qTo.getD j [] ∧ (qPairs (qFrom.getD j [])).length ≤ 3 ∧ ∀ p ∈ qPairs (qFrom.getD j []), p.1.length ≤ 30 ∧ p.2.length ≤ 30 := by decide +kernel
theorem getD_of {α : Type} {l : List α} {j : Nat} {x d : α} (h : l[j]? = some x) : l.getD j d = x := by rw [List.getD_eq_getElem?_getD, h]; rfl

set_option maxRecDepth 100000 in
set_option maxHeartbeats 8000000 in
theorem queryForms_walk (w : World) (hm : ML w) : Calls Tryd.prog 7 #[] w fun e w' => e = .returned (.bool true) ∧ Below w.heap.size w w' := by
  go_enter Tryd.func7, Tryd.ntmps7
  go_wp2_with (go_at_call 17; go_must (go_fit (begun11_any w hm)); rintro e w1 ⟨rfl, hb1⟩; have hm1 := hm.next hb1)
  obtain ⟨w2, hw2⟩ : ∃ w2, w2 = (w1.alloc (.cells (strs qFrom).toArray 9)).alloc (.cells (strs qTo).toArray 9) := ⟨_, rfl⟩
  have hF : Rd w2 (w1.heap.size + 2) (some ⟨w1.heap.size, 0, none⟩) (strs qFrom) := by
    have := (@Rd.lit w1 (strs qFrom).toArray 9 (0, 0)).alloc (Nat.le_refl _) (.cells (strs qTo).toArray 9)
    rw [← hw2] at this
    exact Rd.mono (by simpa using this) (by simp)
  have hT : Rd w2 (w1.heap.size + 2) (some ⟨w1.heap.size + 1, 0, none⟩) (strs qTo) := by
    have := @Rd.lit (w1.alloc (.cells (strs qFrom).toArray 9)) (strs qTo).toArray 9 (0, 0)
    rw [← hw2] at this
    have hsz : w2.heap.size = w1.heap.size + 2 := by rw [hw2]; simp
    rw [hsz] at this
    simpa using this
  have hsz : w2.heap.size = w1.heap.size + 2 := by rw [hw2]; simp
  have hb2 : Below w1.heap.size w1 w2 := by rw [hw2]; exact bnew (bnew (Below.refl _ _) _) _
  have hm2 := hm1.next hb2
  have HW := Lib.hid hw2
  rw [← hsz] at hF hT
  have HS := Lib.hid hsz
  clear hw2 hsz
  go_loopg [3] 11 (fun k i wr => ∃ j : Nat, k = 11 - j ∧ j ≤ 11 ∧ i = .int .i64 j ∧ Below w2.heap.size w2 wr)
  case atStart => exact ⟨0, rfl, Nat.zero_le _, rfl, by rw [HW.out]; exact Below.refl _ _⟩
  case round =>
    obtain ⟨j, rfl, hj, rfl, hbel⟩ := hrel
    have hmr := hm2.next hbel
    have hq0 := hbel.size
    by_cases hlt : j < 11
    · obtain ⟨b, off, x, hA, hb, hc, hx⟩ := (hF.below hbel).str_at (k := j) (by rw [show qFrom.length = 11 from rfl]; exact hlt)
      injection hA with hA; injection hA with hA1 hA2; subst hA1; subst hA2
      obtain ⟨b2, off2, y, hB, hb3, hd, hy⟩ := (hT.below hbel).str_at (k := j) (by rw [show qTo.length = 11 from rfl]; exact hlt)
      injection hB with hB; injection hB with hB1 hB2; subst hB1; subst hB2
      obtain ⟨f1, f2, f3, f4⟩ := qForms_all j hlt
      rw [getD_of hx.out] at f1 f2 f3 f4
      rw [getD_of hy.out] at f2
      rw [Nat.zero_add] at hc hd
      have hlt1 : (j : Int) < 11 := by omega
      have hj0 : (0 : Int) ≤ (j : Int) := by omega
      have C1 := Lib.hid fun w (h : ML w) => qparse_any x w h (by omega)
      obtain ⟨l, hl⟩ : ∃ l, l = qPairs x := ⟨_, rfl⟩
      rw [← hl] at C1 f2 f3 f4
      have C2 := Lib.hid fun A c w (h : Rd w w.heap.size A (prs l)) => qshow_any A c l w h (by omega) (fun p hp => by have := f4 p hp; omega)
      rw [f2] at C2
      have hne : ((str y).toList != (str y).toList) = false := by simp
      have hsz := HS.out
      clear f2 f4 hl
      go_wp2
      go_region_with (first
        | (go_at_call 19; go_fit (C1.out wr.drew hmr); rintro e w3 ⟨v3, rfl, hown3, hb3⟩; obtain ⟨A3, c3, rfl, hc3, hq3, hx3⟩ := own_rdN hown3; have hbw3 : Below wr.heap.size wr w3 := bnext (Below.drew (Below.refl _ _)) hb3; have hd3 := cell_on hbw3 hd (by omega))
        | (go_at_call 21; go_fit (C2.out A3 c3 w3 hx3); rintro e w4 ⟨rfl, hb4⟩; have hbw4 := bnext hbw3 hb4; have hd4 := cell_on hbw4 hd (by omega)))
      all_goals go_wp2
      all_goals go_roundg (11 - (j + 1))
      all_goals first
        | (case measure => omega)
        | (case rel => exact ⟨j + 1, rfl, by omega, by go_num, hbel.trans (Below.mono (by first | exact hbw4 | exact Below.drew hbw4) hq0)⟩)
    · obtain rfl : j = 11 := by omega
      clear hlt
      have C2 := Lib.hid fun (w : World) => qshow_any none 0 [] w Rd.nil (by decide) (by simp)
      rw [show qShow [] = [] from rfl] at C2
      have hst : (str []).toList = [] := str_toL _
      go_wp2_with (go_at_call 21; go_must (go_fit (C2.out wr)); rintro e w4 ⟨rfl, hb4⟩)
      go_ret
      exact ⟨rfl, bnext (hb1.trans ((hb2.trans (hbel.mono hb2.size)).mono hb1.size)) hb4⟩

set_option maxRecDepth 100000 in
set_option maxHeartbeats 8000000 in
theorem queryMost_walk (c : UInt8) (w : World) (hm : ML w) : Calls Tryd.prog 6 #[.int .u8 (c.toNat : Int)] w fun e w' => e = .returned (.bool true) ∧ Below w.heap.size w w' := by
  obtain ⟨K, hK⟩ : ∃ K : Nat, K = c.toNat % 60 := ⟨_, rfl⟩
  have hK60 : K < 60 := by omega
  have hrem : ((c.toNat : Int)).tmod 60 = (K : Int) := by rw [hK]; exact (Int.ofNat_tmod c.toNat 60).symm
  have hw1 : IntKind.u8.wrap (K : Int) = (K : Int) := IntWalk.u8_in _ (by omega)
  have hw2 : IntKind.i64.wrap (K : Int) = (K : Int) := IntWalk.i64_in _ (by omega)
  clear hK
  go_enter Tryd.func6, Tryd.ntmps6
  go_wp2_with (go_at_call 17; go_must (go_fit (begun11_any w hm)); rintro e w1 ⟨rfl, hb1⟩; have hm1 := hm.next hb1)
  go_loopg [4, 5] K (fun k s4 s5 wr => ∃ j : Nat, k = K - j ∧ j ≤ K ∧ s5 = .int .i64 j ∧ s4 = .string (str (qMost j)) ∧ Below w1.heap.size w1 wr)
  case atStart => exact ⟨0, rfl, Nat.zero_le _, rfl, rfl, Below.refl _ _⟩
  case round =>
    obtain ⟨j, rfl, hj, rfl, rfl, hbel⟩ := hrel
    have hml := qMost_len j
    have hq0 := hbel.size
    by_cases hlt : j < K
    · have hlt1 : (j : Int) < (K : Int) := by omega
      have hj0 : (0 : Int) ≤ (j : Int) := by omega
      obtain ⟨r, hr⟩ : ∃ r : Nat, r = j % 26 := ⟨_, rfl⟩
      have hr26 : r < 26 := by omega
      have hrem2 : ((j : Int)).tmod 26 = (r : Int) := by rw [hr]; exact (Int.ofNat_tmod j 26).symm
      have hv1 : IntKind.u8.wrap (r : Int) = (r : Int) := IntWalk.u8_in _ (by omega)
      have hv2 : IntKind.u8.wrap (97 + (r : Int)) = ((UInt8.ofNat (97 + r)).toNat : Int) := by
        rw [IntWalk.u8_in _ (by omega), UInt8.toNat_ofNat', Nat.mod_eq_of_lt (by omega)]; omega
      have hv3 : IntKind.i64.wrap (r : Int) = (r : Int) := IntWalk.i64_in _ (by omega)
      obtain ⟨b, hbb⟩ : ∃ b : UInt8, b = UInt8.ofNat (97 + r) := ⟨_, rfl⟩
      rw [← hbb] at hv2
      obtain ⟨T, hT⟩ : ∃ T, T = qMost j := ⟨_, rfl⟩
      rw [← hT] at hml ⊢
      obtain ⟨T1, hT1⟩ : ∃ T1, T1 = T ++ [38] := ⟨_, rfl⟩
      obtain ⟨T2, hT2⟩ : ∃ T2, T2 = T1 ++ [b] := ⟨_, rfl⟩
      obtain ⟨T3, hT3⟩ : ∃ T3, T3 = T2 ++ [61, 49, 38] := ⟨_, rfl⟩
      have e1 : str T ++ { data := #[38] } = str T1 := (str_app T [38]).trans (by rw [hT1])
      have e2 : str T1 ++ str [b] = str T2 := (str_app T1 [b]).trans (by rw [hT2])
      have e3 : str T2 ++ { data := #[61, 49, 38] } = str T3 := (str_app T2 [61, 49, 38]).trans (by rw [hT3])
      have HN := Lib.hid (show qMost (j + 1) = T3 by rw [hT3, hT2, hT1, hT, hbb, hr, show qMost (j + 1) = qMost j ++ 38 :: UInt8.ofNat (97 + j % 26) :: [61, 49, 38] from rfl]; simp)
      have y0 := str_size T
      have y1 := str_size T1
      have y2 := str_size T2
      have y3 := str_size [b]
      have q1 : T1.length ≤ 1000 := by rw [hT1, List.length_append, List.length_singleton]; omega
      have q2 : T2.length ≤ 1000 := by rw [hT2, hT1, List.length_append, List.length_append, List.length_singleton, List.length_singleton]; omega
      have q0 : T.length ≤ 1000 := by omega
      have k1 : (9223372036854775807 < T.length + 1) = False := eq_false (by omega)
      have k2 : (9223372036854775807 < T1.length + 1) = False := eq_false (by omega)
      have k3 : (9223372036854775807 < T2.length + 3) = False := eq_false (by omega)
      have hcv := fun (w : World) => str_atN (w := w.alloc (.cells #[.int .u8 (b.toNat : Int)] 5)) (B := w.heap.size + 1) (n := 1) (A := some ⟨w.heap.size, 0, none⟩) (c := 1) (l := [b]) (by have := @Rd.lit w #[.int .u8 (b.toNat : Int)] 5 (0, 0); simpa [bytes] using this) rfl
      clear hml hT hT1 hT2 hT3 hbb hr
      go_wp2
      go_roundg (K - (j + 1))
      case measure => omega
      case rel => exact ⟨j + 1, rfl, by omega, by go_num, by rw [HN.out], hbel.alloc hq0 _⟩
    · obtain rfl : j = K := by omega
      have hmr := hm1.next hbel
      have C1 := Lib.hid (qparse_any (qMost j) wr hmr (by omega))
      rw [qMost_pairs] at C1
      go_wp2_with (go_at_call 19; go_must (go_fit C1.out); rintro e w3 ⟨v3, rfl, hown3, hb3⟩; obtain ⟨A3, c3, rfl, hc3, hq3, hx3⟩ := own_rdN hown3)
      go_ret
      exact ⟨ret_bool (by simp; omega), hb1.trans ((hbel.trans (hb3.mono hbel.size)).mono hb1.size)⟩

set_option maxRecDepth 100000 in
set_option maxHeartbeats 16000000 in
theorem queryBack_walk (A : Option Addr) (k : Nat) (l : List Pr) (w : World) (hm : ML w) (hr : Rd w w.heap.size A (prs l)) (hlm : l.length ≤ maxLen) (hx : ∀ x ∈ l, x.1.length ≤ maxLen ∧ x.2.length ≤ maxLen) :
    Calls Tryd.prog 4 #[.slice A l.length k] w fun e w' => e = .returned (.bool true) ∧ Below w.heap.size w w' := by
  have HX := Lib.hid hx
  clear hx
  unfold maxLen at hlm
  by_cases h10 : (l.length : Int) ≤ 10
  · skip
    go_enter Tryd.func4, Tryd.ntmps4
    go_wp2_with (go_at_call 17; go_must (go_fit (begun11_any w hm)); rintro e w1 ⟨rfl, hb1⟩; have hm1 := hm.next hb1; have hr1 := hr.next hb1)
    go_loopg [3, 4] (l.length) (fun k s3 s4 wr => ∃ j : Nat, k = l.length - j ∧ j ≤ l.length ∧ s4 = .int .i64 j ∧ Hid (∀ x ∈ l.take j, x.1.length ≤ 30 ∧ x.2.length ≤ 30) ∧ wr.ownsRow w1.heap.size 25 2 s3 j (prs ((l.take j).map qRight2)) ∧ Below w1.heap.size w1 wr)
    case atStart => exact ⟨0, rfl, Nat.zero_le _, rfl, (fun x hx => by rw [List.take_zero] at hx; cases hx), World.ownsRow_nil _ _ _ _, Below.refl _ _⟩
    case round =>
      obtain ⟨j, rfl, hj, rfl, hall, hown, hbel⟩ := hrel
      obtain ⟨A3, c3, rfl, hc3, hm3⟩ := own_shape hown
      have hq1 := hbel.size
      by_cases hlt : j < l.length
      · obtain ⟨b, off, p, rfl, hb, hc1, hc2, hx⟩ := (hr1.below hbel).pair_at hlt
        have hlt1 : (j : Int) < (l.length : Int) := by omega
        have hj0 : (0 : Int) ≤ (j : Int) := by omega
        have hpm := HX.out p (List.mem_of_getElem? hx.out)
        unfold maxLen at hpm
        have z1 := str_size p.1
        have z2 := str_size p.2
        by_cases h1 : (p.1.length : Int) ≤ 30
        · by_cases h2 : (p.2.length : Int) ≤ 30
          · have HT := Lib.hid (takeAll hx.out hall.out (show p.1.length ≤ 30 ∧ p.2.length ≤ 30 from ⟨by omega, by omega⟩))
            have C3 := Lib.hid fun w => right_any p.1 w (by omega)
            have C4 := Lib.hid fun w => right_any p.2 w (by omega)
            have hTN : (l.take (j + 1)).map qRight2 = (l.take j).map qRight2 ++ [qRight2 p] := by
              obtain ⟨hjj, e⟩ := List.getElem?_eq_some_iff.1 hx.out
              rw [take_snoc' _ j hjj, e, List.map_append]; rfl
            have HTN := Lib.hid hTN
            clear hTN
            go_wp2
            go_region_law (first
              | (go_simp; go_at_call 23; go_fit (C3.out wr.drew); rintro e w3 ⟨rfl, hb3⟩; have hb3' : Below wr.heap.size wr w3 := bnext (Below.drew (Below.refl _ _)) hb3; have hcw := cell_on hb3' hc2 (by omega))
              | (go_simp; go_at_call 23; go_fit (C4.out w3); rintro e w4 ⟨rfl, hb4⟩; have hb24 := bnext hb3' hb4; have hq4 := hb24.size; have hown4 := own_below hown hb24 (Nat.le_refl _); have hbel4 := hbel.trans (hb24.mono hbel.size); have hq0 := hbel4.size)
              | (refine step_append_cells rfl _ _ _ rfl w1.heap.size _ _ 2 32 Tryd.underlying22 info_pair rfl (by decide) _ _ _ rfl (hown4.alloc _) w4.heap.size _ 1 1 25 (0, 0) rfl (heap_alloc_new w4 _) rfl (by simp [Value.oneCell']) (by omega) (by decide) (by simp; omega) ?_; intro A5 c5 w5 hc5 hm5 hown5 hb5' hg5; have hb5 : Below w1.heap.size w1 w5 := hbel4.trans (((Below.refl _ _).alloc (by omega) _).trans hb5')))
            all_goals go_wp2
            all_goals go_roundg (l.length - (j + 1))
            all_goals first
              | (case measure => omega)
              | (case rel => exact ⟨j + 1, rfl, by omega, by go_num, HT.out, own_as hown5 rfl (by rw [HTN.out, prs_append]; rfl), hb5⟩)
          · have h2' : 30 < (p.2.length : Int) := by omega
            clear h2
            go_wp2
            go_ret
            exact ⟨rfl, hb1.trans (hbel.mono hb1.size)⟩
        · have h1' : 30 < (p.1.length : Int) := by omega
          clear h1
          go_wp2
          go_ret
          exact ⟨rfl, hb1.trans (hbel.mono hb1.size)⟩
      · obtain rfl : j = l.length := by omega
        have hall' := hall.out
        rw [List.take_length] at hall' hown
        obtain ⟨X, hX⟩ : ∃ X, X = l.map qRight2 := ⟨_, rfl⟩
        have hXl : X.length = l.length := by rw [hX, List.length_map]
        have hsl := join_snoc_len (l := l.map qOne) (m := 181) (by intro x hx; obtain ⟨p, hp, rfl⟩ := List.mem_map.1 hx; have h1 := hall' p hp; have h2 := qOne_len p; omega) 38
        rw [List.length_map] at hsl
        have hsl2 : (qShow l).length ≤ 1820 := Nat.le_trans hsl (Nat.le_trans (Nat.mul_le_mul (show l.length ≤ 10 by omega) (Nat.le_refl _)) (by decide))
        have hXp : ∀ p ∈ X, p.1.length ≤ 120 ∧ p.2.length ≤ 120 := by
          intro p hp
          rw [hX] at hp
          obtain ⟨q, hq, rfl⟩ := List.mem_map.1 hp
          have h1 := hall' q hq
          have a1 := uEnc_le (uDec q.1)
          have a2 := uDec_len_le q.1
          have a3 := uEnc_le (uDec q.2)
          have a4 := uDec_len_le q.2
          show (uEnc (uDec q.1)).length ≤ 120 ∧ (uEnc (uDec q.2)).length ≤ 120
          omega
        have hsx := join_snoc_len (l := X.map qOne) (m := 721) (by intro x hx; obtain ⟨p, hp, rfl⟩ := List.mem_map.1 hx; have h1 := hXp p hp; have h2 := qOne_len p; omega) 38
        rw [List.length_map] at hsx
        have hsx2 : (qShow X).length ≤ 7220 := Nat.le_trans hsx (Nat.le_trans (Nat.mul_le_mul (show X.length ≤ 10 by omega) (Nat.le_refl _)) (by decide))
        have hmr := hm1.next hbel
        have hrr := hr1.next hbel
        obtain ⟨A9, c9, e9, _, _, hx9⟩ := own_rdN hown
        injection e9 with e9 _ e8
        subst e9 e8
        rw [← hX] at hx9
        have C1 := Lib.hid (qshow_any A k l wr hrr (by omega) (fun p hp => by have := hall' p hp; omega))
        have C2 := Lib.hid fun w (h : ML w) => qparse_any (qShow l) w h (by omega)
        rw [qPairs_show (by omega), ← hX] at C2
        have C3 := Lib.hid fun A B c d w (h : Rd w w.heap.size A (prs X)) (h' : Rd w w.heap.size B (prs X)) => sameP_any A B c d X X w h h' (by omega) (by omega)
        rw [sameP_self] at C3
        have C4 := Lib.hid fun A c w (h : Rd w w.heap.size A (prs X)) => qshow_any A c X w h (by omega) (fun p hp => by have := hXp p hp; omega)
        have C5 := Lib.hid fun w (h : ML w) => qparse_any (qShow X) w h (by omega)
        rw [show qPairs (qShow X) = X by rw [hX]; exact qPairs_right (by omega)] at C5
        have hfin : ((str (qShow X)).toList == (str (qShow X)).toList) = true := by simp
        rw [hXl] at C2 C3 C4 C5
        clear hall' hall hX hXl hsl hsl2 hsx hsx2 hXp
        go_wp2_with (first
          | (go_at_call 21; go_fit C1.out; rintro e w2 ⟨rfl, hb2⟩; have hm2 := hmr.next hb2; have hx92 := hx9.next hb2)
          | (go_at_call 19; go_fit (C2.out w2 hm2); rintro e w3 ⟨v3, rfl, hown3, hb3⟩; obtain ⟨A4, c4, rfl, hc4, hq4, hx4⟩ := own_rdN hown3; have hx93 := hx92.next hb3; have hm3 := hm2.next hb3)
          | (go_at_call 18; go_fit (C3.out A4 A3 c4 c3 w3 hx4 hx93); rintro e w4 ⟨rfl, hb4⟩; have hx44 := hx4.next hb4; have hm4 := hm3.next hb4)
          | (go_at_call 21; go_fit (C4.out A4 c4 w4 hx44); rintro e w5 ⟨rfl, hb5⟩; have hx45 := hx44.next hb5; have hm5 := hm4.next hb5)
          | (go_at_call 19; go_fit (C5.out w5 hm5); rintro e w6 ⟨v6, rfl, hown6, hb6⟩; obtain ⟨A6, c6, rfl, hc6, hq6, hx6⟩ := own_rdN hown6; have hx46 := hx45.next hb6)
          | (go_at_call 21; go_fit (C4.out A6 c6 w6 hx6); rintro e w7 ⟨rfl, hb7⟩; have hx47 := hx46.next hb7)
          | (go_at_call 21; go_fit (C4.out A4 c4 w7 hx47); rintro e w8 ⟨rfl, hb8⟩))
        go_ret
        exact ⟨rfl, hb1.trans ((bnext (bnext (bnext (bnext (bnext (bnext (bnext (hbel) hb2) hb3) hb4) hb5) hb6) hb7) hb8).mono hb1.size)⟩
  · have h10' : 10 < (l.length : Int) := by omega
    clear h10
    go_enter Tryd.func4, Tryd.ntmps4
    go_wp2_with (go_at_call 17; go_must (go_fit (begun11_any w hm)); rintro e w1 ⟨rfl, hb1⟩)
    go_ret
    exact ⟨rfl, hb1⟩
end Go.Proofs.YtpoaeppapmbkpaaDoor

