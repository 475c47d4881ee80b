/- The walk of the statement PathDots. -/
import Derived.Test.YtnnphploekchbaaDoorLawPath2
namespace Go.Proofs.YtnnphploekchbaaDoor
set_option linter.all false
open Go.RowKit

theorem dRow (w : World) (l : List (List UInt8)) {K : Nat} {x : List UInt8} (h : l[K]? = some x) : (w.alloc (.cells (strs l).toArray 9)).cell? ⟨w.heap.size, K, none⟩ = some (.string (str x)) := by
  obtain ⟨hk, e⟩ := List.getElem?_eq_some_iff.1 h
  have hr := @Rd.lit w (strs l).toArray 9 (0, 0)
  obtain ⟨b, off, y, hA, hb, hc, hy⟩ := Rd.str_at (l := l) (by simpa using hr) hk
  injection hA with hA; injection hA with h1 h2; subst h1; subst h2
  rw [Nat.zero_add] at hc
  rw [hc]
  have := hy.out.symm.trans h
  injection this with this; rw [this]
theorem no_cut {a : List UInt8} {c : UInt8} (h : ∀ i, i < a.length → gb a i ≠ c) : c ∉ a := by
  intro hm
  obtain ⟨i, hi, e⟩ := List.getElem_of_mem hm
  have := gb_some hi
  rw [List.getElem?_eq_getElem hi, e] at this
  injection this with this
  exact h i hi this.symm

set_option maxRecDepth 100000 in
set_option maxHeartbeats 8000000 in
theorem pathDots_walk (a b : List UInt8) (how : UInt8) (w : World) (hq : LP w) : Calls Tryd.prog 7 #[.string (str a), .string (str b), .int .u8 (how.toNat : Int)] w fun e w' => e = .returned (.bool true) ∧ Below w.heap.size w w' := by
  have hsa := str_size a
  have hsb := str_size b
  have hga := str_get a
  by_cases ha : a.length ≤ 40
  · have haI : ¬ (40 : Int) < (a.length : Int) := by omega
    by_cases hb : b.length ≤ 40
    · have hbI : ¬ (40 : Int) < (b.length : Int) := by omega
      have D1 := Lib.hid fun w h => double_any a w h (by omega)
      have D2 := Lib.hid fun w h => double_any b w h (by omega)
      have D3 := Lib.hid fun w h => single_any a w h (by omega)
      rcases hda : pDouble a with _ | _
      · rw [hda] at D1
        rcases hdb : pDouble b with _ | _
        · rw [hdb] at D2
          rcases hpa : pSingle a with _ | _
          · rw [hpa] at D3
            obtain ⟨K, hK⟩ : ∃ K : Nat, K = how.toNat % 3 := ⟨_, rfl⟩
            obtain ⟨M, hM⟩ : ∃ M : Nat, M = how.toNat % 4 := ⟨_, rfl⟩
            have hK3 : K < 3 := by omega
            have hM4 : M < 4 := by omega
            have hrem : ((how.toNat : Int)).tmod 3 = (K : Int) := by rw [hK]; exact (Int.ofNat_tmod how.toNat 3).symm
            have hrem2 : ((how.toNat : Int)).tmod 4 = (M : Int) := by rw [hM]; exact (Int.ofNat_tmod how.toNat 4).symm
            have hw1 : IntKind.u8.wrap (K : Int) = (K : Int) := IntWalk.u8_in _ (by omega)
            have hw2 : IntKind.u8.wrap (M : Int) = (M : Int) := IntWalk.u8_in _ (by omega)
            obtain ⟨one, hone⟩ : ∃ x, dOnes[K]? = some x := ⟨_, List.getElem?_eq_getElem (show K < dOnes.length from hK3)⟩
            obtain ⟨two, htwo⟩ : ∃ x, dTwos[M]? = some x := ⟨_, List.getElem?_eq_getElem (show M < dTwos.length from hM4)⟩
            obtain ⟨o1, o2, o3, o4, o5⟩ := dOnes_all one (List.mem_of_getElem? hone)
            obtain ⟨u1, u2, u3, u4⟩ := dTwos_all two (List.mem_of_getElem? htwo)
            have hst : Hid (dOnes[K]? = some one ∧ dTwos[M]? = some two) := ⟨hone, htwo⟩
            clear hK hM hone htwo
            go_enter Tryd.func7, Tryd.ntmps7
            go_wp2_with (first
              | (go_at_call 17; go_fit (begun10_any w hq); rintro e w1 ⟨rfl, hb1⟩; have hq1 := hq.next hb1)
              | (go_at_call 21; go_fit (D1.out w1 hq1.2); rintro e w2 ⟨rfl, hb2⟩; have hq2 := hq1.next hb2)
              | (go_at_call 21; go_fit (D2.out w2 hq2.2); rintro e w3 ⟨rfl, hb3⟩; have hq3 := hq2.next hb3)
              | (go_at_call 19; go_fit (D3.out w3 hq3.2); rintro e w4 ⟨rfl, hb4⟩; have hq4 := hq3.next hb4; have hb04 := bnext (bnext (bnext hb1 hb2) hb3) hb4))
            go_loopg [7] a.length (fun k s7 wr => ∃ j : Nat, k = a.length - j ∧ j ≤ a.length ∧ s7 = .int .i64 (j : Int) ∧ Hid (∀ i, i < j → gb a i ≠ 47 ∧ gb a i ≠ 92) ∧ Below w4.heap.size w4 wr)
            case atStart => exact ⟨0, rfl, Nat.zero_le _, rfl, (fun i h => absurd h (Nat.not_lt_zero _)), Below.refl _ _⟩
            case round =>
              obtain ⟨j, rfl, hj, rfl, hno, hbel⟩ := hrel
              have hqr := hq4.next hbel
              have hb0r := bnext hb04 hbel
              by_cases hlt : j < a.length
              · have hlt1 : (j : Int) < (a.length : Int) := by omega
                have hj0 : (0 : Int) ≤ (j : Int) := by omega
                by_cases h47 : (gb a j).toNat = 47
                · have h47' : ((gb a j).toNat : Int) = 47 := by omega
                  go_wp2
                  go_ret
                  exact ⟨rfl, hb0r⟩
                · have h47' : (((gb a j).toNat : Int) == 47) = false := by rw [beq_eq_false_iff_ne]; omega
                  by_cases h92 : (gb a j).toNat = 92
                  · have h92' : ((gb a j).toNat : Int) = 92 := by omega
                    go_wp2
                    go_ret
                    exact ⟨rfl, hb0r⟩
                  · have h92' : (((gb a j).toNat : Int) == 92) = false := by rw [beq_eq_false_iff_ne]; omega
                    go_wp2
                    go_roundg (a.length - (j + 1))
                    case measure => omega
                    case rel =>
                      refine ⟨j + 1, rfl, by omega, by go_num, (fun i hi => ?_), hbel⟩
                      by_cases e : i = j
                      · subst e; exact ⟨fun e => h47 (by rw [e]; rfl), fun e => h92 (by rw [e]; rfl)⟩
                      · exact hno.out i (by omega)
              · obtain rfl : j = a.length := by omega
                have g1 := no_cut fun i hi => (hno.out i hi).1
                have g2 := no_cut fun i hi => (hno.out i hi).2
                have P1 := path_one o1 o2 o3 o4 b true
                have P2 := path_there g1 g2 hpa hda u1 u2 u3 b true
                have P3 := path_two u1 u2 u3 b true
                have hl := (parse_bound (s := b) (sp := true) (N := 40) hb).2
                have hs := show_bound (s := b) (sp := true) (N := 40) hb
                obtain ⟨l, hl'⟩ : ∃ l, l = pParse b true [] := ⟨_, rfl⟩
                obtain ⟨T, hT⟩ : ∃ T, T = pShowP l := ⟨_, rfl⟩
                rw [← hl'] at P1 P2 P3 hl hs
                rw [← hT] at hs
                have C0 := Lib.hid fun w h => parse10 b true w h (by omega)
                have C1 := Lib.hid fun w h => parse10 (one ++ 47 :: b) true w h (by rw [List.length_append, List.length_cons]; omega)
                have C2 := Lib.hid fun w h => parse10 (a ++ 47 :: (two ++ 47 :: b)) true w h (by simp only [List.length_append, List.length_cons]; omega)
                have C3 := Lib.hid fun w h => parse10 (two ++ 47 :: b) true w h (by rw [List.length_append, List.length_cons]; omega)
                rw [← hl'] at C0
                rw [P1] at C1
                rw [P2] at C2
                rw [P3] at C3
                have CS := Lib.hid fun A c w h => show10 hT.symm (by omega) (by omega) A c w h
                have hso := str_size one
                have hst2 := str_size two
                have e1 : str one ++ { data := #[47] } = str (one ++ [47]) := str_app one [47]
                have y1 : (str (one ++ [47])).size = one.length + 1 := by rw [str_size, List.length_append]; rfl
                have e2 : str (one ++ [47]) ++ str b = str (one ++ 47 :: b) := (str_app _ _).trans (by simp)
                have e3 : str two ++ { data := #[47] } = str (two ++ [47]) := str_app two [47]
                have y3 : (str (two ++ [47])).size = two.length + 1 := by rw [str_size, List.length_append]; rfl
                have e4 : str (two ++ [47]) ++ str b = str (two ++ 47 :: b) := (str_app _ _).trans (by simp)
                have e5 : str a ++ { data := #[47] } = str (a ++ [47]) := str_app a [47]
                have y5 : (str (a ++ [47])).size = a.length + 1 := by rw [str_size, List.length_append]; rfl
                have e6 : str (a ++ [47]) ++ str two = str (a ++ 47 :: two) := (str_app _ _).trans (by simp)
                have y6 : (str (a ++ 47 :: two)).size = a.length + 1 + two.length := by rw [str_size, List.length_append, List.length_cons]; omega
                have e7 : str (a ++ 47 :: two) ++ { data := #[47] } = str (a ++ 47 :: (two ++ [47])) := (str_app _ [47]).trans (by simp)
                have y7 : (str (a ++ 47 :: (two ++ [47]))).size = a.length + 1 + two.length + 1 := by rw [str_size, List.length_append, List.length_cons, List.length_append]; simp; omega
                have e8 : str (a ++ 47 :: (two ++ [47])) ++ str b = str (a ++ 47 :: (two ++ 47 :: b)) := (str_app _ _).trans (by simp)
                have k1 : (9223372036854775807 < one.length + 1) = False := eq_false (by omega)
                have k2 : (9223372036854775807 < one.length + 1 + b.length) = False := eq_false (by omega)
                have k3 : (9223372036854775807 < two.length + 1) = False := eq_false (by omega)
                have k4 : (9223372036854775807 < two.length + 1 + b.length) = False := eq_false (by omega)
                have k5 : (9223372036854775807 < a.length + 1) = False := eq_false (by omega)
                have k6 : (9223372036854775807 < a.length + 1 + two.length) = False := eq_false (by omega)
                have k7 : (9223372036854775807 < a.length + 1 + two.length + 1) = False := eq_false (by omega)
                have k8 : (9223372036854775807 < a.length + 1 + two.length + 1 + b.length) = False := eq_false (by omega)
                have hc1 : (wr.alloc (.cells #[.string { data := #[46] }, .string { data := #[37, 50, 101] }, .string { data := #[37, 50, 69] }] 9)).cell? ⟨wr.heap.size, K, none⟩ = some (.string (str one)) := dRow wr dOnes hst.out.1
                have hc2 : ((wr.alloc (.cells #[.string { data := #[46] }, .string { data := #[37, 50, 101] }, .string { data := #[37, 50, 69] }] 9)).alloc (.cells #[.string { data := #[46, 46] }, .string { data := #[46, 37, 50, 101] }, .string { data := #[37, 50, 69, 46] }, .string { data := #[37, 50, 101, 37, 50, 69] }] 9)).cell? ⟨wr.heap.size + 1, M, none⟩ = some (.string (str two)) := by
                  have := dRow (wr.alloc (.cells #[.string { data := #[46] }, .string { data := #[37, 50, 101] }, .string { data := #[37, 50, 69] }] 9)) dTwos hst.out.2
                  have hz : (wr.alloc (.cells #[.string { data := #[46] }, .string { data := #[37, 50, 101] }, .string { data := #[37, 50, 69] }] 9)).heap.size = wr.heap.size + 1 := by simp
                  rw [hz] at this
                  exact this
                have hbA := bnew (bnew hb0r (.cells #[.string { data := #[46] }, .string { data := #[37, 50, 101] }, .string { data := #[37, 50, 69] }] 9)) (.cells #[.string { data := #[46, 46] }, .string { data := #[46, 37, 50, 101] }, .string { data := #[37, 50, 69, 46] }, .string { data := #[37, 50, 101, 37, 50, 69] }] 9)
                have hqA := hq.next hbA
                obtain ⟨wA, hwA⟩ : ∃ wA, wA = ((wr.alloc (.cells #[.string { data := #[46] }, .string { data := #[37, 50, 101] }, .string { data := #[37, 50, 69] }] 9)).alloc (.cells #[.string { data := #[46, 46] }, .string { data := #[46, 37, 50, 101] }, .string { data := #[37, 50, 69, 46] }, .string { data := #[37, 50, 101, 37, 50, 69] }] 9)) := ⟨_, rfl⟩
                rw [← hwA] at hbA hqA
                have hK0 : (0 : Int) ≤ (K : Int) := by omega
                have hM0 : (0 : Int) ≤ (M : Int) := by omega
                have hKI : (K : Int) < 3 := by omega
                have hMI : (M : Int) < 4 := by omega
                have hyl := str_eqB T T
                rw [decide_eq_true rfl] at hyl
                have hty : (str T).toList = T := str_toL T
                have HW := Lib.hid hwA
                clear hwA P1 P2 P3 hl' hT hlt hno g1 g2
                go_wp2_with (first
                  | (go_at_call 18; rw [← HW.out]; go_fit (C0.out wA hqA); rintro e w5 ⟨A5, c5, rfl, hr5, hx5, hm5, hb5⟩; have hq5 := hqA.next hb5)
                  | (go_at_call 25; go_fit (CS.out A5 c5 w5 hr5); rintro e w6 ⟨rfl, hb6⟩; have hq6 := hq5.next hb6)
                  | (go_at_call 18; go_fit (C1.out w6 hq6); rintro e w7 ⟨A7, c7, rfl, hr7, hx7, hm7, hb7⟩; have hq7 := hq6.next hb7)
                  | (go_at_call 25; go_fit (CS.out A7 c7 w7 hr7); rintro e w8 ⟨rfl, hb8⟩; have hq8 := hq7.next hb8)
                  | (go_at_call 18; go_fit (C2.out w8 hq8); rintro e w9 ⟨A9, c9, rfl, hr9, hx9, hm9, hb9⟩; have hq9 := hq8.next hb9)
                  | (go_at_call 25; go_fit (CS.out A9 c9 w9 hr9); rintro e w10 ⟨rfl, hb10⟩; have hq10 := hq9.next hb10)
                  | (go_at_call 18; go_fit (C3.out w10 hq10); rintro e w11 ⟨A11, c11, rfl, hr11, hx11, hm11, hb11⟩; have hq11 := hq10.next hb11)
                  | (go_at_call 25; go_fit (CS.out A11 c11 w11 hr11); rintro e w12 ⟨rfl, hb12⟩))
                go_ret
                exact ⟨rfl, bnext (bnext (bnext (bnext (bnext (bnext (bnext (bnext hbA hb5) hb6) hb7) hb8) hb9) hb10) hb11) hb12⟩
          · rw [hpa] at D3
            go_enter Tryd.func7, Tryd.ntmps7
            go_wp2_with (first
              | (go_at_call 17; go_fit (begun10_any w hq); rintro e w1 ⟨rfl, hb1⟩; have hq1 := hq.next hb1)
              | (go_at_call 21; go_fit (D1.out w1 hq1.2); rintro e w2 ⟨rfl, hb2⟩; have hq2 := hq1.next hb2)
              | (go_at_call 21; go_fit (D2.out w2 hq2.2); rintro e w3 ⟨rfl, hb3⟩; have hq3 := hq2.next hb3)
              | (go_at_call 19; go_fit (D3.out w3 hq3.2); rintro e w4 ⟨rfl, hb4⟩))
            go_ret
            exact ⟨rfl, bnext (bnext (bnext hb1 hb2) hb3) hb4⟩
        · rw [hdb] at D2
          go_enter Tryd.func7, Tryd.ntmps7
          go_wp2_with (first
            | (go_at_call 17; go_fit (begun10_any w hq); rintro e w1 ⟨rfl, hb1⟩; have hq1 := hq.next hb1)
            | (go_at_call 21; go_fit (D1.out w1 hq1.2); rintro e w2 ⟨rfl, hb2⟩; have hq2 := hq1.next hb2)
            | (go_at_call 21; go_fit (D2.out w2 hq2.2); rintro e w3 ⟨rfl, hb3⟩))
          go_ret
          exact ⟨rfl, bnext (bnext hb1 hb2) hb3⟩
      · rw [hda] at D1
        go_enter Tryd.func7, Tryd.ntmps7
        go_wp2_with (first
          | (go_at_call 17; go_fit (begun10_any w hq); rintro e w1 ⟨rfl, hb1⟩; have hq1 := hq.next hb1)
          | (go_at_call 21; go_fit (D1.out w1 hq1.2); rintro e w2 ⟨rfl, hb2⟩))
        go_ret
        exact ⟨rfl, bnext hb1 hb2⟩
    · have hbI : (40 : Int) < (b.length : Int) := by omega
      go_enter Tryd.func7, Tryd.ntmps7
      go_wp2_with (go_at_call 17; go_fit (begun10_any w hq); rintro e w1 ⟨rfl, hb1⟩)
      go_ret
      exact ⟨rfl, hb1⟩
  · have haI : (40 : Int) < (a.length : Int) := by omega
    go_enter Tryd.func7, Tryd.ntmps7
    go_wp2_with (go_at_call 17; go_fit (begun10_any w hq); rintro e w1 ⟨rfl, hb1⟩)
    go_ret
    exact ⟨rfl, hb1⟩
end Go.Proofs.YtnnphploekchbaaDoor

