/- The walks of Parse, both. -/
import Derived.Test.YtaglbcniomcfnaaDoorIpC
namespace Go.Proofs.YtaglbcniomcfnaaDoor
set_option linter.all false
open Go.RowKit

section
variable {o : Option Nat} {j sum : Nat} {L : List (List UInt8)} {p : List UInt8}
theorem par_drop (hx : L[j]? = some p) : L.drop j = p :: L.drop (j + 1) := by
  obtain ⟨hj, e⟩ := List.getElem?_eq_some_iff.1 hx
  rw [List.drop_eq_getElem_cons hj, e]
theorem par_none (h : o = parGo j sum (L.drop j)) (hx : L[j]? = some p) (hp : pNum p = none) : o = none := by
  rw [h, par_drop hx, parGo, hp]
theorem par_last {x : Nat} (h : o = parGo j sum (L.drop j)) (hx : L[j]? = some p) (hp : pNum p = some x) (hl : j + 1 = L.length) : o = if x < 2 ^ (8 * (4 - j)) then some (sum + x) else none := by
  have e : L.drop (j + 1) = [] := by rw [hl, List.drop_length]
  rw [h, par_drop hx, parGo, hp, e]; rfl
theorem par_more {x : Nat} (h : o = parGo j sum (L.drop j)) (hx : L[j]? = some p) (hp : pNum p = some x) (hl : j + 1 < L.length) : o = if x < 256 then parGo (j + 1) (sum + x * 2 ^ (8 * (3 - j))) (L.drop (j + 1)) else none := by
  have e : L.drop (j + 1) ≠ [] := fun e => by have := congrArg List.length e; rw [List.length_drop] at this; simp at this; omega
  rw [h, par_drop hx, parGo, hp]; simp only [if_neg e]
theorem par_end (h : o = parGo j sum (L.drop j)) (hl : L.length ≤ j) : o = some sum := by
  rw [h, List.drop_eq_nil_of_le hl]; rfl
end

theorem pow3 (j : Nat) : 2 ^ (8 * (3 - j)) ≤ 16777216 := by
  have h := Nat.pow_le_pow_right (show 0 < 2 by decide) (show 8 * (3 - j) ≤ 24 by omega)
  simpa using h
theorem castpow (v k : Nat) : (v : Int) * 2 ^ k = ((v * 2 ^ k : Nat) : Int) := by simp
theorem castpow1 (k : Nat) : (2 : Int) ^ k = ((2 ^ k : Nat) : Int) := by simp
theorem pow4 (j : Nat) : 2 ^ (8 * (4 - j)) ≤ 4294967296 := by
  have h := Nat.pow_le_pow_right (show 0 < 2 by decide) (show 8 * (4 - j) ≤ 32 by omega)
  simpa using h
theorem mul3 {v j : Nat} (h : v < 256) : v * 2 ^ (8 * (3 - j)) ≤ 4278190080 := by
  have := Nat.mul_le_mul (show v ≤ 255 by omega) (pow3 j)
  omega
theorem wrapq {v j q : Nat} (hq : q = v * 2 ^ (8 * (3 - j))) (h : q ≤ 4278190080) : wrap64 ((v : Int) * 2 ^ (8 * (3 - j))) = (q : Int) := by
  rw [castpow, ← hq]; exact IntWalk.wrap64_in _ (by omega)
theorem wraps {s q j : Nat} (hs : s ≤ j * 4294967296) (hj : j ≤ 4) (h : q ≤ 4294967296) : wrap64 ((s : Int) + (q : Int)) = (s : Int) + (q : Int) := IntWalk.wrap64_in _ (by omega)
theorem stepq {s v j : Nat} (hs : s ≤ j * 4294967296) (h : v < 256) (hj : j ≤ 4) : ∃ q : Nat, v * 2 ^ (8 * (3 - j)) = q ∧ q ≤ 4278190080 ∧ wrap64 ((v : Int) * 2 ^ (8 * (3 - j))) = (q : Int) ∧ wrap64 ((s : Int) + (q : Int)) = (s : Int) + (q : Int) := by
  have h1 := mul3 (j := j) h
  refine ⟨_, rfl, h1, wrapq rfl h1, ?_⟩
  generalize v * 2 ^ (8 * (3 - j)) = q at h1 ⊢
  exact wraps hs hj (by omega)
theorem stepl {s v j : Nat} (hs : s ≤ j * 4294967296) (h : v ≤ 1099511627776) (hj : j ≤ 4) : ∃ q : Nat, 2 ^ (8 * (4 - j)) = q ∧ q ≤ 4294967296 ∧ wrap64 ((2 : Int) ^ (8 * (4 - j))) = (q : Int) ∧ wrap64 ((s : Int) + (v : Int)) = (s : Int) + (v : Int) := by
  have h1 := pow4 j
  refine ⟨_, rfl, h1, ?_, IntWalk.wrap64_in _ (by omega)⟩
  rw [castpow1]
  generalize 2 ^ (8 * (4 - j)) = q at h1 ⊢
  exact IntWalk.wrap64_in _ (by omega)
-- What Parse hands on.
set_option maxRecDepth 100000 in
set_option maxHeartbeats 4000000 in
theorem parse4_any (s : List UInt8) (w : World) (hm : ML w) (hs : s.length ≤ 100000) : Calls Tryd.prog 15 #[.string (str s)] w fun e w' => e = .returned (.tuple #[.int .u32 (((pParse s).getD 0 : Nat) : Int), .int .i64 (if (pParse s).isSome then 0 else 5)]) ∧ Below w.heap.size w w' := by
  have C1 := Lib.hid (split4_any s w hm (by omega))
  have HL := Lib.hid fun (k : Nat) (x : List UInt8) (hx : (pParts s)[k]? = some x) => cuts_piece hx
  have HP := Lib.hid (show pParse s = if 4 < (pParts s).length then none else parGo 0 0 (pParts s) from rfl)
  have HT := Lib.hid fun m (h : pParse s = some m) => pParse_lt h
  obtain ⟨o, ho⟩ : ∃ o, o = pParse s := ⟨_, rfl⟩
  rw [← ho] at HP HT ⊢
  clear ho
  obtain ⟨L, hL⟩ : ∃ L, L = pParts s := ⟨_, rfl⟩
  rw [← hL] at C1 HL HP
  clear hL
  by_cases h4 : 4 < L.length
  · have e := HP.out
    rw [if_pos h4] at e
    subst e
    go_enter Tryd.func15, Tryd.ntmps15
    go_wp2_with (go_at_call 28; go_must (go_fit (C1.out)); rintro e w1 ⟨A1, c1, rfl, hc1, hrl, hb1⟩)
    all_goals go_ret2
    all_goals exact ⟨rfl, hb1⟩
  · have HO := Lib.hid (show o = parGo 0 0 (L.drop 0) by rw [HP.out, if_neg h4]; rfl)
    have h4' : L.length ≤ 4 := by omega
    clear h4 HP
    go_enter Tryd.func15, Tryd.ntmps15
    go_wp2_with (go_at_call 28; go_must (go_fit (C1.out)); rintro e w1 ⟨A1, c1, rfl, hc1, hrl, hb1⟩)
    go_loopg [5, 18] (L.length) (fun k s5 s18 wr => ∃ j sum : Nat, k = L.length - j ∧ j ≤ L.length ∧ s18 = .int .i64 j ∧ s5 = .int .i64 sum ∧ sum ≤ j * 4294967296 ∧ Hid (o = parGo j sum (L.drop j)) ∧ w1 = wr)
    case atStart => exact ⟨0, 0, rfl, Nat.zero_le _, rfl, rfl, Nat.zero_le _, HO, rfl⟩
    case round =>
      obtain ⟨j, sum, rfl, hj, rfl, rfl, hsum, ho, rfl⟩ := hrel
      by_cases hlt : j < L.length
      · obtain ⟨x, hx⟩ : ∃ x, L[j]? = some x := ⟨_, List.getElem?_eq_getElem hlt⟩
        have hxl := HL.out j x hx
        have C3 := Lib.hid fun w => number4_any x w (by omega)
        obtain ⟨b, off, rfl, hcell⟩ := hrl.last hx
        cases hp : pNum x with
        | none =>
          have e := par_none ho hx hp
          subst e
          rw [hp] at C3
          clear hp hx
          go_wp2_with (go_at_call 29; go_must (go_fit (C3.out _)); rintro e w2 ⟨rfl, rfl⟩)
          all_goals go_ret2
          all_goals exact ⟨rfl, hb1⟩
        | some v =>
          have hv := pNum_le hp
          unfold hugeN at hv
          rw [hp] at C3
          by_cases hla : j + 1 = L.length
          · have E := Lib.hid (par_last ho hx hp hla)
            clear hp hx
            have hla2 : ((j : Int) == (L.length : Int) - 1) = true := by rw [beq_iff_eq]; omega
            have hla3 : ¬ (j : Int) < (L.length : Int) - 1 := by omega
            obtain ⟨q, hq, hq1, hw1, hw2⟩ := stepl (v := v) hsum hv (by omega)
            rw [hq] at E
            clear hq
            by_cases hvq : v < q
            · have e := E.out
              rw [if_pos hvq] at e
              have E2 := Lib.hid (show o = parGo (j + 1) (sum + v) (L.drop (j + 1)) by rw [e, hla, List.drop_length]; rfl)
              clear e E hla
              go_wp2_with (go_at_call 29; go_must (go_fit (C3.out _)); rintro e w2 ⟨rfl, rfl⟩)
              all_goals go_roundg (L.length - (j + 1))
              all_goals first
                | (case measure => omega)
                | (case rel => exact ⟨j + 1, sum + v, rfl, by omega, by go_num, by go_num, by omega, E2, rfl⟩)
            · have e := E.out
              rw [if_neg hvq] at e
              subst e
              clear hla
              go_wp2_with (go_at_call 29; go_must (go_fit (C3.out _)); rintro e w2 ⟨rfl, rfl⟩)
              all_goals go_ret2
              all_goals exact ⟨rfl, hb1⟩
          · have E := Lib.hid (par_more ho hx hp (by omega))
            clear hp hx
            have hj3 : j = 0 ∨ j = 1 ∨ j = 2 := by omega
            have hla1 : j + 1 < L.length := by omega
            have hla2 : ((j : Int) == (L.length : Int) - 1) = false := by rw [beq_eq_false_iff_ne]; omega
            by_cases h256 : v < 256
            · have e := E.out
              rw [if_pos h256] at e
              have E2 := Lib.hid e
              clear e E
              obtain ⟨q, hq, hvq, hw1, hw2⟩ := stepq (v := v) hsum h256 (by omega)
              rw [hq] at E2
              clear hq hla hj3
              go_wp2_with (go_at_call 29; go_must (go_fit (C3.out _)); rintro e w2 ⟨rfl, rfl⟩)
              all_goals go_roundg (L.length - (j + 1))
              all_goals first
                | (case measure => omega)
                | (case rel => exact ⟨j + 1, sum + q, rfl, by omega, by go_num, by go_num, by omega, E2, rfl⟩)
            · have e := E.out
              rw [if_neg h256] at e
              subst e
              go_wp2_with (go_at_call 29; go_must (go_fit (C3.out _)); rintro e w2 ⟨rfl, rfl⟩)
              all_goals go_ret2
              all_goals exact ⟨rfl, hb1⟩
      · have e := par_end ho (by omega)
        subst e
        have hlt2 := HT.out _ rfl
        obtain rfl : j = L.length := by omega
        go_wp2
        all_goals go_ret2
        all_goals exact ⟨rfl, hb1⟩
end Go.Proofs.YtaglbcniomcfnaaDoor

