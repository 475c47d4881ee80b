/- The walk of the reference's Parse4. -/
import Derived.Test.YtaglbcniomcfnaaDoorIpD
namespace Go.Proofs.YtaglbcniomcfnaaDoor
set_option linter.all false
open Go.RowKit
theorem ustepq {s v j : Nat} (hs : s ≤ j * 4294967296) (h : v < 256) (hj : j ≤ 4) : ∃ q : Nat, v * 2 ^ (8 * (3 - j)) = q ∧ q ≤ 4278190080 ∧ IntKind.u64.wrap ((v : Int) * 2 ^ (8 * (3 - j))) = (q : Int) ∧ IntKind.u64.wrap ((s : Int) + (q : Int)) = (s : Int) + (q : Int) := by
  have h1 := mul3 (j := j) h
  refine ⟨_, rfl, h1, ?_, ?_⟩
  · rw [castpow]
    generalize v * 2 ^ (8 * (3 - j)) = q at h1 ⊢
    exact IntWalk.u64_in _ (by omega)
  · generalize v * 2 ^ (8 * (3 - j)) = q at h1 ⊢
    exact IntWalk.u64_in _ (by omega)
theorem ustepl {s v j n : Nat} (hs : s ≤ j * 4294967296) (h : v ≤ 1099511627776) (hj : j ≤ 4) (hn : n = j + 1) : ∃ q : Nat, 2 ^ (8 * (4 - j)) = q ∧ q ≤ 4294967296 ∧ IntKind.u64.wrap ((2 : Int) ^ (8 * (5 - n))) = (q : Int) ∧ IntKind.u64.wrap ((s : Int) + (v : Int)) = (s : Int) + (v : Int) := by
  have h1 := pow4 j
  rw [show 5 - n = 4 - j by omega]
  refine ⟨_, rfl, h1, ?_, IntWalk.u64_in _ (by omega)⟩
  rw [castpow1]
  generalize 2 ^ (8 * (4 - j)) = q at h1 ⊢
  exact IntWalk.u64_in _ (by omega)
set_option maxRecDepth 100000 in
set_option maxHeartbeats 4000000 in
theorem rparse4_any (s : List UInt8) (w : World) (hs : s.length ≤ 100000) : Calls Tryd.prog 16 #[.string (str s)] w fun e w' => e = .returned (.tuple #[.int .u32 (((pParse s).getD 0 : Nat) : Int), .int .i64 (if (pParse s).isSome then 0 else 5)]) ∧ Below w.heap.size w w' := by
  have C1 := Lib.hid (parts6_any s w (by omega))
  have HL := Lib.hid fun (k : Nat) (x : List UInt8) (hx : (pParts s)[k]? = some x) => cuts_piece hx
  have HP := Lib.hid (show pParse s = if 4 < (pParts s).length then none else parGo 0 0 (pParts s) from rfl)
  have HT := Lib.hid fun m (h : pParse s = some m) => pParse_lt h
  obtain ⟨o, ho⟩ : ∃ o, o = pParse s := ⟨_, rfl⟩
  rw [← ho] at HP HT ⊢
  clear ho
  obtain ⟨L, hL⟩ : ∃ L, L = pParts s := ⟨_, rfl⟩
  rw [← hL] at C1 HL HP
  clear hL
  by_cases h4 : 4 < L.length
  · have e := HP.out
    rw [if_pos h4] at e
    subst e
    go_enter Tryd.func16, Tryd.ntmps16
    go_wp2_with (go_at_call 30; go_must (go_fit (C1.out)); rintro e w1 ⟨A1, c1, rfl, hc1, hrl, hb1⟩)
    all_goals go_ret2
    all_goals exact ⟨rfl, hb1⟩
  · have HO := Lib.hid (show o = parGo 0 0 (L.drop 0) by rw [HP.out, if_neg h4]; rfl)
    have h4' : L.length ≤ 4 := by omega
    clear h4 HP
    go_enter Tryd.func16, Tryd.ntmps16
    go_wp2_with (go_at_call 30; go_must (go_fit (C1.out)); rintro e w1 ⟨A1, c1, rfl, hc1, hrl, hb1⟩)
    go_loopg [5, 6] (L.length) (fun k s5 s6 wr => ∃ j sum : Nat, k = L.length - j ∧ j ≤ L.length ∧ s6 = .int .i64 j ∧ s5 = .int .u64 sum ∧ sum ≤ j * 4294967296 ∧ Hid (o = parGo j sum (L.drop j)) ∧ w1 = wr)
    case atStart => exact ⟨0, 0, rfl, Nat.zero_le _, rfl, rfl, Nat.zero_le _, HO, rfl⟩
    case round =>
      obtain ⟨j, sum, rfl, hj, rfl, rfl, hsum, ho, rfl⟩ := hrel
      by_cases hlt : j < L.length
      · obtain ⟨x, hx⟩ : ∃ x, L[j]? = some x := ⟨_, List.getElem?_eq_getElem hlt⟩
        have hxl := HL.out j x hx
        have C3 := Lib.hid fun w => rnumber6_any x w (by omega)
        obtain ⟨b, off, rfl, hcell⟩ := hrl.last hx
        cases hp : pNum x with
        | none =>
          have e := par_none ho hx hp
          subst e
          rw [hp] at C3
          clear hp hx
          go_wp2_with (go_at_call 31; go_must (go_fit (C3.out _)); rintro e w2 ⟨rfl, rfl⟩)
          all_goals go_ret2
          all_goals exact ⟨rfl, hb1⟩
        | some v =>
          have hv := pNum_le hp
          unfold hugeN at hv
          rw [hp] at C3
          by_cases hla : j + 1 = L.length
          · have E := Lib.hid (par_last ho hx hp hla)
            clear hp hx
            have hla2 : ((j : Int) == (L.length : Int) - 1) = true := by rw [beq_iff_eq]; omega
            have hla3 : ¬ (j : Int) < (L.length : Int) - 1 := by omega
            obtain ⟨q, hq, hq1, hw1, hw2⟩ := ustepl (v := v) hsum hv (by omega) hla.symm
            rw [hq] at E
            clear hq
            by_cases hvq : v < q
            · have e := E.out
              rw [if_pos hvq] at e
              have E2 := Lib.hid (show o = parGo (j + 1) (sum + v) (L.drop (j + 1)) by rw [e, hla, List.drop_length]; rfl)
              clear e E hla
              go_wp2_with (go_at_call 31; go_must (go_fit (C3.out _)); rintro e w2 ⟨rfl, rfl⟩)
              all_goals go_roundg (L.length - (j + 1))
              all_goals first
                | (case measure => omega)
                | (case rel => exact ⟨j + 1, sum + v, rfl, by omega, by go_num, by go_num, by omega, E2, rfl⟩)
            · have e := E.out
              rw [if_neg hvq] at e
              subst e
              clear hla
              go_wp2_with (go_at_call 31; go_must (go_fit (C3.out _)); rintro e w2 ⟨rfl, rfl⟩)
              all_goals go_ret2
              all_goals exact ⟨rfl, hb1⟩
          · have E := Lib.hid (par_more ho hx hp (by omega))
            clear hp hx
            have hj3 : j = 0 ∨ j = 1 ∨ j = 2 := by omega
            have hla1 : j + 1 < L.length := by omega
            have hla2 : ((j : Int) == (L.length : Int) - 1) = false := by rw [beq_eq_false_iff_ne]; omega
            by_cases h256 : v < 256
            · have e := E.out
              rw [if_pos h256] at e
              have E2 := Lib.hid e
              clear e E
              obtain ⟨q, hq, hvq, hw1, hw2⟩ := ustepq (v := v) hsum h256 (by omega)
              rw [hq] at E2
              clear hq hla hj3
              go_wp2_with (go_at_call 31; go_must (go_fit (C3.out _)); rintro e w2 ⟨rfl, rfl⟩)
              all_goals go_roundg (L.length - (j + 1))
              all_goals first
                | (case measure => omega)
                | (case rel => exact ⟨j + 1, sum + q, rfl, by omega, by go_num, by go_num, by omega, E2, rfl⟩)
            · have e := E.out
              rw [if_neg h256] at e
              subst e
              go_wp2_with (go_at_call 31; go_must (go_fit (C3.out _)); rintro e w2 ⟨rfl, rfl⟩)
              all_goals go_ret2
              all_goals exact ⟨rfl, hb1⟩
      · have e := par_end ho (by omega)
        subst e
        have hlt2 := HT.out _ rfl
        obtain rfl : j = L.length := by omega
        go_wp2
        all_goals go_ret2
        all_goals exact ⟨rfl, hb1⟩
end Go.Proofs.YtaglbcniomcfnaaDoor

