/- The walks of the reference's number, and of Ends, both. -/
import Derived.Test.YtaglbcniomcfnaaDoorIpB
namespace Go.Proofs.YtaglbcniomcfnaaDoor
set_option linter.all false
open Go.RowKit

set_option maxRecDepth 100000 in
set_option maxHeartbeats 2000000 in
theorem rnumber6_any (s : List UInt8) (w : World) (hs : s.length ≤ 1000000) : Calls Tryd.prog 31 #[.string (str s)] w fun e w' => e = .returned (.tuple #[.int .u64 (((pNum s).getD 0 : Nat) : Int), .bool (pNum s).isSome]) ∧ w = w' := by
  have hsz := str_size
  have hgt := str_get
  have hen := str_end s
  obtain ⟨T, b, hb, hT, hcase⟩ : ∃ (T : List UInt8) (b : Nat), b ≤ 16 ∧ T.length ≤ 1000000 ∧ ((s.length = 0 ∧ pNum s = none) ∨ (s.length ≠ 0 ∧ pNum s = cntGo b 0 T ∧
      ((b = 16 ∧ T = dr s 2 ∧ 2 ≤ s.length ∧ ((gb s 0).toNat : Int) = 48 ∧ (((gb s 1).toNat : Int) = 120 ∨ ((gb s 1).toNat : Int) = 88)) ∨
       (b = 8 ∧ T = dr s 1 ∧ 2 ≤ s.length ∧ ((gb s 0).toNat : Int) = 48 ∧ (((gb s 1).toNat : Int) == 120) = false ∧ (((gb s 1).toNat : Int) == 88) = false) ∨
       (b = 10 ∧ T = s ∧ 2 ≤ s.length ∧ (((gb s 0).toNat : Int) == 48) = false) ∨
       (b = 10 ∧ T = s ∧ s.length = 1)))) := by
    by_cases h1 : s.length = 0
    · exact ⟨[], 0, by omega, by simp, .inl ⟨h1, pNum_nil h1⟩⟩
    · by_cases hx : 2 ≤ s.length ∧ (gb s 0).toNat = 48 ∧ ((gb s 1).toNat = 120 ∨ (gb s 1).toNat = 88)
      · refine ⟨dr s 2, 16, by omega, by rw [dr_len]; omega, .inr ⟨h1, pNum_hex hx, .inl ⟨rfl, rfl, hx.1, by omega, by omega⟩⟩⟩
      · by_cases ho : 2 ≤ s.length ∧ (gb s 0).toNat = 48
        · refine ⟨dr s 1, 8, by omega, by rw [dr_len]; omega, .inr ⟨h1, ?_, .inr (.inl ⟨rfl, rfl, ho.1, by omega, by rw [beq_eq_false_iff_ne]; omega, by rw [beq_eq_false_iff_ne]; omega⟩)⟩⟩
          rw [pNum_oct hx ho]
          obtain ⟨hj, e⟩ := List.getElem?_eq_some_iff.1 (gb_some (l := s) (k := 0) (by omega))
          have e48 : gb s 0 = 48 := byte_ext ho.2
          have : s = 48 :: dr s 1 := by
            cases s with
            | nil => exact absurd rfl h1
            | cons a t => rw [show gb (a :: t) 0 = a from rfl] at e48; rw [e48]; rfl
          conv => lhs; rw [this]
          exact cnt_nought _
        · refine ⟨s, 10, by omega, hs, .inr ⟨h1, pNum_ten h1 ho, .inr (.inr ?_)⟩⟩
          by_cases hl : 2 ≤ s.length
          · exact .inl ⟨rfl, rfl, hl, by rw [beq_eq_false_iff_ne]; omega⟩
          · exact .inr ⟨rfl, rfl, by omega⟩
  rcases hcase with ⟨h1, h2⟩ | ⟨h1, h2, hc⟩
  · rw [h2]
    go_enter Tryd.func31, Tryd.ntmps31
    go_wp2
    all_goals go_ret2
    all_goals exact ⟨rfl, rfl⟩
  · obtain ⟨o, ho⟩ : ∃ o, o = cntGo b 0 T := ⟨_, rfl⟩
    rw [h2, ← ho]
    have HO := Lib.hid ho
    clear ho h2
    have main : ∀ (P : Prop), P → True := fun _ _ => trivial
    have hbI : (b : Int) ≤ 16 := by omega
    rcases hc with ⟨rfl, rfl, hl, h48, hx⟩ | ⟨rfl, rfl, hl, h48, hx1, hx2⟩ | ⟨rfl, rfl, hl, h48⟩ | ⟨rfl, rfl, hl⟩
    · have hdl := dr_len s 2
      rcases hx with hx | hx
      · skip
        go_enter Tryd.func31, Tryd.ntmps31
        go_wp2
        all_goals
          go_loopg [5, 6] ((dr s 2).length) (fun k s5 s6 wr => ∃ j n : Nat, k = (dr s 2).length - j ∧ j ≤ (dr s 2).length ∧ s6 = .int .i64 j ∧ s5 = .int .u64 n ∧ n ≤ hugeN ∧ Hid (o = cntGo 16 n ((dr s 2).drop j)) ∧ w = wr)
          case atStart => exact ⟨0, 0, rfl, Nat.zero_le _, rfl, rfl, Nat.zero_le _, HO, rfl⟩
          case round =>
            obtain ⟨j, n, rfl, hj, rfl, rfl, hn, ho, rfl⟩ := hrel
            unfold hugeN at hn
            by_cases hlt : j < (dr s 2).length
            · have hr := hexV_range (gb (dr s 2) j)
              by_cases hd : 0 ≤ hexV (gb (dr s 2) j) ∧ hexV (gb (dr s 2) j) < ((16 : Nat) : Int)
              · have HN := Lib.hid (cnt_at ho hlt hd)
                obtain ⟨d, hd1⟩ : ∃ d : Nat, hexV (gb (dr s 2) j) = (d : Int) := ⟨(hexV (gb (dr s 2) j)).toNat, by omega⟩
                have HD := Lib.hid hd1
                obtain ⟨hd2, hd3⟩ := hd
                go_wp2_with (go_at_call 43; go_must (go_fit (hex6_any _ _)); rintro e w1 ⟨rfl, rfl⟩)
                all_goals go_roundg ((dr s 2).length - (j + 1))
                all_goals first
                  | (case measure => omega)
                  | (case rel => exact ⟨j + 1, min (n * 16 + d) hugeN, rfl, by omega, by go_num, (by unfold hugeN; go_num), Nat.min_le_right _ _, (by have h := HN.out; rw [HD.out] at h; exact h), rfl⟩)
              · have HN := cnt_no ho hlt hd
                subst HN
                go_wp2_with (go_at_call 43; go_must (go_fit (hex6_any _ _)); rintro e w1 ⟨rfl, rfl⟩)
                all_goals go_ret2
                all_goals exact ⟨rfl, rfl⟩
            · obtain rfl : j = (dr s 2).length := by omega
              have := cnt_end ho
              subst this
              go_wp2
              go_ret2
              exact ⟨rfl, rfl⟩
      · skip
        go_enter Tryd.func31, Tryd.ntmps31
        go_wp2
        all_goals
          go_loopg [5, 6] ((dr s 2).length) (fun k s5 s6 wr => ∃ j n : Nat, k = (dr s 2).length - j ∧ j ≤ (dr s 2).length ∧ s6 = .int .i64 j ∧ s5 = .int .u64 n ∧ n ≤ hugeN ∧ Hid (o = cntGo 16 n ((dr s 2).drop j)) ∧ w = wr)
          case atStart => exact ⟨0, 0, rfl, Nat.zero_le _, rfl, rfl, Nat.zero_le _, HO, rfl⟩
          case round =>
            obtain ⟨j, n, rfl, hj, rfl, rfl, hn, ho, rfl⟩ := hrel
            unfold hugeN at hn
            by_cases hlt : j < (dr s 2).length
            · have hr := hexV_range (gb (dr s 2) j)
              by_cases hd : 0 ≤ hexV (gb (dr s 2) j) ∧ hexV (gb (dr s 2) j) < ((16 : Nat) : Int)
              · have HN := Lib.hid (cnt_at ho hlt hd)
                obtain ⟨d, hd1⟩ : ∃ d : Nat, hexV (gb (dr s 2) j) = (d : Int) := ⟨(hexV (gb (dr s 2) j)).toNat, by omega⟩
                have HD := Lib.hid hd1
                obtain ⟨hd2, hd3⟩ := hd
                go_wp2_with (go_at_call 43; go_must (go_fit (hex6_any _ _)); rintro e w1 ⟨rfl, rfl⟩)
                all_goals go_roundg ((dr s 2).length - (j + 1))
                all_goals first
                  | (case measure => omega)
                  | (case rel => exact ⟨j + 1, min (n * 16 + d) hugeN, rfl, by omega, by go_num, (by unfold hugeN; go_num), Nat.min_le_right _ _, (by have h := HN.out; rw [HD.out] at h; exact h), rfl⟩)
              · have HN := cnt_no ho hlt hd
                subst HN
                go_wp2_with (go_at_call 43; go_must (go_fit (hex6_any _ _)); rintro e w1 ⟨rfl, rfl⟩)
                all_goals go_ret2
                all_goals exact ⟨rfl, rfl⟩
            · obtain rfl : j = (dr s 2).length := by omega
              have := cnt_end ho
              subst this
              go_wp2
              go_ret2
              exact ⟨rfl, rfl⟩
    · have hdl := dr_len s 1
      go_enter Tryd.func31, Tryd.ntmps31
      go_wp2
      all_goals
        go_loopg [5, 6] ((dr s 1).length) (fun k s5 s6 wr => ∃ j n : Nat, k = (dr s 1).length - j ∧ j ≤ (dr s 1).length ∧ s6 = .int .i64 j ∧ s5 = .int .u64 n ∧ n ≤ hugeN ∧ Hid (o = cntGo 8 n ((dr s 1).drop j)) ∧ w = wr)
        case atStart => exact ⟨0, 0, rfl, Nat.zero_le _, rfl, rfl, Nat.zero_le _, HO, rfl⟩
        case round =>
          obtain ⟨j, n, rfl, hj, rfl, rfl, hn, ho, rfl⟩ := hrel
          unfold hugeN at hn
          by_cases hlt : j < (dr s 1).length
          · have hr := hexV_range (gb (dr s 1) j)
            by_cases hd : 0 ≤ hexV (gb (dr s 1) j) ∧ hexV (gb (dr s 1) j) < ((8 : Nat) : Int)
            · have HN := Lib.hid (cnt_at ho hlt hd)
              obtain ⟨d, hd1⟩ : ∃ d : Nat, hexV (gb (dr s 1) j) = (d : Int) := ⟨(hexV (gb (dr s 1) j)).toNat, by omega⟩
              have HD := Lib.hid hd1
              obtain ⟨hd2, hd3⟩ := hd
              go_wp2_with (go_at_call 43; go_must (go_fit (hex6_any _ _)); rintro e w1 ⟨rfl, rfl⟩)
              all_goals go_roundg ((dr s 1).length - (j + 1))
              all_goals first
                | (case measure => omega)
                | (case rel => exact ⟨j + 1, min (n * 8 + d) hugeN, rfl, by omega, by go_num, (by unfold hugeN; go_num), Nat.min_le_right _ _, (by have h := HN.out; rw [HD.out] at h; exact h), rfl⟩)
            · have HN := cnt_no ho hlt hd
              subst HN
              go_wp2_with (go_at_call 43; go_must (go_fit (hex6_any _ _)); rintro e w1 ⟨rfl, rfl⟩)
              all_goals go_ret2
              all_goals exact ⟨rfl, rfl⟩
          · obtain rfl : j = (dr s 1).length := by omega
            have := cnt_end ho
            subst this
            go_wp2
            go_ret2
            exact ⟨rfl, rfl⟩
    · have hz0 : ((T.length : Int) == 0) = false := by rw [beq_eq_false_iff_ne]; omega
      go_enter Tryd.func31, Tryd.ntmps31
      go_wp2
      all_goals
        go_loopg [5, 6] (T.length) (fun k s5 s6 wr => ∃ j n : Nat, k = T.length - j ∧ j ≤ T.length ∧ s6 = .int .i64 j ∧ s5 = .int .u64 n ∧ n ≤ hugeN ∧ Hid (o = cntGo 10 n (T.drop j)) ∧ w = wr)
        case atStart => exact ⟨0, 0, rfl, Nat.zero_le _, rfl, rfl, Nat.zero_le _, HO, rfl⟩
        case round =>
          obtain ⟨j, n, rfl, hj, rfl, rfl, hn, ho, rfl⟩ := hrel
          unfold hugeN at hn
          by_cases hlt : j < T.length
          · have hr := hexV_range (gb T j)
            by_cases hd : 0 ≤ hexV (gb T j) ∧ hexV (gb T j) < ((10 : Nat) : Int)
            · have HN := Lib.hid (cnt_at ho hlt hd)
              obtain ⟨d, hd1⟩ : ∃ d : Nat, hexV (gb T j) = (d : Int) := ⟨(hexV (gb T j)).toNat, by omega⟩
              have HD := Lib.hid hd1
              obtain ⟨hd2, hd3⟩ := hd
              go_wp2_with (go_at_call 43; go_must (go_fit (hex6_any _ _)); rintro e w1 ⟨rfl, rfl⟩)
              all_goals go_roundg (T.length - (j + 1))
              all_goals first
                | (case measure => omega)
                | (case rel => exact ⟨j + 1, min (n * 10 + d) hugeN, rfl, by omega, by go_num, (by unfold hugeN; go_num), Nat.min_le_right _ _, (by have h := HN.out; rw [HD.out] at h; exact h), rfl⟩)
            · have HN := cnt_no ho hlt hd
              subst HN
              go_wp2_with (go_at_call 43; go_must (go_fit (hex6_any _ _)); rintro e w1 ⟨rfl, rfl⟩)
              all_goals go_ret2
              all_goals exact ⟨rfl, rfl⟩
          · obtain rfl : j = T.length := by omega
            have := cnt_end ho
            subst this
            go_wp2
            go_ret2
            exact ⟨rfl, rfl⟩
    · have hl1 : T.length < 2 := by omega
      have hz0 : ((T.length : Int) == 0) = false := by rw [beq_eq_false_iff_ne]; omega
      clear hl
      go_enter Tryd.func31, Tryd.ntmps31
      go_wp2
      all_goals
        go_loopg [5, 6] (T.length) (fun k s5 s6 wr => ∃ j n : Nat, k = T.length - j ∧ j ≤ T.length ∧ s6 = .int .i64 j ∧ s5 = .int .u64 n ∧ n ≤ hugeN ∧ Hid (o = cntGo 10 n (T.drop j)) ∧ w = wr)
        case atStart => exact ⟨0, 0, rfl, Nat.zero_le _, rfl, rfl, Nat.zero_le _, HO, rfl⟩
        case round =>
          obtain ⟨j, n, rfl, hj, rfl, rfl, hn, ho, rfl⟩ := hrel
          unfold hugeN at hn
          by_cases hlt : j < T.length
          · have hr := hexV_range (gb T j)
            by_cases hd : 0 ≤ hexV (gb T j) ∧ hexV (gb T j) < ((10 : Nat) : Int)
            · have HN := Lib.hid (cnt_at ho hlt hd)
              obtain ⟨d, hd1⟩ : ∃ d : Nat, hexV (gb T j) = (d : Int) := ⟨(hexV (gb T j)).toNat, by omega⟩
              have HD := Lib.hid hd1
              obtain ⟨hd2, hd3⟩ := hd
              go_wp2_with (go_at_call 43; go_must (go_fit (hex6_any _ _)); rintro e w1 ⟨rfl, rfl⟩)
              all_goals go_roundg (T.length - (j + 1))
              all_goals first
                | (case measure => omega)
                | (case rel => exact ⟨j + 1, min (n * 10 + d) hugeN, rfl, by omega, by go_num, (by unfold hugeN; go_num), Nat.min_le_right _ _, (by have h := HN.out; rw [HD.out] at h; exact h), rfl⟩)
            · have HN := cnt_no ho hlt hd
              subst HN
              go_wp2_with (go_at_call 43; go_must (go_fit (hex6_any _ _)); rintro e w1 ⟨rfl, rfl⟩)
              all_goals go_ret2
              all_goals exact ⟨rfl, rfl⟩
          · obtain rfl : j = T.length := by omega
            have := cnt_end ho
            subst this
            go_wp2
            go_ret2
            exact ⟨rfl, rfl⟩

/-- The last part, as a cell. -/
theorem pLast_at {s : List UInt8} {n : Nat} {x : List UInt8} (hn : (pParts s).length = n + 1) (hx : (pParts s)[n]? = some x) : pLast s = x := by
  unfold pLast; rw [(last_is hn hx).2]; rfl
theorem cuts_piece {s x : List UInt8} {n : Nat} (hx : (pParts s)[n]? = some x) : x.length ≤ s.length := by
  have h1 : x ∈ pParts s := List.mem_of_getElem? hx
  have h2 : x ∈ cuts 46 s := by
    unfold pParts at h1
    split at h1
    · exact List.dropLast_subset _ h1
    · exact h1
  exact cuts_sum 46 s x h2
theorem Rd.last {w : World} {B : Nat} {A : Option Addr} {L : List (List UInt8)} (h : Rd w B A (strs L)) {k : Nat} {x : List UInt8} (hx : L[k]? = some x) : ∃ b off, A = some ⟨b, off, none⟩ ∧ w.cell? ⟨b, off + k, none⟩ = some (.string (str x)) := by
  obtain ⟨hk, e⟩ := List.getElem?_eq_some_iff.1 hx
  obtain ⟨b', off', y, e', hb, hc, hy⟩ := h.str_at hk
  rw [show L[k]? = some y from hy] at hx
  injection hx with hx
  rw [← hx]; exact ⟨b', off', e', hc⟩
set_option maxRecDepth 100000 in
set_option maxHeartbeats 2000000 in
theorem ends4_any (s : List UInt8) (w : World) (hm : ML w) (hs : s.length ≤ 100000) : Calls Tryd.prog 17 #[.string (str s)] w fun e w' => e = .returned (.bool (pEnds s)) ∧ Below w.heap.size w w' := by
  have hpos := pParts_pos s
  have C1 := Lib.hid (split4_any s w hm (by omega))
  obtain ⟨n, hn⟩ : ∃ n, (pParts s).length = n + 1 := ⟨(pParts s).length - 1, by omega⟩
  obtain ⟨x, hx⟩ : ∃ x, (pParts s)[n]? = some x := ⟨_, List.getElem?_eq_getElem (by omega)⟩
  have hxl := cuts_piece hx
  have HE := Lib.hid (show pEnds s = ((cntGo 10 0 x).isSome && !x.isEmpty || (pNum x).isSome) by unfold pEnds; rw [pLast_at hn hx])
  have HX := Lib.hid hx
  rw [hn] at C1
  have C2 := Lib.hid fun w => count4_any x 10 (by decide) w (by omega)
  have C3 := Lib.hid fun w => number4_any x w (by omega)
  rw [HE.out]
  have hnb : n ≤ 200000 := by
    have := cuts_le 46 s
    have : (pParts s).length ≤ (cuts 46 s).length := by unfold pParts; split; rw [List.length_dropLast]; omega; omega
    omega
  clear hn hx hpos
  have hL := str_toL
  obtain ⟨b1, hb1⟩ : ∃ b1, b1 = (cntGo 10 0 x).isSome := ⟨_, rfl⟩
  obtain ⟨b2, hb2⟩ : ∃ b2, b2 = (pNum x).isSome := ⟨_, rfl⟩
  obtain ⟨b3, hb3⟩ : ∃ b3, b3 = x.isEmpty := ⟨_, rfl⟩
  rw [← hb1] at C2 ⊢
  rw [← hb2] at C3 ⊢
  rw [← hb3]
  have hb3' : x.isEmpty = b3 := hb3.symm
  clear hb1 hb2 hb3 HE
  cases b1 <;> cases b2 <;> cases b3
  all_goals
    go_enter Tryd.func17, Tryd.ntmps17
    go_wp2_with (first
      | (go_at_call 28; go_must (go_fit (C1.out)); rintro e w1 ⟨A1, c1, rfl, hc1, hrl, hb1⟩; obtain ⟨b, off, rfl, hcell⟩ := hrl.last HX.out)
      | (go_at_call 32; go_must (go_fit (C2.out _)); rintro e w2 ⟨rfl, rfl⟩)
      | (go_at_call 29; go_must (go_fit (C3.out _)); rintro e w2 ⟨rfl, rfl⟩))
    all_goals go_ret
    all_goals exact ⟨rfl, hb1⟩
end Go.Proofs.YtaglbcniomcfnaaDoor

