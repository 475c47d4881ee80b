/- The walks of the reference's Ends, and of ip4.Show. -/
import Derived.Test.YtaglbcniomcfnaaDoorIpG
import Derived.Lib.LaidTab
namespace Go.Proofs.YtaglbcniomcfnaaDoor
set_option linter.all false
open Go.RowKit

/-- The library's table of powers of ten lies as it was laid. -/
def TB (w : World) : Prop := Lib.TabIs Tryd.prog w "internal/strconv.uint64pow10" .u64 Lib.pow10Tab
theorem TB.next {w w' : World} (h : TB w) (hb : Below w.heap.size w w') : TB w' := by
  unfold TB Lib.TabIs World.var? at *
  obtain ⟨g, hg, hm⟩ := Option.bind_eq_some_iff.1 h
  have hlt : g < w.heap.size := by
    rcases Nat.lt_or_ge g w.heap.size with h1 | h1
    · exact h1
    · rw [Array.getElem?_eq_none h1] at hm; cases hm
  refine Option.bind_eq_some_iff.2 ⟨g, hg, ?_⟩
  rw [hb.block g hlt]; exact hm

theorem tens_next {x : List UInt8} {j : Nat} (h : j < x.length) : allTen (x.take (j + 1)) = (allTen (x.take j) && decide (48 ≤ (gb x j).toNat ∧ (gb x j).toNat ≤ 57)) := by
  obtain ⟨hj, e⟩ := List.getElem?_eq_some_iff.1 (gb_some h)
  unfold allTen
  rw [take_snoc' x j hj, e, List.all_append]; simp
theorem hexX_is (x : List UInt8) : rEnds.hexX x = decide (2 ≤ x.length ∧ ((gb x 1).toNat = 120 ∨ (gb x 1).toNat = 88)) := by
  match x with
  | [] => rfl
  | [a] => unfold rEnds.hexX; simp
  | a :: c :: t =>
    rw [show gb (a :: c :: t) 1 = c from rfl]
    show (c == 120 || c == 88) = _
    rw [Bool.eq_iff_iff, Bool.or_eq_true, beq_iff_eq, beq_iff_eq, decide_eq_true_iff]
    constructor
    · rintro (rfl | rfl)
      · exact ⟨by simp, .inl rfl⟩
      · exact ⟨by simp, .inr rfl⟩
    · rintro ⟨_, h | h⟩
      · exact .inl (byte_ext h)
      · exact .inr (byte_ext h)

set_option maxRecDepth 100000 in
set_option maxHeartbeats 4000000 in
theorem rends6_any (s : List UInt8) (w : World) (hs : s.length ≤ 100000) : Calls Tryd.prog 18 #[.string (str s)] w fun e w' => e = .returned (.bool (pEnds s)) ∧ Below w.heap.size w w' := by
  rw [← rEnds_eq]
  have hpos := pParts_pos s
  have C1 := Lib.hid (parts6_any s w (by omega))
  obtain ⟨n, hn⟩ : ∃ n, (pParts s).length = n + 1 := ⟨(pParts s).length - 1, by omega⟩
  obtain ⟨x, hx⟩ : ∃ x, (pParts s)[n]? = some x := ⟨_, List.getElem?_eq_getElem (by omega)⟩
  have hxl := cuts_piece hx
  have HE := Lib.hid (show rEnds s = (!x.isEmpty && allTen x || (pNum x).isSome && rEnds.hexX x) by unfold rEnds; rw [pLast_at hn hx])
  have HX := Lib.hid hx
  rw [hn] at C1
  have C3 := Lib.hid fun w => rnumber6_any x w (by omega)
  have hnb : n ≤ 200000 := by
    have := cuts_le 46 s
    have : (pParts s).length ≤ (cuts 46 s).length := by unfold pParts; split; rw [List.length_dropLast]; omega; omega
    omega
  rw [HE.out]
  clear hn hx hpos HE
  have hsz := str_size x
  have hgt := str_get x
  have hX := Lib.hid (hexX_is x)
  obtain ⟨o2, ho2⟩ : ∃ o2, o2 = (pNum x).isSome := ⟨_, rfl⟩
  obtain ⟨o3, ho3⟩ : ∃ o3, o3 = (!x.isEmpty && allTen x) := ⟨_, rfl⟩
  obtain ⟨o4, ho4⟩ : ∃ o4, o4 = rEnds.hexX x := ⟨_, rfl⟩
  rw [← ho4] at hX
  rw [← ho2] at C3
  rw [← ho2, ← ho3, ← ho4]
  have HO3 := Lib.hid ho3
  clear ho2 ho3 ho4
  go_enter Tryd.func18, Tryd.ntmps18
  go_wp2_with (go_at_call 30; go_must (go_fit (C1.out)); rintro e w1 ⟨A1, c1, rfl, hc1, hrl, hb1⟩; obtain ⟨b, off, rfl, hcell⟩ := hrl.last HX.out)
  go_loopg [5, 6] (x.length) (fun k s4 s5 wr => ∃ (j : Nat) (bb : Bool), k = x.length - j ∧ j ≤ x.length ∧ s5 = .int .i64 j ∧ s4 = .bool bb ∧ Hid (bb = (!x.isEmpty && allTen (x.take j))) ∧ w1 = wr)
  case atStart =>
    refine ⟨0, _, rfl, Nat.zero_le _, rfl, rfl, ?_, rfl⟩
    show _ = _
    rw [List.take_zero]
    cases x with
    | nil => rfl
    | cons a t => simp [allTen]; try omega
  case round =>
    obtain ⟨j, bb, rfl, hj, rfl, rfl, hbb, rfl⟩ := hrel
    by_cases hlt : j < x.length
    · have hnx := tens_next hlt
      have hlt1 : (j : Int) < (x.length : Int) := by omega
      have hj0 : (0 : Int) ≤ (j : Int) := by omega
      cases bb with
      | false =>
        have HN := Lib.hid (show false = (!x.isEmpty && allTen (x.take (j + 1))) by rw [hnx, ← Bool.and_assoc, ← hbb.out]; rfl)
        clear hnx
        go_wp2
        go_roundg (x.length - (j + 1))
        case measure => omega
        case rel => exact ⟨j + 1, false, rfl, by omega, by go_num, rfl, HN.out, rfl⟩
      | true =>
        by_cases h1 : 48 ≤ (gb x j).toNat
        · by_cases h2 : (gb x j).toNat ≤ 57
          · have HN := Lib.hid (show true = (!x.isEmpty && allTen (x.take (j + 1))) by rw [hnx, ← Bool.and_assoc, ← hbb.out, decide_eq_true ⟨h1, h2⟩]; rfl)
            have h1' : (48 : Int) ≤ ((gb x j).toNat : Int) := by omega
            have h2' : ((gb x j).toNat : Int) ≤ 57 := by omega
            clear hnx h1 h2
            go_wp2
            go_roundg (x.length - (j + 1))
            case measure => omega
            case rel => exact ⟨j + 1, true, rfl, by omega, by go_num, (by first | rfl | (congr 1; exact decide_eq_true (by omega))), HN.out, rfl⟩
          · have HN := Lib.hid (show false = (!x.isEmpty && allTen (x.take (j + 1))) by rw [hnx, ← Bool.and_assoc, ← hbb.out, decide_eq_false (fun h => h2 h.2)]; rfl)
            have h1' : (48 : Int) ≤ ((gb x j).toNat : Int) := by omega
            have h2' : (57 : Int) < ((gb x j).toNat : Int) := by omega
            clear hnx h1 h2
            go_wp2
            go_roundg (x.length - (j + 1))
            case measure => omega
            case rel => exact ⟨j + 1, false, rfl, by omega, by go_num, (by first | rfl | (congr 1; exact decide_eq_false (by omega))), HN.out, rfl⟩
        · have HN := Lib.hid (show false = (!x.isEmpty && allTen (x.take (j + 1))) by rw [hnx, ← Bool.and_assoc, ← hbb.out, decide_eq_false (fun h => h1 h.1)]; rfl)
          have h1' : ((gb x j).toNat : Int) < 48 := by omega
          clear hnx h1
          go_wp2
          go_roundg (x.length - (j + 1))
          case measure => omega
          case rel => exact ⟨j + 1, false, rfl, by omega, by go_num, rfl, HN.out, rfl⟩
    · obtain rfl : j = x.length := by omega
      have hb := hbb.out
      rw [List.take_length, ← HO3.out] at hb
      subst hb
      clear hbb
      have hlx := str_size x
      cases bb with
      | true =>
        go_wp2
        all_goals go_ret
        all_goals exact ⟨rfl, hb1⟩
      | false =>
        have fin : ∀ b : Bool, (false || (o2 && o4)) = b → Ending.returned (.bool b) = .returned (.bool (false || (o2 && o4))) := fun b h => by rw [h]
        by_cases h2 : 2 ≤ x.length
        · by_cases h120 : (gb x 1).toNat = 120
          · obtain rfl : o4 = true := by rw [hX.out]; exact decide_eq_true ⟨h2, .inl h120⟩
            have h120' : ((gb x 1).toNat : Int) = 120 := by omega
            clear h120
            cases o2
            all_goals go_wp2_with (go_at_call 31; go_must (go_fit (C3.out _)); rintro e w2 ⟨rfl, rfl⟩)
            all_goals go_ret
            all_goals exact ⟨rfl, hb1⟩
          · have h120' : (((gb x 1).toNat : Int) == 120) = false := by rw [beq_eq_false_iff_ne]; omega
            by_cases h88 : (gb x 1).toNat = 88
            · obtain rfl : o4 = true := by rw [hX.out]; exact decide_eq_true ⟨h2, .inr h88⟩
              have h88' : ((gb x 1).toNat : Int) = 88 := by omega
              clear h120 h88
              cases o2
              all_goals go_wp2_with (go_at_call 31; go_must (go_fit (C3.out _)); rintro e w2 ⟨rfl, rfl⟩)
              all_goals go_ret
              all_goals exact ⟨rfl, hb1⟩
            · obtain rfl : o4 = false := by rw [hX.out]; exact decide_eq_false (fun h => h.2.elim h120 h88)
              have h88' : (((gb x 1).toNat : Int) == 88) = false := by rw [beq_eq_false_iff_ne]; omega
              clear h120 h88
              cases o2
              all_goals go_wp2_with (go_at_call 31; go_must (go_fit (C3.out _)); rintro e w2 ⟨rfl, rfl⟩)
              all_goals go_ret
              all_goals exact ⟨rfl, hb1⟩
        · obtain rfl : o4 = false := by rw [hX.out]; exact decide_eq_false (fun h => h2 h.1)
          cases o2
          all_goals go_wp2_with (go_at_call 31; go_must (go_fit (C3.out _)); rintro e w2 ⟨rfl, rfl⟩)
          all_goals go_ret
          all_goals exact ⟨rfl, hb1⟩
end Go.Proofs.YtaglbcniomcfnaaDoor

