/- The walks of the statements PctBack, PctNest, PctForms. -/
import Derived.Test.YtalpkjdbennicaaLawPct
namespace Go.Proofs.Ytalpkjdbennicaa
set_option linter.all false
open Go.RowKit

/-- What the first j bytes are where plus signs are turned. -/
def plusTo (l : List UInt8) (j : Nat) : List UInt8 := (l.take j).map plus ++ l.drop j
theorem plusTo_len (l : List UInt8) (j : Nat) : (plusTo l j).length = l.length := by
  unfold plusTo; rw [List.length_append, List.length_map, List.length_take, List.length_drop]; omega
theorem plusTo_get {l : List UInt8} {j : Nat} (h : j < l.length) : (bytes (plusTo l j))[j]? = some (.int .u8 ((gb l j).toNat : Int)) := by
  have h1 : (plusTo l j)[j]? = some (gb l j) := by
    unfold plusTo
    rw [List.getElem?_append_right (by simp; omega), List.length_map, List.length_take, Nat.min_eq_left (by omega), Nat.sub_self, List.getElem?_drop, Nat.add_zero]
    exact gb_some h
  unfold bytes
  rw [List.getElem?_map, h1]; rfl
theorem plusTo_succ {l : List UInt8} {j : Nat} (h : j < l.length) : plusTo l (j + 1) = (l.take j).map plus ++ plus (gb l j) :: l.drop (j + 1) := by
  unfold plusTo
  have e : l.take (j + 1) = l.take j ++ [gb l j] := by
    rw [take_snoc' l j h]; congr 2
    have := gb_some h
    rw [List.getElem?_eq_getElem h] at this
    exact Option.some.inj this
  rw [e]; simp
theorem plusTo_drop {l : List UInt8} {j : Nat} (h : j < l.length) : plusTo l j = (l.take j).map plus ++ gb l j :: l.drop (j + 1) := by
  unfold plusTo
  congr 1
  rw [List.drop_eq_getElem_cons h]; congr 1
  have := gb_some h
  rw [List.getElem?_eq_getElem h] at this
  exact Option.some.inj this
theorem plusTo_same {l : List UInt8} {j : Nat} (h : j < l.length) (hx : gb l j ≠ 43) : plusTo l (j + 1) = plusTo l j := by
  rw [plusTo_succ h, plusTo_drop h]
  unfold plus; rw [if_neg hx]
theorem plusTo_set {l : List UInt8} {j : Nat} (h : j < l.length) (hx : gb l j = 43) : bytes (plusTo l (j + 1)) = (bytes (plusTo l j)).set j (.int .u8 32) := by
  rw [plusTo_succ h, plusTo_drop h]
  have hp : plus (gb l j) = 32 := by unfold plus; rw [if_pos hx]
  rw [hp]
  unfold bytes
  rw [List.map_append, List.map_append, List.map_cons, List.map_cons]
  rw [List.set_append_right _ _ (by simp; omega)]
  have : j - (List.map (fun c : UInt8 => Value.int .u8 (c.toNat : Int)) (List.map plus (List.take j l))).length = 0 := by simp; omega
  rw [this]; rfl
theorem plusTo_all (l : List UInt8) : plusTo l l.length = l.map plus := by unfold plusTo; simp


set_option maxRecDepth 100000 in
set_option maxHeartbeats 8000000 in
theorem pctBack_walk (s : UInt8) (A : Option Addr) (k : Nat) (b : List UInt8) (w : World) (hr : Rd w w.heap.size A (bytes b)) (hbm : b.length ≤ 9223372036854775807) :
    Calls Try.prog 14 #[.int .u8 (s.toNat : Int), .slice A b.length k] w fun e w' => e = .returned (.bool true) ∧ Below w.heap.size w w' := by
  by_cases hb60 : (b.length : Int) ≤ 60
  · skip
    go_enter Try.func14, Try.ntmps14
    go_wp2_with (go_at_call 36; go_must (go_fit (begun3_any w)); rintro e w1 ⟨rfl, hb1⟩; have hr1 := hr.next hb1)
    go_loopg [5] (b.length) (fun k i wr => ∃ j : Nat, k = b.length - j ∧ j ≤ b.length ∧ i = .int .i64 j ∧ Hid (∀ k, k < j → gb b k ≠ 37) ∧ w1 = wr)
    case atStart => exact ⟨0, rfl, Nat.zero_le _, rfl, (fun k hk => by omega), rfl⟩
    case round =>
      obtain ⟨j, rfl, hj, rfl, hno, rfl⟩ := hrel
      by_cases hlt : j < b.length
      · obtain ⟨bk, off, x, rfl, hbk, hc, hx⟩ := hr1.byte_at hlt
        have hlt1 : (j : Int) < (b.length : Int) := by omega
        have hj0 : (0 : Int) ≤ (j : Int) := by omega
        by_cases he : x = 37
        · have hb : ((x.toNat : Int) == 37) = true := by rw [he]; rfl
          clear he
          go_wp2
          go_ret
          exact ⟨rfl, hb1⟩
        · have hb : ((x.toNat : Int) == 37) = false := by
            rw [beq_eq_false_iff_ne]; intro e; exact he (byte_ext (by show x.toNat = 37; omega))
          have HE := Lib.hid he
          clear he
          go_wp2
          go_roundg (b.length - (j + 1))
          case measure => omega
          case rel =>
            refine ⟨j + 1, rfl, by omega, by go_num, fun k hk => ?_, rfl⟩
            by_cases e : k = j
            · rw [e, gb_of hx.out]; exact HE.out
            · exact hno.out k (by omega)
      · obtain rfl : j = b.length := by omega
        have hall : ∀ c ∈ b, c ≠ 37 := by
          intro c hc e
          obtain ⟨i, hi⟩ := List.getElem?_of_mem hc
          have hl : i < b.length := (List.getElem?_eq_some_iff.1 hi).1
          exact hno.out i hl (by rw [gb_of hi]; exact e)
        obtain ⟨m, hm7, hm⟩ : ∃ m : Nat, m < 7 ∧ (s.toNat : Int) % 7 = (m : Int) := ⟨s.toNat % 7, by omega, by omega⟩
        have hlen := pEnc_le m b
        have hfin : ((str b).toList == (str b).toList) = true := by simp
        by_cases h6 : m = 6
        · subst h6
          have hd := pDec_form b
          obtain ⟨T, hT⟩ : ∃ T, T = pEnc (6 : Nat) b := ⟨_, rfl⟩
          have CE := Lib.hid fun w (h : Rd w w.heap.size A (bytes b)) => encode_pct (6 : Nat) A k b w h (by omega)
          rw [← hT] at CE
          have hd : pDec (T.map plus) = b := by rw [hT]; exact hd
          have CD := Lib.hid fun w => decode_pct (T.map plus) w (by rw [List.length_map, hT]; omega)
          rw [hd] at CD
          rw [← hT] at hlen
          clear hT hd hall
          go_wp2_with (first
            | (go_at_call 39; go_must (go_fit (CE.out w1 hr1)); rintro e w2 ⟨rfl, hb2⟩)
            | (refine wpList_bytesL rfl _ _ _ _ rfl Try.underlying9 Try.underlying30 Try.underlying5 T rfl (by omega) ?_; intro c3 w3 hc3 hm3 hrow3 hr3 hb3 hz3))
          have hq2 := hb2.size
          have hq3 := hb3.size
          go_loopg [8] (T.length) (fun k i wr => ∃ j : Nat, k = T.length - j ∧ j ≤ T.length ∧ i = .int .i64 j ∧ Row wr w2.heap.size (bytes (plusTo T j)) ∧ Below w2.heap.size w3 wr)
          case atStart => exact ⟨0, rfl, Nat.zero_le _, rfl, by simpa [plusTo] using hrow3, Below.refl _ _⟩
          case round =>
            obtain ⟨j, rfl, hj, rfl, hrow, hbel⟩ := hrel
            by_cases hlt : j < T.length
            · have hlt1 : (j : Int) < (T.length : Int) := by omega
              have hj0 : (0 : Int) ≤ (j : Int) := by omega
              have hcell := hrow.1 j _ (plusTo_get hlt)
              have hfree := hrow.2.1 j (by rw [bytes_len, plusTo_len]; exact hlt)
              by_cases hx : gb T j = 43
              · have hb : (((gb T j).toNat : Int) == 43) = true := by rw [hx]; rfl
                have HP := Lib.hid (plusTo_set hlt hx)
                clear hx
                go_wp2
                go_roundg (T.length - (j + 1))
                case measure => omega
                case rel => exact ⟨j + 1, rfl, by omega, by go_num, by rw [HP.out]; exact hrow.set (by rw [bytes_len, plusTo_len]; exact hlt) _, hbel.setCell (Nat.le_refl _) _⟩
              · have hb : (((gb T j).toNat : Int) == 43) = false := by
                  rw [beq_eq_false_iff_ne]; intro e; exact hx (byte_ext (by show (gb T j).toNat = 43; omega))
                have HP := Lib.hid (plusTo_same hlt hx)
                clear hx
                go_wp2
                go_roundg (T.length - (j + 1))
                case measure => omega
                case rel => exact ⟨j + 1, rfl, by omega, by go_num, by rw [HP.out]; exact hrow, hbel⟩
            · obtain rfl : j = T.length := by omega
              go_wp2
              rw [plusTo_all] at hrow
              have hbz : Below w2.heap.size w2 wr := hb3.trans hbel
              have hT : Rd wr wr.heap.size (some ⟨w2.heap.size, 0, none⟩) (bytes (T.map plus)) := hrow.rd hrow.2.2
              have hrb := (hr1.next hb2).next hbz
              have hbw := bnext (bnext hb1 hb2) hbz
              have hml : (T.map plus).length = T.length := List.length_map ..
              have HML := Lib.hid hml
              clear hml
              have hs7 := str_atM (n := T.length) (c := c3) (w := wr.drew) (Rd.drew hT) HML.out.symm
              have hs8 := str_atM (c := k) (w := wr.drew) (Rd.drew hrb) rfl
              go_region_with (go_at_call 41; refine (CD.out wr.drew).mono ?_; rintro e w5 ⟨v5, rfl, hown5, hb5⟩; rw [bytes_len] at hown5; obtain ⟨A5, c5, rfl, hc5, hm5, hx5⟩ := own_rd hown5; have hs5 := str_atM (c := c5) hx5 rfl; have hs6 := str_atM (c := k) (Rd.next (w := wr.drew) hrb hb5) rfl)
              all_goals
                go_wp2
                go_ret
                exact ⟨ret_bool (by simp), bnext (Below.drew hbw) hb5⟩
        · have hd := pDec_enc (s := m) (by omega) b hall
          obtain ⟨T, hT⟩ : ∃ T, T = pEnc m b := ⟨_, rfl⟩
          have CE := Lib.hid fun w (h : Rd w w.heap.size A (bytes b)) => encode_pct m A k b w h (by omega)
          rw [← hT] at CE
          rw [← hT] at hd
          have CD := Lib.hid fun w => decode_pct T w (by rw [hT]; omega)
          rw [hd] at CD
          rw [← hT] at hlen
          have hk6 : ((m : Int) == 6) = false := by rw [beq_eq_false_iff_ne]; omega
          clear hT hd hall h6
          go_wp2_with (first
            | (go_at_call 39; go_must (go_fit (CE.out w1 hr1)); rintro e w2 ⟨rfl, hb2⟩)
            | (refine wpList_bytesL rfl _ _ _ _ rfl Try.underlying9 Try.underlying30 Try.underlying5 T rfl (by omega) ?_; intro c3 wr hc3 hm3 hrow3 hT hb3 hz3))
          refine wp_loop_rounds 1 ?_
          rw [rounds_succ]
          have hrb := (hr1.next hb2).next hb3
          have hbw := bnext (bnext hb1 hb2) hb3
          by_cases h0 : 0 < T.length
          · go_wp2
            have hs7 := str_atM (c := c3) (w := wr.drew) (Rd.drew hT) rfl
            have hs8 := str_atM (c := k) (w := wr.drew) (Rd.drew hrb) rfl
            go_region_with (go_at_call 41; refine (CD.out wr.drew).mono ?_; rintro e w5 ⟨v5, rfl, hown5, hb5⟩; rw [bytes_len] at hown5; obtain ⟨A5, c5, rfl, hc5, hm5, hx5⟩ := own_rd hown5; have hs5 := str_atM (c := c5) hx5 rfl; have hs6 := str_atM (c := k) (Rd.next (w := wr.drew) hrb hb5) rfl)
            all_goals
              go_wp2
              go_ret
              exact ⟨ret_bool (by simp), bnext (Below.drew hbw) hb5⟩
          · go_wp2
            have hs7 := str_atM (c := c3) (w := wr.drew) (Rd.drew hT) rfl
            have hs8 := str_atM (c := k) (w := wr.drew) (Rd.drew hrb) rfl
            go_region_with (go_at_call 41; refine (CD.out wr.drew).mono ?_; rintro e w5 ⟨v5, rfl, hown5, hb5⟩; rw [bytes_len] at hown5; obtain ⟨A5, c5, rfl, hc5, hm5, hx5⟩ := own_rd hown5; have hs5 := str_atM (c := c5) hx5 rfl; have hs6 := str_atM (c := k) (Rd.next (w := wr.drew) hrb hb5) rfl)
            all_goals
              go_wp2
              go_ret
              exact ⟨ret_bool (by simp), bnext (Below.drew hbw) hb5⟩
  · have hb60' : 60 < (b.length : Int) := by omega
    clear hb60
    go_enter Try.func14, Try.ntmps14
    go_wp2_with (go_at_call 36; go_must (go_fit (begun3_any w)); rintro e w1 ⟨rfl, hb1⟩)
    go_ret
    exact ⟨rfl, hb1⟩
end Go.Proofs.Ytalpkjdbennicaa
