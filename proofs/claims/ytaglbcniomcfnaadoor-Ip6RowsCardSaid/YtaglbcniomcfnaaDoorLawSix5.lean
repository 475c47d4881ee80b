/- The walk of the statement Ip6Rows. -/
import Derived.Test.YtaglbcniomcfnaaDoorLawSix
import Derived.Test.YtaglbcniomcfnaaDoorSixR
namespace Go.Proofs.YtaglbcniomcfnaaDoor
set_option linter.all false
open Go.RowKit

theorem gapRow_len {a : List Nat} (h16 : ∀ x ∈ a, x < 65536) (h8 : a.length = 8) (g n i : Nat) : (gapRow (digs 16) a g n i).length ≤ 90 := by
  have h1 := hexs_len (a.take i) (fun x hx => h16 x (List.mem_of_mem_take hx))
  have h2 := hexs_len (a.take g) (fun x hx => h16 x (List.mem_of_mem_take hx))
  have h3 := hexs_len ((a.take i).drop (g + n)) (fun x hx => h16 x (List.mem_of_mem_take (List.mem_of_mem_drop hx)))
  rw [List.length_take] at h1 h2
  rw [List.length_drop, List.length_take] at h3
  unfold gapRow
  split
  · omega
  · rw [List.length_append, List.length_cons, List.length_cons]; omega
theorem at_yes {a : List Nat} {i n d : Nat} {f : Int} (h : rAt (rowI a i) = f ∧ rLong (rowI a i) = n) (hz : zrun (a.drop i) = d) (hn : n < d) : rAt (rowI a (i + 1)) = (i : Int) ∧ rLong (rowI a (i + 1)) = d := by
  have := rAt_hit (a := a) (i := i) (by rw [h.2, hz]; exact hn)
  rw [hz] at this
  exact this
theorem at_no {a : List Nat} {i n d : Nat} {f : Int} (h : rAt (rowI a i) = f ∧ rLong (rowI a i) = n) (hz : zrun (a.drop i) = d) (hn : ¬ n < d) : rAt (rowI a (i + 1)) = f ∧ rLong (rowI a (i + 1)) = n := by
  have := rAt_miss (a := a) (i := i) (by rw [h.2, hz]; exact hn)
  rw [h.1, h.2] at this
  exact this
theorem bitM_word (m : UInt8) {i : Nat} (h : i < 8) : bitM m.toNat i < 65536 := Nat.lt_trans (bitM_lt _ _) (by decide)
theorem bitM_walk (m : UInt8) (i : Nat) : bits .and .u8 ((m.toNat : Int) / 2 ^ i) 1 = ((bitM m.toNat i : Nat) : Int) := by
  have hm := byte_lt m
  have e : (m.toNat : Int) / 2 ^ i = ((m.toNat / 2 ^ i : Nat) : Int) := by push_cast; rfl
  have hq : m.toNat / 2 ^ i ≤ m.toNat := Nat.div_le_self _ _
  rw [e, show (1 : Int) = ((1 : Nat) : Int) from rfl, u8_and_nat _ _ (by omega) (by decide), Nat.and_one_is_mod]; rfl
set_option maxRecDepth 100000 in
set_option maxHeartbeats 16000000 in
theorem ip6Rows_walk (m : UInt8) (w : World) (hq : L8 w) : Calls Tryd.prog 11 #[.int .u8 (m.toNat : Int)] w fun e w' => e = .returned (.bool true) ∧ Below w.heap.size w w' := by
  go_enter Tryd.func11, Tryd.ntmps11
  go_wp2_with (go_at_call 23; go_must (go_fit (begun8_any w hq)); rintro e w1 ⟨rfl, hb1⟩; have hq1 := hq.next hb1)
  have hb2 := bnew hb1 (.cells #[.int .u16 0, .int .u16 0, .int .u16 0, .int .u16 0, .int .u16 0, .int .u16 0, .int .u16 0, .int .u16 0] 39)
  have hR1 : Row (w1.alloc (.cells #[.int .u16 0, .int .u16 0, .int .u16 0, .int .u16 0, .int .u16 0, .int .u16 0, .int .u16 0, .int .u16 0] 39)) w1.heap.size (u16s (bitsTo m.toNat 0)) := Row.made w1 #[.int .u16 0, .int .u16 0, .int .u16 0, .int .u16 0, .int .u16 0, .int .u16 0, .int .u16 0, .int .u16 0] 39
  have hmb := byte_lt m
  go_loopg [4] 8 (fun k s4 wr => ∃ i : Nat, k = 8 - i ∧ i ≤ 8 ∧ s4 = .int .i64 (i : Int) ∧ Row wr w1.heap.size (u16s (bitsTo m.toNat i)) ∧ Below w.heap.size w wr)
  case atStart => exact ⟨0, rfl, by omega, rfl, hR1, hb2⟩
  case round =>
    clear hR1 hb2
    obtain ⟨i, rfl, hi, rfl, hR, hbel⟩ := hrel
    by_cases hlt : i < 8
    · have hi8 : (i : Int) < 8 := by omega
      have hi0 : (0 : Int) ≤ (i : Int) := by omega
      have hS := hR.set (j := i) (by rw [u16s_len, bitsTo_len hi]; exact hlt) (.int .u16 ((bitM m.toNat i : Nat) : Int))
      have e : (u16s (bitsTo m.toNat i)).set i (.int .u16 ((bitM m.toNat i : Nat) : Int)) = u16s (bitsTo m.toNat (i + 1)) := by
        rw [← bitsTo_set hlt]; unfold u16s; rw [List.map_set]
      rw [e] at hS
      have HS := Lib.hid hS
      have hbS := hbel.setCell (p := ⟨w1.heap.size, i, none⟩) hb1.size (.int .u16 ((bitM m.toNat i : Nat) : Int))
      have hcell := hR.1 i _ (List.getElem?_eq_getElem (by rw [u16s_len, bitsTo_len hi]; exact hlt))
      have hfree := hR.2.1 i (by rw [u16s_len, bitsTo_len hi]; exact hlt)
      have hv := bitM_walk m i
      have hv2 : IntKind.u16.wrap ((bitM m.toNat i : Nat) : Int) = ((bitM m.toNat i : Nat) : Int) := IntWalk.u16_in _ (by have := bitM_word m hlt; omega)
      clear hS e
      go_wp2
      go_roundg (8 - (i + 1))
      case measure => omega
      case rel => exact ⟨i + 1, rfl, by omega, by go_num, HS.out, hbS⟩
    · obtain rfl : i = 8 := by omega
      rw [bitsTo_end] at hR
      obtain ⟨a, ha⟩ : ∃ a, a = bitsM m.toNat := ⟨_, rfl⟩
      have hl8 : a.length = 8 := by rw [ha]; exact bitsM_len _
      have h2 : ∀ x ∈ a, x < 2 := fun x hx => bitsM_lt (by rw [ha] at hx; exact hx)
      have h16 : ∀ x ∈ a, x < 65536 := fun x hx => Nat.lt_trans (h2 x hx) (by decide)
      rw [← ha] at hR
      clear ha hlt
      go_wp2
      have hqr := hq.next hbel
      have H2 := Lib.hid h2
      have H16 := Lib.hid h16
      clear h2 h16
      go_loopg [5, 6, 7] 8 (fun k s5 s6 s7 wx => ∃ (i n : Nat) (f : Int), k = 8 - i ∧ i ≤ 8 ∧ s7 = .int .i64 (i : Int) ∧ s5 = .int .i64 f ∧ s6 = .int .i64 (n : Int) ∧ n ≤ 8 ∧ Hid (rAt (rowI a i) = f ∧ rLong (rowI a i) = n) ∧ wr = wx)
      case atStart => exact ⟨0, 1, -1, rfl, by omega, rfl, rfl, rfl, by omega, ⟨rfl, rfl⟩, rfl⟩
      case round =>
        obtain ⟨i, n, f, rfl, hi, rfl, rfl, rfl, hn, hrow, rfl⟩ := hrel
        by_cases hlt : i < 8
        · have hi8 : (i : Int) < 8 := by omega
          go_wp2
          go_loopg [8] (8 - i) (fun k s8 wx => ∃ j : Nat, k = 8 - j ∧ j ≤ 8 ∧ i ≤ j ∧ s8 = .int .i64 (j : Int) ∧ Hid (zrun (a.drop i) = (j - i) + zrun (a.drop j)) ∧ wr = wx)
          case atStart => exact ⟨i, rfl, by omega, Nat.le_refl _, rfl, by show _ = i - i + _; omega, rfl⟩
          case round =>
            obtain ⟨j, rfl, hj, hij, rfl, hz, rfl⟩ := hrel
            by_cases hj8 : j < 8
            · obtain ⟨x, hx⟩ : ∃ x, a[j]? = some x := ⟨_, List.getElem?_eq_getElem (by omega)⟩
              have hc := hR.1 j _ (u16s_get hx)
              have hj8' : (j : Int) < 8 := by omega
              have hj0 : (0 : Int) ≤ (j : Int) := by omega
              by_cases hx0 : x = 0
              · subst hx0
                have HZ := Lib.hid (show zrun (a.drop i) = (j + 1 - i) + zrun (a.drop (j + 1)) by rw [hz.out, zrun_hit hx]; omega)
                clear hx
                go_wp2
                go_roundg (8 - (j + 1))
                case measure => omega
                case rel => exact ⟨j + 1, rfl, by omega, by omega, by go_num, HZ.out, rfl⟩
              · have hxb : ((x : Int) == 0) = false := by rw [beq_eq_false_iff_ne]; omega
                have HZ := Lib.hid (show zrun (a.drop i) = j - i by rw [hz.out, zrun_miss hx hx0]; omega)
                clear hx hx0
                obtain ⟨d, hd⟩ : ∃ d, d = j - i := ⟨_, rfl⟩
                have hsub : ((j : Nat) : Int) - (i : Int) = (d : Int) := by omega
                have hdw : IntKind.i64.wrap (d : Int) = (d : Int) := IntWalk.i64_in _ (by omega)
                rw [← hd] at HZ
                have hd8 : d ≤ 8 := by omega
                clear hd
                by_cases hdn : n < d
                · have HR := Lib.hid (at_yes hrow.out HZ.out hdn)
                  have hdnI : (n : Int) < (d : Int) := by omega
                  go_wp2
                  go_roundg (8 - (i + 1))
                  case measure => omega
                  case rel => exact ⟨i + 1, d, _, rfl, by omega, by go_num, rfl, by go_num, hd8, HR.out, rfl⟩
                · have HR := Lib.hid (at_no hrow.out HZ.out hdn)
                  have hdnI : ¬ (n : Int) < (d : Int) := by omega
                  go_wp2
                  go_roundg (8 - (i + 1))
                  case measure => omega
                  case rel => exact ⟨i + 1, n, f, rfl, by omega, by go_num, rfl, rfl, hn, HR.out, rfl⟩
            · obtain rfl : j = 8 := by omega
              have HZ := Lib.hid (show zrun (a.drop i) = 8 - i by rw [hz.out, zrun_end (by omega)]; omega)
              obtain ⟨d, hd⟩ : ∃ d, d = 8 - i := ⟨_, rfl⟩
              have hsub : ((8 : Nat) : Int) - (i : Int) = (d : Int) := by omega
              have hdw : IntKind.i64.wrap (d : Int) = (d : Int) := IntWalk.i64_in _ (by omega)
              rw [← hd] at HZ
              have hd8 : d ≤ 8 := by omega
              clear hd
              by_cases hdn : n < d
              · have HR := Lib.hid (at_yes hrow.out HZ.out hdn)
                have hdnI : (n : Int) < (d : Int) := by omega
                go_wp2
                go_roundg (8 - (i + 1))
                case measure => omega
                case rel => exact ⟨i + 1, d, _, rfl, by omega, by go_num, rfl, by go_num, hd8, HR.out, rfl⟩
              · have HR := Lib.hid (at_no hrow.out HZ.out hdn)
                have hdnI : ¬ (n : Int) < (d : Int) := by omega
                go_wp2
                go_roundg (8 - (i + 1))
                case measure => omega
                case rel => exact ⟨i + 1, n, f, rfl, by omega, by go_num, rfl, rfl, hn, HR.out, rfl⟩
        · obtain rfl : i = 8 := by omega
          have HG := Lib.hid fun (i : Nat) (h : i < 8) => (show (i : Int) = f ↔ i = rowG a by have := gapG_at (s := rowI a 8) h; rw [hrow.out.1] at this; exact this)
          have HNN := Lib.hid (show rowN a = n from hrow.out.2)
          clear hrow hlt
          have HZ := Lib.hid (rowT_zero (a := a) hl8)
          have hng := rowN_pos (a := a) hl8
          have hgl := rowG_le (a := a) hl8
          have hgi := Lib.hid (rowG_in (a := a) hl8)
          have HGap := Lib.hid (rowT_gap (a := a) hl8)
          have HCs := Lib.hid fun (i x : Nat) (hx : a[i]? = some x) h1 h2 => rowT_cases hl8 H16.out hx (i := i) h1 h2
          have HL := Lib.hid fun i => (show (rowT a i).length ≤ 90 from gapRow_len H16.out hl8 _ _ i)
          have HE := Lib.hid (rowT_end (a := a) hl8)
          rw [HNN.out] at hng hgi HGap HCs
          obtain ⟨G, hG⟩ : ∃ G, G = rowG a := ⟨_, rfl⟩
          rw [← hG] at HG hgl hgi HGap HCs
          obtain ⟨W, hW⟩ : ∃ W, W = rowT a := ⟨_, rfl⟩
          rw [← hW] at HGap HCs HL HE HZ
          clear hG hW HNN
          go_wp2
          go_loopg [9, 10] 8 (fun k s9 s10 wx => ∃ i : Nat, k = 8 - i ∧ i ≤ 8 ∧ s9 = .string (str (W i)) ∧ s10 = .int .i64 (i : Int) ∧ (i ≤ G ∨ G + n ≤ i) ∧ Row wx w1.heap.size (u16s a) ∧ Below w.heap.size w wx)
          case atStart => exact ⟨0, rfl, by omega, by rw [HZ.out]; rfl, rfl, .inl (Nat.zero_le _), hR, hbel⟩
          case round =>
            clear hR hbel hqr
            obtain ⟨i, rfl, hi, rfl, rfl, hin, hR, hbel⟩ := hrel
            have hqr := hq.next hbel
            have hq0 := hbel.size
            by_cases hlt : i < 8
            · have hi8 : (i : Int) < 8 := by omega
              have hi0 : (0 : Int) ≤ (i : Int) := by omega
              have hWl := HL.out i
              obtain ⟨S, hS⟩ : ∃ S, S = W i := ⟨_, rfl⟩
              rw [← hS] at hWl ⊢
              have ySS := str_size S
              by_cases hg : i = G
              · have hfi := (HG.out i hlt).2 hg
                have hgn := hgi.out (by omega)
                obtain ⟨U, hU⟩ : ∃ Z0, Z0 = S ++ [58, 58] := ⟨_, rfl⟩
                have eU : str S ++ { data := #[58, 58] } = str U := (str_app S [58, 58]).trans (by rw [hU])
                have nU : U.length ≤ 100 := by rw [hU, List.length_append]; simp only [List.length_cons, List.length_nil]; omega
                have yU := str_size U
                have kU : (9223372036854775807 < S.length + 2) = False := eq_false (by omega)
                have HU := Lib.hid (show U = W (i + n) by rw [hU, hS, hg]; exact (HGap.out (by omega)).symm)
                have hw1 : IntKind.i64.wrap ((i : Int) + (n : Int)) = (i : Int) + (n : Int) := IntWalk.i64_in _ (by omega)
                have hw2 : IntKind.i64.wrap ((i : Int) + (n : Int) - 1) = (i : Int) + (n : Int) - 1 := IntWalk.i64_in _ (by omega)
                have hw3 : IntKind.i64.wrap ((i : Int) + (n : Int) - 1 + 1) = (i : Int) + (n : Int) := by rw [IntWalk.i64_in _ (by omega)]; omega
                clear hU hS
                go_wp2
                go_roundg (8 - (i + n))
                case measure => omega
                case rel => exact ⟨i + n, rfl, by omega, by rw [HU.out], by go_num, .inr (by omega), hR, hbel⟩
              · have hfi : ((i : Int) == f) = false := by rw [beq_eq_false_iff_ne]; exact fun e => hg ((HG.out i hlt).1 e)
                obtain ⟨x, hx⟩ : ∃ x, a[i]? = some x := ⟨_, List.getElem?_eq_getElem (by omega)⟩
                have hx2 := H2.out x (List.mem_of_getElem? hx)
                have hc := hR.1 i _ (u16s_get hx)
                have hcs := HCs.out i x hx hg hin
                have hnx : i + 1 ≤ G ∨ G + n ≤ i + 1 := by omega
                rw [digs_small (show x < 16 by omega), ← hS] at hcs
                have hdl := dch_low (show x < 10 by omega)
                have hv0 : IntKind.u8.wrap (x : Int) = (x : Int) := IntWalk.u8_in _ (by omega)
                have hv2 : IntKind.u8.wrap (48 + (x : Int)) = ((dch x).toNat : Int) := by rw [IntWalk.u8_in _ (by omega), hdl]
                have hcv := fun (w : World) => lit_str w (dch x)
                have y2 : (str [dch x]).size = 1 := str_size [dch x]
                have HCC := Lib.hid hcs
                clear hcs hx hdl hS
                rcases HCC.out with ⟨h0, h1⟩ | ⟨p, h0, h1⟩ | ⟨p, c, h0, hc58, h1⟩
                · subst h0
                  have HU := Lib.hid h1.symm
                  clear h1
                  have e1 : ({ data := #[] } : ByteArray) ++ str [dch x] = str [dch x] := str_app [] [dch x]
                  have e0 : str [] = { data := #[] } := rfl
                  have etl : ({ data := #[] } : ByteArray).toList = [] := str_toL []
                  go_wp2
                  go_roundg (8 - (i + 1))
                  case measure => omega
                  case rel => exact ⟨i + 1, rfl, by omega, by rw [← HU.out], by go_num, hnx, hR.far _, hbel.alloc hq0 _⟩
                · have hl : S.length = p.length + 1 := by rw [h0]; simp
                  have hgq : gb S p.length = 58 := by rw [h0]; unfold gb; rw [List.getD_eq_getElem?_getD, List.getElem?_append_right (Nat.le_refl _), Nat.sub_self]; rfl
                  have HU := Lib.hid h1.symm
                  have hgt := str_get S
                  have htl := str_toL S
                  have hne : S.isEmpty = false := by rw [h0]; simp
                  have hn : (S = []) = False := eq_false (by rw [h0]; simp)
                  obtain ⟨q, hq⟩ : ∃ q, q = p.length := ⟨_, rfl⟩
                  rw [← hq] at hl hgq
                  rw [hl] at hWl ySS
                  have e1 : str S ++ str [dch x] = str (S ++ [dch x]) := str_app S [dch x]
                  have k1 : (9223372036854775807 < q + 1 + 1) = False := eq_false (by omega)
                  have hw1 : IntKind.i64.wrap ((q : Int)) = (q : Int) := IntWalk.i64_in _ (by omega)
                  have hq1 : (0 : Int) ≤ (q : Int) := by omega
                  clear h0 h1 hq
                  go_wp2
                  go_roundg (8 - (i + 1))
                  case measure => omega
                  case rel => exact ⟨i + 1, rfl, by omega, by rw [← HU.out], by go_num, hnx, hR.far _, hbel.alloc hq0 _⟩
                · have hl : S.length = p.length + 1 := by rw [h0]; simp
                  have hgq : gb S p.length = c := by rw [h0]; unfold gb; rw [List.getD_eq_getElem?_getD, List.getElem?_append_right (Nat.le_refl _), Nat.sub_self]; rfl
                  have HU := Lib.hid h1.symm
                  have hgt := str_get S
                  have htl := str_toL S
                  have hne : S.isEmpty = false := by rw [h0]; simp
                  have hn : (S = []) = False := eq_false (by rw [h0]; simp)
                  have hcb : ((c.toNat : Int) == 58) = false := by rw [beq_eq_false_iff_ne]; exact fun e => hc58 (byte_ext (by show c.toNat = 58; omega))
                  obtain ⟨q, hq⟩ : ∃ q, q = p.length := ⟨_, rfl⟩
                  rw [← hq] at hl hgq
                  rw [hl] at hWl ySS
                  have e0 : str S ++ { data := #[58] } = str (S ++ [58]) := str_app S [58]
                  have e1 : str (S ++ [58]) ++ str [dch x] = str (S ++ [58] ++ [dch x]) := str_app _ [dch x]
                  have y3 : (str (S ++ [58])).size = q + 1 + 1 := by rw [str_size, List.length_append, hl]; rfl
                  have k1 : (9223372036854775807 < q + 1 + 1) = False := eq_false (by omega)
                  have k2 : (9223372036854775807 < q + 1 + 1 + 1) = False := eq_false (by omega)
                  have hw1 : IntKind.i64.wrap ((q : Int)) = (q : Int) := IntWalk.i64_in _ (by omega)
                  have hq1 : (0 : Int) ≤ (q : Int) := by omega
                  clear h0 h1 hq hc58
                  go_wp2
                  go_roundg (8 - (i + 1))
                  case measure => omega
                  case rel => exact ⟨i + 1, rfl, by omega, by rw [← HU.out]; simp, by go_num, hnx, hR.far _, hbel.alloc hq0 _⟩
            · obtain rfl : i = 8 := by omega
              clear hlt
              obtain ⟨a0, a1, a2, a3, a4, a5, a6, a7, rfl⟩ := eight hl8
              have C1 := Lib.hid (show6_any [a0, a1, a2, a3, a4, a5, a6, a7] a0 a1 a2 a3 a4 a5 a6 a7 rfl H16.out wr hqr.2)
              rw [← HE.out] at C1
              obtain ⟨S, hS⟩ : ∃ S, S = W 8 := ⟨_, rfl⟩
              rw [← hS] at C1 ⊢
              have htl := str_toL S
              have x0 := hR.1 0 _ rfl
              have x1 := hR.1 1 _ rfl
              have x2 := hR.1 2 _ rfl
              have x3 := hR.1 3 _ rfl
              have x4 := hR.1 4 _ rfl
              have x5 := hR.1 5 _ rfl
              have x6 := hR.1 6 _ rfl
              have x7 := hR.1 7 _ rfl
              clear hS
              go_wp2_with (go_at_call 26; go_must (go_fit C1.out); rintro e w3 ⟨rfl, hb3⟩)
              go_ret
              exact ⟨rfl, bnext hbel hb3⟩
end Go.Proofs.YtaglbcniomcfnaaDoor

