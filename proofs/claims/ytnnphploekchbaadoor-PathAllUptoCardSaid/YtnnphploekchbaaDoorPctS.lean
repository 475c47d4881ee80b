/- The walks of the reference's Percent and Plain. -/
import Derived.Test.YtnnphploekchbaaDoorPctR
import Derived.Test.YtnnphploekchbaaDoorPctB
namespace Go.Proofs.YtnnphploekchbaaDoor
set_option linter.all false
open Go.RowKit



theorem hexdigI {n : Int} {m : Nat} (e : n.toNat = m) (hm : m < 16) (h : n.toNat < (ByteArray.mk #[48, 49, 50, 51, 52, 53, 54, 55, 56, 57, 65, 66, 67, 68, 69, 70]).size) : (ByteArray.mk #[48, 49, 50, 51, 52, 53, 54, 55, 56, 57, 65, 66, 67, 68, 69, 70])[n.toNat]'h = hexU m := by
  subst e; exact hexdig hm h
theorem form_ways (s : Int) (x : UInt8) : ((s == 6) = true ∧ ((x.toNat : Int) == 32) = true ∧ Hid (pEnc1 s x = [43])) ∨ ((s == 6) = false ∧ Hid (pShow s x = esc x)) ∨ ((s == 6) = true ∧ ((x.toNat : Int) == 32) = false ∧ Hid (pShow s x = esc x)) := by
  by_cases h : s = 6
  · subst h
    by_cases hx : x = 32
    · subst hx; exact .inl ⟨rfl, rfl, rfl⟩
    · refine .inr (.inr ⟨rfl, ?_, if_neg fun e => hx e.2⟩)
      rw [beq_eq_false_iff_ne]; intro e; exact hx (byte_ext (by show x.toNat = 32; omega))
  · exact .inr (.inl ⟨beq_eq_false_iff_ne.2 h, if_neg fun e => h e.1⟩)


set_option maxRecDepth 100000 in
set_option maxHeartbeats 8000000 in
/-- shortcutref1.Percent. -/
theorem percent_any (s : Int) (A : Option Addr) (c : Nat) (l : List UInt8) (w : World) (hr : Rd w w.heap.size A (bytes l)) (hl : l.length ≤ 100000) :
    Calls Tryd.prog 48 #[.int .i64 s, .slice A l.length c] w fun e w' => e = .returned (.string (str (pEnc s l))) ∧ Below w.heap.size w w' := by
  go_enter Tryd.func48, Tryd.ntmps48
  go_wp2
  go_loopg [5, 6] (l.length) (fun k v i wr => ∃ j : Nat, k = l.length - j ∧ j ≤ l.length ∧ i = .int .i64 j ∧ wr.ownsRow w.heap.size 5 1 v (bytes (pEnc s (l.take j))).length (bytes (pEnc s (l.take j))) ∧ Below w.heap.size w wr)
  case atStart => exact ⟨0, rfl, Nat.zero_le _, rfl, World.ownsRow_nil _ _ _ _, Below.refl _ _⟩
  case round =>
    obtain ⟨j, rfl, hj, rfl, hown, hbel⟩ := hrel
    have hw := hbel.size
    have hty := pEnc_le s (l.take j)
    have hty2 : (l.take j).length ≤ l.length := by rw [List.length_take]; omega
    have hty3 : (bytes (pEnc s (l.take j))).length ≤ 300000 := by rw [bytes_len]; omega
    clear hty hty2
    by_cases hlt : j < l.length
    · obtain ⟨b, off, x, rfl, hb, hc, hx⟩ := (hr.below hbel).byte_at hlt
      have hlt1 : (j : Int) < (l.length : Int) := by omega
      have hj0 : (0 : Int) ≤ (j : Int) := by omega
      have CI := Lib.hid fun w => rin_any s x w
      have hsn := Lib.hid (pEnc_snoc (s := s) hx.out)
      rcases form_ways s x with ⟨g1, g2, hsh⟩ | ⟨g1, hsh⟩ | ⟨g1, g2, hsh⟩
      · rw [hsh.out] at hsn
        go_wp2_with (at_builtin; refine wpList_append_lit rfl _ _ _ rfl w.heap.size _ _ 1 1 Tryd.underlying42 info_byte rfl (by decide) _ _ _ rfl hown _ 1 1 _ rfl rfl (by simp [Value.oneCell']) (by omega) (by decide) (by omega) ?_; intro A2 c2 w2 hc2 hm2 hown2 hb2 hg2)
        go_roundg (l.length - (j + 1))
        case measure => omega
        case rel => exact ⟨j + 1, rfl, by omega, by go_num, own_as hown2 (by rw [hsn.out, bytes_append, List.length_append]; rfl) (by rw [hsn.out, bytes_append]; rfl), (hbel.trans hb2)⟩
      · skip
        by_cases hk : pIn s x = true
        · rw [hk] at CI
          rw [pEnc1_in hk, hsh.out] at hsn
          clear hk
          have h1 : (0 : Int) ≤ (x.toNat : Int) / 16 := by omega
          have h2 : (x.toNat : Int) / 16 < 16 := by have := byte_lt x; omega
          have h3 : (0 : Int) ≤ (x.toNat : Int) % 16 := by omega
          have h4 : (x.toNat : Int) % 16 < 16 := by omega
          have h5 : IntKind.u8.wrap ((x.toNat : Int) / 16) = (x.toNat : Int) / 16 := IntWalk.u8_in _ (by omega)
          have h6 : ((x.toNat : Int)).tmod 16 = (x.toNat : Int) % 16 := Int.tmod_eq_emod_of_nonneg (by omega)
          go_wp2_with (go_at_call 70; go_must (go_fit (CI.out _)); rintro e w1 ⟨rfl, rfl⟩)
          go_region_law (refine step_append_cells rfl _ _ _ rfl w.heap.size _ _ 1 1 Tryd.underlying42 info_byte rfl (by decide) _ _ _ rfl (hown.alloc _) wr.heap.size _ 3 3 5 (0, 0) rfl (heap_alloc_new wr _) rfl (by simp [Value.oneCell']) (by omega) (by decide) (by simp; omega) ?_; intro A2 c2 w2 hc2 hm2 hown2 hb2' hg2; have hb2 : Below w.heap.size wr w2 := (((Below.refl _ _).alloc hw _).drew).trans hb2')
          all_goals (try go_wp2)
          all_goals go_roundg (l.length - (j + 1))
          all_goals
            first
            | (case measure => omega)
            | (case rel =>
                 refine ⟨j + 1, rfl, by omega, by go_num, own_as hown2 (by rw [hsn.out, bytes_append, List.length_append]; rfl) ?_, hbel.trans hb2⟩
                 rw [hsn.out, bytes_append, hexdigI (n := (x.toNat : Int) / 16) (m := x.toNat / 16) (by omega) (by have := byte_lt x; omega), hexdigI (n := (x.toNat : Int) % 16) (m := x.toNat % 16) (by omega) (by omega)]; rfl)
        · have hk := Bool.eq_false_iff.2 hk
          rw [hk] at CI
          rw [pEnc1_out hk] at hsn
          clear hk
          go_wp2_with (first
            | (go_at_call 70; go_must (go_fit (CI.out _)); rintro e w1 ⟨rfl, rfl⟩)
            | (at_builtin; refine wpList_append_lit rfl _ _ _ rfl w.heap.size _ _ 1 1 Tryd.underlying42 info_byte rfl (by decide) _ _ _ rfl hown _ 1 1 _ rfl rfl (by simp [Value.oneCell']) (by omega) (by decide) (by omega) ?_; intro A2 c2 w2 hc2 hm2 hown2 hb2 hg2))
          go_roundg (l.length - (j + 1))
          case measure => omega
          case rel => exact ⟨j + 1, rfl, by omega, by go_num, own_as hown2 (by rw [hsn.out, bytes_append, List.length_append]; rfl) (by rw [hsn.out, bytes_append]; rfl), (hbel.trans hb2)⟩
      · skip
        by_cases hk : pIn s x = true
        · rw [hk] at CI
          rw [pEnc1_in hk, hsh.out] at hsn
          clear hk
          have h1 : (0 : Int) ≤ (x.toNat : Int) / 16 := by omega
          have h2 : (x.toNat : Int) / 16 < 16 := by have := byte_lt x; omega
          have h3 : (0 : Int) ≤ (x.toNat : Int) % 16 := by omega
          have h4 : (x.toNat : Int) % 16 < 16 := by omega
          have h5 : IntKind.u8.wrap ((x.toNat : Int) / 16) = (x.toNat : Int) / 16 := IntWalk.u8_in _ (by omega)
          have h6 : ((x.toNat : Int)).tmod 16 = (x.toNat : Int) % 16 := Int.tmod_eq_emod_of_nonneg (by omega)
          go_wp2_with (go_at_call 70; go_must (go_fit (CI.out _)); rintro e w1 ⟨rfl, rfl⟩)
          go_region_law (refine step_append_cells rfl _ _ _ rfl w.heap.size _ _ 1 1 Tryd.underlying42 info_byte rfl (by decide) _ _ _ rfl (hown.alloc _) wr.heap.size _ 3 3 5 (0, 0) rfl (heap_alloc_new wr _) rfl (by simp [Value.oneCell']) (by omega) (by decide) (by simp; omega) ?_; intro A2 c2 w2 hc2 hm2 hown2 hb2' hg2; have hb2 : Below w.heap.size wr w2 := (((Below.refl _ _).alloc hw _).drew).trans hb2')
          all_goals (try go_wp2)
          all_goals go_roundg (l.length - (j + 1))
          all_goals
            first
            | (case measure => omega)
            | (case rel =>
                 refine ⟨j + 1, rfl, by omega, by go_num, own_as hown2 (by rw [hsn.out, bytes_append, List.length_append]; rfl) ?_, hbel.trans hb2⟩
                 rw [hsn.out, bytes_append, hexdigI (n := (x.toNat : Int) / 16) (m := x.toNat / 16) (by omega) (by have := byte_lt x; omega), hexdigI (n := (x.toNat : Int) % 16) (m := x.toNat % 16) (by omega) (by omega)]; rfl)
        · have hk := Bool.eq_false_iff.2 hk
          rw [hk] at CI
          rw [pEnc1_out hk] at hsn
          clear hk
          go_wp2_with (first
            | (go_at_call 70; go_must (go_fit (CI.out _)); rintro e w1 ⟨rfl, rfl⟩)
            | (at_builtin; refine wpList_append_lit rfl _ _ _ rfl w.heap.size _ _ 1 1 Tryd.underlying42 info_byte rfl (by decide) _ _ _ rfl hown _ 1 1 _ rfl rfl (by simp [Value.oneCell']) (by omega) (by decide) (by omega) ?_; intro A2 c2 w2 hc2 hm2 hown2 hb2 hg2))
          go_roundg (l.length - (j + 1))
          case measure => omega
          case rel => exact ⟨j + 1, rfl, by omega, by go_num, own_as hown2 (by rw [hsn.out, bytes_append, List.length_append]; rfl) (by rw [hsn.out, bytes_append]; rfl), (hbel.trans hb2)⟩
    · obtain rfl : j = l.length := by omega
      rw [List.take_length, bytes_len] at hown
      obtain ⟨A3, c3, rfl, hc3, hm3, hr3⟩ := own_rd hown
      go_wp2_with (refine wpList_strL rfl _ _ _ _ rfl Tryd.underlying42 Tryd.underlying5 Tryd.underlying9 _ _ _ _ (pEnc s l) rfl rfl hr3 ?_)
      go_ret
      exact ⟨rfl, hbel⟩

theorem gb_dr (l : List UInt8) (j k : Nat) : gb (dr l j) k = gb l (j + k) := by
  unfold gb dr; rw [List.getD_eq_getElem?_getD, List.getD_eq_getElem?_getD, List.getElem?_drop]
theorem dr_dr (l : List UInt8) (j k : Nat) : dr (dr l j) k = dr l (j + k) := by unfold dr; rw [List.drop_drop]
theorem pDec_hexAt {l : List UInt8} {j : Nat} (h : j + 2 < l.length) (h0 : gb l j = 37) (h1 : 0 ≤ hexV (gb l (j + 1))) (h2 : 0 ≤ hexV (gb l (j + 2))) : pDec (dr l j) = byteOf (hexV (gb l (j + 1)) * 16 + hexV (gb l (j + 2))) :: pDec (dr l (j + 3)) := by
  have := pDec_hex (l := dr l j) (by rw [dr_len]; omega) (by rw [gb_dr]; exact h0) (by rw [gb_dr]; exact h1) (by rw [gb_dr]; exact h2)
  rw [gb_dr, gb_dr, dr_dr] at this; exact this
theorem pDec_oneAt {l : List UInt8} {j : Nat} (h : j < l.length) (hn : ¬ (j + 2 < l.length ∧ gb l j = 37 ∧ 0 ≤ hexV (gb l (j + 1)) ∧ 0 ≤ hexV (gb l (j + 2)))) : pDec (dr l j) = gb l j :: pDec (dr l (j + 1)) := by
  have := pDec_one (l := dr l j) (by rw [dr_len]; omega) (by rw [gb_dr, gb_dr, gb_dr, dr_len]; intro ⟨a, b, c, d⟩; exact hn ⟨by omega, b, c, d⟩)
  rw [gb_dr, dr_dr] at this; exact this
theorem pDec_goAt {l done : List UInt8} {j k : Nat} {x : UInt8} (hd : pDec l = done ++ pDec (dr l j) ∧ done.length + (l.length - j) ≤ l.length) (e : pDec (dr l j) = x :: pDec (dr l k)) (hk : j < k) (hl : k ≤ l.length) : pDec l = (done ++ [x]) ++ pDec (dr l k) ∧ (done ++ [x]).length + (l.length - k) ≤ l.length := by
  refine ⟨by rw [hd.1, e]; simp, ?_⟩
  have := hd.2
  rw [List.length_append]; simp; omega


set_option maxRecDepth 100000 in
set_option maxHeartbeats 8000000 in
/-- shortcutref1.Plain. -/
theorem plain_any (l : List UInt8) (w : World) (hl : l.length ≤ 100000) : Calls Tryd.prog 77 #[.string (str l)] w fun e w' => ∃ v, e = .returned v ∧ w'.ownsRow w.heap.size 5 1 v (bytes (pDec l)).length (bytes (pDec l)) ∧ Below w.heap.size w w' := by
  have hsz := str_size l
  have hg := str_get l
  go_enter Tryd.func77, Tryd.ntmps77
  go_wp2
  go_loopg [3, 4] (l.length) (fun k v i wr => ∃ (j : Nat) (done : List UInt8), k = l.length - j ∧ j ≤ l.length ∧ i = .int .i64 j ∧ Hid (pDec l = done ++ pDec (dr l j) ∧ done.length + (l.length - j) ≤ l.length) ∧ wr.ownsRow w.heap.size 5 1 v (bytes done).length (bytes done) ∧ Below w.heap.size w wr)
  case atStart => exact ⟨0, [], rfl, Nat.zero_le _, rfl, ⟨rfl, by simp⟩, World.ownsRow_nil _ _ _ _, Below.refl _ _⟩
  case round =>
    obtain ⟨j, done, rfl, hj, rfl, hd, hown, hbel⟩ := hrel
    have hw := hbel.size
    have hrl : (bytes done).length ≤ 100000 := by have := hd.out.2; rw [bytes_len]; omega
    by_cases h0 : j < l.length
    · have hlt1 : (j : Int) < (l.length : Int) := by omega
      have hj0 : (0 : Int) ≤ (j : Int) := by omega
      by_cases h37 : gb l j = 37
      · have hb : (((gb l j).toNat : Int) == 37) = true := by rw [h37]; rfl
        by_cases hlen : j + 2 < l.length
        · have hlt2 : (j : Int) + 2 < (l.length : Int) := by omega
          have hlt3 : (j : Int) + 1 < (l.length : Int) := by omega
          by_cases h1 : 0 ≤ hexV (gb l (j + 1))
          · by_cases h2 : 0 ≤ hexV (gb l (j + 2))
            · have HS := Lib.hid h37
              clear h37
              have r1 := (hexV_range (gb l (j + 1))).2
              have r2 := (hexV_range (gb l (j + 2))).2
              have s1 : IntKind.i64.wrap ((j : Int) + 1) = (j : Int) + 1 := IntWalk.i64_in _ (by omega)
              have s2 : IntKind.i64.wrap ((j : Int) + 2) = (j : Int) + 2 := IntWalk.i64_in _ (by omega)
              have s3 : (0 : Int) ≤ (j : Int) + 1 := by omega
              have s4 : (0 : Int) ≤ (j : Int) + 2 := by omega
              have s5 : ((j : Int) + 1).toNat = j + 1 := by omega
              have s6 : ((j : Int) + 2).toNat = j + 2 := by omega
              have s7 : IntKind.i64.wrap (16 * hexV (gb l (j + 1))) = 16 * hexV (gb l (j + 1)) := IntWalk.i64_in _ (by omega)
              have s8 : IntKind.i64.wrap (16 * hexV (gb l (j + 1)) + hexV (gb l (j + 2))) = hexV (gb l (j + 1)) * 16 + hexV (gb l (j + 2)) := by rw [IntWalk.i64_in _ (by omega)]; omega
              have s9 := hex_wrap h1 r1 h2 r2
              go_wp2_with (go_at_call 99; go_must (go_fit (rhex_any _ _)); rintro e w1 ⟨rfl, rfl⟩)
              go_region_law (first
                | (refine step_append_cells rfl _ _ _ rfl w.heap.size _ _ 1 1 Tryd.underlying42 info_byte rfl (by decide) _ _ _ rfl (hown.alloc _) wr.heap.size _ 1 1 5 (0, 0) rfl (heap_alloc_new wr _) rfl (by simp [Value.oneCell']) (by omega) (by decide) (by simp; omega) ?_; intro A2 c2 w2 hc2 hm2 hown2 hb2' hg2)
                | (go_simp; go_at_call 99; refine (rhex_any _ _).mono ?_; rintro e w1 ⟨rfl, rfl⟩))
              all_goals (try go_wp2)
              all_goals go_roundg (l.length - (j + 3))
              all_goals
                first
                | (case measure => omega)
                | (case rel => exact ⟨j + 3, done ++ [_], by omega, by omega, by go_num, pDec_goAt hd.out (pDec_hexAt hlen HS.out h1 h2) (by omega) (by omega), own_as hown2 (by rw [bytes_append, List.length_append]; rfl) (by rw [bytes_append]; rfl), hbel.trans ((((Below.refl _ _).alloc hw _).drew).trans hb2')⟩)
            · have h2' : hexV (gb l (j + 2)) < 0 := by omega
              have HN := Lib.hid (pDec_oneAt h0 (fun e => h2 e.2.2.2))
              clear h2 h37
              go_wp2_with (first
                | (go_at_call 99; go_must (go_fit (rhex_any _ _)); rintro e w1 ⟨rfl, rfl⟩)
                | (at_builtin; refine wpList_append_lit rfl _ _ _ rfl w.heap.size _ _ 1 1 Tryd.underlying42 info_byte rfl (by decide) _ _ _ rfl hown _ 1 1 _ rfl rfl (by simp [Value.oneCell']) (by omega) (by decide) (by omega) ?_; intro A2 c2 w2 hc2 hm2 hown2 hb2 hg2))
              all_goals go_roundg (l.length - (j + 1))
              all_goals
                first
                | (case measure => omega)
                | (case rel => exact ⟨j + 1, done ++ [gb l j], by omega, by omega, by go_num, pDec_goAt hd.out HN.out (by omega) (by omega), own_as hown2 (by rw [bytes_append, List.length_append]; rfl) (by rw [bytes_append]; rfl), hbel.trans hb2⟩)
          · have h1' : hexV (gb l (j + 1)) < 0 := by omega
            have HN := Lib.hid (pDec_oneAt h0 (fun e => h1 e.2.2.1))
            clear h1 h37
            go_wp2_with (first
              | (go_at_call 99; go_must (go_fit (rhex_any _ _)); rintro e w1 ⟨rfl, rfl⟩)
              | (at_builtin; refine wpList_append_lit rfl _ _ _ rfl w.heap.size _ _ 1 1 Tryd.underlying42 info_byte rfl (by decide) _ _ _ rfl hown _ 1 1 _ rfl rfl (by simp [Value.oneCell']) (by omega) (by decide) (by omega) ?_; intro A2 c2 w2 hc2 hm2 hown2 hb2 hg2))
            all_goals go_roundg (l.length - (j + 1))
            all_goals
              first
              | (case measure => omega)
              | (case rel => exact ⟨j + 1, done ++ [gb l j], by omega, by omega, by go_num, pDec_goAt hd.out HN.out (by omega) (by omega), own_as hown2 (by rw [bytes_append, List.length_append]; rfl) (by rw [bytes_append]; rfl), hbel.trans hb2⟩)
        · have hlen2 : (l.length : Int) ≤ (j : Int) + 2 := by omega
          have HN := Lib.hid (pDec_oneAt h0 (fun e => hlen e.1))
          clear h37
          go_wp2_with (first
            | (go_at_call 99; go_must (go_fit (rhex_any _ _)); rintro e w1 ⟨rfl, rfl⟩)
            | (at_builtin; refine wpList_append_lit rfl _ _ _ rfl w.heap.size _ _ 1 1 Tryd.underlying42 info_byte rfl (by decide) _ _ _ rfl hown _ 1 1 _ rfl rfl (by simp [Value.oneCell']) (by omega) (by decide) (by omega) ?_; intro A2 c2 w2 hc2 hm2 hown2 hb2 hg2))
          all_goals go_roundg (l.length - (j + 1))
          all_goals
            first
            | (case measure => omega)
            | (case rel => exact ⟨j + 1, done ++ [gb l j], by omega, by omega, by go_num, pDec_goAt hd.out HN.out (by omega) (by omega), own_as hown2 (by rw [bytes_append, List.length_append]; rfl) (by rw [bytes_append]; rfl), hbel.trans hb2⟩)
      · have hb : (((gb l j).toNat : Int) == 37) = false := by
          rw [beq_eq_false_iff_ne]; intro e; exact h37 (byte_ext (by show (gb l j).toNat = 37; omega))
        have HN := Lib.hid (pDec_oneAt h0 (fun e => h37 e.2.1))
        clear h37
        go_wp2_with (first
          | (go_at_call 99; go_must (go_fit (rhex_any _ _)); rintro e w1 ⟨rfl, rfl⟩)
          | (at_builtin; refine wpList_append_lit rfl _ _ _ rfl w.heap.size _ _ 1 1 Tryd.underlying42 info_byte rfl (by decide) _ _ _ rfl hown _ 1 1 _ rfl rfl (by simp [Value.oneCell']) (by omega) (by decide) (by omega) ?_; intro A2 c2 w2 hc2 hm2 hown2 hb2 hg2))
        all_goals go_roundg (l.length - (j + 1))
        all_goals
          first
          | (case measure => omega)
          | (case rel => exact ⟨j + 1, done ++ [gb l j], by omega, by omega, by go_num, pDec_goAt hd.out HN.out (by omega) (by omega), own_as hown2 (by rw [bytes_append, List.length_append]; rfl) (by rw [bytes_append]; rfl), hbel.trans hb2⟩)
    · obtain rfl : j = l.length := by omega
      go_wp2
      go_ret
      have e : pDec l = done := by have := hd.out.1; rw [show dr l l.length = [] from List.drop_length ..] at this; rw [pDec_nil, List.append_nil] at this; exact this
      rw [e]
      exact ⟨_, rfl, hown, hbel⟩
end Go.Proofs.YtnnphploekchbaaDoor

