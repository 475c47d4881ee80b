/- The walks of pct.value and pct.Decode. -/
import Derived.Test.YtnnphploekchbaaDoorPctA
import Derived.Test.YtnnphploekchbaaDoorStep
namespace Go.Proofs.YtnnphploekchbaaDoor
set_option linter.all false
open Go.RowKit

theorem idx_hex_fin : ∀ k : Fin 256, Lib.indexByte [48, 49, 50, 51, 52, 53, 54, 55, 56, 57, 65, 66, 67, 68, 69, 70] (if 97 ≤ k.val ∧ k.val ≤ 102 then UInt8.ofNat (k.val - 32) else UInt8.ofNat k.val) = hexV (UInt8.ofNat k.val) := by decide +kernel
theorem idx_hexN (c : UInt8) (h : ¬ (97 ≤ c.toNat ∧ c.toNat ≤ 102)) : Lib.indexByte [48, 49, 50, 51, 52, 53, 54, 55, 56, 57, 65, 66, 67, 68, 69, 70] c = hexV c := by
  have := idx_hex_fin ⟨c.toNat, byte_lt c⟩
  simp only [if_neg h, UInt8.ofNat_toNat] at this
  exact this
theorem idx_hexL (c : UInt8) (h : 97 ≤ c.toNat ∧ c.toNat ≤ 102) : Lib.indexByte [48, 49, 50, 51, 52, 53, 54, 55, 56, 57, 65, 66, 67, 68, 69, 70] (UInt8.ofNat ((c.toNat : Int) - 32).toNat) = hexV c := by
  have := idx_hex_fin ⟨c.toNat, byte_lt c⟩
  simp only [if_pos h, UInt8.ofNat_toNat] at this
  rw [show ((c.toNat : Int) - 32).toNat = c.toNat - 32 from by omega]
  exact this
set_option maxRecDepth 100000 in
set_option maxHeartbeats 1000000 in
theorem value_any (c : UInt8) (w : World) : Calls Tryd.prog 98 #[.int .u8 (c.toNat : Int)] w fun e w' => e = .returned (.int .i64 (hexV c)) ∧ w = w' := by
  go_enter Tryd.func98, Tryd.ntmps98
  go_wp2_with (go_at_call 112; go_must (go_fit (indexByte_any [48, 49, 50, 51, 52, 53, 54, 55, 56, 57, 65, 66, 67, 68, 69, 70] _ _)); rintro e w1 ⟨rfl, rfl⟩)
  all_goals go_ret
  all_goals refine ⟨ret_int ?_, rfl⟩
  · exact idx_hexL c (by omega)
  · exact idx_hexN c (by omega)
  · exact idx_hexN c (by omega)

theorem hex_or {a b : Int} (h0 : 0 ≤ a) (h1 : a < 16) (h2 : 0 ≤ b) (h3 : b < 16) : bits .or .i64 (IntKind.i64.wrap (a * 16)) b = a * 16 + b := by
  obtain ⟨x, rfl⟩ : ∃ x : Nat, a = x := ⟨a.toNat, by omega⟩
  obtain ⟨y, rfl⟩ : ∃ y : Nat, b = y := ⟨b.toNat, by omega⟩
  have h : ∀ x : Fin 16, ∀ y : Fin 16, bits .or .i64 (IntKind.i64.wrap ((x.val : Int) * 16)) (y.val : Int) = (x.val : Int) * 16 + (y.val : Int) := by decide +kernel
  exact h ⟨x, by omega⟩ ⟨y, by omega⟩
theorem hex_wrap {a b : Int} (h0 : 0 ≤ a) (h1 : a < 16) (h2 : 0 ≤ b) (h3 : b < 16) : IntKind.u8.wrap (a * 16 + b) = ((byteOf (a * 16 + b)).toNat : Int) := by
  rw [byteOf_nat (by omega) (by omega)]
  simp [IntKind.wrap, IntKind.bits, IntKind.signed]
  omega
theorem pDec_hex {l : List UInt8} (h : 2 < l.length) (h0 : gb l 0 = 37) (h1 : 0 ≤ hexV (gb l 1)) (h2 : 0 ≤ hexV (gb l 2)) : pDec l = byteOf (hexV (gb l 1) * 16 + hexV (gb l 2)) :: pDec (dr l 3) := by
  have e : pStep l = (byteOf (hexV (gb l 1) * 16 + hexV (gb l 2)), 3) := if_pos ⟨h, h0, h1, h2⟩
  rw [pDec_step (by omega), e]; rfl
theorem pDec_one {l : List UInt8} (h : 0 < l.length) (hn : ¬ (3 ≤ l.length ∧ gb l 0 = 37 ∧ 0 ≤ hexV (gb l 1) ∧ 0 ≤ hexV (gb l 2))) : pDec l = gb l 0 :: pDec (dr l 1) := by
  have e : pStep l = (gb l 0, 1) := if_neg hn
  rw [pDec_step h, e]; rfl
theorem pDec_go {l done rest rest' : List UInt8} {x : UInt8} (hd : pDec l = done ++ pDec rest ∧ done.length + rest.length ≤ l.length) (e : pDec rest = x :: pDec rest') (hl : rest'.length < rest.length) : pDec l = (done ++ [x]) ++ pDec rest' ∧ (done ++ [x]).length + rest'.length ≤ l.length := by
  refine ⟨by rw [hd.1, e]; simp, ?_⟩
  have := hd.2
  rw [List.length_append]; simp; omega
theorem en_value : ∀ args w, (callFunc 98 args).run Tryd.prog w = .ok (.enter 98 args) w := enters_of Tryd.func98 (by kernel_rfl) rfl


set_option maxRecDepth 100000 in
set_option maxHeartbeats 4000000 in
/-- pct.Decode. -/
theorem decode_pct (l : List UInt8) (w : World) (hl : l.length ≤ 100000) : Calls Tryd.prog 76 #[.string (str l)] w fun e w' => ∃ v, e = .returned v ∧ w'.ownsRow w.heap.size 5 1 v (bytes (pDec l)).length (bytes (pDec l)) ∧ Below w.heap.size w w' := by
  go_enter Tryd.func76, Tryd.ntmps76
  go_wp2
  go_loopg [0, 3] (l.length) (fun k s0 v wr => ∃ rest done : List UInt8, k = rest.length ∧ s0 = .string (str rest) ∧ Hid (pDec l = done ++ pDec rest ∧ done.length + rest.length ≤ l.length) ∧ wr.ownsRow w.heap.size 5 1 v (bytes done).length (bytes done) ∧ Below w.heap.size w wr)
  case atStart => exact ⟨l, [], rfl, rfl, ⟨rfl, by simp⟩, World.ownsRow_nil _ _ _ _, Below.refl _ _⟩
  case round =>
    obtain ⟨rest, done, rfl, rfl, hd, hown, hbel⟩ := hrel
    have hw := hbel.size
    have hsz := str_size rest
    have hg := str_get rest
    have he := str_end rest
    have hrl : (bytes done).length + rest.length ≤ 100000 := by have := hd.out.2; rw [bytes_len]; omega
    by_cases h0 : 0 < rest.length
    · by_cases hlen : 2 < rest.length
      · have hi1 : (1 : Int) < (rest.length : Int) := by omega
        have hi2 : (2 : Int) < (rest.length : Int) := by omega
        by_cases h37 : gb rest 0 = 37
        · have hb : (((gb rest 0).toNat : Int) == 37) = true := by rw [h37]; rfl
          by_cases h1 : 0 ≤ hexV (gb rest 1)
          · by_cases h2 : 0 ≤ hexV (gb rest 2)
            · have HS := Lib.hid h37
              clear h37
              go_wp2_with (first
                | (go_at_call 98; go_fit (value_any (gb rest 1) _); rintro e w1 ⟨rfl, rfl⟩)
                | (go_at_call 98; go_fit (value_any (gb rest 2) _); rintro e w1 ⟨rfl, rfl⟩))
              have hor := hex_or h1 (hexV_range (gb rest 1)).2 h2 (hexV_range (gb rest 2)).2
              have hwr := hex_wrap h1 (hexV_range (gb rest 1)).2 h2 (hexV_range (gb rest 2)).2
              go_region_law (first
                | (refine step_append_cells rfl _ _ _ rfl w.heap.size _ _ 1 1 Tryd.underlying42 info_byte rfl (by decide) _ _ _ rfl (hown.alloc _) wr.heap.size _ 1 1 5 (0, 0) rfl (heap_alloc_new wr _) rfl (by simp [Value.oneCell']) (by omega) (by decide) (by simp; omega) ?_; intro A2 c2 w2 hc2 hm2 hown2 hb2' hg2)
                | (go_simp; go_at_call 98; refine (value_any _ _).mono ?_; rintro e w1 ⟨rfl, rfl⟩))
              all_goals (try go_wp2)
              all_goals go_roundg ((dr rest 3).length)
              all_goals
                first
                | (case measure => rw [dr_len]; omega)
                | (case rel => exact ⟨dr rest 3, done ++ [_], rfl, rfl, pDec_go hd.out (pDec_hex hlen HS.out h1 h2) (by rw [dr_len]; omega), own_as hown2 (by rw [bytes_append, List.length_append]; rfl) (by rw [bytes_append]; rfl), hbel.trans ((((Below.refl _ _).alloc hw _).drew).trans hb2')⟩)
            · have h2' : hexV (gb rest 2) < 0 := by omega
              have HN := Lib.hid (pDec_one h0 (fun e => h2 e.2.2.2))
              clear h2 h37
              go_wp2_with (first
                | (go_at_call 98; go_must (go_fit (value_any _ _)); rintro e w1 ⟨rfl, rfl⟩)
                | (at_builtin; refine wpList_append_lit rfl _ _ _ rfl w.heap.size _ _ 1 1 Tryd.underlying42 info_byte rfl (by decide) _ _ _ rfl hown _ 1 1 _ rfl rfl (by simp [Value.oneCell']) (by omega) (by decide) (by omega) ?_; intro A2 c2 w2 hc2 hm2 hown2 hb2 hg2))
              all_goals go_roundg ((dr rest 1).length)
              all_goals
                first
                | (case measure => rw [dr_len]; omega)
                | (case rel => exact ⟨dr rest 1, done ++ [gb rest 0], rfl, rfl, pDec_go hd.out HN.out (by rw [dr_len]; omega), own_as hown2 (by rw [bytes_append, List.length_append]; rfl) (by rw [bytes_append]; rfl), hbel.trans hb2⟩)
          · have h1' : hexV (gb rest 1) < 0 := by omega
            have HN := Lib.hid (pDec_one h0 (fun e => h1 e.2.2.1))
            clear h1 h37
            go_wp2_with (first
              | (go_at_call 98; go_must (go_fit (value_any _ _)); rintro e w1 ⟨rfl, rfl⟩)
              | (at_builtin; refine wpList_append_lit rfl _ _ _ rfl w.heap.size _ _ 1 1 Tryd.underlying42 info_byte rfl (by decide) _ _ _ rfl hown _ 1 1 _ rfl rfl (by simp [Value.oneCell']) (by omega) (by decide) (by omega) ?_; intro A2 c2 w2 hc2 hm2 hown2 hb2 hg2))
            all_goals go_roundg ((dr rest 1).length)
            all_goals
              first
              | (case measure => rw [dr_len]; omega)
              | (case rel => exact ⟨dr rest 1, done ++ [gb rest 0], rfl, rfl, pDec_go hd.out HN.out (by rw [dr_len]; omega), own_as hown2 (by rw [bytes_append, List.length_append]; rfl) (by rw [bytes_append]; rfl), hbel.trans hb2⟩)
        · have hb : (((gb rest 0).toNat : Int) == 37) = false := by
            rw [beq_eq_false_iff_ne]; intro e; exact h37 (byte_ext (by show (gb rest 0).toNat = 37; omega))
          have HN := Lib.hid (pDec_one h0 (fun e => h37 e.2.1))
          clear h37
          go_wp2_with (first
            | (go_at_call 98; go_must (go_fit (value_any _ _)); rintro e w1 ⟨rfl, rfl⟩)
            | (at_builtin; refine wpList_append_lit rfl _ _ _ rfl w.heap.size _ _ 1 1 Tryd.underlying42 info_byte rfl (by decide) _ _ _ rfl hown _ 1 1 _ rfl rfl (by simp [Value.oneCell']) (by omega) (by decide) (by omega) ?_; intro A2 c2 w2 hc2 hm2 hown2 hb2 hg2))
          all_goals go_roundg ((dr rest 1).length)
          all_goals
            first
            | (case measure => rw [dr_len]; omega)
            | (case rel => exact ⟨dr rest 1, done ++ [gb rest 0], rfl, rfl, pDec_go hd.out HN.out (by rw [dr_len]; omega), own_as hown2 (by rw [bytes_append, List.length_append]; rfl) (by rw [bytes_append]; rfl), hbel.trans hb2⟩)
      · have hlen2 : (rest.length : Int) ≤ 2 := by omega
        have HN := Lib.hid (pDec_one h0 (fun e => hlen e.1))
        go_wp2_with (first
          | (go_at_call 98; go_must (go_fit (value_any _ _)); rintro e w1 ⟨rfl, rfl⟩)
          | (at_builtin; refine wpList_append_lit rfl _ _ _ rfl w.heap.size _ _ 1 1 Tryd.underlying42 info_byte rfl (by decide) _ _ _ rfl hown _ 1 1 _ rfl rfl (by simp [Value.oneCell']) (by omega) (by decide) (by omega) ?_; intro A2 c2 w2 hc2 hm2 hown2 hb2 hg2))
        all_goals go_roundg ((dr rest 1).length)
        all_goals
          first
          | (case measure => rw [dr_len]; omega)
          | (case rel => exact ⟨dr rest 1, done ++ [gb rest 0], rfl, rfl, pDec_go hd.out HN.out (by rw [dr_len]; omega), own_as hown2 (by rw [bytes_append, List.length_append]; rfl) (by rw [bytes_append]; rfl), hbel.trans hb2⟩)
    · have h00 : rest = [] := List.eq_nil_of_length_eq_zero (by omega)
      subst h00
      go_wp2
      go_ret
      have e : pDec l = done := by have := hd.out.1; rw [pDec_nil, List.append_nil] at this; exact this
      rw [e]
      exact ⟨_, rfl, hown, hbel⟩
end Go.Proofs.YtnnphploekchbaaDoor

