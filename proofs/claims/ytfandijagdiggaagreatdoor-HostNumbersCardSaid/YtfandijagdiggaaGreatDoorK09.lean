/- The walks of pct's sets: which set a number is, which bytes lie in it, how a byte is shown. -/
import Derived.Test.YtfandijagdiggaaGreatDoorK00
import Derived.Test.YtfandijagdiggaaGreatDoorK08
import Derived.Test.YtfandijagdiggaaGreatDoorK03
import Derived.Lib.IndexAny
import Derived.Test.YtfandijagdiggaaGreatDoorK04
import Derived.Test.YtfandijagdiggaaGreatDoorK01
namespace Go.Proofs.YtfandijagdiggaaGreatDoor
set_option linter.all false
open Go.RowKit

set_option maxRecDepth 100000 in
set_option maxHeartbeats 1000000 in
theorem low_any (c : UInt8) (w : World) : Calls Tryz.prog 243 #[.agg #[], .int .u8 (c.toNat : Int)] w fun e w' => e = .returned (.bool (pLow c)) ∧ Below w.heap.size w w' := by
  go_enter Tryz.func243, Tryz.ntmps243
  go_wp2
  all_goals go_ret
  all_goals exact ⟨ret_bool (by unfold pLow; rw [Bool.eq_iff_iff]; simp; omega), (Below.refl _ _).alloc (Nat.le_refl _) _⟩

set_option maxRecDepth 100000 in
set_option maxHeartbeats 1000000 in
theorem inControl_any (c : UInt8) (w : World) : Calls Tryz.prog 241 #[.agg #[], .int .u8 (c.toNat : Int)] w fun e w' => e = .returned (.bool (pLow c)) ∧ Below w.heap.size w w' := by
  go_enter Tryz.func241, Tryz.ntmps241
  go_wp2_with (go_at_call 243; go_must (go_fit (low_any c _)); rintro e w1 ⟨rfl, hb1⟩)
  go_ret
  exact ⟨rfl, bnext (bnew (Below.refl _ _) _) hb1⟩

theorem idx_mem (t : List UInt8) (c : UInt8) : decide (0 ≤ Lib.indexByte t c) = t.contains c := (Lib.contains_iff_indexByte t c).symm
theorem idx_out (t : List UInt8) (c : UInt8) : decide (Lib.indexByte t c < 0) = !t.contains c := by
  rw [← idx_mem, ← decide_not, decide_eq_decide]; omega

set_option maxRecDepth 100000 in
set_option maxHeartbeats 1000000 in
theorem inMore_any (t : List UInt8) (c : UInt8) (w : World) : Calls Tryz.prog 244 #[.agg #[.string (str t)], .int .u8 (c.toNat : Int)] w fun e w' => e = .returned (.bool (pLow c || t.contains c)) ∧ Below w.heap.size w w' := by
  have C := Lib.hid fun w => low_any c w
  have hp := run_partAt_zero (P := Tryz.prog) (shape_new w #[.string (str t)] 143 (0, 0)) (.inr ⟨0, by kernel_rfl⟩)
  by_cases h : pLow c = true
  · rw [h] at C ⊢
    clear h
    go_enter Tryz.func244, Tryz.ntmps244
    go_wp2_with (go_at_call 243; go_must (go_fit (C.out _)); rintro e w1 ⟨rfl, hb1⟩)
    go_ret
    exact ⟨rfl, bnext (bnew (Below.refl _ _) _) hb1⟩
  · have h := Bool.eq_false_iff.2 h
    rw [h] at C ⊢
    clear h
    go_enter Tryz.func244, Tryz.ntmps244
    go_wp2_with (first
      | (go_at_call 243; go_must (go_fit (C.out _)); rintro e w1 ⟨rfl, hb1⟩; have hc1 := cell_on hb1 (b := w.heap.size) (o := 0) (cell_of_one (heap_alloc_new w _)) (by simp))
      | (go_at_call 79; go_must (go_fit (indexByte_any t _ _)); rintro e w2 ⟨rfl, rfl⟩))
    go_ret
    exact ⟨ret_bool (by rw [Bool.false_or]; exact idx_mem t c), bnext (bnew (Below.refl _ _) _) hb1⟩

set_option maxRecDepth 100000 in
set_option maxHeartbeats 2000000 in
theorem inForm_any (c : UInt8) (w : World) : Calls Tryz.prog 245 #[.agg #[], .int .u8 (c.toNat : Int)] w fun e w' => e = .returned (.bool (pForm c)) ∧ Below w.heap.size w w' := by
  have C := Lib.hid fun w => low_any c w
  have hp := run_partAt_zero (P := Tryz.prog) (shape_new w #[] 145 (0, 0)) (.inl (by kernel_rfl))
  by_cases h : pLow c = true
  · have e0 : pForm c = true := by unfold pForm; rw [h]; rfl
    rw [h] at C
    rw [e0]
    clear h e0
    go_enter Tryz.func245, Tryz.ntmps245
    go_wp2_with (go_at_call 243; go_must (go_fit (C.out _)); rintro e w1 ⟨rfl, hb1⟩)
    go_ret
    exact ⟨rfl, bnext (bnew (Below.refl _ _) _) hb1⟩
  · have h := Bool.eq_false_iff.2 h
    have e0 : pForm c = (!alnum c && !txt6.contains c) := by unfold pForm; rw [h]; rfl
    have E0 := Lib.hid e0
    rw [h] at C
    clear h e0
    go_enter Tryz.func245, Tryz.ntmps245
    go_wp2_with (first
      | (go_at_call 243; go_must (go_fit (C.out _)); rintro e w1 ⟨rfl, hb1⟩)
      | (go_at_call 79; go_must (go_fit (indexByte_any txt6 _ _)); rintro e w2 ⟨rfl, rfl⟩))
    all_goals go_ret
    all_goals refine ⟨ret_bool ?_, bnext (bnew (Below.refl _ _) _) hb1⟩
    all_goals rw [E0.out]
    all_goals first
      | (have hx : alnum c = true := (by unfold alnum; rw [decide_eq_true_eq]; omega); rw [hx]; rfl)
      | (have hx : alnum c = false := (by unfold alnum; rw [decide_eq_false_iff_not]; omega); rw [hx]; exact idx_out txt6 c)
set_option maxRecDepth 100000 in
set_option maxHeartbeats 1000000 in
theorem inNone_any (c : UInt8) (w : World) : Calls Tryz.prog 247 #[.agg #[], .int .u8 (c.toNat : Int)] w fun e w' => e = .returned (.bool false) ∧ Below w.heap.size w w' := by
  go_enter Tryz.func247, Tryz.ntmps247
  go_wp2
  go_ret
  exact ⟨rfl, bnew (Below.refl _ _) _⟩

def hexDigits : ByteArray := ⟨#[48, 49, 50, 51, 52, 53, 54, 55, 56, 57, 65, 66, 67, 68, 69, 70]⟩
theorem hexdig_fin : ∀ k : Fin 16, hexDigits.data[k.val]? = some (hexU k.val) := by decide
theorem hexdig {m : Nat} (hm : m < 16) (h : m < (ByteArray.mk #[48, 49, 50, 51, 52, 53, 54, 55, 56, 57, 65, 66, 67, 68, 69, 70]).size) : (ByteArray.mk #[48, 49, 50, 51, 52, 53, 54, 55, 56, 57, 65, 66, 67, 68, 69, 70])[m]'h = hexU m := by
  have h1 := hexdig_fin ⟨m, hm⟩
  have h2 : hexDigits.data[m]? = some ((ByteArray.mk #[48, 49, 50, 51, 52, 53, 54, 55, 56, 57, 65, 66, 67, 68, 69, 70])[m]'h) := Array.getElem?_eq_getElem (xs := hexDigits.data) (i := m) h
  rw [h2] at h1
  exact Option.some.inj h1
set_option maxRecDepth 100000 in
set_option maxHeartbeats 2000000 in
theorem showControl_any (c : UInt8) (w : World) : Calls Tryz.prog 242 #[.agg #[], .int .u8 (c.toNat : Int)] w fun e w' => e = .returned (.string (str (esc c))) ∧ Below w.heap.size w w' := by
  have h1 : (0 : Int) ≤ (c.toNat : Int) / 16 := by omega
  have h2 : (c.toNat : Int) / 16 < 16 := by have := byte_lt c; omega
  have h3 : (0 : Int) ≤ (c.toNat : Int) % 16 := by omega
  have h4 : (c.toNat : Int) % 16 < 16 := by omega
  have h5 : bits .and .u8 (c.toNat : Int) 15 = (c.toNat : Int) % 16 := by have := and_mask 4 (by decide) (a := (c.toNat : Int)) (by omega) (by have := byte_lt c; omega); simpa using this
  have hs := fun (x y : UInt8) => run_strM (P := Tryz.prog) (w := ((w.alloc (.cells #[] 141)).alloc (.cells #[.int .u8 37, .int .u8 (x.toNat : Int), .int .u8 (y.toNat : Int)] 5)).drew) (src := 58) (dst := 9) (e := 5) (c := 3) (l := [37, x, y]) (n := 3) (B := w.heap.size + 2) (A := some ⟨w.heap.size + 1, 0, none⟩) Tryz.underlying58 Tryz.underlying5 Tryz.underlying9 (by have := @Rd.lit (w.alloc (.cells #[] 141)) #[.int .u8 37, .int .u8 (x.toNat : Int), .int .u8 (y.toNat : Int)] 5 (0, 0); simp at this; exact Rd.drew this) rfl
  go_enter Tryz.func242, Tryz.ntmps242
  go_wp2
  go_region
  go_wp2
  go_ret
  refine ⟨?_, (bnew (bnew (Below.refl _ _) _) _).drew⟩
  rw [hexdig (m := c.toNat / 16) (by have := byte_lt c; omega), hexdig (m := c.toNat % 16) (by omega)]
  rfl

set_option maxRecDepth 100000 in
set_option maxHeartbeats 1000000 in
theorem showForm_any (c : UInt8) (w : World) : Calls Tryz.prog 246 #[.agg #[], .int .u8 (c.toNat : Int)] w fun e w' => e = .returned (.string (str (if c = 32 then [43] else esc c))) ∧ Below w.heap.size w w' := by
  have hp := run_partAt_zero (P := Tryz.prog) (shape_new w #[] 145 (0, 0)) (.inl (by kernel_rfl))
  by_cases h : c = 32
  · have hb : ((c.toNat : Int) == 32) = true := by rw [h]; rfl
    have E := Lib.hid (show (if c = 32 then [43] else esc c) = [43] from if_pos h)
    rw [E.out]
    clear h E
    go_enter Tryz.func246, Tryz.ntmps246
    go_wp2
    go_ret
    exact ⟨rfl, bnew (Below.refl _ _) _⟩
  · have hb : ((c.toNat : Int) == 32) = false := by
      rw [beq_eq_false_iff_ne]; intro e; exact h (byte_ext (by show c.toNat = 32; omega))
    have E := Lib.hid (show (if c = 32 then [43] else esc c) = esc c from if_neg h)
    rw [E.out]
    clear h E
    go_enter Tryz.func246, Tryz.ntmps246
    go_wp2_with (go_at_call 242; go_must (go_fit (showControl_any c _)); rintro e w1 ⟨rfl, hb1⟩)
    go_ret
    exact ⟨rfl, bnext (bnew (Below.refl _ _) _) hb1⟩

/-- The sets as the language has them. -/
def sigV (s : Int) : Value :=
  if s = 0 then .iface 141 (.agg #[])
  else if s = 1 then .iface 143 (.agg #[.string (str txt1)])
  else if s = 2 then .iface 143 (.agg #[.string (str txt2)])
  else if s = 3 then .iface 143 (.agg #[.string (str txt3)])
  else if s = 4 then .iface 143 (.agg #[.string (str txt4)])
  else if s = 5 then .iface 143 (.agg #[.string (str txt5)])
  else if s = 6 then .iface 145 (.agg #[])
  else .iface 146 (.agg #[])
theorem s_cases (s : Int) : s = 0 ∨ s = 1 ∨ s = 2 ∨ s = 3 ∨ s = 4 ∨ s = 5 ∨ s = 6 ∨ (s ≠ 0 ∧ s ≠ 1 ∧ s ≠ 2 ∧ s ≠ 3 ∧ s ≠ 4 ∧ s ≠ 5 ∧ s ≠ 6) := by omega

set_option maxRecDepth 100000 in
set_option maxHeartbeats 1000000 in
theorem of_any (s : Int) (w : World) : Calls Tryz.prog 80 #[.int .i64 s] w fun e w' => e = .returned (sigV s) ∧ w = w' := by
  rcases s_cases s with rfl | rfl | rfl | rfl | rfl | rfl | rfl | ⟨h0, h1, h2, h3, h4, h5, h6⟩
  iterate 7
    · go_enter Tryz.func80, Tryz.ntmps80
      go_wp2
      go_ret
      exact ⟨rfl, rfl⟩
  · have e : sigV s = .iface 146 (.agg #[]) := by unfold sigV; rw [if_neg h0, if_neg h1, if_neg h2, if_neg h3, if_neg h4, if_neg h5, if_neg h6]
    rw [e]
    clear e
    have b0 : (s == 0) = false := beq_eq_false_iff_ne.2 h0
    have b1 : (s == 1) = false := beq_eq_false_iff_ne.2 h1
    have b2 : (s == 2) = false := beq_eq_false_iff_ne.2 h2
    have b3 : (s == 3) = false := beq_eq_false_iff_ne.2 h3
    have b4 : (s == 4) = false := beq_eq_false_iff_ne.2 h4
    have b5 : (s == 5) = false := beq_eq_false_iff_ne.2 h5
    have b6 : (s == 6) = false := beq_eq_false_iff_ne.2 h6
    clear h0 h1 h2 h3 h4 h5 h6
    go_enter Tryz.func80, Tryz.ntmps80
    go_wp2
    go_ret
    exact ⟨rfl, rfl⟩
end Go.Proofs.YtfandijagdiggaaGreatDoor

namespace Go.Proofs.YtfandijagdiggaaGreatDoor
set_option linter.all false
open Go.RowKit

theorem idx_hex_fin : ∀ k : Fin 256, Lib.indexByte [48, 49, 50, 51, 52, 53, 54, 55, 56, 57, 65, 66, 67, 68, 69, 70] (if 97 ≤ k.val ∧ k.val ≤ 102 then UInt8.ofNat (k.val - 32) else UInt8.ofNat k.val) = hexV (UInt8.ofNat k.val) := by decide +kernel
theorem idx_hexN (c : UInt8) (h : ¬ (97 ≤ c.toNat ∧ c.toNat ≤ 102)) : Lib.indexByte [48, 49, 50, 51, 52, 53, 54, 55, 56, 57, 65, 66, 67, 68, 69, 70] c = hexV c := by
  have := idx_hex_fin ⟨c.toNat, byte_lt c⟩
  simp only [if_neg h, UInt8.ofNat_toNat] at this
  exact this
theorem idx_hexL (c : UInt8) (h : 97 ≤ c.toNat ∧ c.toNat ≤ 102) : Lib.indexByte [48, 49, 50, 51, 52, 53, 54, 55, 56, 57, 65, 66, 67, 68, 69, 70] (UInt8.ofNat ((c.toNat : Int) - 32).toNat) = hexV c := by
  have := idx_hex_fin ⟨c.toNat, byte_lt c⟩
  simp only [if_pos h, UInt8.ofNat_toNat] at this
  rw [show ((c.toNat : Int) - 32).toNat = c.toNat - 32 from by omega]
  exact this
set_option maxRecDepth 100000 in
set_option maxHeartbeats 1000000 in
theorem value_any (c : UInt8) (w : World) : Calls Tryz.prog 118 #[.int .u8 (c.toNat : Int)] w fun e w' => e = .returned (.int .i64 (hexV c)) ∧ w = w' := by
  go_enter Tryz.func118, Tryz.ntmps118
  go_wp2_with (go_at_call 79; go_must (go_fit (indexByte_any [48, 49, 50, 51, 52, 53, 54, 55, 56, 57, 65, 66, 67, 68, 69, 70] _ _)); rintro e w1 ⟨rfl, rfl⟩)
  all_goals go_ret
  all_goals refine ⟨ret_int ?_, rfl⟩
  · exact idx_hexL c (by omega)
  · exact idx_hexN c (by omega)
  · exact idx_hexN c (by omega)

theorem hex_or {a b : Int} (h0 : 0 ≤ a) (h1 : a < 16) (h2 : 0 ≤ b) (h3 : b < 16) : bits .or .i64 (IntKind.i64.wrap (a * 16)) b = a * 16 + b := by
  obtain ⟨x, rfl⟩ : ∃ x : Nat, a = x := ⟨a.toNat, by omega⟩
  obtain ⟨y, rfl⟩ : ∃ y : Nat, b = y := ⟨b.toNat, by omega⟩
  have h : ∀ x : Fin 16, ∀ y : Fin 16, bits .or .i64 (IntKind.i64.wrap ((x.val : Int) * 16)) (y.val : Int) = (x.val : Int) * 16 + (y.val : Int) := by decide +kernel
  exact h ⟨x, by omega⟩ ⟨y, by omega⟩
theorem hex_wrap {a b : Int} (h0 : 0 ≤ a) (h1 : a < 16) (h2 : 0 ≤ b) (h3 : b < 16) : IntKind.u8.wrap (a * 16 + b) = ((byteOf (a * 16 + b)).toNat : Int) := by
  rw [byteOf_nat (by omega) (by omega)]
  simp [IntKind.wrap, IntKind.bits, IntKind.signed]
  omega
theorem pDec_hex {l : List UInt8} (h : 2 < l.length) (h0 : gb l 0 = 37) (h1 : 0 ≤ hexV (gb l 1)) (h2 : 0 ≤ hexV (gb l 2)) : pDec l = byteOf (hexV (gb l 1) * 16 + hexV (gb l 2)) :: pDec (dr l 3) := by
  have e : pStep l = (byteOf (hexV (gb l 1) * 16 + hexV (gb l 2)), 3) := if_pos ⟨h, h0, h1, h2⟩
  rw [pDec_step (by omega), e]; rfl
theorem pDec_one {l : List UInt8} (h : 0 < l.length) (hn : ¬ (3 ≤ l.length ∧ gb l 0 = 37 ∧ 0 ≤ hexV (gb l 1) ∧ 0 ≤ hexV (gb l 2))) : pDec l = gb l 0 :: pDec (dr l 1) := by
  have e : pStep l = (gb l 0, 1) := if_neg hn
  rw [pDec_step h, e]; rfl
theorem pDec_go {l done rest rest' : List UInt8} {x : UInt8} (hd : pDec l = done ++ pDec rest ∧ done.length + rest.length ≤ l.length) (e : pDec rest = x :: pDec rest') (hl : rest'.length < rest.length) : pDec l = (done ++ [x]) ++ pDec rest' ∧ (done ++ [x]).length + rest'.length ≤ l.length := by
  refine ⟨by rw [hd.1, e]; simp, ?_⟩
  have := hd.2
  rw [List.length_append]; simp; omega
theorem en_value : ∀ args w, (callFunc 118 args).run Tryz.prog w = .ok (.enter 118 args) w := enters_of Tryz.func118 (by kernel_rfl) rfl


set_option maxRecDepth 100000 in
set_option maxHeartbeats 4000000 in
/-- pct.Decode. -/
theorem decode_pct (l : List UInt8) (w : World) (hl : l.length ≤ 100000) : Calls Tryz.prog 76 #[.string (str l)] w fun e w' => ∃ v, e = .returned v ∧ w'.ownsRow w.heap.size 5 1 v (bytes (pDec l)).length (bytes (pDec l)) ∧ Below w.heap.size w w' := by
  go_enter Tryz.func76, Tryz.ntmps76
  go_wp2
  go_loopg [0, 3] (l.length) (fun k s0 v wr => ∃ rest done : List UInt8, k = rest.length ∧ s0 = .string (str rest) ∧ Hid (pDec l = done ++ pDec rest ∧ done.length + rest.length ≤ l.length) ∧ wr.ownsRow w.heap.size 5 1 v (bytes done).length (bytes done) ∧ Below w.heap.size w wr)
  case atStart => exact ⟨l, [], rfl, rfl, ⟨rfl, by simp⟩, World.ownsRow_nil _ _ _ _, Below.refl _ _⟩
  case round =>
    obtain ⟨rest, done, rfl, rfl, hd, hown, hbel⟩ := hrel
    have hw := hbel.size
    have hsz := str_size rest
    have hg := str_get rest
    have he := str_end rest
    have hrl : (bytes done).length + rest.length ≤ 100000 := by have := hd.out.2; rw [bytes_len]; omega
    by_cases h0 : 0 < rest.length
    · by_cases hlen : 2 < rest.length
      · have hi1 : (1 : Int) < (rest.length : Int) := by omega
        have hi2 : (2 : Int) < (rest.length : Int) := by omega
        by_cases h37 : gb rest 0 = 37
        · have hb : (((gb rest 0).toNat : Int) == 37) = true := by rw [h37]; rfl
          by_cases h1 : 0 ≤ hexV (gb rest 1)
          · by_cases h2 : 0 ≤ hexV (gb rest 2)
            · have HS := Lib.hid h37
              clear h37
              go_wp2_with (first
                | (go_at_call 118; go_fit (value_any (gb rest 1) _); rintro e w1 ⟨rfl, rfl⟩)
                | (go_at_call 118; go_fit (value_any (gb rest 2) _); rintro e w1 ⟨rfl, rfl⟩))
              have hor := hex_or h1 (hexV_range (gb rest 1)).2 h2 (hexV_range (gb rest 2)).2
              have hwr := hex_wrap h1 (hexV_range (gb rest 1)).2 h2 (hexV_range (gb rest 2)).2
              go_region_law (first
                | (refine step_append_cells rfl _ _ _ rfl w.heap.size _ _ 1 1 Tryz.underlying58 info_byte rfl (by decide) _ _ _ rfl (hown.alloc _) wr.heap.size _ 1 1 5 (0, 0) rfl (heap_alloc_new wr _) rfl (by simp [Value.oneCell']) (by omega) (by decide) (by simp; omega) ?_; intro A2 c2 w2 hc2 hm2 hown2 hb2' hg2)
                | (go_simp; go_at_call 118; refine (value_any _ _).mono ?_; rintro e w1 ⟨rfl, rfl⟩))
              all_goals (try go_wp2)
              all_goals go_roundg ((dr rest 3).length)
              all_goals
                first
                | (case measure => rw [dr_len]; omega)
                | (case rel => exact ⟨dr rest 3, done ++ [_], rfl, rfl, pDec_go hd.out (pDec_hex hlen HS.out h1 h2) (by rw [dr_len]; omega), own_as hown2 (by rw [bytes_append, List.length_append]; rfl) (by rw [bytes_append]; rfl), hbel.trans ((((Below.refl _ _).alloc hw _).drew).trans hb2')⟩)
            · have h2' : hexV (gb rest 2) < 0 := by omega
              have HN := Lib.hid (pDec_one h0 (fun e => h2 e.2.2.2))
              clear h2 h37
              go_wp2_with (first
                | (go_at_call 118; go_must (go_fit (value_any _ _)); rintro e w1 ⟨rfl, rfl⟩)
                | (at_builtin; refine wpList_append_lit rfl _ _ _ rfl w.heap.size _ _ 1 1 Tryz.underlying58 info_byte rfl (by decide) _ _ _ rfl hown _ 1 1 _ rfl rfl (by simp [Value.oneCell']) (by omega) (by decide) (by omega) ?_; intro A2 c2 w2 hc2 hm2 hown2 hb2 hg2))
              all_goals go_roundg ((dr rest 1).length)
              all_goals
                first
                | (case measure => rw [dr_len]; omega)
                | (case rel => exact ⟨dr rest 1, done ++ [gb rest 0], rfl, rfl, pDec_go hd.out HN.out (by rw [dr_len]; omega), own_as hown2 (by rw [bytes_append, List.length_append]; rfl) (by rw [bytes_append]; rfl), hbel.trans hb2⟩)
          · have h1' : hexV (gb rest 1) < 0 := by omega
            have HN := Lib.hid (pDec_one h0 (fun e => h1 e.2.2.1))
            clear h1 h37
            go_wp2_with (first
              | (go_at_call 118; go_must (go_fit (value_any _ _)); rintro e w1 ⟨rfl, rfl⟩)
              | (at_builtin; refine wpList_append_lit rfl _ _ _ rfl w.heap.size _ _ 1 1 Tryz.underlying58 info_byte rfl (by decide) _ _ _ rfl hown _ 1 1 _ rfl rfl (by simp [Value.oneCell']) (by omega) (by decide) (by omega) ?_; intro A2 c2 w2 hc2 hm2 hown2 hb2 hg2))
            all_goals go_roundg ((dr rest 1).length)
            all_goals
              first
              | (case measure => rw [dr_len]; omega)
              | (case rel => exact ⟨dr rest 1, done ++ [gb rest 0], rfl, rfl, pDec_go hd.out HN.out (by rw [dr_len]; omega), own_as hown2 (by rw [bytes_append, List.length_append]; rfl) (by rw [bytes_append]; rfl), hbel.trans hb2⟩)
        · have hb : (((gb rest 0).toNat : Int) == 37) = false := by
            rw [beq_eq_false_iff_ne]; intro e; exact h37 (byte_ext (by show (gb rest 0).toNat = 37; omega))
          have HN := Lib.hid (pDec_one h0 (fun e => h37 e.2.1))
          clear h37
          go_wp2_with (first
            | (go_at_call 118; go_must (go_fit (value_any _ _)); rintro e w1 ⟨rfl, rfl⟩)
            | (at_builtin; refine wpList_append_lit rfl _ _ _ rfl w.heap.size _ _ 1 1 Tryz.underlying58 info_byte rfl (by decide) _ _ _ rfl hown _ 1 1 _ rfl rfl (by simp [Value.oneCell']) (by omega) (by decide) (by omega) ?_; intro A2 c2 w2 hc2 hm2 hown2 hb2 hg2))
          all_goals go_roundg ((dr rest 1).length)
          all_goals
            first
            | (case measure => rw [dr_len]; omega)
            | (case rel => exact ⟨dr rest 1, done ++ [gb rest 0], rfl, rfl, pDec_go hd.out HN.out (by rw [dr_len]; omega), own_as hown2 (by rw [bytes_append, List.length_append]; rfl) (by rw [bytes_append]; rfl), hbel.trans hb2⟩)
      · have hlen2 : (rest.length : Int) ≤ 2 := by omega
        have HN := Lib.hid (pDec_one h0 (fun e => hlen e.1))
        go_wp2_with (first
          | (go_at_call 118; go_must (go_fit (value_any _ _)); rintro e w1 ⟨rfl, rfl⟩)
          | (at_builtin; refine wpList_append_lit rfl _ _ _ rfl w.heap.size _ _ 1 1 Tryz.underlying58 info_byte rfl (by decide) _ _ _ rfl hown _ 1 1 _ rfl rfl (by simp [Value.oneCell']) (by omega) (by decide) (by omega) ?_; intro A2 c2 w2 hc2 hm2 hown2 hb2 hg2))
        all_goals go_roundg ((dr rest 1).length)
        all_goals
          first
          | (case measure => rw [dr_len]; omega)
          | (case rel => exact ⟨dr rest 1, done ++ [gb rest 0], rfl, rfl, pDec_go hd.out HN.out (by rw [dr_len]; omega), own_as hown2 (by rw [bytes_append, List.length_append]; rfl) (by rw [bytes_append]; rfl), hbel.trans hb2⟩)
    · have h00 : rest = [] := List.eq_nil_of_length_eq_zero (by omega)
      subst h00
      go_wp2
      go_ret
      have e : pDec l = done := by have := hd.out.1; rw [pDec_nil, List.append_nil] at this; exact this
      rw [e]
      exact ⟨_, rfl, hown, hbel⟩
end Go.Proofs.YtfandijagdiggaaGreatDoor

namespace Go.Proofs.YtfandijagdiggaaGreatDoor
set_option linter.all false
open Go.RowKit


def pShow (s : Int) (c : UInt8) : List UInt8 := if s = 6 ∧ c = 32 then [43] else esc c
theorem pEnc1_in {s : Int} {c : UInt8} (h : pIn s c = true) : pEnc1 s c = pShow s c := by
  unfold pEnc1 pShow; split
  · rfl
  · first | rfl | exact if_pos h
theorem pEnc1_out {s : Int} {c : UInt8} (h : pIn s c = false) : pEnc1 s c = [c] := by
  unfold pEnc1
  rw [if_neg, if_neg (by rw [h]; decide)]
  rintro ⟨rfl, rfl⟩
  exact absurd h (by decide)
theorem pEnc_snoc {s : Int} {l : List UInt8} {j : Nat} {x : UInt8} (h : l[j]? = some x) : pEnc s (l.take (j + 1)) = pEnc s (l.take j) ++ pEnc1 s x := by
  obtain ⟨hj, hx⟩ := List.getElem?_eq_some_iff.1 h
  rw [take_snoc' l j hj, hx, pEnc_append]
  simp [pEnc]
theorem pShow_len (s : Int) (c : UInt8) : (pShow s c).length ≤ 3 := by unfold pShow esc; split <;> simp


set_option maxRecDepth 100000 in
set_option maxHeartbeats 4000000 in
theorem enc_control (s : Int) (A : Option Addr) (c : Nat) (l : List UInt8) (w : World) (hr : Rd w w.heap.size A (bytes l)) (hl : l.length ≤ 100000) 
    (hof : Hid (∀ w, Calls Tryz.prog 80 #[.int .i64 s] w fun e w' => e = .returned (.iface 141 (.agg #[])) ∧ w = w'))
    (hin : Hid (∀ (x : UInt8) w, Calls Tryz.prog 241 #[.agg #[], .int .u8 (x.toNat : Int)] w fun e w' => e = .returned (.bool (pIn s x)) ∧ Below w.heap.size w w'))
    (hsh : Hid (∀ (x : UInt8) w, Calls Tryz.prog 242 #[.agg #[], .int .u8 (x.toNat : Int)] w fun e w' => e = .returned (.string (str (pShow s x))) ∧ Below w.heap.size w w')) :
    Calls Tryz.prog 41 #[.int .i64 s, .slice A l.length c] w fun e w' => e = .returned (.string (str (pEnc s l))) ∧ Below w.heap.size w w' := by
  go_enter Tryz.func41, Tryz.ntmps41
  go_wp2_with (go_at_call 80; go_must (go_fit (hof.out _)); rintro e w0 ⟨rfl, rfl⟩)
  go_loopg [13] (l.length) (fun k i wr => ∃ j : Nat, k = l.length - j ∧ j ≤ l.length ∧ i = .int .i64 j ∧ Bld wr w.heap.size w.heap.size (pEnc s (l.take j)) ∧ Below w.heap.size w wr)
  case atStart => exact ⟨0, rfl, Nat.zero_le _, rfl, Bld.fresh w, bnew (Below.refl _ _) _⟩
  case round =>
    obtain ⟨j, rfl, hj, rfl, hbl, hbel⟩ := hrel
    have hw := hbel.size
    have hty := pEnc_le s (l.take j)
    have hty2 : (l.take j).length ≤ l.length := by rw [List.length_take]; omega
    by_cases hlt : j < l.length
    · obtain ⟨b, off, x, rfl, hb, hc, hx⟩ := (hr.below hbel).byte_at hlt
      have hlt1 : (j : Int) < (l.length : Int) := by omega
      have hj0 : (0 : Int) ≤ (j : Int) := by omega
      have CI := Lib.hid fun w => hin.out x w
      have CS := Lib.hid fun w => hsh.out x w
      have hs3 := pShow_len s x
      have hsn := Lib.hid (pEnc_snoc (s := s) hx.out)
      by_cases hk : pIn s x = true
      · rw [hk] at CI
        rw [pEnc1_in hk] at hsn
        clear hk
        go_wp2_with (first
          | (go_at_call 241; go_must (go_fit (CI.out _)); rintro e w1 ⟨rfl, hb1⟩)
          | (go_at_call 242; go_must (go_fit (CS.out _)); rintro e w2 ⟨rfl, hb2⟩; have hbl2 := (hbl.next hb1).next hb2; have q1 := hb1.size; have q2 := hb2.size)
          | (go_at_call 81; go_must (go_fit (bldStr w.heap.size w.heap.size _ (pShow s x) w2 hbl2 (by omega) (by omega))); rintro e w3 ⟨rfl, hbl3, hb3⟩))
        go_roundg (l.length - (j + 1))
        case measure => omega
        case rel => exact ⟨j + 1, rfl, by omega, by go_num, by rw [hsn.out]; exact hbl3, (bnext (bnext hbel hb1) hb2).trans hb3⟩
      · have hk := Bool.eq_false_iff.2 hk
        rw [hk] at CI
        rw [pEnc1_out hk] at hsn
        clear hk
        go_wp2_with (first
          | (go_at_call 241; go_must (go_fit (CI.out _)); rintro e w1 ⟨rfl, hb1⟩; have hbl1 := hbl.next hb1; have q1 := hb1.size)
          | (go_at_call 82; go_must (go_fit (bldByte w.heap.size w.heap.size _ x w1 hbl1 (by omega) (by omega))); rintro e w3 ⟨rfl, hbl3, hb3⟩))
        go_roundg (l.length - (j + 1))
        case measure => omega
        case rel => exact ⟨j + 1, rfl, by omega, by go_num, by rw [hsn.out]; exact hbl3, (bnext hbel hb1).trans hb3⟩
    · obtain rfl : j = l.length := by omega
      rw [List.take_length] at hbl
      go_wp2_with (go_at_call 83; go_must (go_fit (bldString w.heap.size w.heap.size _ wr hbl hw)); rintro e w1 ⟨rfl, hb1⟩)
      go_ret
      exact ⟨rfl, hbel.trans hb1⟩
set_option maxRecDepth 100000 in
set_option maxHeartbeats 4000000 in
theorem enc_more (s : Int) (A : Option Addr) (c : Nat) (l : List UInt8) (w : World) (hr : Rd w w.heap.size A (bytes l)) (hl : l.length ≤ 100000) (t : List UInt8)
    (hof : Hid (∀ w, Calls Tryz.prog 80 #[.int .i64 s] w fun e w' => e = .returned (.iface 143 (.agg #[.string (str t)])) ∧ w = w'))
    (hin : Hid (∀ (x : UInt8) w, Calls Tryz.prog 244 #[.agg #[.string (str t)], .int .u8 (x.toNat : Int)] w fun e w' => e = .returned (.bool (pIn s x)) ∧ Below w.heap.size w w'))
    (hsh : Hid (∀ (x : UInt8) w, Calls Tryz.prog 242 #[.agg #[], .int .u8 (x.toNat : Int)] w fun e w' => e = .returned (.string (str (pShow s x))) ∧ Below w.heap.size w w')) :
    Calls Tryz.prog 41 #[.int .i64 s, .slice A l.length c] w fun e w' => e = .returned (.string (str (pEnc s l))) ∧ Below w.heap.size w w' := by
  go_enter Tryz.func41, Tryz.ntmps41
  go_wp2_with (go_at_call 80; go_must (go_fit (hof.out _)); rintro e w0 ⟨rfl, rfl⟩)
  go_loopg [13] (l.length) (fun k i wr => ∃ j : Nat, k = l.length - j ∧ j ≤ l.length ∧ i = .int .i64 j ∧ Bld wr w.heap.size w.heap.size (pEnc s (l.take j)) ∧ Below w.heap.size w wr)
  case atStart => exact ⟨0, rfl, Nat.zero_le _, rfl, Bld.fresh w, bnew (Below.refl _ _) _⟩
  case round =>
    obtain ⟨j, rfl, hj, rfl, hbl, hbel⟩ := hrel
    have hw := hbel.size
    have hty := pEnc_le s (l.take j)
    have hty2 : (l.take j).length ≤ l.length := by rw [List.length_take]; omega
    by_cases hlt : j < l.length
    · obtain ⟨b, off, x, rfl, hb, hc, hx⟩ := (hr.below hbel).byte_at hlt
      have hlt1 : (j : Int) < (l.length : Int) := by omega
      have hj0 : (0 : Int) ≤ (j : Int) := by omega
      have CI := Lib.hid fun w => hin.out x w
      have CS := Lib.hid fun w => hsh.out x w
      have hs3 := pShow_len s x
      have hsn := Lib.hid (pEnc_snoc (s := s) hx.out)
      by_cases hk : pIn s x = true
      · rw [hk] at CI
        rw [pEnc1_in hk] at hsn
        clear hk
        go_wp2_with (first
          | (go_at_call 244; go_must (go_fit (CI.out _)); rintro e w1 ⟨rfl, hb1⟩)
          | (go_at_call 242; go_must (go_fit (CS.out _)); rintro e w2 ⟨rfl, hb2⟩; have hbl2 := (hbl.next hb1).next hb2; have q1 := hb1.size; have q2 := hb2.size)
          | (go_at_call 81; go_must (go_fit (bldStr w.heap.size w.heap.size _ (pShow s x) w2 hbl2 (by omega) (by omega))); rintro e w3 ⟨rfl, hbl3, hb3⟩))
        go_roundg (l.length - (j + 1))
        case measure => omega
        case rel => exact ⟨j + 1, rfl, by omega, by go_num, by rw [hsn.out]; exact hbl3, (bnext (bnext hbel hb1) hb2).trans hb3⟩
      · have hk := Bool.eq_false_iff.2 hk
        rw [hk] at CI
        rw [pEnc1_out hk] at hsn
        clear hk
        go_wp2_with (first
          | (go_at_call 244; go_must (go_fit (CI.out _)); rintro e w1 ⟨rfl, hb1⟩; have hbl1 := hbl.next hb1; have q1 := hb1.size)
          | (go_at_call 82; go_must (go_fit (bldByte w.heap.size w.heap.size _ x w1 hbl1 (by omega) (by omega))); rintro e w3 ⟨rfl, hbl3, hb3⟩))
        go_roundg (l.length - (j + 1))
        case measure => omega
        case rel => exact ⟨j + 1, rfl, by omega, by go_num, by rw [hsn.out]; exact hbl3, (bnext hbel hb1).trans hb3⟩
    · obtain rfl : j = l.length := by omega
      rw [List.take_length] at hbl
      go_wp2_with (go_at_call 83; go_must (go_fit (bldString w.heap.size w.heap.size _ wr hbl hw)); rintro e w1 ⟨rfl, hb1⟩)
      go_ret
      exact ⟨rfl, hbel.trans hb1⟩
set_option maxRecDepth 100000 in
set_option maxHeartbeats 4000000 in
theorem enc_form (s : Int) (A : Option Addr) (c : Nat) (l : List UInt8) (w : World) (hr : Rd w w.heap.size A (bytes l)) (hl : l.length ≤ 100000) 
    (hof : Hid (∀ w, Calls Tryz.prog 80 #[.int .i64 s] w fun e w' => e = .returned (.iface 145 (.agg #[])) ∧ w = w'))
    (hin : Hid (∀ (x : UInt8) w, Calls Tryz.prog 245 #[.agg #[], .int .u8 (x.toNat : Int)] w fun e w' => e = .returned (.bool (pIn s x)) ∧ Below w.heap.size w w'))
    (hsh : Hid (∀ (x : UInt8) w, Calls Tryz.prog 246 #[.agg #[], .int .u8 (x.toNat : Int)] w fun e w' => e = .returned (.string (str (pShow s x))) ∧ Below w.heap.size w w')) :
    Calls Tryz.prog 41 #[.int .i64 s, .slice A l.length c] w fun e w' => e = .returned (.string (str (pEnc s l))) ∧ Below w.heap.size w w' := by
  go_enter Tryz.func41, Tryz.ntmps41
  go_wp2_with (go_at_call 80; go_must (go_fit (hof.out _)); rintro e w0 ⟨rfl, rfl⟩)
  go_loopg [13] (l.length) (fun k i wr => ∃ j : Nat, k = l.length - j ∧ j ≤ l.length ∧ i = .int .i64 j ∧ Bld wr w.heap.size w.heap.size (pEnc s (l.take j)) ∧ Below w.heap.size w wr)
  case atStart => exact ⟨0, rfl, Nat.zero_le _, rfl, Bld.fresh w, bnew (Below.refl _ _) _⟩
  case round =>
    obtain ⟨j, rfl, hj, rfl, hbl, hbel⟩ := hrel
    have hw := hbel.size
    have hty := pEnc_le s (l.take j)
    have hty2 : (l.take j).length ≤ l.length := by rw [List.length_take]; omega
    by_cases hlt : j < l.length
    · obtain ⟨b, off, x, rfl, hb, hc, hx⟩ := (hr.below hbel).byte_at hlt
      have hlt1 : (j : Int) < (l.length : Int) := by omega
      have hj0 : (0 : Int) ≤ (j : Int) := by omega
      have CI := Lib.hid fun w => hin.out x w
      have CS := Lib.hid fun w => hsh.out x w
      have hs3 := pShow_len s x
      have hsn := Lib.hid (pEnc_snoc (s := s) hx.out)
      by_cases hk : pIn s x = true
      · rw [hk] at CI
        rw [pEnc1_in hk] at hsn
        clear hk
        go_wp2_with (first
          | (go_at_call 245; go_must (go_fit (CI.out _)); rintro e w1 ⟨rfl, hb1⟩)
          | (go_at_call 246; go_must (go_fit (CS.out _)); rintro e w2 ⟨rfl, hb2⟩; have hbl2 := (hbl.next hb1).next hb2; have q1 := hb1.size; have q2 := hb2.size)
          | (go_at_call 81; go_must (go_fit (bldStr w.heap.size w.heap.size _ (pShow s x) w2 hbl2 (by omega) (by omega))); rintro e w3 ⟨rfl, hbl3, hb3⟩))
        go_roundg (l.length - (j + 1))
        case measure => omega
        case rel => exact ⟨j + 1, rfl, by omega, by go_num, by rw [hsn.out]; exact hbl3, (bnext (bnext hbel hb1) hb2).trans hb3⟩
      · have hk := Bool.eq_false_iff.2 hk
        rw [hk] at CI
        rw [pEnc1_out hk] at hsn
        clear hk
        go_wp2_with (first
          | (go_at_call 245; go_must (go_fit (CI.out _)); rintro e w1 ⟨rfl, hb1⟩; have hbl1 := hbl.next hb1; have q1 := hb1.size)
          | (go_at_call 82; go_must (go_fit (bldByte w.heap.size w.heap.size _ x w1 hbl1 (by omega) (by omega))); rintro e w3 ⟨rfl, hbl3, hb3⟩))
        go_roundg (l.length - (j + 1))
        case measure => omega
        case rel => exact ⟨j + 1, rfl, by omega, by go_num, by rw [hsn.out]; exact hbl3, (bnext hbel hb1).trans hb3⟩
    · obtain rfl : j = l.length := by omega
      rw [List.take_length] at hbl
      go_wp2_with (go_at_call 83; go_must (go_fit (bldString w.heap.size w.heap.size _ wr hbl hw)); rintro e w1 ⟨rfl, hb1⟩)
      go_ret
      exact ⟨rfl, hbel.trans hb1⟩
set_option maxRecDepth 100000 in
set_option maxHeartbeats 4000000 in
theorem enc_none (s : Int) (A : Option Addr) (c : Nat) (l : List UInt8) (w : World) (hr : Rd w w.heap.size A (bytes l)) (hl : l.length ≤ 100000) 
    (hof : Hid (∀ w, Calls Tryz.prog 80 #[.int .i64 s] w fun e w' => e = .returned (.iface 146 (.agg #[])) ∧ w = w'))
    (hin : Hid (∀ (x : UInt8) w, Calls Tryz.prog 247 #[.agg #[], .int .u8 (x.toNat : Int)] w fun e w' => e = .returned (.bool (pIn s x)) ∧ Below w.heap.size w w'))
    (hsh : Hid (∀ (x : UInt8) w, Calls Tryz.prog 242 #[.agg #[], .int .u8 (x.toNat : Int)] w fun e w' => e = .returned (.string (str (pShow s x))) ∧ Below w.heap.size w w')) :
    Calls Tryz.prog 41 #[.int .i64 s, .slice A l.length c] w fun e w' => e = .returned (.string (str (pEnc s l))) ∧ Below w.heap.size w w' := by
  go_enter Tryz.func41, Tryz.ntmps41
  go_wp2_with (go_at_call 80; go_must (go_fit (hof.out _)); rintro e w0 ⟨rfl, rfl⟩)
  go_loopg [13] (l.length) (fun k i wr => ∃ j : Nat, k = l.length - j ∧ j ≤ l.length ∧ i = .int .i64 j ∧ Bld wr w.heap.size w.heap.size (pEnc s (l.take j)) ∧ Below w.heap.size w wr)
  case atStart => exact ⟨0, rfl, Nat.zero_le _, rfl, Bld.fresh w, bnew (Below.refl _ _) _⟩
  case round =>
    obtain ⟨j, rfl, hj, rfl, hbl, hbel⟩ := hrel
    have hw := hbel.size
    have hty := pEnc_le s (l.take j)
    have hty2 : (l.take j).length ≤ l.length := by rw [List.length_take]; omega
    by_cases hlt : j < l.length
    · obtain ⟨b, off, x, rfl, hb, hc, hx⟩ := (hr.below hbel).byte_at hlt
      have hlt1 : (j : Int) < (l.length : Int) := by omega
      have hj0 : (0 : Int) ≤ (j : Int) := by omega
      have CI := Lib.hid fun w => hin.out x w
      have CS := Lib.hid fun w => hsh.out x w
      have hs3 := pShow_len s x
      have hsn := Lib.hid (pEnc_snoc (s := s) hx.out)
      by_cases hk : pIn s x = true
      · rw [hk] at CI
        rw [pEnc1_in hk] at hsn
        clear hk
        go_wp2_with (first
          | (go_at_call 247; go_must (go_fit (CI.out _)); rintro e w1 ⟨rfl, hb1⟩)
          | (go_at_call 242; go_must (go_fit (CS.out _)); rintro e w2 ⟨rfl, hb2⟩; have hbl2 := (hbl.next hb1).next hb2; have q1 := hb1.size; have q2 := hb2.size)
          | (go_at_call 81; go_must (go_fit (bldStr w.heap.size w.heap.size _ (pShow s x) w2 hbl2 (by omega) (by omega))); rintro e w3 ⟨rfl, hbl3, hb3⟩))
        go_roundg (l.length - (j + 1))
        case measure => omega
        case rel => exact ⟨j + 1, rfl, by omega, by go_num, by rw [hsn.out]; exact hbl3, (bnext (bnext hbel hb1) hb2).trans hb3⟩
      · have hk := Bool.eq_false_iff.2 hk
        rw [hk] at CI
        rw [pEnc1_out hk] at hsn
        clear hk
        go_wp2_with (first
          | (go_at_call 247; go_must (go_fit (CI.out _)); rintro e w1 ⟨rfl, hb1⟩; have hbl1 := hbl.next hb1; have q1 := hb1.size)
          | (go_at_call 82; go_must (go_fit (bldByte w.heap.size w.heap.size _ x w1 hbl1 (by omega) (by omega))); rintro e w3 ⟨rfl, hbl3, hb3⟩))
        go_roundg (l.length - (j + 1))
        case measure => omega
        case rel => exact ⟨j + 1, rfl, by omega, by go_num, by rw [hsn.out]; exact hbl3, (bnext hbel hb1).trans hb3⟩
    · obtain rfl : j = l.length := by omega
      rw [List.take_length] at hbl
      go_wp2_with (go_at_call 83; go_must (go_fit (bldString w.heap.size w.heap.size _ wr hbl hw)); rintro e w1 ⟨rfl, hb1⟩)
      go_ret
      exact ⟨rfl, hbel.trans hb1⟩

theorem pShow_not {s : Int} (h : s ≠ 6) (x : UInt8) : pShow s x = esc x := if_neg fun e => h e.1
theorem pShow_form (x : UInt8) : pShow 6 x = (if x = 32 then [43] else esc x) := by
  unfold pShow; by_cases h : x = 32 <;> simp [h]

/-- pct.Encode. -/
theorem encode_pct (s : Int) (A : Option Addr) (c : Nat) (l : List UInt8) (w : World) (hr : Rd w w.heap.size A (bytes l)) (hl : l.length ≤ 100000) :
    Calls Tryz.prog 41 #[.int .i64 s, .slice A l.length c] w fun e w' => e = .returned (.string (str (pEnc s l))) ∧ Below w.heap.size w w' := by
  rcases s_cases s with rfl | rfl | rfl | rfl | rfl | rfl | rfl | ⟨h0, h1, h2, h3, h4, h5, h6⟩
  · exact enc_control 0 A c l w hr hl (of_any 0) (fun x w => inControl_any x w) (fun x w => by rw [pShow_not (by decide)]; exact showControl_any x w)
  · exact enc_more 1 A c l w hr hl txt1 (of_any 1) (fun x w => inMore_any txt1 x w) (fun x w => by rw [pShow_not (by decide)]; exact showControl_any x w)
  · exact enc_more 2 A c l w hr hl txt2 (of_any 2) (fun x w => inMore_any txt2 x w) (fun x w => by rw [pShow_not (by decide)]; exact showControl_any x w)
  · exact enc_more 3 A c l w hr hl txt3 (of_any 3) (fun x w => inMore_any txt3 x w) (fun x w => by rw [pShow_not (by decide)]; exact showControl_any x w)
  · exact enc_more 4 A c l w hr hl txt4 (of_any 4) (fun x w => inMore_any txt4 x w) (fun x w => by rw [pShow_not (by decide)]; exact showControl_any x w)
  · exact enc_more 5 A c l w hr hl txt5 (of_any 5) (fun x w => inMore_any txt5 x w) (fun x w => by rw [pShow_not (by decide)]; exact showControl_any x w)
  · exact enc_form 6 A c l w hr hl (of_any 6) (fun x w => inForm_any x w) (fun x w => by rw [pShow_form]; exact showForm_any x w)
  · refine enc_none s A c l w hr hl ?_ (fun x w => ?_) (fun x w => by rw [pShow_not h6]; exact showControl_any x w)
    · have e : sigV s = .iface 146 (.agg #[]) := by unfold sigV; rw [if_neg h0, if_neg h1, if_neg h2, if_neg h3, if_neg h4, if_neg h5, if_neg h6]
      intro w
      rw [← e]
      exact of_any s w
    · have e2 : pIn s x = false := by unfold pIn; rw [if_neg h0, if_neg h1, if_neg h2, if_neg h3, if_neg h4, if_neg h5, if_neg h6]
      rw [e2]; exact inNone_any x w
end Go.Proofs.YtfandijagdiggaaGreatDoor

namespace Go.Proofs.YtfandijagdiggaaGreatDoor
set_option linter.all false
open Go.RowKit

/-- The row that '[]byte(s)' lays. -/
def byteRow (w : World) (l : List UInt8) (t : TypeId) : Obj :=
  .cells (bytesRow (str l) (grownCap w l.length 0 t)) t ((bytesRow (str l) (grownCap w l.length 0 t)).size, (bytesRow (str l) (grownCap w l.length 0 t)).size + 1)
theorem bytes_at (w : World) (l : List UInt8) :
    (convert 9 58 (.string (str l))).run Tryz.prog w =
      .ok (.slice (some ⟨w.heap.size, 0, none⟩) l.length (grownCap w l.length 0 5)) (w.drew.alloc (byteRow w l 5)) := by
  have hl := str_size l
  rw [run_bytes_of_string w 9 58 5 (str l) Tryz.underlying9 Tryz.underlying58 Tryz.underlying5, hl]
  rfl
theorem byteRow_rd (w : World) (l : List UInt8) (t : TypeId) {B : Nat} (hB : w.heap.size < B) : Rd (w.drew.alloc (byteRow w l t)) B (some ⟨w.heap.size, 0, none⟩) (bytes l) := fun _ => by
  refine ⟨w.heap.size, 0, rfl, hB, fun j u hu => ?_⟩
  have hrow : (w.drew.alloc (byteRow w l t)).heap[w.heap.size]? = some (byteRow w l t) := heap_alloc_new w.drew _
  unfold byteRow at hrow ⊢
  have hj : j < l.length := by
    rcases Nat.lt_or_ge j l.length with h1 | h1
    · exact h1
    · rw [List.getElem?_eq_none (by rw [bytes_len]; exact h1)] at hu; cases hu
  rw [Nat.zero_add, cell_of_row _ _ j _ _ _ hrow]
  unfold bytesRow
  rw [Array.getElem?_append_left (by simpa [str] using hj)]
  unfold bytes at hu
  rw [← hu]
  simp [str]

/-- Pairs as they lie in a row: a name, a value. -/
def prs (l : List Pr) : List Value := l.flatMap fun p => [Value.string (str p.1), Value.string (str p.2)]
theorem prs_len (l : List Pr) : (prs l).length = l.length * 2 := by
  unfold prs
  induction l with
  | nil => rfl
  | cons p l ih => rw [List.flatMap_cons, List.length_append, ih]; simp; omega
theorem prs_append (a b : List Pr) : prs (a ++ b) = prs a ++ prs b := List.flatMap_append ..
theorem prs_one (l : List Pr) : ∀ u ∈ prs l, u.oneCell' = true := by
  intro u hu
  obtain ⟨p, _, hp⟩ := List.mem_flatMap.1 hu
  rcases List.mem_cons.1 hp with rfl | hp
  · rfl
  · rw [List.mem_singleton.1 hp]; rfl
theorem prs_at {l : List Pr} {k : Nat} {p : Pr} (h : l[k]? = some p) : (prs l)[k * 2]? = some (.string (str p.1)) ∧ (prs l)[k * 2 + 1]? = some (.string (str p.2)) := by
  induction l generalizing k with
  | nil => cases h
  | cons q l ih =>
    cases k with
    | zero => simp at h; subst h; exact ⟨rfl, rfl⟩
    | succ k =>
      have := ih (k := k) (by simpa using h)
      have e : prs (q :: l) = [Value.string (str q.1), Value.string (str q.2)] ++ prs l := by unfold prs; rw [List.flatMap_cons]
      rw [e]
      refine ⟨?_, ?_⟩
      · rw [show (k + 1) * 2 = k * 2 + 2 from by omega, List.getElem?_append_right (by simp)]; simpa using this.1
      · rw [show (k + 1) * 2 + 1 = k * 2 + 1 + 2 from by omega, List.getElem?_append_right (by simp)]; simpa using this.2
theorem Rd.pair_at {w : World} {B : Nat} {A : Option Addr} {l : List Pr} (h : Rd w B A (prs l)) {k : Nat} (hk : k < l.length) :
    ∃ b off p, A = some ⟨b, off, none⟩ ∧ b < B ∧ w.cell? ⟨b, off + k * 2, none⟩ = some (.string (str p.1)) ∧ w.cell? ⟨b, off + k * 2 + 1, none⟩ = some (.string (str p.2)) ∧ Hid (l[k]? = some p) := by
  obtain ⟨b, off, e, hb, hc⟩ := h (by rw [prs_len]; omega)
  have hp := prs_at (List.getElem?_eq_getElem hk)
  exact ⟨b, off, l[k], e, hb, hc _ _ hp.1, by rw [Nat.add_assoc]; exact hc _ _ hp.2, List.getElem?_eq_getElem hk⟩
/-- What the call owns reads so, however many cells an element has. -/
theorem own_rdN {w : World} {base : Nat} {e : TypeId} {size : Nat} {v : Value} {n : Nat} {xs : List Value} (h : w.ownsRow base e size v n xs) :
    ∃ A c, v = .slice A n c ∧ n ≤ c ∧ c ≤ maxLen ∧ Rd w w.heap.size A xs := by
  have hl : xs.length = n * size := h.1
  rcases h.2 with ⟨rfl, rfl⟩ | ⟨g, cap, cur, rfl, hb, hg, hnc, hcm, hs, ht⟩
  · exact ⟨none, 0, rfl, Nat.le_refl _, by simp [maxLen], by have e0 : xs = [] := List.eq_nil_of_length_eq_zero (by omega); rw [e0]; exact Rd.nil⟩
  · refine ⟨_, _, rfl, hnc, hcm, fun hn => ⟨g, 0, rfl, (Array.getElem?_eq_some_iff.1 hg).1, fun j u hu => ?_⟩⟩
    have hj : j < n * size := by rcases Nat.lt_or_ge j xs.length with h1 | h1; omega; rw [List.getElem?_eq_none h1] at hu; cases hu
    have := h.cellAt j hj
    rw [Nat.zero_add, this, hu]
theorem info_str : (Tryz.prog.info? 9).map (fun i => (i.zero, i.size, i.bytes)) = some (some (.string ByteArray.empty), 1, 16) := by kernel_rfl
end Go.Proofs.YtfandijagdiggaaGreatDoor

namespace Go.Proofs.YtfandijagdiggaaGreatDoor
set_option linter.all false
open Go.RowKit

theorem Rd.front {w : World} {B : Nat} {A : Option Addr} {xs ys : List Value} (h : Rd w B A (xs ++ ys)) : Rd w B A xs := by
  intro hp
  obtain ⟨b, off, e, hb, hc⟩ := h (by rw [List.length_append]; omega)
  refine ⟨b, off, e, hb, fun j u hu => hc j u ?_⟩
  rw [List.getElem?_append_left (by
    rcases Nat.lt_or_ge j xs.length with h1 | h1
    · exact h1
    · rw [List.getElem?_eq_none h1] at hu; cases hu)]
  exact hu
theorem last_is {α : Type} {L : List α} {n : Nat} {x : α} (hn : L.length = n + 1) (hx : L[n]? = some x) : L = L.dropLast ++ [x] ∧ L.getLast? = some x := by
  have h1 : L.getLast? = some x := by rw [List.getLast?_eq_getElem?, hn]; exact hx
  obtain ⟨l', e⟩ := List.getLast?_eq_some_iff.1 h1
  exact ⟨by rw [e, List.dropLast_concat], h1⟩
theorem pParts_cut {s : List UInt8} {n : Nat} (hn : (cuts 46 s).length = n + 1) (h0 : 0 < n) (hx : (cuts 46 s)[n]? = some []) : (pParts s).length = n ∧ cuts 46 s = pParts s ++ [[]] := by
  obtain ⟨h1, h2⟩ := last_is hn hx
  have e : pParts s = (cuts 46 s).dropLast := by unfold pParts; rw [if_pos ⟨by omega, h2⟩]
  exact ⟨by rw [e, List.length_dropLast, hn]; omega, by rw [e]; exact h1⟩
theorem pParts_all {s : List UInt8} {n : Nat} {x : List UInt8} (hn : (cuts 46 s).length = n + 1) (hx : (cuts 46 s)[n]? = some x) (h : n = 0 ∨ x ≠ []) : pParts s = cuts 46 s := by
  obtain ⟨_, h2⟩ := last_is hn hx
  unfold pParts
  rw [if_neg]
  rintro ⟨h3, h4⟩
  rw [h2] at h4
  injection h4 with h4
  rcases h with h | h
  · omega
  · exact h h4

theorem Rd.text {w : World} {B b off : Nat} {L : List (List UInt8)} (h : Rd w B (some ⟨b, off, none⟩) (strs L)) {k : Nat} {x : List UInt8} (hx : L[k]? = some x) : w.cell? ⟨b, off + k, none⟩ = some (.string (str x)) ∧ b < B := by
  obtain ⟨hk, e⟩ := List.getElem?_eq_some_iff.1 hx
  obtain ⟨b', off', y, e', hb, hc, hy⟩ := h.str_at hk
  injection e' with e'
  injection e' with e1 e2
  subst e1 e2
  rw [show L[k]? = some y from hy] at hx
  injection hx with hx
  rw [← hx]; exact ⟨hc, hb⟩

set_option maxRecDepth 100000 in
set_option maxHeartbeats 2000000 in
theorem split4_any (s : List UInt8) (w : World) (hm : ML w) (hs : s.length ≤ 100000) : Calls Tryz.prog 84 #[.string (str s)] w fun e w' => ∃ A c, e = .returned (.slice A (pParts s).length c) ∧ (pParts s).length ≤ c ∧ Rd w' w'.heap.size A (strs (pParts s)) ∧ Below w.heap.size w w' := by
  have hle := cuts_le 46 s
  have hpos := cuts_pos 46 s
  have C1 := Lib.hid (split_any 46 s w hm (by omega))
  obtain ⟨n, hn⟩ : ∃ n, (cuts 46 s).length = n + 1 := ⟨(cuts 46 s).length - 1, by omega⟩
  obtain ⟨x, hx⟩ : ∃ x, (cuts 46 s)[n]? = some x := ⟨_, List.getElem?_eq_getElem (by omega)⟩
  have HC := Lib.hid fun (h : 0 < n) (e : x = []) => pParts_cut hn h (by rw [hx, e])
  have HA := Lib.hid (pParts_all hn hx)
  have HX := Lib.hid hx
  have HN := Lib.hid hn
  rw [hn] at hle C1
  clear hn hx hpos
  have hL := str_toL
  rcases Nat.eq_zero_or_pos n with h0 | h0
  · subst h0
    have e := HA.out (.inl rfl)
    rw [e, HN.out]
    clear e
    go_enter Tryz.func84, Tryz.ntmps84
    go_wp2_with (go_at_call 122; go_must (go_fit (C1.out)); rintro e w1 ⟨rfl, hrl, hb1⟩; have hcell := (hrl.text HX.out).1; rw [Nat.zero_add] at hcell)
    all_goals go_ret
    all_goals exact ⟨_, _, rfl, Nat.le_refl _, hrl, hb1⟩
  · by_cases hxe : x = []
    · obtain ⟨e1, e2⟩ := HC.out h0 hxe
      subst hxe
      rw [e1]
      have E2 := Lib.hid e2
      clear e1 e2
      go_enter Tryz.func84, Tryz.ntmps84
      go_wp2_with (go_at_call 122; go_must (go_fit (C1.out)); rintro e w1 ⟨rfl, hrl, hb1⟩; have hcell := (hrl.text HX.out).1; rw [Nat.zero_add] at hcell)
      all_goals go_ret
      all_goals
        rw [E2.out, strs_append] at hrl
        exact ⟨_, _, rfl, by omega, hrl.front, hb1⟩
    · have e := HA.out (.inr hxe)
      rw [e, HN.out]
      clear e
      have hxe' : x.isEmpty = false := by cases x with | nil => exact absurd rfl hxe | cons _ _ => rfl
      clear hxe
      go_enter Tryz.func84, Tryz.ntmps84
      go_wp2_with (go_at_call 122; go_must (go_fit (C1.out)); rintro e w1 ⟨rfl, hrl, hb1⟩; have hcell := (hrl.text HX.out).1; rw [Nat.zero_add] at hcell)
      all_goals go_ret
      all_goals exact ⟨_, _, rfl, Nat.le_refl _, hrl, hb1⟩

set_option maxRecDepth 100000 in
set_option maxHeartbeats 2000000 in
theorem parts6_any (s : List UInt8) (w : World) (hs : s.length ≤ 100000) : Calls Tryz.prog 110 #[.string (str s)] w fun e w' => ∃ A c, e = .returned (.slice A (pParts s).length c) ∧ (pParts s).length ≤ c ∧ Rd w' w'.heap.size A (strs (pParts s)) ∧ Below w.heap.size w w' := by
  have hle := cuts_le 46 s
  have hpos := cuts_pos 46 s
  have C1 := Lib.hid (cut6_any s 46 w (by omega))
  obtain ⟨n, hn⟩ : ∃ n, (cuts 46 s).length = n + 1 := ⟨(cuts 46 s).length - 1, by omega⟩
  obtain ⟨x, hx⟩ : ∃ x, (cuts 46 s)[n]? = some x := ⟨_, List.getElem?_eq_getElem (by omega)⟩
  have HC := Lib.hid fun (h : 0 < n) (e : x = []) => pParts_cut hn h (by rw [hx, e])
  have HA := Lib.hid (pParts_all hn hx)
  have HX := Lib.hid hx
  have HN := Lib.hid hn
  rw [hn] at hle
  clear hn hx hpos
  have hL := str_toL
  rcases Nat.eq_zero_or_pos n with h0 | h0
  · subst h0
    have e := HA.out (.inl rfl)
    rw [e, HN.out]
    clear e
    go_enter Tryz.func110, Tryz.ntmps110
    go_wp2_with (go_at_call 100; go_must (go_fit (C1.out)); rintro e w1 ⟨v1, rfl, hown1, hb1⟩; obtain ⟨g1, cap1, rfl, hg11, hg12⟩ := (own_as hown1 HN.out rfl).form (by omega); obtain ⟨A1, c1, e1, hc1, hm1, hrl⟩ := own_rdN (own_as hown1 HN.out rfl); injection e1 with e1 _ e3; subst e1 e3; have hcell := (hrl.text HX.out).1; rw [Nat.zero_add] at hcell)
    all_goals go_ret
    all_goals exact ⟨_, _, rfl, hc1, hrl, hb1⟩
  · by_cases hxe : x = []
    · obtain ⟨e1, e2⟩ := HC.out h0 hxe
      subst hxe
      rw [e1]
      have E2 := Lib.hid e2
      clear e1 e2
      go_enter Tryz.func110, Tryz.ntmps110
      go_wp2_with (go_at_call 100; go_must (go_fit (C1.out)); rintro e w1 ⟨v1, rfl, hown1, hb1⟩; obtain ⟨g1, cap1, rfl, hg11, hg12⟩ := (own_as hown1 HN.out rfl).form (by omega); obtain ⟨A1, c1, e1, hc1, hm1, hrl⟩ := own_rdN (own_as hown1 HN.out rfl); injection e1 with e1 _ e3; subst e1 e3; have hcell := (hrl.text HX.out).1; rw [Nat.zero_add] at hcell)
      all_goals go_ret
      all_goals
        rw [E2.out, strs_append] at hrl
        exact ⟨_, _, rfl, by omega, hrl.front, hb1⟩
    · have e := HA.out (.inr hxe)
      rw [e, HN.out]
      clear e
      have hxe' : x.isEmpty = false := by cases x with | nil => exact absurd rfl hxe | cons _ _ => rfl
      clear hxe
      go_enter Tryz.func110, Tryz.ntmps110
      go_wp2_with (go_at_call 100; go_must (go_fit (C1.out)); rintro e w1 ⟨v1, rfl, hown1, hb1⟩; obtain ⟨g1, cap1, rfl, hg11, hg12⟩ := (own_as hown1 HN.out rfl).form (by omega); obtain ⟨A1, c1, e1, hc1, hm1, hrl⟩ := own_rdN (own_as hown1 HN.out rfl); injection e1 with e1 _ e3; subst e1 e3; have hcell := (hrl.text HX.out).1; rw [Nat.zero_add] at hcell)
      all_goals go_ret
      all_goals exact ⟨_, _, rfl, hc1, hrl, hb1⟩
end Go.Proofs.YtfandijagdiggaaGreatDoor

namespace Go.Proofs.YtfandijagdiggaaGreatDoor
set_option linter.all false
open Go.RowKit

set_option maxRecDepth 100000 in
set_option maxHeartbeats 2000000 in
theorem rnumber6_any (s : List UInt8) (w : World) (hs : s.length ≤ 1000000) : Calls Tryz.prog 111 #[.string (str s)] w fun e w' => e = .returned (.tuple #[.int .u64 (((pNum s).getD 0 : Nat) : Int), .bool (pNum s).isSome]) ∧ w = w' := by
  have hsz := str_size
  have hgt := str_get
  have hen := str_end s
  obtain ⟨T, b, hb, hT, hcase⟩ : ∃ (T : List UInt8) (b : Nat), b ≤ 16 ∧ T.length ≤ 1000000 ∧ ((s.length = 0 ∧ pNum s = none) ∨ (s.length ≠ 0 ∧ pNum s = cntGo b 0 T ∧
      ((b = 16 ∧ T = dr s 2 ∧ 2 ≤ s.length ∧ ((gb s 0).toNat : Int) = 48 ∧ (((gb s 1).toNat : Int) = 120 ∨ ((gb s 1).toNat : Int) = 88)) ∨
       (b = 8 ∧ T = dr s 1 ∧ 2 ≤ s.length ∧ ((gb s 0).toNat : Int) = 48 ∧ (((gb s 1).toNat : Int) == 120) = false ∧ (((gb s 1).toNat : Int) == 88) = false) ∨
       (b = 10 ∧ T = s ∧ 2 ≤ s.length ∧ (((gb s 0).toNat : Int) == 48) = false) ∨
       (b = 10 ∧ T = s ∧ s.length = 1)))) := by
    by_cases h1 : s.length = 0
    · exact ⟨[], 0, by omega, by simp, .inl ⟨h1, pNum_nil h1⟩⟩
    · by_cases hx : 2 ≤ s.length ∧ (gb s 0).toNat = 48 ∧ ((gb s 1).toNat = 120 ∨ (gb s 1).toNat = 88)
      · refine ⟨dr s 2, 16, by omega, by rw [dr_len]; omega, .inr ⟨h1, pNum_hex hx, .inl ⟨rfl, rfl, hx.1, by omega, by omega⟩⟩⟩
      · by_cases ho : 2 ≤ s.length ∧ (gb s 0).toNat = 48
        · refine ⟨dr s 1, 8, by omega, by rw [dr_len]; omega, .inr ⟨h1, ?_, .inr (.inl ⟨rfl, rfl, ho.1, by omega, by rw [beq_eq_false_iff_ne]; omega, by rw [beq_eq_false_iff_ne]; omega⟩)⟩⟩
          rw [pNum_oct hx ho]
          obtain ⟨hj, e⟩ := List.getElem?_eq_some_iff.1 (gb_some (l := s) (k := 0) (by omega))
          have e48 : gb s 0 = 48 := byte_ext ho.2
          have : s = 48 :: dr s 1 := by
            cases s with
            | nil => exact absurd rfl h1
            | cons a t => rw [show gb (a :: t) 0 = a from rfl] at e48; rw [e48]; rfl
          conv => lhs; rw [this]
          exact cnt_nought _
        · refine ⟨s, 10, by omega, hs, .inr ⟨h1, pNum_ten h1 ho, .inr (.inr ?_)⟩⟩
          by_cases hl : 2 ≤ s.length
          · exact .inl ⟨rfl, rfl, hl, by rw [beq_eq_false_iff_ne]; omega⟩
          · exact .inr ⟨rfl, rfl, by omega⟩
  rcases hcase with ⟨h1, h2⟩ | ⟨h1, h2, hc⟩
  · rw [h2]
    go_enter Tryz.func111, Tryz.ntmps111
    go_wp2
    all_goals go_ret2
    all_goals exact ⟨rfl, rfl⟩
  · obtain ⟨o, ho⟩ : ∃ o, o = cntGo b 0 T := ⟨_, rfl⟩
    rw [h2, ← ho]
    have HO := Lib.hid ho
    clear ho h2
    have main : ∀ (P : Prop), P → True := fun _ _ => trivial
    have hbI : (b : Int) ≤ 16 := by omega
    rcases hc with ⟨rfl, rfl, hl, h48, hx⟩ | ⟨rfl, rfl, hl, h48, hx1, hx2⟩ | ⟨rfl, rfl, hl, h48⟩ | ⟨rfl, rfl, hl⟩
    · have hdl := dr_len s 2
      rcases hx with hx | hx
      · skip
        go_enter Tryz.func111, Tryz.ntmps111
        go_wp2
        all_goals
          go_loopg [5, 6] ((dr s 2).length) (fun k s5 s6 wr => ∃ j n : Nat, k = (dr s 2).length - j ∧ j ≤ (dr s 2).length ∧ s6 = .int .i64 j ∧ s5 = .int .u64 n ∧ n ≤ hugeN ∧ Hid (o = cntGo 16 n ((dr s 2).drop j)) ∧ w = wr)
          case atStart => exact ⟨0, 0, rfl, Nat.zero_le _, rfl, rfl, Nat.zero_le _, HO, rfl⟩
          case round =>
            obtain ⟨j, n, rfl, hj, rfl, rfl, hn, ho, rfl⟩ := hrel
            unfold hugeN at hn
            by_cases hlt : j < (dr s 2).length
            · have hr := hexV_range (gb (dr s 2) j)
              by_cases hd : 0 ≤ hexV (gb (dr s 2) j) ∧ hexV (gb (dr s 2) j) < ((16 : Nat) : Int)
              · have HN := Lib.hid (cnt_at ho hlt hd)
                obtain ⟨d, hd1⟩ : ∃ d : Nat, hexV (gb (dr s 2) j) = (d : Int) := ⟨(hexV (gb (dr s 2) j)).toNat, by omega⟩
                have HD := Lib.hid hd1
                obtain ⟨hd2, hd3⟩ := hd
                go_wp2_with (go_at_call 109; go_must (go_fit (hex6_any _ _)); rintro e w1 ⟨rfl, rfl⟩)
                all_goals go_roundg ((dr s 2).length - (j + 1))
                all_goals first
                  | (case measure => omega)
                  | (case rel => exact ⟨j + 1, min (n * 16 + d) hugeN, rfl, by omega, by go_num, (by unfold hugeN; go_num), Nat.min_le_right _ _, (by have h := HN.out; rw [HD.out] at h; exact h), rfl⟩)
              · have HN := cnt_no ho hlt hd
                subst HN
                go_wp2_with (go_at_call 109; go_must (go_fit (hex6_any _ _)); rintro e w1 ⟨rfl, rfl⟩)
                all_goals go_ret2
                all_goals exact ⟨rfl, rfl⟩
            · obtain rfl : j = (dr s 2).length := by omega
              have := cnt_end ho
              subst this
              go_wp2
              go_ret2
              exact ⟨rfl, rfl⟩
      · skip
        go_enter Tryz.func111, Tryz.ntmps111
        go_wp2
        all_goals
          go_loopg [5, 6] ((dr s 2).length) (fun k s5 s6 wr => ∃ j n : Nat, k = (dr s 2).length - j ∧ j ≤ (dr s 2).length ∧ s6 = .int .i64 j ∧ s5 = .int .u64 n ∧ n ≤ hugeN ∧ Hid (o = cntGo 16 n ((dr s 2).drop j)) ∧ w = wr)
          case atStart => exact ⟨0, 0, rfl, Nat.zero_le _, rfl, rfl, Nat.zero_le _, HO, rfl⟩
          case round =>
            obtain ⟨j, n, rfl, hj, rfl, rfl, hn, ho, rfl⟩ := hrel
            unfold hugeN at hn
            by_cases hlt : j < (dr s 2).length
            · have hr := hexV_range (gb (dr s 2) j)
              by_cases hd : 0 ≤ hexV (gb (dr s 2) j) ∧ hexV (gb (dr s 2) j) < ((16 : Nat) : Int)
              · have HN := Lib.hid (cnt_at ho hlt hd)
                obtain ⟨d, hd1⟩ : ∃ d : Nat, hexV (gb (dr s 2) j) = (d : Int) := ⟨(hexV (gb (dr s 2) j)).toNat, by omega⟩
                have HD := Lib.hid hd1
                obtain ⟨hd2, hd3⟩ := hd
                go_wp2_with (go_at_call 109; go_must (go_fit (hex6_any _ _)); rintro e w1 ⟨rfl, rfl⟩)
                all_goals go_roundg ((dr s 2).length - (j + 1))
                all_goals first
                  | (case measure => omega)
                  | (case rel => exact ⟨j + 1, min (n * 16 + d) hugeN, rfl, by omega, by go_num, (by unfold hugeN; go_num), Nat.min_le_right _ _, (by have h := HN.out; rw [HD.out] at h; exact h), rfl⟩)
              · have HN := cnt_no ho hlt hd
                subst HN
                go_wp2_with (go_at_call 109; go_must (go_fit (hex6_any _ _)); rintro e w1 ⟨rfl, rfl⟩)
                all_goals go_ret2
                all_goals exact ⟨rfl, rfl⟩
            · obtain rfl : j = (dr s 2).length := by omega
              have := cnt_end ho
              subst this
              go_wp2
              go_ret2
              exact ⟨rfl, rfl⟩
    · have hdl := dr_len s 1
      go_enter Tryz.func111, Tryz.ntmps111
      go_wp2
      all_goals
        go_loopg [5, 6] ((dr s 1).length) (fun k s5 s6 wr => ∃ j n : Nat, k = (dr s 1).length - j ∧ j ≤ (dr s 1).length ∧ s6 = .int .i64 j ∧ s5 = .int .u64 n ∧ n ≤ hugeN ∧ Hid (o = cntGo 8 n ((dr s 1).drop j)) ∧ w = wr)
        case atStart => exact ⟨0, 0, rfl, Nat.zero_le _, rfl, rfl, Nat.zero_le _, HO, rfl⟩
        case round =>
          obtain ⟨j, n, rfl, hj, rfl, rfl, hn, ho, rfl⟩ := hrel
          unfold hugeN at hn
          by_cases hlt : j < (dr s 1).length
          · have hr := hexV_range (gb (dr s 1) j)
            by_cases hd : 0 ≤ hexV (gb (dr s 1) j) ∧ hexV (gb (dr s 1) j) < ((8 : Nat) : Int)
            · have HN := Lib.hid (cnt_at ho hlt hd)
              obtain ⟨d, hd1⟩ : ∃ d : Nat, hexV (gb (dr s 1) j) = (d : Int) := ⟨(hexV (gb (dr s 1) j)).toNat, by omega⟩
              have HD := Lib.hid hd1
              obtain ⟨hd2, hd3⟩ := hd
              go_wp2_with (go_at_call 109; go_must (go_fit (hex6_any _ _)); rintro e w1 ⟨rfl, rfl⟩)
              all_goals go_roundg ((dr s 1).length - (j + 1))
              all_goals first
                | (case measure => omega)
                | (case rel => exact ⟨j + 1, min (n * 8 + d) hugeN, rfl, by omega, by go_num, (by unfold hugeN; go_num), Nat.min_le_right _ _, (by have h := HN.out; rw [HD.out] at h; exact h), rfl⟩)
            · have HN := cnt_no ho hlt hd
              subst HN
              go_wp2_with (go_at_call 109; go_must (go_fit (hex6_any _ _)); rintro e w1 ⟨rfl, rfl⟩)
              all_goals go_ret2
              all_goals exact ⟨rfl, rfl⟩
          · obtain rfl : j = (dr s 1).length := by omega
            have := cnt_end ho
            subst this
            go_wp2
            go_ret2
            exact ⟨rfl, rfl⟩
    · have hz0 : ((T.length : Int) == 0) = false := by rw [beq_eq_false_iff_ne]; omega
      go_enter Tryz.func111, Tryz.ntmps111
      go_wp2
      all_goals
        go_loopg [5, 6] (T.length) (fun k s5 s6 wr => ∃ j n : Nat, k = T.length - j ∧ j ≤ T.length ∧ s6 = .int .i64 j ∧ s5 = .int .u64 n ∧ n ≤ hugeN ∧ Hid (o = cntGo 10 n (T.drop j)) ∧ w = wr)
        case atStart => exact ⟨0, 0, rfl, Nat.zero_le _, rfl, rfl, Nat.zero_le _, HO, rfl⟩
        case round =>
          obtain ⟨j, n, rfl, hj, rfl, rfl, hn, ho, rfl⟩ := hrel
          unfold hugeN at hn
          by_cases hlt : j < T.length
          · have hr := hexV_range (gb T j)
            by_cases hd : 0 ≤ hexV (gb T j) ∧ hexV (gb T j) < ((10 : Nat) : Int)
            · have HN := Lib.hid (cnt_at ho hlt hd)
              obtain ⟨d, hd1⟩ : ∃ d : Nat, hexV (gb T j) = (d : Int) := ⟨(hexV (gb T j)).toNat, by omega⟩
              have HD := Lib.hid hd1
              obtain ⟨hd2, hd3⟩ := hd
              go_wp2_with (go_at_call 109; go_must (go_fit (hex6_any _ _)); rintro e w1 ⟨rfl, rfl⟩)
              all_goals go_roundg (T.length - (j + 1))
              all_goals first
                | (case measure => omega)
                | (case rel => exact ⟨j + 1, min (n * 10 + d) hugeN, rfl, by omega, by go_num, (by unfold hugeN; go_num), Nat.min_le_right _ _, (by have h := HN.out; rw [HD.out] at h; exact h), rfl⟩)
            · have HN := cnt_no ho hlt hd
              subst HN
              go_wp2_with (go_at_call 109; go_must (go_fit (hex6_any _ _)); rintro e w1 ⟨rfl, rfl⟩)
              all_goals go_ret2
              all_goals exact ⟨rfl, rfl⟩
          · obtain rfl : j = T.length := by omega
            have := cnt_end ho
            subst this
            go_wp2
            go_ret2
            exact ⟨rfl, rfl⟩
    · have hl1 : T.length < 2 := by omega
      have hz0 : ((T.length : Int) == 0) = false := by rw [beq_eq_false_iff_ne]; omega
      clear hl
      go_enter Tryz.func111, Tryz.ntmps111
      go_wp2
      all_goals
        go_loopg [5, 6] (T.length) (fun k s5 s6 wr => ∃ j n : Nat, k = T.length - j ∧ j ≤ T.length ∧ s6 = .int .i64 j ∧ s5 = .int .u64 n ∧ n ≤ hugeN ∧ Hid (o = cntGo 10 n (T.drop j)) ∧ w = wr)
        case atStart => exact ⟨0, 0, rfl, Nat.zero_le _, rfl, rfl, Nat.zero_le _, HO, rfl⟩
        case round =>
          obtain ⟨j, n, rfl, hj, rfl, rfl, hn, ho, rfl⟩ := hrel
          unfold hugeN at hn
          by_cases hlt : j < T.length
          · have hr := hexV_range (gb T j)
            by_cases hd : 0 ≤ hexV (gb T j) ∧ hexV (gb T j) < ((10 : Nat) : Int)
            · have HN := Lib.hid (cnt_at ho hlt hd)
              obtain ⟨d, hd1⟩ : ∃ d : Nat, hexV (gb T j) = (d : Int) := ⟨(hexV (gb T j)).toNat, by omega⟩
              have HD := Lib.hid hd1
              obtain ⟨hd2, hd3⟩ := hd
              go_wp2_with (go_at_call 109; go_must (go_fit (hex6_any _ _)); rintro e w1 ⟨rfl, rfl⟩)
              all_goals go_roundg (T.length - (j + 1))
              all_goals first
                | (case measure => omega)
                | (case rel => exact ⟨j + 1, min (n * 10 + d) hugeN, rfl, by omega, by go_num, (by unfold hugeN; go_num), Nat.min_le_right _ _, (by have h := HN.out; rw [HD.out] at h; exact h), rfl⟩)
            · have HN := cnt_no ho hlt hd
              subst HN
              go_wp2_with (go_at_call 109; go_must (go_fit (hex6_any _ _)); rintro e w1 ⟨rfl, rfl⟩)
              all_goals go_ret2
              all_goals exact ⟨rfl, rfl⟩
          · obtain rfl : j = T.length := by omega
            have := cnt_end ho
            subst this
            go_wp2
            go_ret2
            exact ⟨rfl, rfl⟩

/-- The last part, as a cell. -/
theorem pLast_at {s : List UInt8} {n : Nat} {x : List UInt8} (hn : (pParts s).length = n + 1) (hx : (pParts s)[n]? = some x) : pLast s = x := by
  unfold pLast; rw [(last_is hn hx).2]; rfl
theorem cuts_piece {s x : List UInt8} {n : Nat} (hx : (pParts s)[n]? = some x) : x.length ≤ s.length := by
  have h1 : x ∈ pParts s := List.mem_of_getElem? hx
  have h2 : x ∈ cuts 46 s := by
    unfold pParts at h1
    split at h1
    · exact List.dropLast_subset _ h1
    · exact h1
  exact cuts_sum 46 s x h2
theorem Rd.last {w : World} {B : Nat} {A : Option Addr} {L : List (List UInt8)} (h : Rd w B A (strs L)) {k : Nat} {x : List UInt8} (hx : L[k]? = some x) : ∃ b off, A = some ⟨b, off, none⟩ ∧ w.cell? ⟨b, off + k, none⟩ = some (.string (str x)) := by
  obtain ⟨hk, e⟩ := List.getElem?_eq_some_iff.1 hx
  obtain ⟨b', off', y, e', hb, hc, hy⟩ := h.str_at hk
  rw [show L[k]? = some y from hy] at hx
  injection hx with hx
  rw [← hx]; exact ⟨b', off', e', hc⟩
set_option maxRecDepth 100000 in
set_option maxHeartbeats 2000000 in
theorem ends4_any (s : List UInt8) (w : World) (hm : ML w) (hs : s.length ≤ 100000) : Calls Tryz.prog 77 #[.string (str s)] w fun e w' => e = .returned (.bool (pEnds s)) ∧ Below w.heap.size w w' := by
  have hpos := pParts_pos s
  have C1 := Lib.hid (split4_any s w hm (by omega))
  obtain ⟨n, hn⟩ : ∃ n, (pParts s).length = n + 1 := ⟨(pParts s).length - 1, by omega⟩
  obtain ⟨x, hx⟩ : ∃ x, (pParts s)[n]? = some x := ⟨_, List.getElem?_eq_getElem (by omega)⟩
  have hxl := cuts_piece hx
  have HE := Lib.hid (show pEnds s = ((cntGo 10 0 x).isSome && !x.isEmpty || (pNum x).isSome) by unfold pEnds; rw [pLast_at hn hx])
  have HX := Lib.hid hx
  rw [hn] at C1
  have C2 := Lib.hid fun w => count4_any x 10 (by decide) w (by omega)
  have C3 := Lib.hid fun w => number4_any x w (by omega)
  rw [HE.out]
  have hnb : n ≤ 200000 := by
    have := cuts_le 46 s
    have : (pParts s).length ≤ (cuts 46 s).length := by unfold pParts; split; rw [List.length_dropLast]; omega; omega
    omega
  clear hn hx hpos
  have hL := str_toL
  obtain ⟨b1, hb1⟩ : ∃ b1, b1 = (cntGo 10 0 x).isSome := ⟨_, rfl⟩
  obtain ⟨b2, hb2⟩ : ∃ b2, b2 = (pNum x).isSome := ⟨_, rfl⟩
  obtain ⟨b3, hb3⟩ : ∃ b3, b3 = x.isEmpty := ⟨_, rfl⟩
  rw [← hb1] at C2 ⊢
  rw [← hb2] at C3 ⊢
  rw [← hb3]
  have hb3' : x.isEmpty = b3 := hb3.symm
  clear hb1 hb2 hb3 HE
  cases b1 <;> cases b2 <;> cases b3
  all_goals
    go_enter Tryz.func77, Tryz.ntmps77
    go_wp2_with (first
      | (go_at_call 84; go_must (go_fit (C1.out)); rintro e w1 ⟨A1, c1, rfl, hc1, hrl, hb1⟩; obtain ⟨b, off, rfl, hcell⟩ := hrl.last HX.out)
      | (go_at_call 119; go_must (go_fit (C2.out _)); rintro e w2 ⟨rfl, rfl⟩)
      | (go_at_call 85; go_must (go_fit (C3.out _)); rintro e w2 ⟨rfl, rfl⟩))
    all_goals go_ret
    all_goals exact ⟨rfl, hb1⟩
end Go.Proofs.YtfandijagdiggaaGreatDoor

namespace Go.Proofs.YtfandijagdiggaaGreatDoor
set_option linter.all false
open Go.RowKit

section
variable {o : Option Nat} {j sum : Nat} {L : List (List UInt8)} {p : List UInt8}
theorem par_drop (hx : L[j]? = some p) : L.drop j = p :: L.drop (j + 1) := by
  obtain ⟨hj, e⟩ := List.getElem?_eq_some_iff.1 hx
  rw [List.drop_eq_getElem_cons hj, e]
theorem par_none (h : o = parGo j sum (L.drop j)) (hx : L[j]? = some p) (hp : pNum p = none) : o = none := by
  rw [h, par_drop hx, parGo, hp]
theorem par_last {x : Nat} (h : o = parGo j sum (L.drop j)) (hx : L[j]? = some p) (hp : pNum p = some x) (hl : j + 1 = L.length) : o = if x < 2 ^ (8 * (4 - j)) then some (sum + x) else none := by
  have e : L.drop (j + 1) = [] := by rw [hl, List.drop_length]
  rw [h, par_drop hx, parGo, hp, e]; rfl
theorem par_more {x : Nat} (h : o = parGo j sum (L.drop j)) (hx : L[j]? = some p) (hp : pNum p = some x) (hl : j + 1 < L.length) : o = if x < 256 then parGo (j + 1) (sum + x * 2 ^ (8 * (3 - j))) (L.drop (j + 1)) else none := by
  have e : L.drop (j + 1) ≠ [] := fun e => by have := congrArg List.length e; rw [List.length_drop] at this; simp at this; omega
  rw [h, par_drop hx, parGo, hp]; simp only [if_neg e]
theorem par_end (h : o = parGo j sum (L.drop j)) (hl : L.length ≤ j) : o = some sum := by
  rw [h, List.drop_eq_nil_of_le hl]; rfl
end

theorem pow3 (j : Nat) : 2 ^ (8 * (3 - j)) ≤ 16777216 := by
  have h := Nat.pow_le_pow_right (show 0 < 2 by decide) (show 8 * (3 - j) ≤ 24 by omega)
  simpa using h
theorem castpow (v k : Nat) : (v : Int) * 2 ^ k = ((v * 2 ^ k : Nat) : Int) := by simp
theorem castpow1 (k : Nat) : (2 : Int) ^ k = ((2 ^ k : Nat) : Int) := by simp
theorem pow4 (j : Nat) : 2 ^ (8 * (4 - j)) ≤ 4294967296 := by
  have h := Nat.pow_le_pow_right (show 0 < 2 by decide) (show 8 * (4 - j) ≤ 32 by omega)
  simpa using h
theorem mul3 {v j : Nat} (h : v < 256) : v * 2 ^ (8 * (3 - j)) ≤ 4278190080 := by
  have := Nat.mul_le_mul (show v ≤ 255 by omega) (pow3 j)
  omega
theorem wrapq {v j q : Nat} (hq : q = v * 2 ^ (8 * (3 - j))) (h : q ≤ 4278190080) : wrap64 ((v : Int) * 2 ^ (8 * (3 - j))) = (q : Int) := by
  rw [castpow, ← hq]; exact IntWalk.wrap64_in _ (by omega)
theorem wraps {s q j : Nat} (hs : s ≤ j * 4294967296) (hj : j ≤ 4) (h : q ≤ 4294967296) : wrap64 ((s : Int) + (q : Int)) = (s : Int) + (q : Int) := IntWalk.wrap64_in _ (by omega)
theorem stepq {s v j : Nat} (hs : s ≤ j * 4294967296) (h : v < 256) (hj : j ≤ 4) : ∃ q : Nat, v * 2 ^ (8 * (3 - j)) = q ∧ q ≤ 4278190080 ∧ wrap64 ((v : Int) * 2 ^ (8 * (3 - j))) = (q : Int) ∧ wrap64 ((s : Int) + (q : Int)) = (s : Int) + (q : Int) := by
  have h1 := mul3 (j := j) h
  refine ⟨_, rfl, h1, wrapq rfl h1, ?_⟩
  generalize v * 2 ^ (8 * (3 - j)) = q at h1 ⊢
  exact wraps hs hj (by omega)
theorem stepl {s v j : Nat} (hs : s ≤ j * 4294967296) (h : v ≤ 1099511627776) (hj : j ≤ 4) : ∃ q : Nat, 2 ^ (8 * (4 - j)) = q ∧ q ≤ 4294967296 ∧ wrap64 ((2 : Int) ^ (8 * (4 - j))) = (q : Int) ∧ wrap64 ((s : Int) + (v : Int)) = (s : Int) + (v : Int) := by
  have h1 := pow4 j
  refine ⟨_, rfl, h1, ?_, IntWalk.wrap64_in _ (by omega)⟩
  rw [castpow1]
  generalize 2 ^ (8 * (4 - j)) = q at h1 ⊢
  exact IntWalk.wrap64_in _ (by omega)
-- What Parse hands on.
set_option maxRecDepth 100000 in
set_option maxHeartbeats 4000000 in
theorem parse4_any (s : List UInt8) (w : World) (hm : ML w) (hs : s.length ≤ 100000) : Calls Tryz.prog 42 #[.string (str s)] w fun e w' => e = .returned (.tuple #[.int .u32 (((pParse s).getD 0 : Nat) : Int), .int .i64 (if (pParse s).isSome then 0 else 5)]) ∧ Below w.heap.size w w' := by
  have C1 := Lib.hid (split4_any s w hm (by omega))
  have HL := Lib.hid fun (k : Nat) (x : List UInt8) (hx : (pParts s)[k]? = some x) => cuts_piece hx
  have HP := Lib.hid (show pParse s = if 4 < (pParts s).length then none else parGo 0 0 (pParts s) from rfl)
  have HT := Lib.hid fun m (h : pParse s = some m) => pParse_lt h
  obtain ⟨o, ho⟩ : ∃ o, o = pParse s := ⟨_, rfl⟩
  rw [← ho] at HP HT ⊢
  clear ho
  obtain ⟨L, hL⟩ : ∃ L, L = pParts s := ⟨_, rfl⟩
  rw [← hL] at C1 HL HP
  clear hL
  by_cases h4 : 4 < L.length
  · have e := HP.out
    rw [if_pos h4] at e
    subst e
    go_enter Tryz.func42, Tryz.ntmps42
    go_wp2_with (go_at_call 84; go_must (go_fit (C1.out)); rintro e w1 ⟨A1, c1, rfl, hc1, hrl, hb1⟩)
    all_goals go_ret2
    all_goals exact ⟨rfl, hb1⟩
  · have HO := Lib.hid (show o = parGo 0 0 (L.drop 0) by rw [HP.out, if_neg h4]; rfl)
    have h4' : L.length ≤ 4 := by omega
    clear h4 HP
    go_enter Tryz.func42, Tryz.ntmps42
    go_wp2_with (go_at_call 84; go_must (go_fit (C1.out)); rintro e w1 ⟨A1, c1, rfl, hc1, hrl, hb1⟩)
    go_loopg [5, 18] (L.length) (fun k s5 s18 wr => ∃ j sum : Nat, k = L.length - j ∧ j ≤ L.length ∧ s18 = .int .i64 j ∧ s5 = .int .i64 sum ∧ sum ≤ j * 4294967296 ∧ Hid (o = parGo j sum (L.drop j)) ∧ w1 = wr)
    case atStart => exact ⟨0, 0, rfl, Nat.zero_le _, rfl, rfl, Nat.zero_le _, HO, rfl⟩
    case round =>
      obtain ⟨j, sum, rfl, hj, rfl, rfl, hsum, ho, rfl⟩ := hrel
      by_cases hlt : j < L.length
      · obtain ⟨x, hx⟩ : ∃ x, L[j]? = some x := ⟨_, List.getElem?_eq_getElem hlt⟩
        have hxl := HL.out j x hx
        have C3 := Lib.hid fun w => number4_any x w (by omega)
        obtain ⟨b, off, rfl, hcell⟩ := hrl.last hx
        cases hp : pNum x with
        | none =>
          have e := par_none ho hx hp
          subst e
          rw [hp] at C3
          clear hp hx
          go_wp2_with (go_at_call 85; go_must (go_fit (C3.out _)); rintro e w2 ⟨rfl, rfl⟩)
          all_goals go_ret2
          all_goals exact ⟨rfl, hb1⟩
        | some v =>
          have hv := pNum_le hp
          unfold hugeN at hv
          rw [hp] at C3
          by_cases hla : j + 1 = L.length
          · have E := Lib.hid (par_last ho hx hp hla)
            clear hp hx
            have hla2 : ((j : Int) == (L.length : Int) - 1) = true := by rw [beq_iff_eq]; omega
            have hla3 : ¬ (j : Int) < (L.length : Int) - 1 := by omega
            obtain ⟨q, hq, hq1, hw1, hw2⟩ := stepl (v := v) hsum hv (by omega)
            rw [hq] at E
            clear hq
            by_cases hvq : v < q
            · have e := E.out
              rw [if_pos hvq] at e
              have E2 := Lib.hid (show o = parGo (j + 1) (sum + v) (L.drop (j + 1)) by rw [e, hla, List.drop_length]; rfl)
              clear e E hla
              go_wp2_with (go_at_call 85; go_must (go_fit (C3.out _)); rintro e w2 ⟨rfl, rfl⟩)
              all_goals go_roundg (L.length - (j + 1))
              all_goals first
                | (case measure => omega)
                | (case rel => exact ⟨j + 1, sum + v, rfl, by omega, by go_num, by go_num, by omega, E2, rfl⟩)
            · have e := E.out
              rw [if_neg hvq] at e
              subst e
              clear hla
              go_wp2_with (go_at_call 85; go_must (go_fit (C3.out _)); rintro e w2 ⟨rfl, rfl⟩)
              all_goals go_ret2
              all_goals exact ⟨rfl, hb1⟩
          · have E := Lib.hid (par_more ho hx hp (by omega))
            clear hp hx
            have hj3 : j = 0 ∨ j = 1 ∨ j = 2 := by omega
            have hla1 : j + 1 < L.length := by omega
            have hla2 : ((j : Int) == (L.length : Int) - 1) = false := by rw [beq_eq_false_iff_ne]; omega
            by_cases h256 : v < 256
            · have e := E.out
              rw [if_pos h256] at e
              have E2 := Lib.hid e
              clear e E
              obtain ⟨q, hq, hvq, hw1, hw2⟩ := stepq (v := v) hsum h256 (by omega)
              rw [hq] at E2
              clear hq hla hj3
              go_wp2_with (go_at_call 85; go_must (go_fit (C3.out _)); rintro e w2 ⟨rfl, rfl⟩)
              all_goals go_roundg (L.length - (j + 1))
              all_goals first
                | (case measure => omega)
                | (case rel => exact ⟨j + 1, sum + q, rfl, by omega, by go_num, by go_num, by omega, E2, rfl⟩)
            · have e := E.out
              rw [if_neg h256] at e
              subst e
              go_wp2_with (go_at_call 85; go_must (go_fit (C3.out _)); rintro e w2 ⟨rfl, rfl⟩)
              all_goals go_ret2
              all_goals exact ⟨rfl, hb1⟩
      · have e := par_end ho (by omega)
        subst e
        have hlt2 := HT.out _ rfl
        obtain rfl : j = L.length := by omega
        go_wp2
        all_goals go_ret2
        all_goals exact ⟨rfl, hb1⟩
end Go.Proofs.YtfandijagdiggaaGreatDoor

namespace Go.Proofs.YtfandijagdiggaaGreatDoor
set_option linter.all false
open Go.RowKit
theorem ustepq {s v j : Nat} (hs : s ≤ j * 4294967296) (h : v < 256) (hj : j ≤ 4) : ∃ q : Nat, v * 2 ^ (8 * (3 - j)) = q ∧ q ≤ 4278190080 ∧ IntKind.u64.wrap ((v : Int) * 2 ^ (8 * (3 - j))) = (q : Int) ∧ IntKind.u64.wrap ((s : Int) + (q : Int)) = (s : Int) + (q : Int) := by
  have h1 := mul3 (j := j) h
  refine ⟨_, rfl, h1, ?_, ?_⟩
  · rw [castpow]
    generalize v * 2 ^ (8 * (3 - j)) = q at h1 ⊢
    exact IntWalk.u64_in _ (by omega)
  · generalize v * 2 ^ (8 * (3 - j)) = q at h1 ⊢
    exact IntWalk.u64_in _ (by omega)
theorem ustepl {s v j n : Nat} (hs : s ≤ j * 4294967296) (h : v ≤ 1099511627776) (hj : j ≤ 4) (hn : n = j + 1) : ∃ q : Nat, 2 ^ (8 * (4 - j)) = q ∧ q ≤ 4294967296 ∧ IntKind.u64.wrap ((2 : Int) ^ (8 * (5 - n))) = (q : Int) ∧ IntKind.u64.wrap ((s : Int) + (v : Int)) = (s : Int) + (v : Int) := by
  have h1 := pow4 j
  rw [show 5 - n = 4 - j by omega]
  refine ⟨_, rfl, h1, ?_, IntWalk.u64_in _ (by omega)⟩
  rw [castpow1]
  generalize 2 ^ (8 * (4 - j)) = q at h1 ⊢
  exact IntWalk.u64_in _ (by omega)
set_option maxRecDepth 100000 in
set_option maxHeartbeats 4000000 in
theorem rparse4_any (s : List UInt8) (w : World) (hs : s.length ≤ 100000) : Calls Tryz.prog 72 #[.string (str s)] w fun e w' => e = .returned (.tuple #[.int .u32 (((pParse s).getD 0 : Nat) : Int), .int .i64 (if (pParse s).isSome then 0 else 5)]) ∧ Below w.heap.size w w' := by
  have C1 := Lib.hid (parts6_any s w (by omega))
  have HL := Lib.hid fun (k : Nat) (x : List UInt8) (hx : (pParts s)[k]? = some x) => cuts_piece hx
  have HP := Lib.hid (show pParse s = if 4 < (pParts s).length then none else parGo 0 0 (pParts s) from rfl)
  have HT := Lib.hid fun m (h : pParse s = some m) => pParse_lt h
  obtain ⟨o, ho⟩ : ∃ o, o = pParse s := ⟨_, rfl⟩
  rw [← ho] at HP HT ⊢
  clear ho
  obtain ⟨L, hL⟩ : ∃ L, L = pParts s := ⟨_, rfl⟩
  rw [← hL] at C1 HL HP
  clear hL
  by_cases h4 : 4 < L.length
  · have e := HP.out
    rw [if_pos h4] at e
    subst e
    go_enter Tryz.func72, Tryz.ntmps72
    go_wp2_with (go_at_call 110; go_must (go_fit (C1.out)); rintro e w1 ⟨A1, c1, rfl, hc1, hrl, hb1⟩)
    all_goals go_ret2
    all_goals exact ⟨rfl, hb1⟩
  · have HO := Lib.hid (show o = parGo 0 0 (L.drop 0) by rw [HP.out, if_neg h4]; rfl)
    have h4' : L.length ≤ 4 := by omega
    clear h4 HP
    go_enter Tryz.func72, Tryz.ntmps72
    go_wp2_with (go_at_call 110; go_must (go_fit (C1.out)); rintro e w1 ⟨A1, c1, rfl, hc1, hrl, hb1⟩)
    go_loopg [5, 6] (L.length) (fun k s5 s6 wr => ∃ j sum : Nat, k = L.length - j ∧ j ≤ L.length ∧ s6 = .int .i64 j ∧ s5 = .int .u64 sum ∧ sum ≤ j * 4294967296 ∧ Hid (o = parGo j sum (L.drop j)) ∧ w1 = wr)
    case atStart => exact ⟨0, 0, rfl, Nat.zero_le _, rfl, rfl, Nat.zero_le _, HO, rfl⟩
    case round =>
      obtain ⟨j, sum, rfl, hj, rfl, rfl, hsum, ho, rfl⟩ := hrel
      by_cases hlt : j < L.length
      · obtain ⟨x, hx⟩ : ∃ x, L[j]? = some x := ⟨_, List.getElem?_eq_getElem hlt⟩
        have hxl := HL.out j x hx
        have C3 := Lib.hid fun w => rnumber6_any x w (by omega)
        obtain ⟨b, off, rfl, hcell⟩ := hrl.last hx
        cases hp : pNum x with
        | none =>
          have e := par_none ho hx hp
          subst e
          rw [hp] at C3
          clear hp hx
          go_wp2_with (go_at_call 111; go_must (go_fit (C3.out _)); rintro e w2 ⟨rfl, rfl⟩)
          all_goals go_ret2
          all_goals exact ⟨rfl, hb1⟩
        | some v =>
          have hv := pNum_le hp
          unfold hugeN at hv
          rw [hp] at C3
          by_cases hla : j + 1 = L.length
          · have E := Lib.hid (par_last ho hx hp hla)
            clear hp hx
            have hla2 : ((j : Int) == (L.length : Int) - 1) = true := by rw [beq_iff_eq]; omega
            have hla3 : ¬ (j : Int) < (L.length : Int) - 1 := by omega
            obtain ⟨q, hq, hq1, hw1, hw2⟩ := ustepl (v := v) hsum hv (by omega) hla.symm
            rw [hq] at E
            clear hq
            by_cases hvq : v < q
            · have e := E.out
              rw [if_pos hvq] at e
              have E2 := Lib.hid (show o = parGo (j + 1) (sum + v) (L.drop (j + 1)) by rw [e, hla, List.drop_length]; rfl)
              clear e E hla
              go_wp2_with (go_at_call 111; go_must (go_fit (C3.out _)); rintro e w2 ⟨rfl, rfl⟩)
              all_goals go_roundg (L.length - (j + 1))
              all_goals first
                | (case measure => omega)
                | (case rel => exact ⟨j + 1, sum + v, rfl, by omega, by go_num, by go_num, by omega, E2, rfl⟩)
            · have e := E.out
              rw [if_neg hvq] at e
              subst e
              clear hla
              go_wp2_with (go_at_call 111; go_must (go_fit (C3.out _)); rintro e w2 ⟨rfl, rfl⟩)
              all_goals go_ret2
              all_goals exact ⟨rfl, hb1⟩
          · have E := Lib.hid (par_more ho hx hp (by omega))
            clear hp hx
            have hj3 : j = 0 ∨ j = 1 ∨ j = 2 := by omega
            have hla1 : j + 1 < L.length := by omega
            have hla2 : ((j : Int) == (L.length : Int) - 1) = false := by rw [beq_eq_false_iff_ne]; omega
            by_cases h256 : v < 256
            · have e := E.out
              rw [if_pos h256] at e
              have E2 := Lib.hid e
              clear e E
              obtain ⟨q, hq, hvq, hw1, hw2⟩ := ustepq (v := v) hsum h256 (by omega)
              rw [hq] at E2
              clear hq hla hj3
              go_wp2_with (go_at_call 111; go_must (go_fit (C3.out _)); rintro e w2 ⟨rfl, rfl⟩)
              all_goals go_roundg (L.length - (j + 1))
              all_goals first
                | (case measure => omega)
                | (case rel => exact ⟨j + 1, sum + q, rfl, by omega, by go_num, by go_num, by omega, E2, rfl⟩)
            · have e := E.out
              rw [if_neg h256] at e
              subst e
              go_wp2_with (go_at_call 111; go_must (go_fit (C3.out _)); rintro e w2 ⟨rfl, rfl⟩)
              all_goals go_ret2
              all_goals exact ⟨rfl, hb1⟩
      · have e := par_end ho (by omega)
        subst e
        have hlt2 := HT.out _ rfl
        obtain rfl : j = L.length := by omega
        go_wp2
        all_goals go_ret2
        all_goals exact ⟨rfl, hb1⟩
end Go.Proofs.YtfandijagdiggaaGreatDoor

namespace Go.Proofs.YtfandijagdiggaaGreatDoor
set_option linter.all false
open Go.RowKit

theorem str_atN {w : World} {B n : Nat} {A : Option Addr} {c : Nat} {l : List UInt8} (hr : Rd w B A (bytes l)) (hn : n = l.length) : (convert 58 9 (.slice A n c)).run Tryz.prog w = .ok (.string (str l)) w :=
  run_strM Tryz.underlying58 Tryz.underlying5 Tryz.underlying9 hr hn

theorem piece_take {α : Type} {f : α → Bool} {l : List α} {j : Nat} {x : α} (h : l[j]? = some x) : (l.take (j + 1)).filter f = (l.take j).filter f ++ if f x = true then [x] else [] := by
  obtain ⟨hj, e⟩ := List.getElem?_eq_some_iff.1 h
  rw [take_snoc' l j hj, e, List.filter_append]
  congr 1
  by_cases hx : f x = true
  · rw [if_pos hx, List.filter_cons_of_pos hx, List.filter_nil]
  · rw [if_neg hx, List.filter_cons_of_neg hx, List.filter_nil]
theorem pieces_full {s : List UInt8} {j : Nat} (h : (((cuts 38 s).take j).filter full).length = 40) : (((cuts 38 s).take j).filter full).map qPair = qPairs s := by
  unfold qPairs qPieces
  have e := List.take_append_drop j (cuts 38 s)
  conv => rhs; rw [← e, List.filter_append, List.take_append_of_le_length (by omega), List.take_of_length_le (by omega)]
theorem pieces_all {s : List UInt8} (h : (((cuts 38 s).take (cuts 38 s).length).filter full).length ≤ 40) : (((cuts 38 s).take (cuts 38 s).length).filter full).map qPair = qPairs s := by
  unfold qPairs qPieces
  rw [List.take_length] at h ⊢
  rw [List.take_of_length_le h]

theorem behind_le (c : UInt8) (p : List UInt8) : (ahead c p).length ≤ p.length ∧ (behind c p).length ≤ p.length := by
  refine ⟨(List.takeWhile_prefix _).length_le, ?_⟩
  unfold behind
  rw [List.length_drop]
  have := (List.dropWhile_suffix (p := (· ≠ c)) (l := p)).length_le
  omega

end Go.Proofs.YtfandijagdiggaaGreatDoor
