/- A part of the proof. -/
import Derived.Test.YtoapelcofjjdnaaGreatDoorR00
import Derived.Test.YtoapelcofjjdnaaGreatDoorR11
import Derived.Test.YtoapelcofjjdnaaGreatDoorR03
import Derived.Lib.IndexAny
import Derived.Test.YtoapelcofjjdnaaGreatDoorR04
import Derived.IntWalk
namespace Go.Proofs.YtoapelcofjjdnaaGreatDoor
set_option linter.all false
open Go.RowKit
theorem idx_mem (t : List UInt8) (c : UInt8) : decide (0 ≤ Lib.indexByte t c) = t.contains c := (Lib.contains_iff_indexByte t c).symm
theorem idx_out (t : List UInt8) (c : UInt8) : decide (Lib.indexByte t c < 0) = !t.contains c := by
 rw [← idx_mem, ← decide_not, decide_eq_decide]; omega
def hexDigits : ByteArray := ⟨#[48, 49, 50, 51, 52, 53, 54, 55, 56, 57, 65, 66, 67, 68, 69, 70]⟩
theorem hexdig_fin : ∀ k : Fin 16, hexDigits.data[k.val]? = some (hexU k.val) := by decide
theorem hexdig {m : Nat} (hm : m < 16) (h : m < (ByteArray.mk #[48, 49, 50, 51, 52, 53, 54, 55, 56, 57, 65, 66, 67, 68, 69, 70]).size) : (ByteArray.mk #[48, 49, 50, 51, 52, 53, 54, 55, 56, 57, 65, 66, 67, 68, 69, 70])[m]'h = hexU m := by
 have h1 := hexdig_fin ⟨m, hm⟩
 have h2 : hexDigits.data[m]? = some ((ByteArray.mk #[48, 49, 50, 51, 52, 53, 54, 55, 56, 57, 65, 66, 67, 68, 69, 70])[m]'h) := Array.getElem?_eq_getElem (xs := hexDigits.data) (i := m) h
 rw [h2] at h1
 exact Option.some.inj h1
theorem s_cases (s : Int) : s = 0 ∨ s = 1 ∨ s = 2 ∨ s = 3 ∨ s = 4 ∨ s = 5 ∨ s = 6 ∨ (s ≠ 0 ∧ s ≠ 1 ∧ s ≠ 2 ∧ s ≠ 3 ∧ s ≠ 4 ∧ s ≠ 5 ∧ s ≠ 6) := by omega
end Go.Proofs.YtoapelcofjjdnaaGreatDoor
namespace Go.Proofs.YtoapelcofjjdnaaGreatDoor
set_option linter.all false
open Go.RowKit
theorem hex_wrap {a b : Int} (h0 : 0 ≤ a) (h1 : a < 16) (h2 : 0 ≤ b) (h3 : b < 16) : IntKind.u8.wrap (a * 16 + b) = ((byteOf (a * 16 + b)).toNat : Int) := by
 rw [byteOf_nat (by omega) (by omega)]
 simp [IntKind.wrap, IntKind.bits, IntKind.signed]
 omega
theorem pDec_hex {l : List UInt8} (h : 2 < l.length) (h0 : gb l 0 = 37) (h1 : 0 ≤ hexV (gb l 1)) (h2 : 0 ≤ hexV (gb l 2)) : pDec l = byteOf (hexV (gb l 1) * 16 + hexV (gb l 2)) :: pDec (dr l 3) := by
 have e : pStep l = (byteOf (hexV (gb l 1) * 16 + hexV (gb l 2)), 3) := if_pos ⟨h, h0, h1, h2⟩
 rw [pDec_step (by omega), e]; rfl
theorem pDec_one {l : List UInt8} (h : 0 < l.length) (hn : ¬ (3 ≤ l.length ∧ gb l 0 = 37 ∧ 0 ≤ hexV (gb l 1) ∧ 0 ≤ hexV (gb l 2))) : pDec l = gb l 0 :: pDec (dr l 1) := by
 have e : pStep l = (gb l 0, 1) := if_neg hn
 rw [pDec_step h, e]; rfl
end Go.Proofs.YtoapelcofjjdnaaGreatDoor
namespace Go.Proofs.YtoapelcofjjdnaaGreatDoor
set_option linter.all false
open Go.RowKit
def pShow (s : Int) (c : UInt8) : List UInt8 := if s = 6 ∧ c = 32 then [43] else esc c
theorem pEnc1_in {s : Int} {c : UInt8} (h : pIn s c = true) : pEnc1 s c = pShow s c := by
 unfold pEnc1 pShow; split
 · rfl
 · first | rfl | exact if_pos h
theorem pEnc1_out {s : Int} {c : UInt8} (h : pIn s c = false) : pEnc1 s c = [c] := by
 unfold pEnc1
 rw [if_neg, if_neg (by rw [h]; decide)]
 rintro ⟨rfl, rfl⟩
 exact absurd h (by decide)
theorem pEnc_snoc {s : Int} {l : List UInt8} {j : Nat} {x : UInt8} (h : l[j]? = some x) : pEnc s (l.take (j + 1)) = pEnc s (l.take j) ++ pEnc1 s x := by
 obtain ⟨hj, hx⟩ := List.getElem?_eq_some_iff.1 h
 rw [take_snoc' l j hj, hx, pEnc_append]
 simp [pEnc]
end Go.Proofs.YtoapelcofjjdnaaGreatDoor
namespace Go.Proofs.YtoapelcofjjdnaaGreatDoor
set_option linter.all false
open Go.RowKit
theorem beq_byte {a b : UInt8} (h : a = b) : ((a.toNat : Int) == (b.toNat : Int)) = true := by rw [h]; simp
theorem beq_byte_no {a b : UInt8} (h : a ≠ b) : ((a.toNat : Int) == (b.toNat : Int)) = false := by
 rw [beq_eq_false_iff_ne]; intro e; exact h (byte_ext (by omega))
theorem mem_of_gb {t : List UInt8} {j : Nat} (h : j < t.length) {c : UInt8} (e : gb t j = c) : t.contains c = true := by
 have := gb_some h
 rw [e] at this
 have hm := List.mem_of_getElem? this
 simpa using hm
theorem not_mem_gb {t : List UInt8} {c : UInt8} (h : ∀ k, k < t.length → gb t k ≠ c) : t.contains c = false := by
 rw [Bool.eq_false_iff]
 intro hc
 have hm : c ∈ t := by simpa using hc
 obtain ⟨k, hk⟩ := List.getElem?_of_mem hm
 have hl : k < t.length := (List.getElem?_eq_some_iff.1 hk).1
 exact h k hl (gb_of hk)
set_option maxRecDepth 100000 in
set_option maxHeartbeats 1000000 in
theorem rhas_any (t : List UInt8) (c : UInt8) (w : World) (ht : t.length ≤ 100000) : Calls Tryz.prog 133 #[.string (str t), .int .u8 (c.toNat : Int)] w fun e w' => e = .returned (.bool (t.contains c)) ∧ w = w' := by
 have hsz := str_size t
 have hg := str_get t
 go_enter Tryz.func133, Tryz.ntmps133
 go_wp2
 go_loopg [5] (t.length) (fun k i wr => ∃ j : Nat, k = t.length - j ∧ j ≤ t.length ∧ i = .int .i64 j ∧ Hid (∀ k, k < j → gb t k ≠ c) ∧ w = wr)
 case atStart => exact ⟨0, rfl, Nat.zero_le _, rfl, (fun k hk => by omega), rfl⟩
 case round =>
  obtain ⟨j, rfl, hj, rfl, hn, rfl⟩ := hrel
  by_cases hlt : j < t.length
  ·
   have hlt1 : (j : Int) < (t.length : Int) := by omega
   have hj0 : (0 : Int) ≤ (j : Int) := by omega
   by_cases he : gb t j = c
   ·
    have hb := beq_byte he
    have HE := Lib.hid he
    clear he
    go_wp2
    go_ret
    exact ⟨ret_bool (mem_of_gb hlt HE.out).symm, rfl⟩
   ·
    have hb := beq_byte_no he
    have HE := Lib.hid he
    clear he
    go_wp2
    go_roundg (t.length - (j + 1))
    case measure => omega
    case rel =>
     refine ⟨j + 1, rfl, by omega, by go_num, fun k hk => ?_, rfl⟩
     by_cases e : k = j
     · rw [e]; exact HE.out
     · exact hn.out k (by omega)
  ·
   obtain rfl : j = t.length := by omega
   go_wp2
   go_ret
   exact ⟨ret_bool (not_mem_gb hn.out).symm, rfl⟩
theorem pForm_alt_fin : ∀ k : Fin 256, pForm (UInt8.ofNat k.val) = !(alnum (UInt8.ofNat k.val) || txt6.contains (UInt8.ofNat k.val)) := by decide +kernel
theorem pForm_alt (c : UInt8) : pForm c = !(alnum c || txt6.contains c) := by
 have := pForm_alt_fin ⟨c.toNat, byte_lt c⟩
 simp only [UInt8.ofNat_toNat] at this
 exact this
set_option maxRecDepth 100000 in
set_option maxHeartbeats 4000000 in
theorem rin_any (s : Int) (c : UInt8) (w : World) : Calls Tryz.prog 98 #[.int .i64 s, .int .u8 (c.toNat : Int)] w fun e w' => e = .returned (.bool (pIn s c)) ∧ w = w' := by
 rcases s_cases s with rfl | rfl | rfl | rfl | rfl | rfl | rfl | ⟨h0, h1, h2, h3, h4, h5, h6⟩
 ·
  have E := Lib.hid (show pIn 0 c = pLow c from rfl)
  rw [E.out]
  clear E
  go_enter Tryz.func98, Tryz.ntmps98
  go_wp2
  all_goals go_ret
  all_goals exact ⟨ret_bool (by unfold pLow; rw [Bool.eq_iff_iff]; simp; omega), rfl⟩
 ·
  by_cases h : pLow c = true
  ·
   have hl : (c.toNat : Int) < 32 ∨ 126 < (c.toNat : Int) := by unfold pLow at h; rw [decide_eq_true_eq] at h; omega
   have E := Lib.hid (show pIn 1 c = true from by unfold pIn; simp [h])
   rw [E.out]
   clear h E
   rcases hl with hl | hl
   all_goals
    go_enter Tryz.func98, Tryz.ntmps98
    go_wp2
    go_ret
    exact ⟨rfl, rfl⟩
  ·
   have hl : ¬ (c.toNat : Int) < 32 ∧ ¬ 126 < (c.toNat : Int) := by unfold pLow at h; rw [decide_eq_true_eq] at h; omega
   obtain ⟨hl1, hl2⟩ := hl
   have E := Lib.hid (show pIn 1 c = txt1.contains c from by unfold pIn; simp [h])
   rw [E.out]
   clear h E
   go_enter Tryz.func98, Tryz.ntmps98
   go_wp2_with (go_at_call 133; go_must (go_fit (rhas_any txt1 c _ (by decide))); rintro e w1 ⟨rfl, rfl⟩)
   go_ret
   exact ⟨ret_bool (by first | rfl | simp), rfl⟩
 ·
  by_cases h : pLow c = true
  ·
   have hl : (c.toNat : Int) < 32 ∨ 126 < (c.toNat : Int) := by unfold pLow at h; rw [decide_eq_true_eq] at h; omega
   have E := Lib.hid (show pIn 2 c = true from by unfold pIn; simp [h])
   rw [E.out]
   clear h E
   rcases hl with hl | hl
   all_goals
    go_enter Tryz.func98, Tryz.ntmps98
    go_wp2
    go_ret
    exact ⟨rfl, rfl⟩
  ·
   have hl : ¬ (c.toNat : Int) < 32 ∧ ¬ 126 < (c.toNat : Int) := by unfold pLow at h; rw [decide_eq_true_eq] at h; omega
   obtain ⟨hl1, hl2⟩ := hl
   have E := Lib.hid (show pIn 2 c = txt2.contains c from by unfold pIn; simp [h])
   rw [E.out]
   clear h E
   go_enter Tryz.func98, Tryz.ntmps98
   go_wp2_with (go_at_call 133; go_must (go_fit (rhas_any txt2 c _ (by decide))); rintro e w1 ⟨rfl, rfl⟩)
   go_ret
   exact ⟨ret_bool (by first | rfl | simp), rfl⟩
 ·
  by_cases h : pLow c = true
  ·
   have hl : (c.toNat : Int) < 32 ∨ 126 < (c.toNat : Int) := by unfold pLow at h; rw [decide_eq_true_eq] at h; omega
   have E := Lib.hid (show pIn 3 c = true from by unfold pIn; simp [h])
   rw [E.out]
   clear h E
   rcases hl with hl | hl
   all_goals
    go_enter Tryz.func98, Tryz.ntmps98
    go_wp2
    go_ret
    exact ⟨rfl, rfl⟩
  ·
   have hl : ¬ (c.toNat : Int) < 32 ∧ ¬ 126 < (c.toNat : Int) := by unfold pLow at h; rw [decide_eq_true_eq] at h; omega
   obtain ⟨hl1, hl2⟩ := hl
   have E := Lib.hid (show pIn 3 c = txt3.contains c from by unfold pIn; simp [h])
   rw [E.out]
   clear h E
   go_enter Tryz.func98, Tryz.ntmps98
   go_wp2_with (go_at_call 133; go_must (go_fit (rhas_any txt3 c _ (by decide))); rintro e w1 ⟨rfl, rfl⟩)
   go_ret
   exact ⟨ret_bool (by first | rfl | simp), rfl⟩
 ·
  by_cases h : pLow c = true
  ·
   have hl : (c.toNat : Int) < 32 ∨ 126 < (c.toNat : Int) := by unfold pLow at h; rw [decide_eq_true_eq] at h; omega
   have E := Lib.hid (show pIn 4 c = true from by unfold pIn; simp [h])
   rw [E.out]
   clear h E
   rcases hl with hl | hl
   all_goals
    go_enter Tryz.func98, Tryz.ntmps98
    go_wp2
    go_ret
    exact ⟨rfl, rfl⟩
  ·
   have hl : ¬ (c.toNat : Int) < 32 ∧ ¬ 126 < (c.toNat : Int) := by unfold pLow at h; rw [decide_eq_true_eq] at h; omega
   obtain ⟨hl1, hl2⟩ := hl
   have E := Lib.hid (show pIn 4 c = txt4.contains c from by unfold pIn; simp [h])
   rw [E.out]
   clear h E
   go_enter Tryz.func98, Tryz.ntmps98
   go_wp2_with (go_at_call 133; go_must (go_fit (rhas_any txt4 c _ (by decide))); rintro e w1 ⟨rfl, rfl⟩)
   go_ret
   exact ⟨ret_bool (by first | rfl | simp), rfl⟩
 ·
  by_cases h : pLow c = true
  ·
   have hl : (c.toNat : Int) < 32 ∨ 126 < (c.toNat : Int) := by unfold pLow at h; rw [decide_eq_true_eq] at h; omega
   have E := Lib.hid (show pIn 5 c = true from by unfold pIn; simp [h])
   rw [E.out]
   clear h E
   rcases hl with hl | hl
   all_goals
    go_enter Tryz.func98, Tryz.ntmps98
    go_wp2
    go_ret
    exact ⟨rfl, rfl⟩
  ·
   have hl : ¬ (c.toNat : Int) < 32 ∧ ¬ 126 < (c.toNat : Int) := by unfold pLow at h; rw [decide_eq_true_eq] at h; omega
   obtain ⟨hl1, hl2⟩ := hl
   have E := Lib.hid (show pIn 5 c = txt5.contains c from by unfold pIn; simp [h])
   rw [E.out]
   clear h E
   go_enter Tryz.func98, Tryz.ntmps98
   go_wp2_with (go_at_call 133; go_must (go_fit (rhas_any txt5 c _ (by decide))); rintro e w1 ⟨rfl, rfl⟩)
   go_ret
   exact ⟨ret_bool (by first | rfl | simp), rfl⟩
 ·
  have E := Lib.hid (show pIn 6 c = !(alnum c || txt6.contains c) from pForm_alt c)
  rw [E.out]
  clear E
  go_enter Tryz.func98, Tryz.ntmps98
  go_wp2_with (go_at_call 133; go_must (go_fit (rhas_any txt6 c _ (by decide))); rintro e w1 ⟨rfl, rfl⟩)
  all_goals go_ret
  all_goals refine ⟨ret_bool ?_, rfl⟩
  all_goals first
   | (have hx : alnum c = true := (by unfold alnum; rw [decide_eq_true_eq]; omega); rw [hx]; first | rfl | (simp; done) | (simp; intro _; omega))
   | (have hx : alnum c = false := (by unfold alnum; rw [decide_eq_false_iff_not]; omega); rw [hx]; first | rfl | (simp; done) | (simp; intro _; omega))
 ·
  have e2 : pIn s c = false := by unfold pIn; rw [if_neg h0, if_neg h1, if_neg h2, if_neg h3, if_neg h4, if_neg h5, if_neg h6]
  rw [e2]
  have b0 : (s == 0) = false := beq_eq_false_iff_ne.2 h0
  have b1 : (s == 1) = false := beq_eq_false_iff_ne.2 h1
  have b2 : (s == 2) = false := beq_eq_false_iff_ne.2 h2
  have b3 : (s == 3) = false := beq_eq_false_iff_ne.2 h3
  have b4 : (s == 4) = false := beq_eq_false_iff_ne.2 h4
  have b5 : (s == 5) = false := beq_eq_false_iff_ne.2 h5
  have b6 : (s == 6) = false := beq_eq_false_iff_ne.2 h6
  clear e2 h0 h1 h2 h3 h4 h5 h6
  go_enter Tryz.func98, Tryz.ntmps98
  go_wp2
  all_goals go_ret
  all_goals exact ⟨rfl, rfl⟩
set_option maxRecDepth 100000 in
set_option maxHeartbeats 1000000 in
theorem rhex_any (c : UInt8) (w : World) : Calls Tryz.prog 109 #[.int .u8 (c.toNat : Int)] w fun e w' => e = .returned (.int .i64 (hexV c)) ∧ w = w' := by
 go_enter Tryz.func109, Tryz.ntmps109
 go_wp2
 all_goals go_ret
 all_goals exact ⟨ret_int (by unfold hexV; (repeat' split) <;> omega), rfl⟩
end Go.Proofs.YtoapelcofjjdnaaGreatDoor
namespace Go.Proofs.YtoapelcofjjdnaaGreatDoor
set_option linter.all false
open Go.RowKit
theorem hexdigI {n : Int} {m : Nat} (e : n.toNat = m) (hm : m < 16) (h : n.toNat < (ByteArray.mk #[48, 49, 50, 51, 52, 53, 54, 55, 56, 57, 65, 66, 67, 68, 69, 70]).size) : (ByteArray.mk #[48, 49, 50, 51, 52, 53, 54, 55, 56, 57, 65, 66, 67, 68, 69, 70])[n.toNat]'h = hexU m := by
 subst e; exact hexdig hm h
theorem form_ways (s : Int) (x : UInt8) : ((s == 6) = true ∧ ((x.toNat : Int) == 32) = true ∧ Hid (pEnc1 s x = [43])) ∨ ((s == 6) = false ∧ Hid (pShow s x = esc x)) ∨ ((s == 6) = true ∧ ((x.toNat : Int) == 32) = false ∧ Hid (pShow s x = esc x)) := by
 by_cases h : s = 6
 ·
  subst h
  by_cases hx : x = 32
  · subst hx; exact .inl ⟨rfl, rfl, rfl⟩
  ·
   refine .inr (.inr ⟨rfl, ?_, if_neg fun e => hx e.2⟩)
   rw [beq_eq_false_iff_ne]; intro e; exact hx (byte_ext (by show x.toNat = 32; omega))
 · exact .inr (.inl ⟨beq_eq_false_iff_ne.2 h, if_neg fun e => h e.1⟩)
set_option maxRecDepth 100000 in
set_option maxHeartbeats 8000000 in
theorem percent_any (s : Int) (A : Option Addr) (c : Nat) (l : List UInt8) (w : World) (hr : Rd w w.heap.size A (bytes l)) (hl : l.length ≤ 100000) :
    Calls Tryz.prog 59 #[.int .i64 s, .slice A l.length c] w fun e w' => e = .returned (.string (str (pEnc s l))) ∧ Below w.heap.size w w' := by
  go_enter Tryz.func59, Tryz.ntmps59
  go_wp2
  go_loopg [5, 6] (l.length) (fun k v i wr => ∃ j : Nat, k = l.length - j ∧ j ≤ l.length ∧ i = .int .i64 j ∧ wr.ownsRow w.heap.size 5 1 v (bytes (pEnc s (l.take j))).length (bytes (pEnc s (l.take j))) ∧ Below w.heap.size w wr)
  case atStart => exact ⟨0, rfl, Nat.zero_le _, rfl, World.ownsRow_nil _ _ _ _, Below.refl _ _⟩
  case round =>
    obtain ⟨j, rfl, hj, rfl, hown, hbel⟩ := hrel
    have hw := hbel.size
    have hty := pEnc_le s (l.take j)
    have hty2 : (l.take j).length ≤ l.length := by rw [List.length_take]; omega
    have hty3 : (bytes (pEnc s (l.take j))).length ≤ 300000 := by rw [bytes_len]; omega
    clear hty hty2
    by_cases hlt : j < l.length
    · obtain ⟨b, off, x, rfl, hb, hc, hx⟩ := (hr.below hbel).byte_at hlt
      have hlt1 : (j : Int) < (l.length : Int) := by omega
      have hj0 : (0 : Int) ≤ (j : Int) := by omega
      have CI := Lib.hid fun w => rin_any s x w
      have hsn := Lib.hid (pEnc_snoc (s := s) hx.out)
      rcases form_ways s x with ⟨g1, g2, hsh⟩ | ⟨g1, hsh⟩ | ⟨g1, g2, hsh⟩
      · rw [hsh.out] at hsn
        go_wp2_with (at_builtin; refine wpList_append_lit rfl _ _ _ rfl w.heap.size _ _ 1 1 Tryz.underlying58 info_byte rfl (by decide) _ _ _ rfl hown _ 1 1 _ rfl rfl (by simp [Value.oneCell']) (by omega) (by decide) (by omega) ?_; intro A2 c2 w2 hc2 hm2 hown2 hb2 hg2)
        go_roundg (l.length - (j + 1))
        case measure => omega
        case rel => exact ⟨j + 1, rfl, by omega, by go_num, own_as hown2 (by rw [hsn.out, bytes_append, List.length_append]; rfl) (by rw [hsn.out, bytes_append]; rfl), (hbel.trans hb2)⟩
      · skip
        by_cases hk : pIn s x = true
        · rw [hk] at CI
          rw [pEnc1_in hk, hsh.out] at hsn
          clear hk
          have h1 : (0 : Int) ≤ (x.toNat : Int) / 16 := by omega
          have h2 : (x.toNat : Int) / 16 < 16 := by have := byte_lt x; omega
          have h3 : (0 : Int) ≤ (x.toNat : Int) % 16 := by omega
          have h4 : (x.toNat : Int) % 16 < 16 := by omega
          have h5 : IntKind.u8.wrap ((x.toNat : Int) / 16) = (x.toNat : Int) / 16 := IntWalk.u8_in _ (by omega)
          have h6 : ((x.toNat : Int)).tmod 16 = (x.toNat : Int) % 16 := Int.tmod_eq_emod_of_nonneg (by omega)
          go_wp2_with (go_at_call 98; go_must (go_fit (CI.out _)); rintro e w1 ⟨rfl, rfl⟩)
          go_region_law (refine step_append_cells rfl _ _ _ rfl w.heap.size _ _ 1 1 Tryz.underlying58 info_byte rfl (by decide) _ _ _ rfl (hown.alloc _) wr.heap.size _ 3 3 5 (0, 0) rfl (heap_alloc_new wr _) rfl (by simp [Value.oneCell']) (by omega) (by decide) (by simp; omega) ?_; intro A2 c2 w2 hc2 hm2 hown2 hb2' hg2; have hb2 : Below w.heap.size wr w2 := (((Below.refl _ _).alloc hw _).drew).trans hb2')
          all_goals (try go_wp2)
          all_goals go_roundg (l.length - (j + 1))
          all_goals
            first
            | (case measure => omega)
            | (case rel =>
                 refine ⟨j + 1, rfl, by omega, by go_num, own_as hown2 (by rw [hsn.out, bytes_append, List.length_append]; rfl) ?_, hbel.trans hb2⟩
                 rw [hsn.out, bytes_append, hexdigI (n := (x.toNat : Int) / 16) (m := x.toNat / 16) (by omega) (by have := byte_lt x; omega), hexdigI (n := (x.toNat : Int) % 16) (m := x.toNat % 16) (by omega) (by omega)]; rfl)
        · have hk := Bool.eq_false_iff.2 hk
          rw [hk] at CI
          rw [pEnc1_out hk] at hsn
          clear hk
          go_wp2_with (first
            | (go_at_call 98; go_must (go_fit (CI.out _)); rintro e w1 ⟨rfl, rfl⟩)
            | (at_builtin; refine wpList_append_lit rfl _ _ _ rfl w.heap.size _ _ 1 1 Tryz.underlying58 info_byte rfl (by decide) _ _ _ rfl hown _ 1 1 _ rfl rfl (by simp [Value.oneCell']) (by omega) (by decide) (by omega) ?_; intro A2 c2 w2 hc2 hm2 hown2 hb2 hg2))
          go_roundg (l.length - (j + 1))
          case measure => omega
          case rel => exact ⟨j + 1, rfl, by omega, by go_num, own_as hown2 (by rw [hsn.out, bytes_append, List.length_append]; rfl) (by rw [hsn.out, bytes_append]; rfl), (hbel.trans hb2)⟩
      · skip
        by_cases hk : pIn s x = true
        · rw [hk] at CI
          rw [pEnc1_in hk, hsh.out] at hsn
          clear hk
          have h1 : (0 : Int) ≤ (x.toNat : Int) / 16 := by omega
          have h2 : (x.toNat : Int) / 16 < 16 := by have := byte_lt x; omega
          have h3 : (0 : Int) ≤ (x.toNat : Int) % 16 := by omega
          have h4 : (x.toNat : Int) % 16 < 16 := by omega
          have h5 : IntKind.u8.wrap ((x.toNat : Int) / 16) = (x.toNat : Int) / 16 := IntWalk.u8_in _ (by omega)
          have h6 : ((x.toNat : Int)).tmod 16 = (x.toNat : Int) % 16 := Int.tmod_eq_emod_of_nonneg (by omega)
          go_wp2_with (go_at_call 98; go_must (go_fit (CI.out _)); rintro e w1 ⟨rfl, rfl⟩)
          go_region_law (refine step_append_cells rfl _ _ _ rfl w.heap.size _ _ 1 1 Tryz.underlying58 info_byte rfl (by decide) _ _ _ rfl (hown.alloc _) wr.heap.size _ 3 3 5 (0, 0) rfl (heap_alloc_new wr _) rfl (by simp [Value.oneCell']) (by omega) (by decide) (by simp; omega) ?_; intro A2 c2 w2 hc2 hm2 hown2 hb2' hg2; have hb2 : Below w.heap.size wr w2 := (((Below.refl _ _).alloc hw _).drew).trans hb2')
          all_goals (try go_wp2)
          all_goals go_roundg (l.length - (j + 1))
          all_goals
            first
            | (case measure => omega)
            | (case rel =>
                 refine ⟨j + 1, rfl, by omega, by go_num, own_as hown2 (by rw [hsn.out, bytes_append, List.length_append]; rfl) ?_, hbel.trans hb2⟩
                 rw [hsn.out, bytes_append, hexdigI (n := (x.toNat : Int) / 16) (m := x.toNat / 16) (by omega) (by have := byte_lt x; omega), hexdigI (n := (x.toNat : Int) % 16) (m := x.toNat % 16) (by omega) (by omega)]; rfl)
        · have hk := Bool.eq_false_iff.2 hk
          rw [hk] at CI
          rw [pEnc1_out hk] at hsn
          clear hk
          go_wp2_with (first
            | (go_at_call 98; go_must (go_fit (CI.out _)); rintro e w1 ⟨rfl, rfl⟩)
            | (at_builtin; refine wpList_append_lit rfl _ _ _ rfl w.heap.size _ _ 1 1 Tryz.underlying58 info_byte rfl (by decide) _ _ _ rfl hown _ 1 1 _ rfl rfl (by simp [Value.oneCell']) (by omega) (by decide) (by omega) ?_; intro A2 c2 w2 hc2 hm2 hown2 hb2 hg2))
          go_roundg (l.length - (j + 1))
          case measure => omega
          case rel => exact ⟨j + 1, rfl, by omega, by go_num, own_as hown2 (by rw [hsn.out, bytes_append, List.length_append]; rfl) (by rw [hsn.out, bytes_append]; rfl), (hbel.trans hb2)⟩
    · obtain rfl : j = l.length := by omega
      rw [List.take_length, bytes_len] at hown
      obtain ⟨A3, c3, rfl, hc3, hm3, hr3⟩ := own_rd hown
      go_wp2_with (refine wpList_strL rfl _ _ _ _ rfl Tryz.underlying58 Tryz.underlying5 Tryz.underlying9 _ _ _ _ (pEnc s l) rfl rfl hr3 ?_)
      go_ret
      exact ⟨rfl, hbel⟩
theorem gb_drP (l : List UInt8) (j k : Nat) : gb (dr l j) k = gb l (j + k) := by
 unfold gb dr; rw [List.getD_eq_getElem?_getD, List.getD_eq_getElem?_getD, List.getElem?_drop]
theorem dr_dr (l : List UInt8) (j k : Nat) : dr (dr l j) k = dr l (j + k) := by unfold dr; rw [List.drop_drop]
theorem pDec_hexAt {l : List UInt8} {j : Nat} (h : j + 2 < l.length) (h0 : gb l j = 37) (h1 : 0 ≤ hexV (gb l (j + 1))) (h2 : 0 ≤ hexV (gb l (j + 2))) : pDec (dr l j) = byteOf (hexV (gb l (j + 1)) * 16 + hexV (gb l (j + 2))) :: pDec (dr l (j + 3)) := by
 have := pDec_hex (l := dr l j) (by rw [dr_len]; omega) (by rw [gb_drP]; exact h0) (by rw [gb_drP]; exact h1) (by rw [gb_drP]; exact h2)
 rw [gb_drP, gb_drP, dr_dr] at this; exact this
theorem pDec_oneAt {l : List UInt8} {j : Nat} (h : j < l.length) (hn : ¬ (j + 2 < l.length ∧ gb l j = 37 ∧ 0 ≤ hexV (gb l (j + 1)) ∧ 0 ≤ hexV (gb l (j + 2)))) : pDec (dr l j) = gb l j :: pDec (dr l (j + 1)) := by
 have := pDec_one (l := dr l j) (by rw [dr_len]; omega) (by rw [gb_drP, gb_drP, gb_drP, dr_len]; intro ⟨a, b, c, d⟩; exact hn ⟨by omega, b, c, d⟩)
 rw [gb_drP, dr_dr] at this; exact this
theorem pDec_goAt {l done : List UInt8} {j k : Nat} {x : UInt8} (hd : pDec l = done ++ pDec (dr l j) ∧ done.length + (l.length - j) ≤ l.length) (e : pDec (dr l j) = x :: pDec (dr l k)) (hk : j < k) (hl : k ≤ l.length) : pDec l = (done ++ [x]) ++ pDec (dr l k) ∧ (done ++ [x]).length + (l.length - k) ≤ l.length := by
 refine ⟨by rw [hd.1, e]; simp, ?_⟩
 have := hd.2
 rw [List.length_append]; simp; omega
set_option maxRecDepth 100000 in
set_option maxHeartbeats 8000000 in
theorem plain_any (l : List UInt8) (w : World) (hl : l.length ≤ 100000) : Calls Tryz.prog 70 #[.string (str l)] w fun e w' => ∃ v, e = .returned v ∧ w'.ownsRow w.heap.size 5 1 v (bytes (pDec l)).length (bytes (pDec l)) ∧ Below w.heap.size w w' := by
 have hsz := str_size l
 have hg := str_get l
 go_enter Tryz.func70, Tryz.ntmps70
 go_wp2
 go_loopg [3, 4] (l.length) (fun k v i wr => ∃ (j : Nat) (done : List UInt8), k = l.length - j ∧ j ≤ l.length ∧ i = .int .i64 j ∧ Hid (pDec l = done ++ pDec (dr l j) ∧ done.length + (l.length - j) ≤ l.length) ∧ wr.ownsRow w.heap.size 5 1 v (bytes done).length (bytes done) ∧ Below w.heap.size w wr)
 case atStart => exact ⟨0, [], rfl, Nat.zero_le _, rfl, ⟨rfl, by simp⟩, World.ownsRow_nil _ _ _ _, Below.refl _ _⟩
 case round =>
  obtain ⟨j, done, rfl, hj, rfl, hd, hown, hbel⟩ := hrel
  have hw := hbel.size
  have hrl : (bytes done).length ≤ 100000 := by have := hd.out.2; rw [bytes_len]; omega
  by_cases h0 : j < l.length
  ·
   have hlt1 : (j : Int) < (l.length : Int) := by omega
   have hj0 : (0 : Int) ≤ (j : Int) := by omega
   by_cases h37 : gb l j = 37
   ·
    have hb : (((gb l j).toNat : Int) == 37) = true := by rw [h37]; rfl
    by_cases hlen : j + 2 < l.length
    ·
     have hlt2 : (j : Int) + 2 < (l.length : Int) := by omega
     have hlt3 : (j : Int) + 1 < (l.length : Int) := by omega
     by_cases h1 : 0 ≤ hexV (gb l (j + 1))
     ·
      by_cases h2 : 0 ≤ hexV (gb l (j + 2))
      ·
       have HS := Lib.hid h37
       clear h37
       have r1 := (hexV_range (gb l (j + 1))).2
       have r2 := (hexV_range (gb l (j + 2))).2
       have s1 : IntKind.i64.wrap ((j : Int) + 1) = (j : Int) + 1 := IntWalk.i64_in _ (by omega)
       have s2 : IntKind.i64.wrap ((j : Int) + 2) = (j : Int) + 2 := IntWalk.i64_in _ (by omega)
       have s3 : (0 : Int) ≤ (j : Int) + 1 := by omega
       have s4 : (0 : Int) ≤ (j : Int) + 2 := by omega
       have s5 : ((j : Int) + 1).toNat = j + 1 := by omega
       have s6 : ((j : Int) + 2).toNat = j + 2 := by omega
       have s7 : IntKind.i64.wrap (16 * hexV (gb l (j + 1))) = 16 * hexV (gb l (j + 1)) := IntWalk.i64_in _ (by omega)
       have s8 : IntKind.i64.wrap (16 * hexV (gb l (j + 1)) + hexV (gb l (j + 2))) = hexV (gb l (j + 1)) * 16 + hexV (gb l (j + 2)) := by rw [IntWalk.i64_in _ (by omega)]; omega
       have s9 := hex_wrap h1 r1 h2 r2
       go_wp2_with (go_at_call 109; go_must (go_fit (rhex_any _ _)); rintro e w1 ⟨rfl, rfl⟩)
       go_region_law (first
        | (refine step_append_cells rfl _ _ _ rfl w.heap.size _ _ 1 1 Tryz.underlying58 info_byte rfl (by decide) _ _ _ rfl (hown.alloc _) wr.heap.size _ 1 1 5 (0, 0) rfl (heap_alloc_new wr _) rfl (by simp [Value.oneCell']) (by omega) (by decide) (by simp; omega) ?_; intro A2 c2 w2 hc2 hm2 hown2 hb2' hg2)
        | (go_simp; go_at_call 109; refine (rhex_any _ _).mono ?_; rintro e w1 ⟨rfl, rfl⟩))
       all_goals (try go_wp2)
       all_goals go_roundg (l.length - (j + 3))
       all_goals
        first
        | (case measure => omega)
        | (case rel => exact ⟨j + 3, done ++ [_], by omega, by omega, by go_num, pDec_goAt hd.out (pDec_hexAt hlen HS.out h1 h2) (by omega) (by omega), own_as hown2 (by rw [bytes_append, List.length_append]; rfl) (by rw [bytes_append]; rfl), hbel.trans ((((Below.refl _ _).alloc hw _).drew).trans hb2')⟩)
      ·
       have h2' : hexV (gb l (j + 2)) < 0 := by omega
       have HN := Lib.hid (pDec_oneAt h0 (fun e => h2 e.2.2.2))
       clear h2 h37
       go_wp2_with (first
        | (go_at_call 109; go_must (go_fit (rhex_any _ _)); rintro e w1 ⟨rfl, rfl⟩)
        | (at_builtin; refine wpList_append_lit rfl _ _ _ rfl w.heap.size _ _ 1 1 Tryz.underlying58 info_byte rfl (by decide) _ _ _ rfl hown _ 1 1 _ rfl rfl (by simp [Value.oneCell']) (by omega) (by decide) (by omega) ?_; intro A2 c2 w2 hc2 hm2 hown2 hb2 hg2))
       all_goals go_roundg (l.length - (j + 1))
       all_goals
        first
        | (case measure => omega)
        | (case rel => exact ⟨j + 1, done ++ [gb l j], by omega, by omega, by go_num, pDec_goAt hd.out HN.out (by omega) (by omega), own_as hown2 (by rw [bytes_append, List.length_append]; rfl) (by rw [bytes_append]; rfl), hbel.trans hb2⟩)
     ·
      have h1' : hexV (gb l (j + 1)) < 0 := by omega
      have HN := Lib.hid (pDec_oneAt h0 (fun e => h1 e.2.2.1))
      clear h1 h37
      go_wp2_with (first
       | (go_at_call 109; go_must (go_fit (rhex_any _ _)); rintro e w1 ⟨rfl, rfl⟩)
       | (at_builtin; refine wpList_append_lit rfl _ _ _ rfl w.heap.size _ _ 1 1 Tryz.underlying58 info_byte rfl (by decide) _ _ _ rfl hown _ 1 1 _ rfl rfl (by simp [Value.oneCell']) (by omega) (by decide) (by omega) ?_; intro A2 c2 w2 hc2 hm2 hown2 hb2 hg2))
      all_goals go_roundg (l.length - (j + 1))
      all_goals
       first
       | (case measure => omega)
       | (case rel => exact ⟨j + 1, done ++ [gb l j], by omega, by omega, by go_num, pDec_goAt hd.out HN.out (by omega) (by omega), own_as hown2 (by rw [bytes_append, List.length_append]; rfl) (by rw [bytes_append]; rfl), hbel.trans hb2⟩)
    ·
     have hlen2 : (l.length : Int) ≤ (j : Int) + 2 := by omega
     have HN := Lib.hid (pDec_oneAt h0 (fun e => hlen e.1))
     clear h37
     go_wp2_with (first
      | (go_at_call 109; go_must (go_fit (rhex_any _ _)); rintro e w1 ⟨rfl, rfl⟩)
      | (at_builtin; refine wpList_append_lit rfl _ _ _ rfl w.heap.size _ _ 1 1 Tryz.underlying58 info_byte rfl (by decide) _ _ _ rfl hown _ 1 1 _ rfl rfl (by simp [Value.oneCell']) (by omega) (by decide) (by omega) ?_; intro A2 c2 w2 hc2 hm2 hown2 hb2 hg2))
     all_goals go_roundg (l.length - (j + 1))
     all_goals
      first
      | (case measure => omega)
      | (case rel => exact ⟨j + 1, done ++ [gb l j], by omega, by omega, by go_num, pDec_goAt hd.out HN.out (by omega) (by omega), own_as hown2 (by rw [bytes_append, List.length_append]; rfl) (by rw [bytes_append]; rfl), hbel.trans hb2⟩)
   ·
    have hb : (((gb l j).toNat : Int) == 37) = false := by
     rw [beq_eq_false_iff_ne]; intro e; exact h37 (byte_ext (by show (gb l j).toNat = 37; omega))
    have HN := Lib.hid (pDec_oneAt h0 (fun e => h37 e.2.1))
    clear h37
    go_wp2_with (first
     | (go_at_call 109; go_must (go_fit (rhex_any _ _)); rintro e w1 ⟨rfl, rfl⟩)
     | (at_builtin; refine wpList_append_lit rfl _ _ _ rfl w.heap.size _ _ 1 1 Tryz.underlying58 info_byte rfl (by decide) _ _ _ rfl hown _ 1 1 _ rfl rfl (by simp [Value.oneCell']) (by omega) (by decide) (by omega) ?_; intro A2 c2 w2 hc2 hm2 hown2 hb2 hg2))
    all_goals go_roundg (l.length - (j + 1))
    all_goals
     first
     | (case measure => omega)
     | (case rel => exact ⟨j + 1, done ++ [gb l j], by omega, by omega, by go_num, pDec_goAt hd.out HN.out (by omega) (by omega), own_as hown2 (by rw [bytes_append, List.length_append]; rfl) (by rw [bytes_append]; rfl), hbel.trans hb2⟩)
  ·
   obtain rfl : j = l.length := by omega
   go_wp2
   go_ret
   have e : pDec l = done := by have := hd.out.1; rw [show dr l l.length = [] from List.drop_length ..] at this; rw [pDec_nil, List.append_nil] at this; exact this
   rw [e]
   exact ⟨_, rfl, hown, hbel⟩
end Go.Proofs.YtoapelcofjjdnaaGreatDoor
