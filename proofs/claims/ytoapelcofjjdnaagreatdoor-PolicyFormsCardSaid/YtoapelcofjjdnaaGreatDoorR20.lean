/- A part of the proof. -/
import Derived.Test.YtoapelcofjjdnaaGreatDoorR08
import Derived.Test.YtoapelcofjjdnaaGreatDoorR16
import Derived.Test.YtoapelcofjjdnaaGreatDoorR18
import Derived.Deep.CutBlock
import Derived.Deep.DeepCutAuto
namespace Go.Proofs.YtoapelcofjjdnaaGreatDoor
set_option linter.all false
open Go.RowKit
theorem cutB_any (c : UInt8) (s : List UInt8) (w : World) (hm : ML w) (hs : s.length ≤ 1000000) :
  Calls Tryz.prog 53 #[.string (str s), .string (str [c])] w fun e w' =>
   e = .returned (.tuple #[.string (str (ahead c s)), .string (str (behind c s)), .bool (decide (c ∈ s))]) ∧ Below w.heap.size w w' := by
 obtain ⟨m, hm⟩ := hm
 refine (Tryz.strings_Cut (str s) (str [c]) m w (by rw [str_size]; omega) hm).mono fun e w' ⟨he, n, hw⟩ => ?_
 have h3 : (Lib.cut s [c]).2.2 = decide (c ∈ s) := by
  by_cases h : c ∈ s
  ·
   obtain ⟨a, t, rfl, hn⟩ := first_parts h
   unfold Lib.cut
   rw [index_some t hn, if_pos (by omega)]
   simp
  ·
   unfold Lib.cut
   rw [index_none h, if_neg (by decide)]
   simp [h]
 rw [str_data, str_data, (cut_one c s).1, (cut_one c s).2, h3] at he
 exact ⟨he, by rw [hw]; exact below_drewN (Below.refl _ _) n⟩
theorem contains14_any (A : Option Addr) (c : Nat) (l : List (List UInt8)) (s : List UInt8) (w : World) (hr : Rd w w.heap.size A (strs l)) (hl : l.length ≤ 1000000) :
  Calls Tryz.prog 52 #[.slice A l.length c, .string (str s)] w fun e w' => e = .returned (.bool (decide (s ∈ l))) ∧ w = w' := by
 by_cases h0 : l = []
 ·
  subst h0
  exact (Tryz.slices_Contains_string_empty A c (str s) w).mono fun e w' ⟨he, hw⟩ => ⟨by rw [he]; rfl, hw.symm⟩
 ·
  have hp : 0 < l.length := List.length_pos_iff.2 h0
  obtain ⟨b, off, rfl, hb, hc⟩ := hr (by rw [strs_len]; omega)
  refine (Tryz.slices_Contains_string b off l.length c (l.map str) (str s) w (by rw [List.length_map]; exact Nat.le_refl _) (by omega) (fun j hj => ?_)).mono fun e w' ⟨he, hw⟩ => ⟨?_, hw.symm⟩
  ·
   rw [List.length_map] at hj
   rw [hc j (.string (str l[j])) (by unfold strs; rw [List.getElem?_map, List.getElem?_eq_getElem hj]; rfl)]
   rw [List.getD_eq_getElem?_getD, List.getElem?_map, List.getElem?_eq_getElem hj]; rfl
  ·
   rw [he]
   refine ret_bool ?_
   rw [Bool.eq_iff_iff, Lib.containsS_iff, List.take_of_length_le (by rw [List.length_map]; exact Nat.le_refl _), decide_eq_true_eq, List.mem_map]
   exact ⟨fun ⟨x, hx, e⟩ => by rw [← str_inj e]; exact hx, fun h => ⟨s, h, rfl⟩⟩
theorem hasL {l : List (List UInt8)} {t : List UInt8} (h1 : t ≠ lhost) (h2 : t ∉ l) : (lhost :: l).contains t = false := by
 rw [Bool.eq_false_iff]; intro h
 rcases List.mem_cons.1 (List.contains_iff_mem.1 h) with h | h
 · exact h1 h
 · exact h2 h
set_option maxRecDepth 100000 in
set_option maxHeartbeats 4000000 in
theorem pblocked_any (h : List UInt8) (A : Option Addr) (c : Nat) (l : List (List UInt8)) (w : World) (hr : Rd w w.heap.size A (strs l)) (hm : ML w) (hs : h.length ≤ 100000) (hl : l.length ≤ 100000) :
  Calls Tryz.prog 26 #[.string (str h), .slice A l.length c] w fun e w' => e = .returned (.bool (blk h l)) ∧ Below w.heap.size w w' := by
 have CT := Lib.hid fun w => trimDot_any h w (by omega)
 have HB := Lib.hid (show blk h l = blkGo (lhost :: l) true (dTrim h) from rfl)
 have htr := dTrim_le h
 obtain ⟨T, hT⟩ : ∃ T, T = dTrim h := ⟨_, rfl⟩
 rw [← hT] at CT HB htr
 clear hT
 obtain ⟨B, hB⟩ : ∃ B, B = blk h l := ⟨_, rfl⟩
 rw [← hB] at HB ⊢
 clear hB
 go_enter Tryz.func26, Tryz.ntmps26
 go_wp2_with (go_at_call 51; go_must (go_fit (CT.out _)); rintro e w1 ⟨rfl, rfl⟩)
 go_loopg [5] (T.length) (fun k s5 wr => ∃ t : List UInt8, k = t.length ∧ t.length ≤ 100000 ∧ s5 = .string (str t) ∧ Hid (B = blkGo (lhost :: l) true t) ∧ Below w.heap.size w wr)
 case atStart => exact ⟨T, rfl, by omega, rfl, HB.out, Below.refl _ _⟩
 case round =>
  obtain ⟨t, rfl, ht, rfl, hn, hbel⟩ := hrel
  have htl := str_toL t
  have hrr := (hr.below hbel).mono hbel.size
  have hmr := hm.next hbel
  by_cases h1 : t = lhost
  ·
   have q1 : (t == [108, 111, 99, 97, 108, 104, 111, 115, 116]) = true := by rw [h1]; rfl
   have HN := Lib.hid (show B = true by rw [hn.out]; exact blkGo_here (by rw [h1]; simp))
   clear h1
   go_wp2
   go_ret
   exact ⟨ret_bool HN.out.symm, hbel⟩
  ·
   have q1 : (t == [108, 111, 99, 97, 108, 104, 111, 115, 116]) = false := by rw [beq_eq_false_iff_ne]; exact h1
   have CC := Lib.hid (contains14_any A c l t wr hrr (by omega))
   by_cases h2 : t ∈ l
   ·
    rw [decide_eq_true h2] at CC
    have HN := Lib.hid (show B = true by rw [hn.out]; exact blkGo_here (by simp [h2]))
    clear h1 h2
    go_wp2_with (go_at_call 52; go_must (go_fit CC.out); rintro e w2 ⟨rfl, rfl⟩)
    go_ret
    exact ⟨ret_bool HN.out.symm, hbel⟩
   ·
    rw [decide_eq_false h2] at CC
    have hno := hasL h1 h2
    have CU := Lib.hid (cutB_any 46 t wr hmr (by omega))
    by_cases h3 : (46 : UInt8) ∈ t
    ·
     rw [decide_eq_true h3] at CU
     obtain ⟨a, r, e3, ha⟩ := first_parts h3
     have HN := Lib.hid (show B = blkGo (lhost :: l) true (behind 46 t) ∧ (behind 46 t).length < t.length by
      rw [hn.out]
      have hno' := hno
      rw [e3] at hno' ⊢
      rw [(ahead_at r ha).2]
      exact ⟨blkGo_next hno' ha, by rw [List.length_append, List.length_cons]; omega⟩)
     obtain ⟨r', hr'⟩ : ∃ r', r' = behind 46 t := ⟨_, rfl⟩
     rw [← hr'] at CU HN
     clear h1 h2 h3 hno e3 ha hr'
     go_wp2_with (first
      | (go_at_call 52; go_must (go_fit CC.out); rintro e w2 ⟨rfl, rfl⟩)
      | (go_at_call 53; go_must (go_fit CU.out); rintro e w3 ⟨rfl, hb3⟩))
     go_roundg (r'.length)
     case measure => exact HN.out.2
     case rel => exact ⟨r', rfl, by have := HN.out.2; omega, rfl, HN.out.1, bnext hbel hb3⟩
    ·
     rw [decide_eq_false h3] at CU
     have HN := Lib.hid (show B = false by rw [hn.out]; exact blkGo_end hno h3)
     clear h1 h2 h3 hno
     go_wp2_with (first
      | (go_at_call 52; go_must (go_fit CC.out); rintro e w2 ⟨rfl, rfl⟩)
      | (go_at_call 53; go_must (go_fit CU.out); rintro e w3 ⟨rfl, hb3⟩))
     go_ret
     exact ⟨ret_bool HN.out.symm, bnext hbel hb3⟩
end Go.Proofs.YtoapelcofjjdnaaGreatDoor
namespace Go.Proofs.YtoapelcofjjdnaaGreatDoor
set_option linter.all false
open Go.RowKit
def bnd (t : List UInt8) (j : Nat) : Bool := decide (j = 0 ∨ gb t (j - 1) = 46)
theorem bstep {L : List (List UInt8)} {t : List UInt8} {j : Nat} (h : j < t.length) : blkGo L false (t.drop j) = blkGo L (bnd t (j + 1)) (t.drop (j + 1)) := by
 obtain ⟨hj, e⟩ := List.getElem?_eq_some_iff.1 (gb_some h)
 rw [List.drop_eq_getElem_cons hj, e, blkGo, Bool.false_and, Bool.false_or]
 congr 1
 unfold bnd
 exact decide_eq_decide.2 ⟨fun h => .inr h, fun h => by rcases h with h | h; omega; exact h⟩
def bleft (L : List (List UInt8)) (t : List UInt8) (j : Nat) : Bool := if j ≤ t.length then blkGo L (bnd t j) (t.drop j) else false
theorem bleft_next {L : List (List UInt8)} {t : List UInt8} {j : Nat} (hj : j ≤ t.length) (h : blkGo L (bnd t j) (t.drop j) = blkGo L false (t.drop j)) : bleft L t j = bleft L t (j + 1) := by
 unfold bleft
 rw [if_pos hj, h]
 by_cases hlt : j < t.length
 · rw [if_pos (by omega), bstep hlt]
 ·
  obtain rfl : j = t.length := by omega
  rw [if_neg (by omega), List.drop_length]; rfl
theorem own_lit1 (w : World) : (w.alloc (.cells #[.string (str lhost)] 9)).ownsRow w.heap.size 9 1 (.slice (some ⟨w.heap.size, 0, none⟩) 1 1) 1 [.string (str lhost)] := World.ownsRow_lit w #[.string (str lhost)] 1 (Nat.le_refl _) (by decide) rfl
theorem own_rdC {w : World} {B n c : Nat} {A : Option Addr} {l : List (List UInt8)} (h : w.ownsRow B 9 1 (.slice A (1 + n) c) (1 + n) ([.string (str lhost)] ++ strs l)) : Rd w w.heap.size A (strs (lhost :: l)) := by
 obtain ⟨A2, c2, e, _, _, h3⟩ := own_rdN h
 injection e with e1 e2 e3
 rw [e1]; exact h3
set_option maxRecDepth 100000 in
set_option maxHeartbeats 8000000 in
theorem rblocked_any (h : List UInt8) (A : Option Addr) (c : Nat) (l : List (List UInt8)) (w : World) (hr : Rd w w.heap.size A (strs l)) (hs : h.length ≤ 100000) (hl : l.length ≤ 100000) :
  Calls Tryz.prog 27 #[.string (str h), .slice A l.length c] w fun e w' => e = .returned (.bool (blk h l)) ∧ Below w.heap.size w w' := by
 have hsz := str_size h
 have hgt := str_get h
 obtain ⟨L, hL⟩ : ∃ L, L = lhost :: l := ⟨_, rfl⟩
 obtain ⟨t, ht⟩ : ∃ t, t = dTrim h := ⟨_, rfl⟩
 have HB := Lib.hid (show blk h l = bleft L t 0 by unfold blk bleft bnd; rw [if_pos (Nat.zero_le _), hL, ht]; rfl)
 have htl : t.length ≤ 100000 := by have := dTrim_le h; rw [ht]; omega
 obtain ⟨B, hB⟩ : ∃ B, B = blk h l := ⟨_, rfl⟩
 rw [← hB] at HB ⊢
 clear hB
 have HT := Lib.hid ht
 obtain ⟨E, hE⟩ : ∃ E, E = decide (h.getLast? = some 46) := ⟨_, rfl⟩
 have HE := Lib.hid hE
 clear hE
 clear ht
 go_enter Tryz.func27, Tryz.ntmps27
 go_upto_region 1 with (fail)
 go_cut [18] (fun s18 wx => s18 = .bool E ∧ w = wx)
 case first =>
  by_cases h0 : 0 < h.length
  ·
   have h0I : (0 : Int) < (h.length : Int) := by omega
   obtain ⟨M, hM⟩ : ∃ M, M = h.length - 1 := ⟨_, rfl⟩
   have hMI : (h.length : Int) - 1 = (M : Int) := by omega
   have hMw : IntKind.i64.wrap (M : Int) = (M : Int) := IntWalk.i64_in _ (by omega)
   have hM0 : (0 : Int) ≤ (M : Int) := by omega
   have hM3 : (M : Int) < (h.length : Int) := by omega
   have hlast : h.getLast? = some (gb h M) := by rw [List.getLast?_eq_getElem?, ← hM]; exact gb_some (by omega)
   by_cases h46 : gb h M = 46
   ·
    have q1 : (((gb h M).toNat : Int) == 46) = true := by rw [h46]; rfl
    have HE2 := Lib.hid (show E = true by rw [HE.out]; exact decide_eq_true (by rw [hlast, h46]))
    clear hM hlast h46 h0
    go_wp2
    go_meet
    case rel => exact ⟨by rw [HE2.out], rfl⟩
   ·
    have q1 : (((gb h M).toNat : Int) == 46) = false := by rw [beq_eq_false_iff_ne]; exact fun e => h46 (byte_ext (by show _ = 46; omega))
    have HE2 := Lib.hid (show E = false by rw [HE.out]; exact decide_eq_false (by rw [hlast]; simpa using h46))
    clear hM hlast h46 h0
    go_wp2
    go_meet
    case rel => exact ⟨by rw [HE2.out], rfl⟩
  ·
   have h0I : (h.length : Int) ≤ 0 := by omega
   have HE2 := Lib.hid (show E = false by
    have hn : h = [] := List.eq_nil_of_length_eq_zero (by omega)
    rw [HE.out, hn]; rfl)
   clear h0
   go_wp2
   go_meet
   case rel => exact ⟨by rw [HE2.out], rfl⟩
 case rest =>
 obtain ⟨rfl, rfl⟩ := hcut
 go_upto_if 18 with (fail)
 go_cut [0] (fun s0 wx => s0 = .string (str t) ∧ w = wx)
 case first =>
  cases E with
  | true =>
   have hl46 : h.getLast? = some 46 := of_decide_eq_true HE.out.symm
   have h0 : 0 < h.length := by cases h with | nil => cases hl46 | cons _ _ => simp
   obtain ⟨M, hM⟩ : ∃ M, M = h.length - 1 := ⟨_, rfl⟩
   have hMI : (h.length : Int) - 1 = (M : Int) := by omega
   have hMw : IntKind.i64.wrap (M : Int) = (M : Int) := IntWalk.i64_in _ (by omega)
   have hM0 : (0 : Int) ≤ (M : Int) := by omega
   have hM2 : (M : Int) ≤ (h.length : Int) := by omega
   have hfr : (str h).extract 0 M = str t := by
    rw [str_front, HT.out]
    unfold dTrim
    rw [if_pos hl46, List.dropLast_eq_take, hM]; rfl
   clear hM hl46 h0
   go_wp2
   go_meet
   case rel => exact ⟨rfl, rfl⟩
  | false =>
   have HE2 := Lib.hid (show t = h by rw [HT.out]; exact trim_no (of_decide_eq_false HE.out.symm))
   go_wp2
   go_meet
   case rel => exact ⟨by rw [HE2.out], rfl⟩
 case rest =>
  obtain ⟨rfl, rfl⟩ := hcut
  clear hsz hgt
  have htz := str_size t
  have htg := str_get t
  have hte := str_end t
  go_wp2_with (at_builtin; refine wpList_append_rd rfl _ _ _ rfl w.heap.size _ _ 16 Tryz.underlying38 info_strU rfl _ 1 [.string (str lhost)] rfl (own_lit1 w) w.heap.size A l.length c (strs l) rfl (by rw [strs_len]) (hr.alloc (Nat.le_refl _) _) (strs_one _) (by omega) (by decide) (by simp) ?_; intro A5 c5 w5 hc5 hm5 hown5 hb5 hg5)
  have hr5 : Rd w5 w5.heap.size A5 (strs L) := by rw [hL]; exact own_rdC hown5
  have hb5' : Below w.heap.size w w5 := (bnew (Below.refl _ _) _).trans hb5
  obtain ⟨N, hN⟩ : ∃ N, N = 1 + l.length := ⟨_, rfl⟩
  have hLN : L.length = N := by rw [hL, hN, List.length_cons]; omega
  rw [← hN]
  have hNb : N ≤ 100001 := by omega
  have hc5N : N ≤ c5 := by omega
  clear hown5 hg5 hc5 hb5 hL hN hr hl
  go_loopg [6] (t.length + 1) (fun k s6 wr => ∃ j : Nat, k = t.length + 1 - j ∧ j ≤ t.length + 1 ∧ s6 = .int .i64 (j : Int) ∧ Hid (B = bleft L t j) ∧ Below w.heap.size w wr ∧ Below w5.heap.size w5 wr)
  case atStart => exact ⟨0, rfl, Nat.zero_le _, rfl, HB.out, hb5', Below.refl _ _⟩
  case round =>
   obtain ⟨j, rfl, hj, rfl, hn, hbel, hbel5⟩ := hrel
   by_cases hj1 : j ≤ t.length
   ·
    have hj1I : (j : Int) ≤ (t.length : Int) := by omega
    have hj0 : (0 : Int) ≤ (j : Int) := by omega
    obtain ⟨u, hu⟩ : ∃ u, u = dr t j := ⟨_, rfl⟩
    have hteu : (str t).extract j t.length = str u := by rw [str_end, hu]
    have htu := str_toL u
    by_cases hz : j = 0
    ·
     have hjI : (j : Int) ≤ 0 := by omega
     have hbd : bnd t j = true := decide_eq_true (.inl hz)
     have HU := Lib.hid (show B = blkGo L true u by rw [hn.out]; unfold bleft; rw [if_pos hj1, hbd, hu]; rfl)
     have HBD := Lib.hid hbd
     have HUD := Lib.hid hu
     clear hte hu hbd hz
     go_wp2
     go_loopg [7] (N) (fun k s7 wi => ∃ i : Nat, k = N - i ∧ i ≤ N ∧ s7 = .int .i64 (i : Int) ∧ Hid ((L.take i).contains u = false) ∧ Below w.heap.size w wi ∧ Below w5.heap.size w5 wi)
     case atStart => exact ⟨0, rfl, Nat.zero_le _, rfl, rfl, hbel, hbel5⟩
     case round =>
      obtain ⟨i, rfl, hi, rfl, hno, hbi, hbi5⟩ := hrel
      by_cases hlt : i < N
      ·
       obtain ⟨b, off, x, hA, hb', hcx, hx⟩ := (hr5.below hbi5).str_at (k := i) (by rw [hLN]; exact hlt)
       subst hA
       have hlt1 : (i : Int) < (N : Int) := by omega
       have hi0 : (0 : Int) ≤ (i : Int) := by omega
       have htx := str_toL x
       by_cases he : u = x
       ·
        have q9 : (u == x) = true := by rw [he]; exact beq_self_eq_true x
        have HN := Lib.hid (show B = true by rw [HU.out]; exact blkGo_here (by rw [he]; exact List.contains_iff_mem.2 (List.mem_of_getElem? hx.out)))
        clear he hx
        go_wp2
        go_quiet (fail)
        go_wp2
        go_ret
        exact ⟨ret_bool HN.out.symm, below_drewN hbi _⟩
       ·
        have q9 : (u == x) = false := by rw [beq_eq_false_iff_ne]; exact he
        have HN := Lib.hid (show (L.take (i + 1)).contains u = false by
         obtain ⟨hj, e⟩ := List.getElem?_eq_some_iff.1 hx.out
         rw [take_snoc' L i hj, e, Bool.eq_false_iff]
         intro h
         rcases List.mem_append.1 (List.contains_iff_mem.1 h) with h | h
         · exact absurd (List.contains_iff_mem.2 h) (by rw [hno.out]; decide)
         · exact he (List.mem_singleton.1 h))
        clear he hx
        go_wp2
        go_quiet (fail)
        go_wp2
        go_roundg (N - (i + 1))
        case measure => omega
        case rel => exact ⟨i + 1, rfl, by omega, by go_num, HN.out, below_drewN hbi _, below_drewN hbi5 _⟩
      ·
       obtain rfl : i = N := by omega
       have HN := Lib.hid (show B = bleft L t (j + 1) by
        rw [hn.out]
        refine bleft_next hj1 ?_
        rw [HBD.out, show t.drop j = u from HUD.out.symm]
        exact blkGo_true (by have h := hno.out; rwa [List.take_of_length_le (by rw [hLN]; exact Nat.le_refl _)] at h))
       clear hlt
       go_wp2
       go_roundg (t.length + 1 - (j + 1))
       case measure => omega
       case rel => exact ⟨j + 1, rfl, by omega, by go_num, HN.out, hbi, hbi5⟩
    ·
     have hjI : (0 : Int) < (j : Int) := by omega
     obtain ⟨M, hM⟩ : ∃ M, M = j - 1 := ⟨_, rfl⟩
     have hMI : (j : Int) - 1 = (M : Int) := by omega
     have hMw : IntKind.i64.wrap (M : Int) = (M : Int) := IntWalk.i64_in _ (by omega)
     have hM0 : (0 : Int) ≤ (M : Int) := by omega
     have hM3 : (M : Int) < (t.length : Int) := by omega
     by_cases h46 : gb t M = 46
     ·
      have q1 : (((gb t M).toNat : Int) != 46) = false := by rw [h46]; rfl
      have hbd : bnd t j = true := decide_eq_true (.inr (by rw [← hM]; exact h46))
      have HU := Lib.hid (show B = blkGo L true u by rw [hn.out]; unfold bleft; rw [if_pos hj1, hbd, hu]; rfl)
      have HBD := Lib.hid hbd
      have HUD := Lib.hid hu
      clear hte h46 hM hu hbd
      go_wp2
      go_loopg [7] (N) (fun k s7 wi => ∃ i : Nat, k = N - i ∧ i ≤ N ∧ s7 = .int .i64 (i : Int) ∧ Hid ((L.take i).contains u = false) ∧ Below w.heap.size w wi ∧ Below w5.heap.size w5 wi)
      case atStart => exact ⟨0, rfl, Nat.zero_le _, rfl, rfl, hbel, hbel5⟩
      case round =>
       obtain ⟨i, rfl, hi, rfl, hno, hbi, hbi5⟩ := hrel
       by_cases hlt : i < N
       ·
        obtain ⟨b, off, x, hA, hb', hcx, hx⟩ := (hr5.below hbi5).str_at (k := i) (by rw [hLN]; exact hlt)
        subst hA
        have hlt1 : (i : Int) < (N : Int) := by omega
        have hi0 : (0 : Int) ≤ (i : Int) := by omega
        have htx := str_toL x
        by_cases he : u = x
        ·
         have q9 : (u == x) = true := by rw [he]; exact beq_self_eq_true x
         have HN := Lib.hid (show B = true by rw [HU.out]; exact blkGo_here (by rw [he]; exact List.contains_iff_mem.2 (List.mem_of_getElem? hx.out)))
         clear he hx
         go_wp2
         go_quiet (fail)
         go_wp2
         go_ret
         exact ⟨ret_bool HN.out.symm, below_drewN hbi _⟩
        ·
         have q9 : (u == x) = false := by rw [beq_eq_false_iff_ne]; exact he
         have HN := Lib.hid (show (L.take (i + 1)).contains u = false by
          obtain ⟨hj, e⟩ := List.getElem?_eq_some_iff.1 hx.out
          rw [take_snoc' L i hj, e, Bool.eq_false_iff]
          intro h
          rcases List.mem_append.1 (List.contains_iff_mem.1 h) with h | h
          · exact absurd (List.contains_iff_mem.2 h) (by rw [hno.out]; decide)
          · exact he (List.mem_singleton.1 h))
         clear he hx
         go_wp2
         go_quiet (fail)
         go_wp2
         go_roundg (N - (i + 1))
         case measure => omega
         case rel => exact ⟨i + 1, rfl, by omega, by go_num, HN.out, below_drewN hbi _, below_drewN hbi5 _⟩
       ·
        obtain rfl : i = N := by omega
        have HN := Lib.hid (show B = bleft L t (j + 1) by
         rw [hn.out]
         refine bleft_next hj1 ?_
         rw [HBD.out, show t.drop j = u from HUD.out.symm]
         exact blkGo_true (by have h := hno.out; rwa [List.take_of_length_le (by rw [hLN]; exact Nat.le_refl _)] at h))
        clear hlt
        go_wp2
        go_roundg (t.length + 1 - (j + 1))
        case measure => omega
        case rel => exact ⟨j + 1, rfl, by omega, by go_num, HN.out, hbi, hbi5⟩
     ·
      have q1 : (((gb t M).toNat : Int) != 46) = true := by rw [bne_iff_ne]; exact fun e => h46 (byte_ext (by show _ = 46; omega))
      have hbd : bnd t j = false := decide_eq_false (by rintro (e | e); exact hz e; rw [← hM] at e; exact h46 e)
      have HN := Lib.hid (show B = bleft L t (j + 1) by rw [hn.out]; exact bleft_next hj1 (by rw [hbd]))
      clear h46 hM hteu hte hu hbd
      go_wp2
      go_roundg (t.length + 1 - (j + 1))
      case measure => omega
      case rel => exact ⟨j + 1, rfl, by omega, by go_num, HN.out, hbel, hbel5⟩
   ·
    obtain rfl : j = t.length + 1 := by omega
    have hjI : (t.length : Int) < ((t.length + 1 : Nat) : Int) := by omega
    have HN := Lib.hid (show B = false by rw [hn.out]; unfold bleft; rw [if_neg hj1])
    clear hj1
    go_wp2
    go_ret
    exact ⟨ret_bool HN.out.symm, hbel⟩
end Go.Proofs.YtoapelcofjjdnaaGreatDoor
