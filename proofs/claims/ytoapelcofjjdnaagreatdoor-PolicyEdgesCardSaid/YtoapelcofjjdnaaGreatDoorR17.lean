/- A part of the proof. -/
import Derived.Test.YtoapelcofjjdnaaGreatDoorR15
import Derived.Test.YtoapelcofjjdnaaGreatDoorR02
import Derived.Deep.RegionHeld3
import Derived.Lib.LaidTab
import Derived.Deep.LoopGhost
import Derived.Test.YtoapelcofjjdnaaGreatDoorR14
namespace Go.Proofs.YtoapelcofjjdnaaGreatDoor
set_option linter.all false
open Go.RowKit
theorem lit_str (w : World) (c : UInt8) : (convert 58 9 (.slice (some ⟨w.heap.size, 0, none⟩) 1 1)).run Tryz.prog (w.alloc (.cells #[.int .u8 (c.toNat : Int)] 5)) = .ok (.string (str [c])) (w.alloc (.cells #[.int .u8 (c.toNat : Int)] 5)) :=
 str_atN (B := w.heap.size + 1) (n := 1) (A := some ⟨w.heap.size, 0, none⟩) (c := 1) (l := [c]) (by have := @Rd.lit w #[.int .u8 (c.toNat : Int)] 5 (0, 0); simpa [bytes] using this) rfl
theorem dch_low {d : Nat} (h : d < 10) : ((dch d).toNat : Int) = 48 + (d : Int) := by
 unfold dch; rw [if_pos h, UInt8.toNat_ofNat', Nat.mod_eq_of_lt (by omega)]; omega
set_option maxRecDepth 100000 in
set_option maxHeartbeats 4000000 in
theorem ten6_any (n : Nat) (w : World) (hn : n < 18446744073709551616) : Calls Tryz.prog 34 #[.int .u64 (n : Int)] w fun e w' => e = .returned (.string (str (digs 10 n))) ∧ Below w.heap.size w w' := by
 have hlen := Lib.hid (digs_len (b := 10) (by decide) 20 n (by omega))
 go_enter Tryz.func34, Tryz.ntmps34
 go_wp2
 go_loopg [0, 3] n (fun k s0 s2 wr => ∃ (m : Nat) (T : List UInt8), k = m ∧ s0 = .int .u64 (m : Int) ∧ s2 = .string (str T) ∧ m ≤ n ∧ T.length ≤ 20 ∧ Hid (digs 10 n = digs 10 m ++ T) ∧ Below w.heap.size w wr)
 case atStart => exact ⟨n, [], rfl, rfl, rfl, Nat.le_refl _, by simp, (List.append_nil _).symm, Below.refl _ _⟩
 case round =>
  obtain ⟨_, T, rfl, rfl, rfl, hm, hT, hD, hbel⟩ := hrel
  have hq0 := hbel.size
  obtain ⟨d, hd⟩ : ∃ d : Nat, d = gk % 10 := ⟨_, rfl⟩
  obtain ⟨q, hq⟩ : ∃ q : Nat, q = gk / 10 := ⟨_, rfl⟩
  have hd10 : d < 10 := by omega
  have hrem : ((gk : Int)).tmod 10 = (d : Int) := by rw [hd]; exact (Int.ofNat_tmod gk 10).symm
  have hquo : ((gk : Int)).tdiv 10 = (q : Int) := by rw [hq]; exact (Int.ofNat_tdiv gk 10).symm
  have hdl := dch_low hd10
  have hv0 : IntKind.u64.wrap (d : Int) = (d : Int) := IntWalk.u64_in _ (by omega)
  have hv1 : IntKind.u64.wrap (48 + (d : Int)) = 48 + (d : Int) := IntWalk.u64_in _ (by omega)
  have hv2 : IntKind.u8.wrap (48 + (d : Int)) = ((dch d).toNat : Int) := by rw [IntWalk.u8_in _ (by omega), hdl]
  have hv3 : IntKind.u64.wrap (q : Int) = (q : Int) := IntWalk.u64_in _ (by omega)
  have e1 : str [dch d] ++ str T = str (dch d :: T) := str_app [dch d] T
  have y1 := str_size T
  have y2 : (str [dch d]).size = 1 := str_size [dch d]
  have k1 : (9223372036854775807 < 1 + T.length) = False := eq_false (by omega)
  have hcv := fun (w : World) => lit_str w (dch d)
  by_cases hq1 : q = 0
  ·
   have HF := Lib.hid (show digs 10 n = dch d :: T by
    rw [hD.out, digs_small (show gk < 10 by omega), show d = gk by omega]; rfl)
   have hz : ((q : Int) == 0) = true := by rw [beq_iff_eq]; omega
   clear hd hq hdl
   go_wp2
   go_ret
   exact ⟨by rw [HF.out]; rfl, hbel.alloc hq0 _⟩
  ·
   have HF := Lib.hid (show digs 10 n = digs 10 q ++ dch d :: T by
    rw [hD.out, digs_big (b := 10) (by decide) (show 10 ≤ gk by omega), ← hq, ← hd, List.append_assoc]; rfl)
   have hz : ((q : Int) == 0) = false := by rw [beq_eq_false_iff_ne]; omega
   have hqm : q < gk := by omega
   have HT := Lib.hid (show (dch d :: T).length ≤ 20 by
    have h1 := hlen.out
    rw [HF.out, List.length_append] at h1
    omega)
   clear hd hq hdl hq1
   go_wp2
   go_roundg q
   case measure => omega
   case rel => exact ⟨q, dch d :: T, rfl, by go_num, rfl, by omega, HT.out, HF.out, hbel.alloc hq0 _⟩
end Go.Proofs.YtoapelcofjjdnaaGreatDoor
namespace Go.Proofs.YtoapelcofjjdnaaGreatDoor
set_option linter.all false
open Go.RowKit
theorem show4_digs (a : Nat) : pShow4 a = digs 10 (a / 2 ^ 24 % 256) ++ 46 :: (digs 10 (a / 2 ^ 16 % 256) ++ 46 :: (digs 10 (a / 2 ^ 8 % 256) ++ 46 :: digs 10 (a % 256))) := by
 rw [show4_fours]; unfold fours; simp [Lib.join]
theorem digs_byte {u : Nat} (h : u < 256) : (digs 10 u).length ≤ 3 := by
 have := digs_len (b := 10) (by decide) 3 u (by omega)
 omega
theorem u32_wrapN {x : Nat} (h : x < 4294967296) : IntKind.u32.wrap (x : Int) = (x : Int) := by
 simp [IntKind.wrap, IntKind.bits, IntKind.signed]; omega
theorem u32_and255 {x : Nat} (h : x < 4294967296) : bits .and .u32 (x : Int) 255 = ((x % 256 : Nat) : Int) := by
 show IntKind.u32.wrap ((BitVec.ofInt 32 (x : Int) &&& BitVec.ofInt 32 ((255 : Nat) : Int)).toNat : Int) = _
 have e1 : BitVec.ofInt 32 (x : Int) = BitVec.ofNat 32 x := BitVec.ofInt_natCast ..
 have e2 : BitVec.ofInt 32 ((255 : Nat) : Int) = BitVec.ofNat 32 255 := BitVec.ofInt_natCast ..
 rw [e1, e2, BitVec.toNat_and, BitVec.toNat_ofNat, BitVec.toNat_ofNat, Nat.mod_eq_of_lt h, Nat.mod_eq_of_lt (show 255 < 2 ^ 32 by decide), show (255 : Nat) = 2 ^ 8 - 1 from rfl, Nat.and_two_pow_sub_one_eq_mod, u32_wrapN (by omega)]
theorem u32_piece {a k q : Nat} (h : a < 4294967296) (hq : q = a / k % 256) : bits .and .u32 ((a : Int) / (k : Int)) 255 = (q : Int) := by
 rw [hq, ← u32_and255 (x := a / k) (Nat.lt_of_le_of_lt (Nat.div_le_self _ _) h)]; rfl
set_option maxRecDepth 100000 in
set_option maxHeartbeats 4000000 in
theorem rshow4_any (a : Nat) (w : World) (ha : a < 4294967296) : Calls Tryz.prog 15 #[.int .u32 (a : Int)] w fun e w' => e = .returned (.string (str (pShow4 a))) ∧ Below w.heap.size w w' := by
 obtain ⟨p, hp⟩ : ∃ p : Nat, p = a / 2 ^ 24 % 256 := ⟨_, rfl⟩
 obtain ⟨q, hq⟩ : ∃ q : Nat, q = a / 2 ^ 16 % 256 := ⟨_, rfl⟩
 obtain ⟨r, hr⟩ : ∃ r : Nat, r = a / 2 ^ 8 % 256 := ⟨_, rfl⟩
 obtain ⟨t, ht⟩ : ∃ t : Nat, t = a % 256 := ⟨_, rfl⟩
 have HS := Lib.hid (show4_digs a)
 rw [← hp, ← hq, ← hr, ← ht] at HS
 have b1 : p < 256 := by omega
 have b2 : q < 256 := by omega
 have b3 : r < 256 := by omega
 have b4 : t < 256 := by omega
 have C1 := Lib.hid fun w => ten6_any p w (by omega)
 have C2 := Lib.hid fun w => ten6_any q w (by omega)
 have C3 := Lib.hid fun w => ten6_any r w (by omega)
 have C4 := Lib.hid fun w => ten6_any t w (by omega)
 have l1 := digs_byte b1
 have l2 := digs_byte b2
 have l3 := digs_byte b3
 have l4 := digs_byte b4
 obtain ⟨P, hP⟩ : ∃ P, P = digs 10 p := ⟨_, rfl⟩
 obtain ⟨Q, hQ⟩ : ∃ Q, Q = digs 10 q := ⟨_, rfl⟩
 obtain ⟨R, hR⟩ : ∃ R, R = digs 10 r := ⟨_, rfl⟩
 obtain ⟨T, hT⟩ : ∃ T, T = digs 10 t := ⟨_, rfl⟩
 rw [← hP] at C1 l1 HS
 rw [← hQ] at C2 l2 HS
 rw [← hR] at C3 l3 HS
 rw [← hT] at C4 l4 HS
 have i1 : (a : Int) / 16777216 = (p : Int) := by omega
 have i2 : bits .and .u32 ((a : Int) / 65536) 255 = (q : Int) := u32_piece (k := 65536) ha hq
 have i3 : bits .and .u32 ((a : Int) / 256) 255 = (r : Int) := u32_piece (k := 256) ha hr
 have i4 : bits .and .u32 (a : Int) 255 = (t : Int) := by rw [u32_and255 ha, ht]
 have j1 : IntKind.u64.wrap (p : Int) = (p : Int) := IntWalk.u64_in _ (by omega)
 have j2 : IntKind.u64.wrap (q : Int) = (q : Int) := IntWalk.u64_in _ (by omega)
 have j3 : IntKind.u64.wrap (r : Int) = (r : Int) := IntWalk.u64_in _ (by omega)
 have j4 : IntKind.u64.wrap (t : Int) = (t : Int) := IntWalk.u64_in _ (by omega)
 obtain ⟨S1, hS1⟩ : ∃ S, S = P ++ [46] := ⟨_, rfl⟩
 obtain ⟨S2, hS2⟩ : ∃ S, S = S1 ++ Q := ⟨_, rfl⟩
 obtain ⟨S3, hS3⟩ : ∃ S, S = S2 ++ [46] := ⟨_, rfl⟩
 obtain ⟨S4, hS4⟩ : ∃ S, S = S3 ++ R := ⟨_, rfl⟩
 obtain ⟨S5, hS5⟩ : ∃ S, S = S4 ++ [46] := ⟨_, rfl⟩
 obtain ⟨S6, hS6⟩ : ∃ S, S = S5 ++ T := ⟨_, rfl⟩
 have hF : pShow4 a = S6 := by rw [HS.out, hS6, hS5, hS4, hS3, hS2, hS1]; simp
 rw [hF]
 have e1 : str P ++ { data := #[46] } = str S1 := (str_app P [46]).trans (by rw [hS1])
 have e2 : str S1 ++ str Q = str S2 := (str_app S1 Q).trans (by rw [hS2])
 have e3 : str S2 ++ { data := #[46] } = str S3 := (str_app S2 [46]).trans (by rw [hS3])
 have e4 : str S3 ++ str R = str S4 := (str_app S3 R).trans (by rw [hS4])
 have e5 : str S4 ++ { data := #[46] } = str S5 := (str_app S4 [46]).trans (by rw [hS5])
 have e6 : str S5 ++ str T = str S6 := (str_app S5 T).trans (by rw [hS6])
 have n1 : S1.length ≤ 4 := by rw [hS1, List.length_append]; simp; omega
 have n2 : S2.length ≤ 7 := by rw [hS2, List.length_append]; omega
 have n3 : S3.length ≤ 8 := by rw [hS3, List.length_append]; simp; omega
 have n4 : S4.length ≤ 11 := by rw [hS4, List.length_append]; omega
 have n5 : S5.length ≤ 12 := by rw [hS5, List.length_append]; simp; omega
 have y0 := str_size P
 have y1 := str_size S1
 have y2 := str_size S2
 have y3 := str_size S3
 have y4 := str_size S4
 have y5 := str_size S5
 have z2 := str_size Q
 have z3 := str_size R
 have z4 := str_size T
 have k1 : (9223372036854775807 < P.length + 1) = False := eq_false (by omega)
 have k2 : (9223372036854775807 < S1.length + Q.length) = False := eq_false (by omega)
 have k3 : (9223372036854775807 < S2.length + 1) = False := eq_false (by omega)
 have k4 : (9223372036854775807 < S3.length + R.length) = False := eq_false (by omega)
 have k5 : (9223372036854775807 < S4.length + 1) = False := eq_false (by omega)
 have k6 : (9223372036854775807 < S5.length + T.length) = False := eq_false (by omega)
 clear hP hQ hR hT hp hq hr ht HS hF hS1 hS2 hS3 hS4 hS5 hS6
 go_enter Tryz.func15, Tryz.ntmps15
 go_wp2_with (first
  | (go_at_call 34; go_fit (C1.out _); rintro e w1 ⟨rfl, hb1⟩)
  | (go_at_call 34; go_fit (C2.out _); rintro e w2 ⟨rfl, hb2⟩)
  | (go_at_call 34; go_fit (C3.out _); rintro e w3 ⟨rfl, hb3⟩)
  | (go_at_call 34; go_fit (C4.out _); rintro e w4 ⟨rfl, hb4⟩))
 go_ret
 exact ⟨rfl, bnext (bnext (bnext hb1 hb2) hb3) hb4⟩
end Go.Proofs.YtoapelcofjjdnaaGreatDoor
namespace Go.Proofs.YtoapelcofjjdnaaGreatDoor
set_option linter.all false
open Go.RowKit
def TB (w : World) : Prop := Lib.TabIs Tryz.prog w "internal/strconv.uint64pow10" .u64 Lib.pow10Tab
theorem TB.next {w w' : World} (h : TB w) (hb : Below w.heap.size w w') : TB w' := by
 unfold TB Lib.TabIs World.var? at *
 obtain ⟨g, hg, hm⟩ := Option.bind_eq_some_iff.1 h
 have hlt : g < w.heap.size := by
  rcases Nat.lt_or_ge g w.heap.size with h1 | h1
  · exact h1
  · rw [Array.getElem?_eq_none h1] at hm; cases hm
 refine Option.bind_eq_some_iff.2 ⟨g, hg, ?_⟩
 rw [hb.block g hlt]; exact hm
theorem tens_next {x : List UInt8} {j : Nat} (h : j < x.length) : allTen (x.take (j + 1)) = (allTen (x.take j) && decide (48 ≤ (gb x j).toNat ∧ (gb x j).toNat ≤ 57)) := by
 obtain ⟨hj, e⟩ := List.getElem?_eq_some_iff.1 (gb_some h)
 unfold allTen
 rw [take_snoc' x j hj, e, List.all_append]; simp
theorem hexX_is (x : List UInt8) : rEnds.hexX x = decide (2 ≤ x.length ∧ ((gb x 1).toNat = 120 ∨ (gb x 1).toNat = 88)) := by
 match x with
 | [] => rfl
 | [a] => unfold rEnds.hexX; simp
 | a :: c :: t =>
  rw [show gb (a :: c :: t) 1 = c from rfl]
  show (c == 120 || c == 88) = _
  rw [Bool.eq_iff_iff, Bool.or_eq_true, beq_iff_eq, beq_iff_eq, decide_eq_true_iff]
  constructor
  ·
   rintro (rfl | rfl)
   · exact ⟨by simp, .inl rfl⟩
   · exact ⟨by simp, .inr rfl⟩
  ·
   rintro ⟨_, h | h⟩
   · exact .inl (byte_ext h)
   · exact .inr (byte_ext h)
set_option maxRecDepth 100000 in
set_option maxHeartbeats 4000000 in
theorem rends6_any (s : List UInt8) (w : World) (hs : s.length ≤ 100000) : Calls Tryz.prog 71 #[.string (str s)] w fun e w' => e = .returned (.bool (pEnds s)) ∧ Below w.heap.size w w' := by
 rw [← rEnds_eq]
 have hpos := pParts_pos s
 have C1 := Lib.hid (parts6_any s w (by omega))
 obtain ⟨n, hn⟩ : ∃ n, (pParts s).length = n + 1 := ⟨(pParts s).length - 1, by omega⟩
 obtain ⟨x, hx⟩ : ∃ x, (pParts s)[n]? = some x := ⟨_, List.getElem?_eq_getElem (by omega)⟩
 have hxl := cuts_piece hx
 have HE := Lib.hid (show rEnds s = (!x.isEmpty && allTen x || (pNum x).isSome && rEnds.hexX x) by unfold rEnds; rw [pLast_at hn hx])
 have HX := Lib.hid hx
 rw [hn] at C1
 have C3 := Lib.hid fun w => rnumber6_any x w (by omega)
 have hnb : n ≤ 200000 := by
  have := cuts_le 46 s
  have : (pParts s).length ≤ (cuts 46 s).length := by unfold pParts; split; rw [List.length_dropLast]; omega; omega
  omega
 rw [HE.out]
 clear hn hx hpos HE
 have hsz := str_size x
 have hgt := str_get x
 have hX := Lib.hid (hexX_is x)
 obtain ⟨o2, ho2⟩ : ∃ o2, o2 = (pNum x).isSome := ⟨_, rfl⟩
 obtain ⟨o3, ho3⟩ : ∃ o3, o3 = (!x.isEmpty && allTen x) := ⟨_, rfl⟩
 obtain ⟨o4, ho4⟩ : ∃ o4, o4 = rEnds.hexX x := ⟨_, rfl⟩
 rw [← ho4] at hX
 rw [← ho2] at C3
 rw [← ho2, ← ho3, ← ho4]
 have HO3 := Lib.hid ho3
 clear ho2 ho3 ho4
 go_enter Tryz.func71, Tryz.ntmps71
 go_wp2_with (go_at_call 110; go_must (go_fit (C1.out)); rintro e w1 ⟨A1, c1, rfl, hc1, hrl, hb1⟩; obtain ⟨b, off, rfl, hcell⟩ := hrl.last HX.out)
 go_loopg [5, 6] (x.length) (fun k s4 s5 wr => ∃ (j : Nat) (bb : Bool), k = x.length - j ∧ j ≤ x.length ∧ s5 = .int .i64 j ∧ s4 = .bool bb ∧ Hid (bb = (!x.isEmpty && allTen (x.take j))) ∧ w1 = wr)
 case atStart =>
  refine ⟨0, _, rfl, Nat.zero_le _, rfl, rfl, ?_, rfl⟩
  show _ = _
  rw [List.take_zero]
  cases x with
  | nil => rfl
  | cons a t => simp [allTen]; try omega
 case round =>
  obtain ⟨j, bb, rfl, hj, rfl, rfl, hbb, rfl⟩ := hrel
  by_cases hlt : j < x.length
  ·
   have hnx := tens_next hlt
   have hlt1 : (j : Int) < (x.length : Int) := by omega
   have hj0 : (0 : Int) ≤ (j : Int) := by omega
   cases bb with
   | false =>
    have HN := Lib.hid (show false = (!x.isEmpty && allTen (x.take (j + 1))) by rw [hnx, ← Bool.and_assoc, ← hbb.out]; rfl)
    clear hnx
    go_wp2
    go_roundg (x.length - (j + 1))
    case measure => omega
    case rel => exact ⟨j + 1, false, rfl, by omega, by go_num, rfl, HN.out, rfl⟩
   | true =>
    by_cases h1 : 48 ≤ (gb x j).toNat
    ·
     by_cases h2 : (gb x j).toNat ≤ 57
     ·
      have HN := Lib.hid (show true = (!x.isEmpty && allTen (x.take (j + 1))) by rw [hnx, ← Bool.and_assoc, ← hbb.out, decide_eq_true ⟨h1, h2⟩]; rfl)
      have h1' : (48 : Int) ≤ ((gb x j).toNat : Int) := by omega
      have h2' : ((gb x j).toNat : Int) ≤ 57 := by omega
      clear hnx h1 h2
      go_wp2
      go_roundg (x.length - (j + 1))
      case measure => omega
      case rel => exact ⟨j + 1, true, rfl, by omega, by go_num, (by first | rfl | (congr 1; exact decide_eq_true (by omega))), HN.out, rfl⟩
     ·
      have HN := Lib.hid (show false = (!x.isEmpty && allTen (x.take (j + 1))) by rw [hnx, ← Bool.and_assoc, ← hbb.out, decide_eq_false (fun h => h2 h.2)]; rfl)
      have h1' : (48 : Int) ≤ ((gb x j).toNat : Int) := by omega
      have h2' : (57 : Int) < ((gb x j).toNat : Int) := by omega
      clear hnx h1 h2
      go_wp2
      go_roundg (x.length - (j + 1))
      case measure => omega
      case rel => exact ⟨j + 1, false, rfl, by omega, by go_num, (by first | rfl | (congr 1; exact decide_eq_false (by omega))), HN.out, rfl⟩
    ·
     have HN := Lib.hid (show false = (!x.isEmpty && allTen (x.take (j + 1))) by rw [hnx, ← Bool.and_assoc, ← hbb.out, decide_eq_false (fun h => h1 h.1)]; rfl)
     have h1' : ((gb x j).toNat : Int) < 48 := by omega
     clear hnx h1
     go_wp2
     go_roundg (x.length - (j + 1))
     case measure => omega
     case rel => exact ⟨j + 1, false, rfl, by omega, by go_num, rfl, HN.out, rfl⟩
  ·
   obtain rfl : j = x.length := by omega
   have hb := hbb.out
   rw [List.take_length, ← HO3.out] at hb
   subst hb
   clear hbb
   have hlx := str_size x
   cases bb with
   | true =>
    go_wp2
    all_goals go_ret
    all_goals exact ⟨rfl, hb1⟩
   | false =>
    have fin : ∀ b : Bool, (false || (o2 && o4)) = b → Ending.returned (.bool b) = .returned (.bool (false || (o2 && o4))) := fun b h => by rw [h]
    by_cases h2 : 2 ≤ x.length
    ·
     by_cases h120 : (gb x 1).toNat = 120
     ·
      obtain rfl : o4 = true := by rw [hX.out]; exact decide_eq_true ⟨h2, .inl h120⟩
      have h120' : ((gb x 1).toNat : Int) = 120 := by omega
      clear h120
      cases o2
      all_goals go_wp2_with (go_at_call 111; go_must (go_fit (C3.out _)); rintro e w2 ⟨rfl, rfl⟩)
      all_goals go_ret
      all_goals exact ⟨rfl, hb1⟩
     ·
      have h120' : (((gb x 1).toNat : Int) == 120) = false := by rw [beq_eq_false_iff_ne]; omega
      by_cases h88 : (gb x 1).toNat = 88
      ·
       obtain rfl : o4 = true := by rw [hX.out]; exact decide_eq_true ⟨h2, .inr h88⟩
       have h88' : ((gb x 1).toNat : Int) = 88 := by omega
       clear h120 h88
       cases o2
       all_goals go_wp2_with (go_at_call 111; go_must (go_fit (C3.out _)); rintro e w2 ⟨rfl, rfl⟩)
       all_goals go_ret
       all_goals exact ⟨rfl, hb1⟩
      ·
       obtain rfl : o4 = false := by rw [hX.out]; exact decide_eq_false (fun h => h.2.elim h120 h88)
       have h88' : (((gb x 1).toNat : Int) == 88) = false := by rw [beq_eq_false_iff_ne]; omega
       clear h120 h88
       cases o2
       all_goals go_wp2_with (go_at_call 111; go_must (go_fit (C3.out _)); rintro e w2 ⟨rfl, rfl⟩)
       all_goals go_ret
       all_goals exact ⟨rfl, hb1⟩
    ·
     obtain rfl : o4 = false := by rw [hX.out]; exact decide_eq_false (fun h => h2 h.1)
     cases o2
     all_goals go_wp2_with (go_at_call 111; go_must (go_fit (C3.out _)); rintro e w2 ⟨rfl, rfl⟩)
     all_goals go_ret
     all_goals exact ⟨rfl, hb1⟩
end Go.Proofs.YtoapelcofjjdnaaGreatDoor
namespace Go.Proofs.YtoapelcofjjdnaaGreatDoor
set_option linter.all false
open Go.RowKit
end Go.Proofs.YtoapelcofjjdnaaGreatDoor
namespace Go.Proofs.YtoapelcofjjdnaaGreatDoor
set_option linter.all false
open Go.RowKit
def EV (w : World) : Prop := (∃ ev, w.cell? ⟨2, 0, none⟩ = some ev ∧ (ev = .nilIface ∨ ∃ te pe, ev = .iface te pe)) ∧ ∃ ev, w.cell? ⟨3, 0, none⟩ = some ev ∧ (ev = .nilIface ∨ ∃ te pe, ev = .iface te pe)
theorem EV.next {w w' : World} (h : EV w) (hb : Below w.heap.size w w') : EV w' := by
 obtain ⟨⟨e1, h1, k1⟩, e2, h2, k2⟩ := h
 exact ⟨⟨e1, (hb.cell (p := ⟨_, 0, none⟩) (World.block_lt_of_cell? _ _ h1)).trans h1, k1⟩, e2, (hb.cell (p := ⟨_, 0, none⟩) (World.block_lt_of_cell? _ _ h2)).trans h2, k2⟩
end Go.Proofs.YtoapelcofjjdnaaGreatDoor
namespace Go.Proofs.YtoapelcofjjdnaaGreatDoor
set_option linter.all false
open Go.RowKit
def Num (o : Option Nat) (e : Ending) : Prop := match o with
 | some n => e = .returned (.tuple #[.int .u64 (n : Int), .nilIface])
 | none => ∃ (n N : Nat), e = .returned (.tuple #[.int .u64 (n : Int), .iface 215 (.pointer (some ⟨N, 0, none⟩))])
def u16s (l : List Nat) : List Value := l.map fun (n : Nat) => Value.int .u16 (n : Int)
theorem u16s_len (l : List Nat) : (u16s l).length = l.length := List.length_map ..
theorem u16s_append (a b : List Nat) : u16s (a ++ b) = u16s a ++ u16s b := List.map_append ..
def Rdr (w : World) (g : Nat) (s : List UInt8) (ok : Bool) (v : Value) (gap : Int) : Prop := w.heap[g]? = some (.cells #[.string (str s), .bool ok, v, .int .i64 gap] 113 (0, 0))
section
variable {w w' : World} {g : Nat} {s : List UInt8} {ok : Bool} {v : Value} {gap : Int}
theorem Rdr.lt (h : Rdr w g s ok v gap) : g < w.heap.size := lt_of_block h
theorem Rdr.c0 (h : Rdr w g s ok v gap) : w.cell? ⟨g, 0, none⟩ = some (.string (str s)) := cell_of_row _ _ 0 _ _ _ h
theorem Rdr.c1 (h : Rdr w g s ok v gap) : w.cell? ⟨g, 1, none⟩ = some (.bool ok) := cell_of_row _ _ 1 _ _ _ h
theorem Rdr.c2 (h : Rdr w g s ok v gap) : w.cell? ⟨g, 2, none⟩ = some v := cell_of_row _ _ 2 _ _ _ h
theorem Rdr.c3 (h : Rdr w g s ok v gap) : w.cell? ⟨g, 3, none⟩ = some (.int .i64 gap) := cell_of_row _ _ 3 _ _ _ h
theorem Rdr.fr (h : Rdr w g s ok v gap) (j : Nat) : w.frozen? ⟨g, j, none⟩ = false := Lib.frozen_of_heap h j
theorem Rdr.keep (h : Rdr w g s ok v gap) (hk : w'.heap[g]? = w.heap[g]?) : Rdr w' g s ok v gap := hk.trans h
theorem Rdr.next (h : Rdr w g s ok v gap) (hb : Below w.heap.size w w') : Rdr w' g s ok v gap := h.keep (hb.block g h.lt)
theorem Rdr.s0 (h : Rdr w g s ok v gap) (t : List UInt8) : Rdr (w.setCell ⟨g, 0, none⟩ (.string (str t))) g t ok v gap := by
 unfold Rdr at h ⊢; unfold World.setCell; simp only [Array.getElem?_modify, if_true, h]; rfl
theorem Rdr.s1 (h : Rdr w g s ok v gap) (b : Bool) : Rdr (w.setCell ⟨g, 1, none⟩ (.bool b)) g s b v gap := by
 unfold Rdr at h ⊢; unfold World.setCell; simp only [Array.getElem?_modify, if_true, h]; rfl
theorem Rdr.s2 (h : Rdr w g s ok v gap) (u : Value) : Rdr (w.setCell ⟨g, 2, none⟩ u) g s ok u gap := by
 unfold Rdr at h ⊢; unfold World.setCell; simp only [Array.getElem?_modify, if_true, h]; rfl
theorem Rdr.s3 (h : Rdr w g s ok v gap) (k : Int) : Rdr (w.setCell ⟨g, 3, none⟩ (.int .i64 k)) g s ok v k := by
 unfold Rdr at h ⊢; unfold World.setCell; simp only [Array.getElem?_modify, if_true, h]; rfl
theorem own_setU {m : Nat} {xs : List Value} {u z : Value} {j : Nat} (hown : w.ownsRow (g + 1) 23 1 u m xs) : (w.setCell ⟨g, j, none⟩ z).ownsRow (g + 1) 23 1 u m xs := by
 refine hown.kept (row := some g) ⟨rfl, rfl, rfl, by simp [World.setCell], fun k _ hk => Below.heap_setCell _ _ _ _ (fun e => hk (by simp [e]))⟩ ?_
 right
 intro e
 have := (hown.lt g e).1
 omega
end
def RD (w : World) (g : Nat) (s : List UInt8) (ok : Bool) (l : List Nat) (gap : Int) : Prop := ∃ v, Rdr w g s ok v gap ∧ w.ownsRow (g + 1) 23 1 v l.length (u16s l)
section
variable {w w' : World} {g : Nat} {s : List UInt8} {ok : Bool} {l : List Nat} {gap : Int}
theorem RD.lt (h : RD w g s ok l gap) : g < w.heap.size := by obtain ⟨v, h, _⟩ := h; exact h.lt
theorem RD.c0 (h : RD w g s ok l gap) : w.cell? ⟨g, 0, none⟩ = some (.string (str s)) := by obtain ⟨v, h, _⟩ := h; exact h.c0
theorem RD.c1 (h : RD w g s ok l gap) : w.cell? ⟨g, 1, none⟩ = some (.bool ok) := by obtain ⟨v, h, _⟩ := h; exact h.c1
theorem RD.c2 (h : RD w g s ok l gap) : ∃ A c, w.cell? ⟨g, 2, none⟩ = some (.slice A l.length c) ∧ l.length ≤ c ∧ c ≤ maxLen := by
 obtain ⟨v, h, ho⟩ := h
 obtain ⟨A, c, rfl, h1, h2⟩ := own_shape ho
 exact ⟨A, c, h.c2, h1, h2⟩
theorem RD.c3 (h : RD w g s ok l gap) : w.cell? ⟨g, 3, none⟩ = some (.int .i64 gap) := by obtain ⟨v, h, _⟩ := h; exact h.c3
theorem RD.fr (h : RD w g s ok l gap) (j : Nat) : w.frozen? ⟨g, j, none⟩ = false := by obtain ⟨v, h, _⟩ := h; exact h.fr j
theorem RD.s0 (h : RD w g s ok l gap) (t : List UInt8) : RD (w.setCell ⟨g, 0, none⟩ (.string (str t))) g t ok l gap := by obtain ⟨v, h, ho⟩ := h; exact ⟨v, h.s0 t, own_setU ho⟩
theorem RD.s1 (h : RD w g s ok l gap) (b : Bool) : RD (w.setCell ⟨g, 1, none⟩ (.bool b)) g s b l gap := by obtain ⟨v, h, ho⟩ := h; exact ⟨v, h.s1 b, own_setU ho⟩
theorem RD.s3 (h : RD w g s ok l gap) (k : Int) : RD (w.setCell ⟨g, 3, none⟩ (.int .i64 k)) g s ok l k := by obtain ⟨v, h, ho⟩ := h; exact ⟨v, h.s3 k, own_setU ho⟩
theorem RD.next (h : RD w g s ok l gap) (hb : Below w.heap.size w w') : RD w' g s ok l gap := by
 have hlt := h.lt
 obtain ⟨v, h, ho⟩ := h
 exact ⟨v, h.keep (hb.block g hlt), own_below ho hb (Nat.le_refl _)⟩
theorem RD.drew (h : RD w g s ok l gap) : RD w.drew g s ok l gap := h
end
theorem set_gb (w : World) (g j : Nat) (v : Value) : w.grownBy (w.setCell ⟨g, j, none⟩ v) (some g) :=
 ⟨rfl, rfl, rfl, by simp [World.setCell], fun k _ hk => Below.heap_setCell _ _ _ _ (fun e => hk (by simp [e]))⟩
end Go.Proofs.YtoapelcofjjdnaaGreatDoor
namespace Go.Proofs.YtoapelcofjjdnaaGreatDoor
set_option linter.all false
open Go.RowKit
theorem info_u16 : (Tryz.prog.info? 23).map (fun i => (i.zero, i.size, i.bytes)) = some (some (.int .u16 0), 1, 2) := by kernel_rfl
theorem Num.any {o : Option Nat} {e : Ending} (h : Num o e) : ∃ (n : Nat) (E : Value), e = .returned (.tuple #[.int .u64 (n : Int), E]) := by
 cases o with
 | some n => exact ⟨n, _, h⟩
 | none => obtain ⟨n, N, h⟩ := h; exact ⟨n, _, h⟩
def Low (g : Nat) : Prop := 2 < g ∧ 3 < g
theorem EV.low {w w' : World} {g : Nat} (h : EV w) (hg : Low g) (hb : Below g w w') : EV w' := by
 obtain ⟨⟨e1, h1, k1⟩, e2, h2, k2⟩ := h
 exact ⟨⟨e1, (hb.cell (p := ⟨_, 0, none⟩) hg.1).trans h1, k1⟩, e2, (hb.cell (p := ⟨_, 0, none⟩) hg.2).trans h2, k2⟩
section
variable {P : Program} {w : World} {ops : Array Oper} {rest : List Oper} {o : Oper} {a : Act} {Q : Exit → Act → World → Prop}
end
-- The pieces' row takes one number more.
end Go.Proofs.YtoapelcofjjdnaaGreatDoor
