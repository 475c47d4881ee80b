/- A part of the proof. -/
import Derived.Test.YtoapelcofjjdnaaGreatDoorR15
import Derived.Test.YtoapelcofjjdnaaGreatDoorR02
import Derived.Deep.RegionHeld3
import Derived.Lib.LaidTab
import Derived.Deep.LoopGhost
import Derived.Test.YtoapelcofjjdnaaGreatDoorR14
namespace Go.Proofs.YtoapelcofjjdnaaGreatDoor
set_option linter.all false
open Go.RowKit
theorem lit_str (w : World) (c : UInt8) : (convert 58 9 (.slice (some ⟨w.heap.size, 0, none⟩) 1 1)).run Tryz.prog (w.alloc (.cells #[.int .u8 (c.toNat : Int)] 5)) = .ok (.string (str [c])) (w.alloc (.cells #[.int .u8 (c.toNat : Int)] 5)) :=
 str_atN (B := w.heap.size + 1) (n := 1) (A := some ⟨w.heap.size, 0, none⟩) (c := 1) (l := [c]) (by have := @Rd.lit w #[.int .u8 (c.toNat : Int)] 5 (0, 0); simpa [bytes] using this) rfl
theorem dch_low {d : Nat} (h : d < 10) : ((dch d).toNat : Int) = 48 + (d : Int) := by
 unfold dch; rw [if_pos h, UInt8.toNat_ofNat', Nat.mod_eq_of_lt (by omega)]; omega
set_option maxRecDepth 100000 in
set_option maxHeartbeats 4000000 in
theorem ten6_any (n : Nat) (w : World) (hn : n < 18446744073709551616) : Calls Tryz.prog 34 #[.int .u64 (n : Int)] w fun e w' => e = .returned (.string (str (digs 10 n))) ∧ Below w.heap.size w w' := by
 have hlen := Lib.hid (digs_len (b := 10) (by decide) 20 n (by omega))
 go_enter Tryz.func34, Tryz.ntmps34
 go_wp2
 go_loopg [0, 3] n (fun k s0 s2 wr => ∃ (m : Nat) (T : List UInt8), k = m ∧ s0 = .int .u64 (m : Int) ∧ s2 = .string (str T) ∧ m ≤ n ∧ T.length ≤ 20 ∧ Hid (digs 10 n = digs 10 m ++ T) ∧ Below w.heap.size w wr)
 case atStart => exact ⟨n, [], rfl, rfl, rfl, Nat.le_refl _, by simp, (List.append_nil _).symm, Below.refl _ _⟩
 case round =>
  obtain ⟨_, T, rfl, rfl, rfl, hm, hT, hD, hbel⟩ := hrel
  have hq0 := hbel.size
  obtain ⟨d, hd⟩ : ∃ d : Nat, d = gk % 10 := ⟨_, rfl⟩
  obtain ⟨q, hq⟩ : ∃ q : Nat, q = gk / 10 := ⟨_, rfl⟩
  have hd10 : d < 10 := by omega
  have hrem : ((gk : Int)).tmod 10 = (d : Int) := by rw [hd]; exact (Int.ofNat_tmod gk 10).symm
  have hquo : ((gk : Int)).tdiv 10 = (q : Int) := by rw [hq]; exact (Int.ofNat_tdiv gk 10).symm
  have hdl := dch_low hd10
  have hv0 : IntKind.u64.wrap (d : Int) = (d : Int) := IntWalk.u64_in _ (by omega)
  have hv1 : IntKind.u64.wrap (48 + (d : Int)) = 48 + (d : Int) := IntWalk.u64_in _ (by omega)
  have hv2 : IntKind.u8.wrap (48 + (d : Int)) = ((dch d).toNat : Int) := by rw [IntWalk.u8_in _ (by omega), hdl]
  have hv3 : IntKind.u64.wrap (q : Int) = (q : Int) := IntWalk.u64_in _ (by omega)
  have e1 : str [dch d] ++ str T = str (dch d :: T) := str_app [dch d] T
  have y1 := str_size T
  have y2 : (str [dch d]).size = 1 := str_size [dch d]
  have k1 : (9223372036854775807 < 1 + T.length) = False := eq_false (by omega)
  have hcv := fun (w : World) => lit_str w (dch d)
  by_cases hq1 : q = 0
  ·
   have HF := Lib.hid (show digs 10 n = dch d :: T by
    rw [hD.out, digs_small (show gk < 10 by omega), show d = gk by omega]; rfl)
   have hz : ((q : Int) == 0) = true := by rw [beq_iff_eq]; omega
   clear hd hq hdl
   go_wp2
   go_ret
   exact ⟨by rw [HF.out]; rfl, hbel.alloc hq0 _⟩
  ·
   have HF := Lib.hid (show digs 10 n = digs 10 q ++ dch d :: T by
    rw [hD.out, digs_big (b := 10) (by decide) (show 10 ≤ gk by omega), ← hq, ← hd, List.append_assoc]; rfl)
   have hz : ((q : Int) == 0) = false := by rw [beq_eq_false_iff_ne]; omega
   have hqm : q < gk := by omega
   have HT := Lib.hid (show (dch d :: T).length ≤ 20 by
    have h1 := hlen.out
    rw [HF.out, List.length_append] at h1
    omega)
   clear hd hq hdl hq1
   go_wp2
   go_roundg q
   case measure => omega
   case rel => exact ⟨q, dch d :: T, rfl, by go_num, rfl, by omega, HT.out, HF.out, hbel.alloc hq0 _⟩
theorem ten6T_any (n : Nat) (w : World) (hn : n < 18446744073709551616) : Calls Tryz.prog 18 #[.int .u64 (n : Int)] w fun e w' => e = .returned (.string (str (digs 10 n))) ∧ Below w.heap.size w w' := by
 have C := Lib.hid fun w => ten6_any n w hn
 go_enter Tryz.func18, Tryz.ntmps18
 go_wp2_with (go_at_call 34; go_must (go_fit (C.out _)); rintro e w1 ⟨rfl, hb1⟩)
 go_ret
 exact ⟨rfl, hb1⟩
end Go.Proofs.YtoapelcofjjdnaaGreatDoor
namespace Go.Proofs.YtoapelcofjjdnaaGreatDoor
set_option linter.all false
open Go.RowKit
theorem show4_digs (a : Nat) : pShow4 a = digs 10 (a / 2 ^ 24 % 256) ++ 46 :: (digs 10 (a / 2 ^ 16 % 256) ++ 46 :: (digs 10 (a / 2 ^ 8 % 256) ++ 46 :: digs 10 (a % 256))) := by
 rw [show4_fours]; unfold fours; simp [Lib.join]
theorem digs_byte {u : Nat} (h : u < 256) : (digs 10 u).length ≤ 3 := by
 have := digs_len (b := 10) (by decide) 3 u (by omega)
 omega
theorem show4_len {a : Nat} : (pShow4 a).length ≤ 15 := by
 have h1 := digs_byte (u := a / 2 ^ 24 % 256) (by omega)
 have h2 := digs_byte (u := a / 2 ^ 16 % 256) (by omega)
 have h3 := digs_byte (u := a / 2 ^ 8 % 256) (by omega)
 have h4 := digs_byte (u := a % 256) (by omega)
 rw [show4_digs]
 simp only [List.length_append, List.length_cons]
 omega
theorem u32_wrapN {x : Nat} (h : x < 4294967296) : IntKind.u32.wrap (x : Int) = (x : Int) := by
 simp [IntKind.wrap, IntKind.bits, IntKind.signed]; omega
theorem u32_and255 {x : Nat} (h : x < 4294967296) : bits .and .u32 (x : Int) 255 = ((x % 256 : Nat) : Int) := by
 show IntKind.u32.wrap ((BitVec.ofInt 32 (x : Int) &&& BitVec.ofInt 32 ((255 : Nat) : Int)).toNat : Int) = _
 have e1 : BitVec.ofInt 32 (x : Int) = BitVec.ofNat 32 x := BitVec.ofInt_natCast ..
 have e2 : BitVec.ofInt 32 ((255 : Nat) : Int) = BitVec.ofNat 32 255 := BitVec.ofInt_natCast ..
 rw [e1, e2, BitVec.toNat_and, BitVec.toNat_ofNat, BitVec.toNat_ofNat, Nat.mod_eq_of_lt h, Nat.mod_eq_of_lt (show 255 < 2 ^ 32 by decide), show (255 : Nat) = 2 ^ 8 - 1 from rfl, Nat.and_two_pow_sub_one_eq_mod, u32_wrapN (by omega)]
theorem u32_piece {a k q : Nat} (h : a < 4294967296) (hq : q = a / k % 256) : bits .and .u32 ((a : Int) / (k : Int)) 255 = (q : Int) := by
 rw [hq, ← u32_and255 (x := a / k) (Nat.lt_of_le_of_lt (Nat.div_le_self _ _) h)]; rfl
set_option maxRecDepth 100000 in
set_option maxHeartbeats 4000000 in
theorem rshow4_any (a : Nat) (w : World) (ha : a < 4294967296) : Calls Tryz.prog 15 #[.int .u32 (a : Int)] w fun e w' => e = .returned (.string (str (pShow4 a))) ∧ Below w.heap.size w w' := by
 obtain ⟨p, hp⟩ : ∃ p : Nat, p = a / 2 ^ 24 % 256 := ⟨_, rfl⟩
 obtain ⟨q, hq⟩ : ∃ q : Nat, q = a / 2 ^ 16 % 256 := ⟨_, rfl⟩
 obtain ⟨r, hr⟩ : ∃ r : Nat, r = a / 2 ^ 8 % 256 := ⟨_, rfl⟩
 obtain ⟨t, ht⟩ : ∃ t : Nat, t = a % 256 := ⟨_, rfl⟩
 have HS := Lib.hid (show4_digs a)
 rw [← hp, ← hq, ← hr, ← ht] at HS
 have b1 : p < 256 := by omega
 have b2 : q < 256 := by omega
 have b3 : r < 256 := by omega
 have b4 : t < 256 := by omega
 have C1 := Lib.hid fun w => ten6_any p w (by omega)
 have C2 := Lib.hid fun w => ten6_any q w (by omega)
 have C3 := Lib.hid fun w => ten6_any r w (by omega)
 have C4 := Lib.hid fun w => ten6_any t w (by omega)
 have l1 := digs_byte b1
 have l2 := digs_byte b2
 have l3 := digs_byte b3
 have l4 := digs_byte b4
 obtain ⟨P, hP⟩ : ∃ P, P = digs 10 p := ⟨_, rfl⟩
 obtain ⟨Q, hQ⟩ : ∃ Q, Q = digs 10 q := ⟨_, rfl⟩
 obtain ⟨R, hR⟩ : ∃ R, R = digs 10 r := ⟨_, rfl⟩
 obtain ⟨T, hT⟩ : ∃ T, T = digs 10 t := ⟨_, rfl⟩
 rw [← hP] at C1 l1 HS
 rw [← hQ] at C2 l2 HS
 rw [← hR] at C3 l3 HS
 rw [← hT] at C4 l4 HS
 have i1 : (a : Int) / 16777216 = (p : Int) := by omega
 have i2 : bits .and .u32 ((a : Int) / 65536) 255 = (q : Int) := u32_piece (k := 65536) ha hq
 have i3 : bits .and .u32 ((a : Int) / 256) 255 = (r : Int) := u32_piece (k := 256) ha hr
 have i4 : bits .and .u32 (a : Int) 255 = (t : Int) := by rw [u32_and255 ha, ht]
 have j1 : IntKind.u64.wrap (p : Int) = (p : Int) := IntWalk.u64_in _ (by omega)
 have j2 : IntKind.u64.wrap (q : Int) = (q : Int) := IntWalk.u64_in _ (by omega)
 have j3 : IntKind.u64.wrap (r : Int) = (r : Int) := IntWalk.u64_in _ (by omega)
 have j4 : IntKind.u64.wrap (t : Int) = (t : Int) := IntWalk.u64_in _ (by omega)
 obtain ⟨S1, hS1⟩ : ∃ S, S = P ++ [46] := ⟨_, rfl⟩
 obtain ⟨S2, hS2⟩ : ∃ S, S = S1 ++ Q := ⟨_, rfl⟩
 obtain ⟨S3, hS3⟩ : ∃ S, S = S2 ++ [46] := ⟨_, rfl⟩
 obtain ⟨S4, hS4⟩ : ∃ S, S = S3 ++ R := ⟨_, rfl⟩
 obtain ⟨S5, hS5⟩ : ∃ S, S = S4 ++ [46] := ⟨_, rfl⟩
 obtain ⟨S6, hS6⟩ : ∃ S, S = S5 ++ T := ⟨_, rfl⟩
 have hF : pShow4 a = S6 := by rw [HS.out, hS6, hS5, hS4, hS3, hS2, hS1]; simp
 rw [hF]
 have e1 : str P ++ { data := #[46] } = str S1 := (str_app P [46]).trans (by rw [hS1])
 have e2 : str S1 ++ str Q = str S2 := (str_app S1 Q).trans (by rw [hS2])
 have e3 : str S2 ++ { data := #[46] } = str S3 := (str_app S2 [46]).trans (by rw [hS3])
 have e4 : str S3 ++ str R = str S4 := (str_app S3 R).trans (by rw [hS4])
 have e5 : str S4 ++ { data := #[46] } = str S5 := (str_app S4 [46]).trans (by rw [hS5])
 have e6 : str S5 ++ str T = str S6 := (str_app S5 T).trans (by rw [hS6])
 have n1 : S1.length ≤ 4 := by rw [hS1, List.length_append]; simp; omega
 have n2 : S2.length ≤ 7 := by rw [hS2, List.length_append]; omega
 have n3 : S3.length ≤ 8 := by rw [hS3, List.length_append]; simp; omega
 have n4 : S4.length ≤ 11 := by rw [hS4, List.length_append]; omega
 have n5 : S5.length ≤ 12 := by rw [hS5, List.length_append]; simp; omega
 have y0 := str_size P
 have y1 := str_size S1
 have y2 := str_size S2
 have y3 := str_size S3
 have y4 := str_size S4
 have y5 := str_size S5
 have z2 := str_size Q
 have z3 := str_size R
 have z4 := str_size T
 have k1 : (9223372036854775807 < P.length + 1) = False := eq_false (by omega)
 have k2 : (9223372036854775807 < S1.length + Q.length) = False := eq_false (by omega)
 have k3 : (9223372036854775807 < S2.length + 1) = False := eq_false (by omega)
 have k4 : (9223372036854775807 < S3.length + R.length) = False := eq_false (by omega)
 have k5 : (9223372036854775807 < S4.length + 1) = False := eq_false (by omega)
 have k6 : (9223372036854775807 < S5.length + T.length) = False := eq_false (by omega)
 clear hP hQ hR hT hp hq hr ht HS hF hS1 hS2 hS3 hS4 hS5 hS6
 go_enter Tryz.func15, Tryz.ntmps15
 go_wp2_with (first
  | (go_at_call 34; go_fit (C1.out _); rintro e w1 ⟨rfl, hb1⟩)
  | (go_at_call 34; go_fit (C2.out _); rintro e w2 ⟨rfl, hb2⟩)
  | (go_at_call 34; go_fit (C3.out _); rintro e w3 ⟨rfl, hb3⟩)
  | (go_at_call 34; go_fit (C4.out _); rintro e w4 ⟨rfl, hb4⟩))
 go_ret
 exact ⟨rfl, bnext (bnext (bnext hb1 hb2) hb3) hb4⟩
end Go.Proofs.YtoapelcofjjdnaaGreatDoor
namespace Go.Proofs.YtoapelcofjjdnaaGreatDoor
set_option linter.all false
open Go.RowKit
def TB (w : World) : Prop := Lib.TabIs Tryz.prog w "internal/strconv.uint64pow10" .u64 Lib.pow10Tab
theorem TB.next {w w' : World} (h : TB w) (hb : Below w.heap.size w w') : TB w' := by
 unfold TB Lib.TabIs World.var? at *
 obtain ⟨g, hg, hm⟩ := Option.bind_eq_some_iff.1 h
 have hlt : g < w.heap.size := by
  rcases Nat.lt_or_ge g w.heap.size with h1 | h1
  · exact h1
  · rw [Array.getElem?_eq_none h1] at hm; cases hm
 refine Option.bind_eq_some_iff.2 ⟨g, hg, ?_⟩
 rw [hb.block g hlt]; exact hm
theorem tens_next {x : List UInt8} {j : Nat} (h : j < x.length) : allTen (x.take (j + 1)) = (allTen (x.take j) && decide (48 ≤ (gb x j).toNat ∧ (gb x j).toNat ≤ 57)) := by
 obtain ⟨hj, e⟩ := List.getElem?_eq_some_iff.1 (gb_some h)
 unfold allTen
 rw [take_snoc' x j hj, e, List.all_append]; simp
theorem hexX_is (x : List UInt8) : rEnds.hexX x = decide (2 ≤ x.length ∧ ((gb x 1).toNat = 120 ∨ (gb x 1).toNat = 88)) := by
 match x with
 | [] => rfl
 | [a] => unfold rEnds.hexX; simp
 | a :: c :: t =>
  rw [show gb (a :: c :: t) 1 = c from rfl]
  show (c == 120 || c == 88) = _
  rw [Bool.eq_iff_iff, Bool.or_eq_true, beq_iff_eq, beq_iff_eq, decide_eq_true_iff]
  constructor
  ·
   rintro (rfl | rfl)
   · exact ⟨by simp, .inl rfl⟩
   · exact ⟨by simp, .inr rfl⟩
  ·
   rintro ⟨_, h | h⟩
   · exact .inl (byte_ext h)
   · exact .inr (byte_ext h)
set_option maxRecDepth 100000 in
set_option maxHeartbeats 4000000 in
theorem rends6_any (s : List UInt8) (w : World) (hs : s.length ≤ 100000) : Calls Tryz.prog 71 #[.string (str s)] w fun e w' => e = .returned (.bool (pEnds s)) ∧ Below w.heap.size w w' := by
 rw [← rEnds_eq]
 have hpos := pParts_pos s
 have C1 := Lib.hid (parts6_any s w (by omega))
 obtain ⟨n, hn⟩ : ∃ n, (pParts s).length = n + 1 := ⟨(pParts s).length - 1, by omega⟩
 obtain ⟨x, hx⟩ : ∃ x, (pParts s)[n]? = some x := ⟨_, List.getElem?_eq_getElem (by omega)⟩
 have hxl := cuts_piece hx
 have HE := Lib.hid (show rEnds s = (!x.isEmpty && allTen x || (pNum x).isSome && rEnds.hexX x) by unfold rEnds; rw [pLast_at hn hx])
 have HX := Lib.hid hx
 rw [hn] at C1
 have C3 := Lib.hid fun w => rnumber6_any x w (by omega)
 have hnb : n ≤ 200000 := by
  have := cuts_le 46 s
  have : (pParts s).length ≤ (cuts 46 s).length := by unfold pParts; split; rw [List.length_dropLast]; omega; omega
  omega
 rw [HE.out]
 clear hn hx hpos HE
 have hsz := str_size x
 have hgt := str_get x
 have hX := Lib.hid (hexX_is x)
 obtain ⟨o2, ho2⟩ : ∃ o2, o2 = (pNum x).isSome := ⟨_, rfl⟩
 obtain ⟨o3, ho3⟩ : ∃ o3, o3 = (!x.isEmpty && allTen x) := ⟨_, rfl⟩
 obtain ⟨o4, ho4⟩ : ∃ o4, o4 = rEnds.hexX x := ⟨_, rfl⟩
 rw [← ho4] at hX
 rw [← ho2] at C3
 rw [← ho2, ← ho3, ← ho4]
 have HO3 := Lib.hid ho3
 clear ho2 ho3 ho4
 go_enter Tryz.func71, Tryz.ntmps71
 go_wp2_with (go_at_call 110; go_must (go_fit (C1.out)); rintro e w1 ⟨A1, c1, rfl, hc1, hrl, hb1⟩; obtain ⟨b, off, rfl, hcell⟩ := hrl.last HX.out)
 go_loopg [5, 6] (x.length) (fun k s4 s5 wr => ∃ (j : Nat) (bb : Bool), k = x.length - j ∧ j ≤ x.length ∧ s5 = .int .i64 j ∧ s4 = .bool bb ∧ Hid (bb = (!x.isEmpty && allTen (x.take j))) ∧ w1 = wr)
 case atStart =>
  refine ⟨0, _, rfl, Nat.zero_le _, rfl, rfl, ?_, rfl⟩
  show _ = _
  rw [List.take_zero]
  cases x with
  | nil => rfl
  | cons a t => simp [allTen]; try omega
 case round =>
  obtain ⟨j, bb, rfl, hj, rfl, rfl, hbb, rfl⟩ := hrel
  by_cases hlt : j < x.length
  ·
   have hnx := tens_next hlt
   have hlt1 : (j : Int) < (x.length : Int) := by omega
   have hj0 : (0 : Int) ≤ (j : Int) := by omega
   cases bb with
   | false =>
    have HN := Lib.hid (show false = (!x.isEmpty && allTen (x.take (j + 1))) by rw [hnx, ← Bool.and_assoc, ← hbb.out]; rfl)
    clear hnx
    go_wp2
    go_roundg (x.length - (j + 1))
    case measure => omega
    case rel => exact ⟨j + 1, false, rfl, by omega, by go_num, rfl, HN.out, rfl⟩
   | true =>
    by_cases h1 : 48 ≤ (gb x j).toNat
    ·
     by_cases h2 : (gb x j).toNat ≤ 57
     ·
      have HN := Lib.hid (show true = (!x.isEmpty && allTen (x.take (j + 1))) by rw [hnx, ← Bool.and_assoc, ← hbb.out, decide_eq_true ⟨h1, h2⟩]; rfl)
      have h1' : (48 : Int) ≤ ((gb x j).toNat : Int) := by omega
      have h2' : ((gb x j).toNat : Int) ≤ 57 := by omega
      clear hnx h1 h2
      go_wp2
      go_roundg (x.length - (j + 1))
      case measure => omega
      case rel => exact ⟨j + 1, true, rfl, by omega, by go_num, (by first | rfl | (congr 1; exact decide_eq_true (by omega))), HN.out, rfl⟩
     ·
      have HN := Lib.hid (show false = (!x.isEmpty && allTen (x.take (j + 1))) by rw [hnx, ← Bool.and_assoc, ← hbb.out, decide_eq_false (fun h => h2 h.2)]; rfl)
      have h1' : (48 : Int) ≤ ((gb x j).toNat : Int) := by omega
      have h2' : (57 : Int) < ((gb x j).toNat : Int) := by omega
      clear hnx h1 h2
      go_wp2
      go_roundg (x.length - (j + 1))
      case measure => omega
      case rel => exact ⟨j + 1, false, rfl, by omega, by go_num, (by first | rfl | (congr 1; exact decide_eq_false (by omega))), HN.out, rfl⟩
    ·
     have HN := Lib.hid (show false = (!x.isEmpty && allTen (x.take (j + 1))) by rw [hnx, ← Bool.and_assoc, ← hbb.out, decide_eq_false (fun h => h1 h.1)]; rfl)
     have h1' : ((gb x j).toNat : Int) < 48 := by omega
     clear hnx h1
     go_wp2
     go_roundg (x.length - (j + 1))
     case measure => omega
     case rel => exact ⟨j + 1, false, rfl, by omega, by go_num, rfl, HN.out, rfl⟩
  ·
   obtain rfl : j = x.length := by omega
   have hb := hbb.out
   rw [List.take_length, ← HO3.out] at hb
   subst hb
   clear hbb
   have hlx := str_size x
   cases bb with
   | true =>
    go_wp2
    all_goals go_ret
    all_goals exact ⟨rfl, hb1⟩
   | false =>
    have fin : ∀ b : Bool, (false || (o2 && o4)) = b → Ending.returned (.bool b) = .returned (.bool (false || (o2 && o4))) := fun b h => by rw [h]
    by_cases h2 : 2 ≤ x.length
    ·
     by_cases h120 : (gb x 1).toNat = 120
     ·
      obtain rfl : o4 = true := by rw [hX.out]; exact decide_eq_true ⟨h2, .inl h120⟩
      have h120' : ((gb x 1).toNat : Int) = 120 := by omega
      clear h120
      cases o2
      all_goals go_wp2_with (go_at_call 111; go_must (go_fit (C3.out _)); rintro e w2 ⟨rfl, rfl⟩)
      all_goals go_ret
      all_goals exact ⟨rfl, hb1⟩
     ·
      have h120' : (((gb x 1).toNat : Int) == 120) = false := by rw [beq_eq_false_iff_ne]; omega
      by_cases h88 : (gb x 1).toNat = 88
      ·
       obtain rfl : o4 = true := by rw [hX.out]; exact decide_eq_true ⟨h2, .inr h88⟩
       have h88' : ((gb x 1).toNat : Int) = 88 := by omega
       clear h120 h88
       cases o2
       all_goals go_wp2_with (go_at_call 111; go_must (go_fit (C3.out _)); rintro e w2 ⟨rfl, rfl⟩)
       all_goals go_ret
       all_goals exact ⟨rfl, hb1⟩
      ·
       obtain rfl : o4 = false := by rw [hX.out]; exact decide_eq_false (fun h => h.2.elim h120 h88)
       have h88' : (((gb x 1).toNat : Int) == 88) = false := by rw [beq_eq_false_iff_ne]; omega
       clear h120 h88
       cases o2
       all_goals go_wp2_with (go_at_call 111; go_must (go_fit (C3.out _)); rintro e w2 ⟨rfl, rfl⟩)
       all_goals go_ret
       all_goals exact ⟨rfl, hb1⟩
    ·
     obtain rfl : o4 = false := by rw [hX.out]; exact decide_eq_false (fun h => h2 h.1)
     cases o2
     all_goals go_wp2_with (go_at_call 111; go_must (go_fit (C3.out _)); rintro e w2 ⟨rfl, rfl⟩)
     all_goals go_ret
     all_goals exact ⟨rfl, hb1⟩
end Go.Proofs.YtoapelcofjjdnaaGreatDoor
namespace Go.Proofs.YtoapelcofjjdnaaGreatDoor
set_option linter.all false
open Go.RowKit
theorem below_grow {B : Nat} {w : World} (hB : B ≤ w.heap.size) (k : Nat) (os : Array Obj) : Below B w (Go.Sort.grow (w.drewN k) os) :=
 ⟨rfl, rfl, rfl, by show w.heap.size ≤ (w.heap ++ os).size; rw [Array.size_append]; omega, fun j hj => by
  show (w.heap ++ os)[j]? = w.heap[j]?
  rw [Array.getElem?_append_left (by omega)]⟩
theorem itoa_any (u : Nat) (hu : u < 256) (w : World) (ht : TB w) : Calls Tryz.prog 86 #[.int .i64 (u : Int)] w fun e w' => e = .returned (.string (str (digs 10 u))) ∧ Below w.heap.size w w' := by
 refine (Tryz.strconv_Itoa (u : Int) (by omega) (by omega) w ht).mono fun e w' ⟨he, k, os, hw⟩ => ⟨?_, hw ▸ below_grow (Nat.le_refl _) k os⟩
 rw [he, digs_ten]
 unfold Lib.itoa
 rw [if_neg (by omega)]
 rfl
theorem fours_at {a j : Nat} (h : j < 4) : (fours a)[j]? = some (digs 10 (a / 2 ^ (8 * (3 - j)) % 256)) := by
 obtain rfl | rfl | rfl | rfl : j = 0 ∨ j = 1 ∨ j = 2 ∨ j = 3 := by omega
 all_goals simp [fours]
theorem fours_take {a j : Nat} {D : List UInt8} (h : (fours a)[j]? = some D) : (fours a).take (j + 1) = (fours a).take j ++ [D] := by
 obtain ⟨hj, e⟩ := List.getElem?_eq_some_iff.1 h
 rw [take_snoc' _ j hj, e]
set_option maxRecDepth 100000 in
set_option maxHeartbeats 4000000 in
theorem show4_any (a : Nat) (w : World) (hm : ML w) (ht : TB w) (ha : a < 4294967296) : Calls Tryz.prog 43 #[.int .u32 (a : Int)] w fun e w' => e = .returned (.string (str (pShow4 a))) ∧ Below w.heap.size w w' := by
 go_enter Tryz.func43, Tryz.ntmps43
 go_wp2
 go_loopg [3, 4] 4 (fun k s3 s4 wr => ∃ j : Nat, k = 4 - j ∧ j ≤ 4 ∧ s4 = .int .i64 (3 - (j : Int)) ∧ wr.ownsRow w.heap.size 9 1 s3 j (strs ((fours a).take j)) ∧ Below w.heap.size w wr)
 case atStart => exact ⟨0, rfl, Nat.zero_le _, rfl, World.ownsRow_nil _ _ _ _, Below.refl _ _⟩
 case round =>
  obtain ⟨j, rfl, hj, rfl, hown, hbel⟩ := hrel
  obtain ⟨A3, c3, rfl, hc3, hm3⟩ := own_shape hown
  have hq0 := hbel.size
  by_cases hlt : j < 4
  ·
   obtain ⟨m, hmj⟩ : ∃ m : Nat, m = 8 * (3 - j) := ⟨_, rfl⟩
   have HD := Lib.hid (fours_at (a := a) hlt)
   rw [← hmj] at HD
   have hm24 : m ≤ 24 := by omega
   obtain ⟨u, hu⟩ : ∃ u : Nat, u = a / 2 ^ m % 256 := ⟨_, rfl⟩
   rw [← hu] at HD
   have hu256 : u < 256 := by rw [hu]; exact Nat.mod_lt _ (by decide)
   have hj0 : (0 : Int) ≤ 3 - (j : Int) := by omega
   have hw1 : IntKind.i64.wrap (8 * (3 - (j : Int))) = (m : Int) := by rw [IntWalk.i64_in _ (by omega)]; omega
   have C1 := Lib.hid (itoa_any u hu256 wr (ht.next hbel))
   have HT := Lib.hid (fours_take HD.out)
   obtain ⟨v, hv⟩ : ∃ v : Nat, v = a / 2 ^ m := ⟨_, rfl⟩
   have hvl : v < 4294967296 := by rw [hv]; exact Nat.lt_of_le_of_lt (Nat.div_le_self _ _) ha
   have hdv : (a : Int) / 2 ^ m = (v : Int) := by rw [hv]; simp
   have hbt : bits .and .u32 (v : Int) 255 = (u : Int) := by rw [u32_and255 hvl, hu, hv]
   have hown' := fun w' (hb : Below wr.heap.size wr w') => own_below hown hb (Nat.le_refl _)
   have HW := Lib.hid hown'
   clear hu hmj hown' hv
   go_wp2_with (first
    | (go_at_call 86; go_must (go_fit C1.out); rintro e w1 ⟨rfl, hb1⟩; have hown1 := HW.out w1 hb1; have hq1 := hb1.size)
    | (at_builtin; go_loud (refine wpList_append_lit rfl _ _ _ rfl w.heap.size _ _ 1 16 Tryz.underlying38 info_strU rfl (by decide) _ _ _ rfl hown1 _ 1 1 _ rfl rfl (by simp [Value.oneCell']) (by omega) (by decide) (by omega) ?_; intro A5 c5 w5 hc5 hm5 hown5 hb5 hg5)))
   go_roundg (4 - (j + 1))
   case measure => omega
   case rel =>
    refine ⟨j + 1, rfl, by omega, by go_num, ?_, (hbel.trans (hb1.mono hq0)).trans hb5⟩
    rw [HT.out, strs_append]
    exact hown5
  ·
   obtain rfl : j = 4 := by omega
   rw [show (fours a).take 4 = fours a from rfl] at hown
   have hj4 : ¬ (0 : Int) ≤ 3 - ((4 : Nat) : Int) := by omega
   obtain ⟨A6, c6, e6, hc6, hm6, hx6⟩ := own_rdN hown
   injection e6 with e6 _ e7
   subst e6 e7
   have CJ := Lib.hid (join_any 46 A3 c3 (fours a) wr hx6 hc3 (by rw [show (fours a).length = 4 from rfl]; decide) (by rw [← show4_fours]; have := show4_len (a := a); omega))
   rw [← show4_fours, show (fours a).length = 4 from rfl] at CJ
   go_wp2_with (go_at_call 87; go_must (go_fit CJ.out); rintro e w7 ⟨rfl, hb7⟩)
   go_ret
   exact ⟨rfl, hbel.trans (hb7.mono hbel.size)⟩
end Go.Proofs.YtoapelcofjjdnaaGreatDoor
namespace Go.Proofs.YtoapelcofjjdnaaGreatDoor
set_option linter.all false
open Go.RowKit
def EV (w : World) : Prop := (∃ ev, w.cell? ⟨2, 0, none⟩ = some ev ∧ (ev = .nilIface ∨ ∃ te pe, ev = .iface te pe)) ∧ ∃ ev, w.cell? ⟨3, 0, none⟩ = some ev ∧ (ev = .nilIface ∨ ∃ te pe, ev = .iface te pe)
theorem EV.next {w w' : World} (h : EV w) (hb : Below w.heap.size w w') : EV w' := by
 obtain ⟨⟨e1, h1, k1⟩, e2, h2, k2⟩ := h
 exact ⟨⟨e1, (hb.cell (p := ⟨_, 0, none⟩) (World.block_lt_of_cell? _ _ h1)).trans h1, k1⟩, e2, (hb.cell (p := ⟨_, 0, none⟩) (World.block_lt_of_cell? _ _ h2)).trans h2, k2⟩
def hexG : Nat → List UInt8 → Option Nat
 | acc, [] => some acc
 | acc, c :: t => if 1152921504606846976 ≤ acc then none else hexG (acc * 16 + (hexV c).toNat) t
def numV : Option Nat → Nat | some n => n | none => 18446744073709551615
def numE : Option Nat → Value | some _ => .nilIface | none => .iface 213 (.int .i64 1)
theorem hex_cases (c : UInt8) (h : hexOk c = true) :
  (48 ≤ c.toNat ∧ c.toNat ≤ 57 ∧ (hexV c).toNat = c.toNat - 48) ∨ ((97 ≤ c.toNat ∧ c.toNat ≤ 102 ∨ 65 ≤ c.toNat ∧ c.toNat ≤ 70) ∧ ∃ v : Nat, bits .or .u8 (c.toNat : Int) 32 = (v : Int) ∧ 97 ≤ v ∧ v ≤ 102 ∧ (hexV c).toNat = v - 87) := by
 have key : ∀ n, n < 256 → hexOk (UInt8.ofNat n) = true → (48 ≤ (UInt8.ofNat n).toNat ∧ (UInt8.ofNat n).toNat ≤ 57 ∧ (hexV (UInt8.ofNat n)).toNat = (UInt8.ofNat n).toNat - 48) ∨ ((97 ≤ (UInt8.ofNat n).toNat ∧ (UInt8.ofNat n).toNat ≤ 102 ∨ 65 ≤ (UInt8.ofNat n).toNat ∧ (UInt8.ofNat n).toNat ≤ 70) ∧ (bits .or .u8 ((UInt8.ofNat n).toNat : Int) 32 = (((UInt8.ofNat n).toNat ||| 32 : Nat) : Int) ∧ 97 ≤ ((UInt8.ofNat n).toNat ||| 32) ∧ ((UInt8.ofNat n).toNat ||| 32) ≤ 102 ∧ (hexV (UInt8.ofNat n)).toNat = ((UInt8.ofNat n).toNat ||| 32) - 87)) := by decide +kernel
 have := key c.toNat (byte_lt c)
 rw [UInt8.ofNat_toNat] at this
 rcases this h with h | ⟨h1, h2⟩
 · exact .inl h
 · exact .inr ⟨h1, _, h2⟩
theorem hexV16 {c : UInt8} (h : hexOk c = true) : (hexV c).toNat < 16 := by
 rcases hex_cases c h with ⟨_, _, e⟩ | ⟨_, v, _, _, _, e⟩ <;> omega
theorem hexG_small : ∀ (s : List UInt8) (acc k : Nat), s.all hexOk = true → acc < 16 ^ k → k + s.length ≤ 15 → hexG acc s = some (s.foldl (fun n c => n * 16 + (hexV c).toNat) acc) := by
  intro s
  induction s with
  | nil => intro acc k _ _ _; rfl
  | cons c t ih =>
    intro acc k hs ha hk
    rw [List.all_cons, Bool.and_eq_true] at hs
    simp only [List.length_cons] at hk
    have h16 := hexV16 hs.1
    have hp : (16 : Nat) ^ k ≤ 16 ^ 14 := Nat.pow_le_pow_right (by decide) (by omega)
    rw [hexG, if_neg (by have : (16 : Nat) ^ 14 < 1152921504606846976 := by decide
                         omega), ih _ (k + 1) hs.2 (by rw [Nat.pow_succ]; omega) (by omega)]
    rfl
theorem hexG_at {acc j : Nat} {s : List UInt8} {o : Option Nat} (h : o = hexG acc (s.drop j)) (hj : j < s.length) : o = if 1152921504606846976 ≤ acc then none else hexG (acc * 16 + (hexV (gb s j)).toNat) (s.drop (j + 1)) := by
 obtain ⟨hj', e⟩ := List.getElem?_eq_some_iff.1 (gb_some hj)
 rw [h, List.drop_eq_getElem_cons hj', e, hexG]
theorem hexG_end {acc : Nat} {s : List UInt8} {o : Option Nat} (h : o = hexG acc (s.drop s.length)) : o = some acc := by
 rw [h, List.drop_length]; rfl
theorem hex_in {s : List UInt8} (h : s.all hexOk = true) {j : Nat} (hj : j < s.length) : hexOk (gb s j) = true :=
 List.all_eq_true.1 h _ (List.mem_of_getElem? (gb_some hj))
theorem lower_any (c v : Int) (h : bits .or .u8 c 32 = v) (w : World) : Calls Tryz.prog 206 #[.int .u8 c] w fun e w' => e = .returned (.int .u8 v) ∧ w = w' := by
 refine (Tryz.internal_strconv_lower c w).mono fun e w' ⟨he, hw⟩ => ⟨?_, hw.symm⟩
 rw [he, h]
set_option maxRecDepth 100000 in
set_option maxHeartbeats 16000000 in
theorem puHex_in (s : List UInt8) (hne : s.isEmpty = false) (hs : s.all hexOk = true) (hl : s.length ≤ 100000) (w : World) :
  Calls Tryz.prog 181 #[.string (str s), .int .i64 16, .int .i64 64] w fun e w' => e = .returned (.tuple #[.int .u64 (numV (hexG 0 s) : Int), numE (hexG 0 s)]) ∧ Below w.heap.size w w' := by
 have hsz := str_size s
 have hL := str_toL s
 have HS := Lib.hid hs
 clear hs
 have hmv : IntKind.u64.wrap (IntKind.u64.wrap 18446744073709551616 - 1) = 18446744073709551615 := by
  rw [IntKind.wrap_u64, IntKind.wrap_u64]
  decide
 obtain ⟨o, ho⟩ : ∃ o, o = hexG 0 s := ⟨_, rfl⟩
 rw [← ho]
 have HO := Lib.hid (show o = hexG 0 (s.drop 0) from ho)
 clear ho
 go_enter Tryz.func181, Tryz.ntmps181
 go_wp2_with (refine wpList_bytesL rfl _ _ _ _ rfl Tryz.underlying9 Tryz.underlying58 Tryz.underlying5 s rfl (by omega) ?_; intro c3 w3 hc3 hm3 hrow3 hr3 hb3 hz3)
 go_loopg [12, 13, 101] (s.length) (fun k s12 s13 s101 wr => ∃ (j acc : Nat) (a : Int), k = s.length - j ∧ j ≤ s.length ∧ s12 = .bool false ∧ s13 = .int .u64 a ∧ s101 = .int .i64 j ∧ 0 ≤ a ∧ a < 18446744073709551616 ∧ Hid (a = (acc : Int) ∧ o = hexG acc (s.drop j)) ∧ w3 = wr)
 case atStart => exact ⟨0, 0, 0, rfl, Nat.zero_le _, rfl, rfl, rfl, Int.le_refl _, by decide, ⟨rfl, HO.out⟩, rfl⟩
 case round =>
  obtain ⟨j, acc, a, rfl, hj, rfl, rfl, rfl, ha0, ha1, hh, rfl⟩ := hrel
  by_cases hlt : j < s.length
  ·
   have hc : w3.cell? ⟨w.heap.size, j, none⟩ = some (.int .u8 ((gb s j).toNat : Int)) := hrow3.1 j _ (by unfold bytes; rw [List.getElem?_map, gb_some hlt]; rfl)
   have hj0 : (0 : Int) ≤ (j : Int) := by omega
   have hE := hexG_at hh.out.2 hlt
   have hcc := hex_cases _ (hex_in HS.out hlt)
   have hacc := hh.out.1
   obtain ⟨c, hcE⟩ : ∃ c : Nat, c = (gb s j).toNat := ⟨_, rfl⟩
   obtain ⟨d, hdE⟩ : ∃ d : Nat, d = (hexV (gb s j)).toNat := ⟨_, rfl⟩
   rw [← hcE] at hcc hc
   rw [← hdE] at hE hcc
   have hd16 : d < 16 := by rw [hdE]; exact hexV16 (hex_in HS.out hlt)
   clear hcE hdE hh
   by_cases hcut : 1152921504606846976 ≤ a
   ·
    rw [if_pos (by omega)] at hE
    subst hE
    clear hacc
    rcases hcc with ⟨h1, h2, h3⟩ | ⟨h0, v, hv, h1, h2, h3⟩
    ·
     have q1 : IntKind.u8.wrap ((c : Int) - 48) = (d : Int) := by rw [IntWalk.u8_in _ (by omega)]; omega
     clear h3
     go_wp2
     go_ret2
     exact ⟨rfl, hb3⟩
    ·
     have q1 : IntKind.u8.wrap ((v : Int) - 97) = (v : Int) - 97 := IntWalk.u8_in _ (by omega)
     have q2 : IntKind.u8.wrap ((v : Int) - 97 + 10) = (d : Int) := by rw [IntWalk.u8_in _ (by omega)]; omega
     have CL := Lib.hid fun w => lower_any (c : Int) (v : Int) hv w
     clear h3 hv
     rcases h0 with h0 | h0
     all_goals
      obtain ⟨h4, h5⟩ := h0
      go_wp2_with (go_at_call 206; go_must (go_fit (CL.out _)); rintro e w1 ⟨rfl, rfl⟩)
      go_ret2
      exact ⟨rfl, hb3⟩
   ·
    rw [if_neg (by omega)] at hE
    have hcut' : a < 1152921504606846976 := by omega
    have q3 : IntKind.u64.wrap (a * 16) = a * 16 := IntWalk.u64_in _ (by omega)
    have q4 : IntKind.u64.wrap (d : Int) = (d : Int) := IntWalk.u64_in _ (by omega)
    have q5 : IntKind.u64.wrap (a * 16 + (d : Int)) = a * 16 + (d : Int) := IntWalk.u64_in _ (by omega)
    have q6 : (a * 16 + (d : Int) < a * 16) = False := eq_false (by omega)
    have q7 : (18446744073709551615 < a * 16 + (d : Int)) = False := eq_false (by omega)
    have HN := Lib.hid (show a * 16 + (d : Int) = ((acc * 16 + d : Nat) : Int) ∧ o = hexG (acc * 16 + d) (s.drop (j + 1)) from ⟨by omega, hE⟩)
    clear hE hacc hcut
    rcases hcc with ⟨h1, h2, h3⟩ | ⟨h0, v, hv, h1, h2, h3⟩
    ·
     have q1 : IntKind.u8.wrap ((c : Int) - 48) = (d : Int) := by rw [IntWalk.u8_in _ (by omega)]; omega
     clear h3
     go_wp2
     go_roundg (s.length - (j + 1))
     case measure => omega
     case rel => exact ⟨j + 1, acc * 16 + d, a * 16 + (d : Int), rfl, by omega, rfl, rfl, by go_num, by omega, by omega, HN, rfl⟩
    ·
     have q1 : IntKind.u8.wrap ((v : Int) - 97) = (v : Int) - 97 := IntWalk.u8_in _ (by omega)
     have q2 : IntKind.u8.wrap ((v : Int) - 97 + 10) = (d : Int) := by rw [IntWalk.u8_in _ (by omega)]; omega
     have CL := Lib.hid fun w => lower_any (c : Int) (v : Int) hv w
     clear h3 hv
     rcases h0 with h0 | h0
     all_goals
      obtain ⟨h4, h5⟩ := h0
      go_wp2_with (go_at_call 206; go_must (go_fit (CL.out _)); rintro e w1 ⟨rfl, rfl⟩)
      go_roundg (s.length - (j + 1))
      case measure => omega
      case rel => exact ⟨j + 1, acc * 16 + d, a * 16 + (d : Int), rfl, by omega, rfl, rfl, by go_num, by omega, by omega, HN, rfl⟩
  ·
   obtain rfl : j = s.length := by omega
   have hE := hexG_end hh.out.2
   have HA := Lib.hid hh.out.1
   subst hE
   clear hh
   go_wp2
   go_ret2
   exact ⟨by rw [HA.out]; rfl, hb3⟩
end Go.Proofs.YtoapelcofjjdnaaGreatDoor
namespace Go.Proofs.YtoapelcofjjdnaaGreatDoor
set_option linter.all false
open Go.RowKit
def hexW (s : List UInt8) : Option Nat := if s = [] then none else hexG 0 s
def Num (o : Option Nat) (e : Ending) : Prop := match o with
 | some n => e = .returned (.tuple #[.int .u64 (n : Int), .nilIface])
 | none => ∃ (n N : Nat), e = .returned (.tuple #[.int .u64 (n : Int), .iface 215 (.pointer (some ⟨N, 0, none⟩))])
def pname : ByteArray := ⟨#[80, 97, 114, 115, 101, 85, 105, 110, 116]⟩
set_option maxRecDepth 100000 in
set_option maxHeartbeats 4000000 in
theorem puHex_any (s : List UInt8) (hs : s.all hexOk = true) (hl : s.length ≤ 100000) (w : World) (hev : EV w) :
  Calls Tryz.prog 153 #[.string (str s), .int .i64 16, .int .i64 64] w fun e w' => Num (hexW s) e ∧ Below w.heap.size w w' := by
 have hsz := str_size s
 cases s with
 | nil =>
  show Calls _ _ _ _ fun e w' => (∃ (n N : Nat), _) ∧ _
  have C := Lib.hid fun w => (Tryz.internal_strconv_ParseUint_empty 16 64 w)
  obtain ⟨⟨ev, hv, hk⟩, _⟩ := hev
  have CT := Lib.hid fun (w : World) hv => Tryz.strconv_toError_syntax pname ⟨#[]⟩ 16 64 ev w (by decide) hv hk
  rw [show str [] = ⟨#[]⟩ from rfl]
  go_enter Tryz.func153, Tryz.ntmps153
  go_wp2_with (first
   | (go_at_call 181; go_must (go_fit (C.out _)); rintro e w1 ⟨rfl, rfl⟩)
   | (go_at_call 182; go_must (go_fit (CT.out _ hv)); rintro e w2 ⟨N, rfl, h1, h2, hb2⟩))
  go_ret2
  exact ⟨⟨0, N, rfl⟩, hb2⟩
 | cons c t =>
  have C := Lib.hid fun w => puHex_in (c :: t) rfl hs hl w
  obtain ⟨S, hS⟩ : ∃ S, S = c :: t := ⟨_, rfl⟩
  have e0 : hexW S = hexG 0 S := by rw [hS]; rfl
  rw [← hS] at C hsz ⊢
  have hlen : S.length ≤ 100000 := by rw [hS]; exact hl
  rw [e0]
  clear e0 hS hs hl
  cases ho : hexG 0 S with
  | some n =>
   rw [ho] at C
   clear ho
   show Calls _ _ _ _ fun e w' => e = .returned (.tuple #[.int .u64 (n : Int), .nilIface]) ∧ _
   have C := Lib.hid (show ∀ w, Calls Tryz.prog 181 #[.string (str S), .int .i64 16, .int .i64 64] w fun e w' => e = .returned (.tuple #[.int .u64 (n : Int), .nilIface]) ∧ Below w.heap.size w w' from C.out)
   go_enter Tryz.func153, Tryz.ntmps153
   go_wp2_with (go_at_call 181; go_must (go_fit (C.out _)); rintro e w1 ⟨rfl, hb1⟩)
   go_ret2
   exact ⟨rfl, hb1⟩
  | none =>
   rw [ho] at C
   clear ho
   show Calls _ _ _ _ fun e w' => (∃ (n N : Nat), _) ∧ _
   have C := Lib.hid (show ∀ w, Calls Tryz.prog 181 #[.string (str S), .int .i64 16, .int .i64 64] w fun e w' => e = .returned (.tuple #[.int .u64 18446744073709551615, .iface 213 (.int .i64 1)]) ∧ Below w.heap.size w w' from C.out)
   obtain ⟨_, ev, hv, hk⟩ := hev
   have CT := Lib.hid fun (w : World) hv => Tryz.strconv_toError_range pname (str S) 16 64 ev w (by omega) hv hk
   have hlt := World.block_lt_of_cell? _ _ hv
   go_enter Tryz.func153, Tryz.ntmps153
   go_wp2_with (first
    | (go_at_call 181; go_must (go_fit (C.out _)); rintro e w1 ⟨rfl, hb1⟩; have hv1 := (hb1.cell (p := ⟨_, 0, none⟩) hlt).trans hv)
    | (go_at_call 182; go_must (go_fit (CT.out _ hv1)); rintro e w2 ⟨N, rfl, h1, h2, hb2⟩))
   go_ret2
   exact ⟨⟨18446744073709551615, N, rfl⟩, bnext hb1 hb2⟩
theorem pu10_all : ∀ (s : List UInt8) (acc : Nat), s.all decOk = true →
  Lib.parseUintM (2 ^ 64 - 1) acc s = .ok (s.foldl (fun n c => n * 10 + (c.toNat - 48)) acc) ∨ (Lib.parseUintM (2 ^ 64 - 1) acc s = .range ∧ 2 ^ 64 ≤ s.foldl (fun n c => n * 10 + (c.toNat - 48)) acc) := by
 have mono : ∀ (s : List UInt8) (acc : Nat), acc ≤ s.foldl (fun n c => n * 10 + (c.toNat - 48)) acc := by
  intro s
  induction s with
  | nil => intro acc; exact Nat.le_refl _
  | cons c t ih => intro acc; rw [List.foldl_cons]; exact Nat.le_trans (by omega) (ih _)
 intro s
 induction s with
 | nil => intro acc _; exact .inl rfl
 | cons c t ih =>
  intro acc hs
  rw [List.all_cons, Bool.and_eq_true] at hs
  have hc := of_decide_eq_true hs.1
  rw [List.foldl_cons]
  unfold Lib.parseUintM
  rw [if_pos hc]
  by_cases h1 : 1844674407370955162 ≤ acc
  ·
   rw [if_pos h1]
   exact .inr ⟨rfl, Nat.le_trans (by omega) (mono t _)⟩
  ·
   rw [if_neg h1]
   by_cases h2 : 2 ^ 64 - 1 < acc * 10 + (c.toNat - 48)
   ·
    rw [if_pos h2]
    exact .inr ⟨rfl, Nat.le_trans (by omega) (mono t _)⟩
   ·
    rw [if_neg h2]
    exact ih _ hs.2
def decW (s : List UInt8) : Option Nat := if s = [] ∨ 2 ^ 64 ≤ decN s then none else some (decN s)
theorem puDec_any (s : List UInt8) (hs : s.all decOk = true) (hl : s.length ≤ 100000) (w : World) (hev : EV w) :
  Calls Tryz.prog 153 #[.string (str s), .int .i64 10, .int .i64 64] w fun e w' => Num (decW s) e ∧ Below w.heap.size w w' := by
 have hsz := str_size s
 obtain ⟨⟨e1, hv1, hk1⟩, e2, hv2, hk2⟩ := hev
 by_cases h0 : s = []
 ·
  subst h0
  exact (Any.strconv_ParseUint_10_at64_syntax Tryz.laysPu14 (str []) (by decide) rfl e1 w hv1 hk1).mono fun e w' ⟨N, he, _, _, hb⟩ => ⟨⟨0, N, he⟩, hb⟩
 ·
  rcases pu10_all s 0 hs with hp | ⟨hp, hb⟩
  ·
   have e : Lib.parseUintB 64 s = .ok (decN s) := by unfold Lib.parseUintB; rw [if_neg h0]; exact hp
   by_cases hbig : 2 ^ 64 ≤ decN s
   ·
    exfalso
    have key : ∀ (s : List UInt8) (acc u : Nat), acc < 2 ^ 64 → Lib.parseUintM (2 ^ 64 - 1) acc s = .ok u → u < 2 ^ 64 := by
     intro s
     induction s with
     | nil => intro acc u ha h; injection h with h; omega
     | cons c t ih =>
      intro acc u ha h
      unfold Lib.parseUintM at h
      by_cases hc : 48 ≤ c.toNat ∧ c.toNat ≤ 57
      ·
       rw [if_pos hc] at h
       by_cases h1 : 1844674407370955162 ≤ acc
       · rw [if_pos h1] at h; cases h
       ·
        rw [if_neg h1] at h
        by_cases h2 : 2 ^ 64 - 1 < acc * 10 + (c.toNat - 48)
        · rw [if_pos h2] at h; cases h
        · rw [if_neg h2] at h; exact ih _ _ (by omega) h
      · rw [if_neg hc] at h; cases h
    have := key s 0 _ (by decide) hp
    unfold decN at hbig
    omega
   ·
    have ew : decW s = some (decN s) := by unfold decW; rw [if_neg (by rintro (h | h); exact h0 h; exact hbig h)]
    rw [ew]
    refine (Tryz.strconv_ParseUint_10_at64_ok (str s) (by omega) (decN s) (by rw [str_data]; exact e) w).mono fun e w' ⟨he, hw⟩ => ⟨he, ?_⟩
    rcases hw with rfl | rfl
    · exact Below.refl _ _
    · exact Lib.bytesWorld_below _ _ _
  ·
   have e : Lib.parseUintB 64 s = .range := by unfold Lib.parseUintB; rw [if_neg h0]; exact hp
   have ew : decW s = none := by unfold decW; rw [if_pos (.inr hb)]
   rw [ew]
   exact (Tryz.strconv_ParseUint_10_at64_range (str s) (by omega) (by rw [str_data]; exact e) e2 w hv2 hk2).mono fun e w' ⟨N, he, _, _, hb⟩ => ⟨⟨18446744073709551615, N, he⟩, hb⟩
def u16s (l : List Nat) : List Value := l.map fun (n : Nat) => Value.int .u16 (n : Int)
theorem u16s_len (l : List Nat) : (u16s l).length = l.length := List.length_map ..
theorem u16s_append (a b : List Nat) : u16s (a ++ b) = u16s a ++ u16s b := List.map_append ..
def Rdr (w : World) (g : Nat) (s : List UInt8) (ok : Bool) (v : Value) (gap : Int) : Prop := w.heap[g]? = some (.cells #[.string (str s), .bool ok, v, .int .i64 gap] 113 (0, 0))
section
variable {w w' : World} {g : Nat} {s : List UInt8} {ok : Bool} {v : Value} {gap : Int}
theorem Rdr.lt (h : Rdr w g s ok v gap) : g < w.heap.size := lt_of_block h
theorem Rdr.c0 (h : Rdr w g s ok v gap) : w.cell? ⟨g, 0, none⟩ = some (.string (str s)) := cell_of_row _ _ 0 _ _ _ h
theorem Rdr.c1 (h : Rdr w g s ok v gap) : w.cell? ⟨g, 1, none⟩ = some (.bool ok) := cell_of_row _ _ 1 _ _ _ h
theorem Rdr.c2 (h : Rdr w g s ok v gap) : w.cell? ⟨g, 2, none⟩ = some v := cell_of_row _ _ 2 _ _ _ h
theorem Rdr.c3 (h : Rdr w g s ok v gap) : w.cell? ⟨g, 3, none⟩ = some (.int .i64 gap) := cell_of_row _ _ 3 _ _ _ h
theorem Rdr.fr (h : Rdr w g s ok v gap) (j : Nat) : w.frozen? ⟨g, j, none⟩ = false := Lib.frozen_of_heap h j
theorem Rdr.keep (h : Rdr w g s ok v gap) (hk : w'.heap[g]? = w.heap[g]?) : Rdr w' g s ok v gap := hk.trans h
theorem Rdr.next (h : Rdr w g s ok v gap) (hb : Below w.heap.size w w') : Rdr w' g s ok v gap := h.keep (hb.block g h.lt)
theorem Rdr.s0 (h : Rdr w g s ok v gap) (t : List UInt8) : Rdr (w.setCell ⟨g, 0, none⟩ (.string (str t))) g t ok v gap := by
 unfold Rdr at h ⊢; unfold World.setCell; simp only [Array.getElem?_modify, if_true, h]; rfl
theorem Rdr.s1 (h : Rdr w g s ok v gap) (b : Bool) : Rdr (w.setCell ⟨g, 1, none⟩ (.bool b)) g s b v gap := by
 unfold Rdr at h ⊢; unfold World.setCell; simp only [Array.getElem?_modify, if_true, h]; rfl
theorem Rdr.s2 (h : Rdr w g s ok v gap) (u : Value) : Rdr (w.setCell ⟨g, 2, none⟩ u) g s ok u gap := by
 unfold Rdr at h ⊢; unfold World.setCell; simp only [Array.getElem?_modify, if_true, h]; rfl
theorem Rdr.s3 (h : Rdr w g s ok v gap) (k : Int) : Rdr (w.setCell ⟨g, 3, none⟩ (.int .i64 k)) g s ok v k := by
 unfold Rdr at h ⊢; unfold World.setCell; simp only [Array.getElem?_modify, if_true, h]; rfl
theorem own_setU {m : Nat} {xs : List Value} {u z : Value} {j : Nat} (hown : w.ownsRow (g + 1) 23 1 u m xs) : (w.setCell ⟨g, j, none⟩ z).ownsRow (g + 1) 23 1 u m xs := by
 refine hown.kept (row := some g) ⟨rfl, rfl, rfl, by simp [World.setCell], fun k _ hk => Below.heap_setCell _ _ _ _ (fun e => hk (by simp [e]))⟩ ?_
 right
 intro e
 have := (hown.lt g e).1
 omega
end
def RD (w : World) (g : Nat) (s : List UInt8) (ok : Bool) (l : List Nat) (gap : Int) : Prop := ∃ v, Rdr w g s ok v gap ∧ w.ownsRow (g + 1) 23 1 v l.length (u16s l)
section
variable {w w' : World} {g : Nat} {s : List UInt8} {ok : Bool} {l : List Nat} {gap : Int}
theorem RD.lt (h : RD w g s ok l gap) : g < w.heap.size := by obtain ⟨v, h, _⟩ := h; exact h.lt
theorem RD.c0 (h : RD w g s ok l gap) : w.cell? ⟨g, 0, none⟩ = some (.string (str s)) := by obtain ⟨v, h, _⟩ := h; exact h.c0
theorem RD.c1 (h : RD w g s ok l gap) : w.cell? ⟨g, 1, none⟩ = some (.bool ok) := by obtain ⟨v, h, _⟩ := h; exact h.c1
theorem RD.c2 (h : RD w g s ok l gap) : ∃ A c, w.cell? ⟨g, 2, none⟩ = some (.slice A l.length c) ∧ l.length ≤ c ∧ c ≤ maxLen := by
 obtain ⟨v, h, ho⟩ := h
 obtain ⟨A, c, rfl, h1, h2⟩ := own_shape ho
 exact ⟨A, c, h.c2, h1, h2⟩
theorem RD.c3 (h : RD w g s ok l gap) : w.cell? ⟨g, 3, none⟩ = some (.int .i64 gap) := by obtain ⟨v, h, _⟩ := h; exact h.c3
theorem RD.fr (h : RD w g s ok l gap) (j : Nat) : w.frozen? ⟨g, j, none⟩ = false := by obtain ⟨v, h, _⟩ := h; exact h.fr j
theorem RD.s0 (h : RD w g s ok l gap) (t : List UInt8) : RD (w.setCell ⟨g, 0, none⟩ (.string (str t))) g t ok l gap := by obtain ⟨v, h, ho⟩ := h; exact ⟨v, h.s0 t, own_setU ho⟩
theorem RD.s1 (h : RD w g s ok l gap) (b : Bool) : RD (w.setCell ⟨g, 1, none⟩ (.bool b)) g s b l gap := by obtain ⟨v, h, ho⟩ := h; exact ⟨v, h.s1 b, own_setU ho⟩
theorem RD.s3 (h : RD w g s ok l gap) (k : Int) : RD (w.setCell ⟨g, 3, none⟩ (.int .i64 k)) g s ok l k := by obtain ⟨v, h, ho⟩ := h; exact ⟨v, h.s3 k, own_setU ho⟩
theorem RD.next (h : RD w g s ok l gap) (hb : Below w.heap.size w w') : RD w' g s ok l gap := by
 have hlt := h.lt
 obtain ⟨v, h, ho⟩ := h
 exact ⟨v, h.keep (hb.block g hlt), own_below ho hb (Nat.le_refl _)⟩
theorem RD.drew (h : RD w g s ok l gap) : RD w.drew g s ok l gap := h
end
theorem gb_below {w w' : World} {g : Nat} (hg : w.grownBy w' (some g)) (hlt : g < w.heap.size) : Below g w w' := (Below.refl g w).grown hg (Nat.le_of_lt hlt) (fun k e => by injection e with e; omega)
theorem below_gb {w w' : World} (hb : Below w.heap.size w w') (row : Option Nat) : w.grownBy w' row := ⟨hb.os, hb.tape, hb.output, hb.size, fun k hk _ => hb.block k hk⟩
theorem set_gb (w : World) (g j : Nat) (v : Value) : w.grownBy (w.setCell ⟨g, j, none⟩ v) (some g) :=
 ⟨rfl, rfl, rfl, by simp [World.setCell], fun k _ hk => Below.heap_setCell _ _ _ _ (fun e => hk (by simp [e]))⟩
theorem own_gb {w w' : World} {g m : Nat} {u : Value} {xs : List Value} (hown : w.ownsRow (g + 1) 23 1 u m xs) (hg : w.grownBy w' (some g)) : w'.ownsRow (g + 1) 23 1 u m xs := by
 refine hown.kept hg ?_
 right
 intro e
 have := (hown.lt g e).1
 omega
theorem cutPre_any (s p : List UInt8) (w : World) : Calls Tryz.prog 154 #[.string (str s), .string (str p)] w fun e w' => e = .returned (.tuple #[.string (str (Lib.trimPrefix s p)), .bool (Lib.hasPrefix s p)]) ∧ w = w' := by
 refine (Tryz.strings_CutPrefix (str s) (str p) w).mono fun e w' ⟨he, hw⟩ => ⟨?_, hw.symm⟩
 rw [he, str_data, str_data]; rfl
set_option maxRecDepth 100000 in
set_option maxHeartbeats 1000000 in
theorem take6_any (g : Nat) (s p : List UInt8) (ok : Bool) (v : Value) (gap : Int) (w : World) (h : Rdr w g s ok v gap) :
  Calls Tryz.prog 129 #[.pointer (some ⟨g, 0, none⟩), .string (str p)] w fun e w' => e = .returned (.bool (Lib.hasPrefix s p)) ∧ Rdr w' g (Lib.trimPrefix s p) ok v gap ∧ w.grownBy w' (some g) := by
 have c0 := h.c0
 have f0 := h.fr 0
 have C := Lib.hid fun w => cutPre_any s p w
 cases hb : Lib.hasPrefix s p with
 | true =>
  rw [hb] at C
  clear hb
  go_enter Tryz.func129, Tryz.ntmps129
  go_wp2_with (go_at_call 154; go_must (go_fit (C.out _)); rintro e w1 ⟨rfl, rfl⟩)
  go_ret
  exact ⟨rfl, h.s0 _, set_gb _ _ _ _⟩
 | false =>
  rw [hb] at C
  have HT : Lib.trimPrefix s p = s := by unfold Lib.trimPrefix; rw [hb]; rfl
  rw [HT] at C ⊢
  clear hb HT
  go_enter Tryz.func129, Tryz.ntmps129
  go_wp2_with (go_at_call 154; go_must (go_fit (C.out _)); rintro e w1 ⟨rfl, rfl⟩)
  go_ret
  exact ⟨rfl, h, World.grownBy.refl _ _⟩
theorem while_at {P : UInt8 → Bool} {s : List UInt8} {j : Nat} (h : (s.take j).all P = true) (hj : j ≤ s.length) (hs : j = s.length ∨ P (gb s j) = false) : s.takeWhile P = s.take j ∧ s.dropWhile P = s.drop j := by
 rcases hs with rfl | hs
 ·
  rw [List.take_length] at h ⊢
  obtain ⟨h1, h2⟩ := span_all h
  exact ⟨h1, by rw [h2, List.drop_length]⟩
 ·
  by_cases hj2 : j < s.length
  ·
   obtain ⟨hj', e⟩ := List.getElem?_eq_some_iff.1 (gb_some hj2)
   have es : s = s.take j ++ gb s j :: s.drop (j + 1) := by
    conv => lhs; rw [← List.take_append_drop j s, List.drop_eq_getElem_cons hj', e]
   obtain ⟨h1, h2⟩ := span_stop (t := s.drop (j + 1)) h hs
   rw [← es] at h1 h2
   refine ⟨h1, ?_⟩
   rw [h2, List.drop_eq_getElem_cons hj', e]
  ·
   obtain rfl : j = s.length := by omega
   rw [List.take_length] at h ⊢
   obtain ⟨h1, h2⟩ := span_all h
   exact ⟨h1, by rw [h2, List.drop_length]⟩
theorem all_snoc {P : UInt8 → Bool} {s : List UInt8} {j : Nat} (h : (s.take j).all P = true) (hj : j < s.length) (hp : P (gb s j) = true) : (s.take (j + 1)).all P = true := by
 obtain ⟨hj', e⟩ := List.getElem?_eq_some_iff.1 (gb_some hj)
 rw [take_snoc' s j hj', e, List.all_append, h, List.all_cons, hp]; rfl
set_option maxRecDepth 100000 in
set_option maxHeartbeats 4000000 in
theorem digits6_any (P : UInt8 → Bool) (all : List UInt8) (hall : ∀ c, decide (0 ≤ Lib.indexByte all c) = P c) (g : Nat) (s : List UInt8) (ok : Bool) (v : Value) (gap : Int) (w : World) (h : Rdr w g s ok v gap) (hl : s.length ≤ 100000) :
  Calls Tryz.prog 152 #[.pointer (some ⟨g, 0, none⟩), .string (str all)] w fun e w' => e = .returned (.string (str (s.takeWhile P))) ∧ Rdr w' g (s.dropWhile P) ok v gap ∧ w.grownBy w' (some g) := by
 have c0 := h.c0
 have f0 := h.fr 0
 have hsz := str_size s
 have hgt := str_get s
 have hen := str_end s
 have hfr := str_front s
 have HA := Lib.hid hall
 clear hall
 go_enter Tryz.func152, Tryz.ntmps152
 go_wp2
 go_loopg [5] (s.length) (fun k s5 wr => ∃ j : Nat, k = s.length - j ∧ j ≤ s.length ∧ s5 = .int .i64 j ∧ Hid ((s.take j).all P = true) ∧ w = wr)
 case atStart => exact ⟨0, rfl, Nat.zero_le _, rfl, rfl, rfl⟩
 case round =>
  obtain ⟨j, rfl, hj, rfl, hal, rfl⟩ := hrel
  by_cases hlt : j < s.length
  ·
   have hj0 : (0 : Int) ≤ (j : Int) := by omega
   have C := Lib.hid fun w => indexByte_any all ((gb s j).toNat : Int) w
   have hu : ((gb s j).toNat : Int).toNat.toUInt8 = gb s j := by simp
   have hd := HA.out (gb s j)
   rw [hu] at C
   obtain ⟨i, hi⟩ : ∃ i, i = Lib.indexByte all (gb s j) := ⟨_, rfl⟩
   rw [← hi] at C hd
   clear hi hu
   cases hp : P (gb s j) with
   | true =>
    rw [hp] at hd
    have hi0 := of_decide_eq_true hd
    have HN := Lib.hid (all_snoc hal.out hlt hp)
    clear hd hp
    go_wp2_with (go_at_call 79; go_must (go_fit (C.out _)); rintro e w1 ⟨rfl, rfl⟩)
    go_roundg (s.length - (j + 1))
    case measure => omega
    case rel => exact ⟨j + 1, rfl, by omega, by go_num, HN.out, rfl⟩
   | false =>
    rw [hp] at hd
    have hi0 := of_decide_eq_false hd
    have HW := Lib.hid (while_at hal.out hj (.inr hp))
    clear hd hp
    go_wp2_with (go_at_call 79; go_must (go_fit (C.out _)); rintro e w1 ⟨rfl, rfl⟩)
    go_ret
    rw [HW.out.1, HW.out.2]
    exact ⟨rfl, h.s0 _, set_gb _ _ _ _⟩
  ·
   obtain rfl : j = s.length := by omega
   have HW := Lib.hid (while_at hal.out hj (.inl rfl))
   go_wp2
   go_ret
   rw [HW.out.1, HW.out.2, List.take_length, List.drop_length]
   exact ⟨rfl, h.s0 [], set_gb _ _ _ _⟩
set_option maxRecDepth 100000 in
set_option maxHeartbeats 2000000 in
theorem dotted6_any (g : Nat) (s : List UInt8) (ok : Bool) (l : List Nat) (gap : Int) (w : World) (h : RD w g s ok l gap) :
  Calls Tryz.prog 126 #[.pointer (some ⟨g, 0, none⟩)] w fun e w' => e = .returned (.bool (dotted s)) ∧ w = w' := by
 have c0 := h.c0
 have C1 := Lib.hid fun w => indexByte_any s 46 w
 have C2 := Lib.hid fun w => indexByte_any s 58 w
 have i1 := idx_mem s 46
 have i2 := idx_out s 58
 rw [show (46 : Int).toNat.toUInt8 = 46 from rfl] at C1
 rw [show (58 : Int).toNat.toUInt8 = 58 from rfl] at C2
 have HD : dotted s = (s.contains 46 && !s.contains 58) := by unfold dotted; rw [Bool.eq_iff_iff]; simp
 rw [HD, ← i1, ← i2]
 obtain ⟨x, hx⟩ : ∃ x, x = Lib.indexByte s 46 := ⟨_, rfl⟩
 obtain ⟨y, hy⟩ : ∃ y, y = Lib.indexByte s 58 := ⟨_, rfl⟩
 rw [← hx] at C1 ⊢
 rw [← hy] at C2 ⊢
 clear HD i1 i2 hx hy
 by_cases hx : 0 ≤ x
 ·
  rw [decide_eq_true hx, Bool.true_and]
  go_enter Tryz.func126, Tryz.ntmps126
  go_wp2_with (first | (go_at_call 79; go_fit (C1.out _); rintro e w1 ⟨rfl, rfl⟩) | (go_at_call 79; go_fit (C2.out _); rintro e w1 ⟨rfl, rfl⟩))
  go_ret
  exact ⟨rfl, rfl⟩
 ·
  rw [decide_eq_false hx, Bool.false_and]
  go_enter Tryz.func126, Tryz.ntmps126
  go_wp2_with (first | (go_at_call 79; go_fit (C1.out _); rintro e w1 ⟨rfl, rfl⟩) | (go_at_call 79; go_fit (C2.out _); rintro e w1 ⟨rfl, rfl⟩))
  go_ret
  exact ⟨rfl, rfl⟩
def two58 (s : List UInt8) : Bool := Lib.hasPrefix s [58, 58]
set_option maxRecDepth 100000 in
set_option maxHeartbeats 4000000 in
theorem noughts6_any (g : Nat) (s : List UInt8) (ok : Bool) (l : List Nat) (gap : Int) (w : World) (h : RD w g s ok l gap) (hl : l.length ≤ 100000) :
  Calls Tryz.prog 125 #[.pointer (some ⟨g, 0, none⟩)] w fun e w' => e = .returned (.bool (two58 s)) ∧ (two58 s = true → RD w' g (s.drop 2) (ok && decide (gap < 0)) l l.length) ∧ (two58 s = false → RD w' g s ok l gap) ∧ Below g w w' := by
 obtain ⟨v, hr, ho⟩ := h
 have C := Lib.hid ((take6_any g s [58, 58] ok v gap w hr).mono fun e w' h' => (⟨h'.1, ⟨v, h'.2.1, own_gb ho h'.2.2⟩, gb_below h'.2.2 hr.lt⟩ : _ ∧ RD w' g _ ok l gap ∧ Below g w w'))
 have HT := Lib.hid (show Lib.trimPrefix s [58, 58] = if two58 s = true then s.drop 2 else s from rfl)
 have e2 : Lib.hasPrefix s [58, 58] = two58 s := rfl
 rw [e2, HT.out] at C
 clear e2
 cases hb : two58 s with
 | true =>
  rw [hb, if_pos rfl] at C
  clear hb HT
  cases ok with
  | true =>
   rw [Bool.true_and]
   go_enter Tryz.func125, Tryz.ntmps125
   go_wp2_with (go_at_call 129; go_must (go_fit C.out); rintro e w1 ⟨rfl, h1, hb1⟩; have d1 := h1.c1; have d3 := h1.c3; have f1 := h1.fr 1; have f3 := h1.fr 3; obtain ⟨A, c, d2, hc, hm⟩ := h1.c2)
   go_ret
   exact ⟨rfl, fun _ => (h1.s1 _).s3 _, (fun h => by cases h), (hb1.setCell (p := ⟨g, 1, none⟩) (Nat.le_refl g) _).setCell (p := ⟨g, 3, none⟩) (Nat.le_refl g) _⟩
  | false =>
   rw [Bool.false_and]
   go_enter Tryz.func125, Tryz.ntmps125
   go_wp2_with (go_at_call 129; go_must (go_fit C.out); rintro e w1 ⟨rfl, h1, hb1⟩; have d1 := h1.c1; have d3 := h1.c3; have f1 := h1.fr 1; have f3 := h1.fr 3; obtain ⟨A, c, d2, hc, hm⟩ := h1.c2)
   go_ret
   exact ⟨rfl, fun _ => (h1.s1 _).s3 _, (fun h => by cases h), (hb1.setCell (p := ⟨g, 1, none⟩) (Nat.le_refl g) _).setCell (p := ⟨g, 3, none⟩) (Nat.le_refl g) _⟩
 | false =>
  rw [hb, if_neg (by decide)] at C
  clear hb HT
  go_enter Tryz.func125, Tryz.ntmps125
  go_wp2_with (go_at_call 129; go_must (go_fit C.out); rintro e w1 ⟨rfl, h1, hb1⟩)
  go_ret
  exact ⟨rfl, (fun h => by cases h), fun _ => h1, hb1⟩
end Go.Proofs.YtoapelcofjjdnaaGreatDoor
namespace Go.Proofs.YtoapelcofjjdnaaGreatDoor
set_option linter.all false
open Go.RowKit
theorem info_u16 : (Tryz.prog.info? 23).map (fun i => (i.zero, i.size, i.bytes)) = some (some (.int .u16 0), 1, 2) := by kernel_rfl
theorem u16_wrapN (n : Nat) : IntKind.u16.wrap (n : Int) = ((n % 65536 : Nat) : Int) := by
 simp [IntKind.wrap, IntKind.bits, IntKind.signed]
theorem Num.any {o : Option Nat} {e : Ending} (h : Num o e) : ∃ (n : Nat) (E : Value), e = .returned (.tuple #[.int .u64 (n : Int), E]) := by
 cases o with
 | some n => exact ⟨n, _, h⟩
 | none => obtain ⟨n, N, h⟩ := h; exact ⟨n, _, h⟩
theorem okPiece_no {d : List UInt8} (h : okPiece d = false) : d.length = 0 ∨ 4 < d.length := by
 have := of_decide_eq_false h
 omega
theorem takeWhile_all (P : UInt8 → Bool) : ∀ (s : List UInt8), (s.takeWhile P).all P = true := by
 intro s
 induction s with
 | nil => rfl
 | cons c t ih =>
  rw [List.takeWhile_cons]
  split
  · next h => rw [List.all_cons, h, ih]; rfl
  · rfl
theorem takeWhile_len (P : UInt8 → Bool) : ∀ (s : List UInt8), (s.takeWhile P).length ≤ s.length := by
 intro s
 induction s with
 | nil => exact Nat.le_refl _
 | cons c t ih =>
  rw [List.takeWhile_cons]
  split <;> simp <;> omega
theorem dropWhile_len (P : UInt8 → Bool) : ∀ (s : List UInt8), (s.dropWhile P).length ≤ s.length := by
 intro s
 induction s with
 | nil => exact Nat.le_refl _
 | cons c t ih =>
  rw [List.dropWhile_cons]
  split <;> simp <;> omega
theorem hexW_piece {d : List UInt8} (hs : d.all hexOk = true) (h : okPiece d = true) : hexW d = some (hexN d) ∧ hexN d < 65536 := by
 have hl := of_decide_eq_true h
 have hne : d ≠ [] := fun e => by rw [e] at hl; simp at hl
 unfold hexW
 rw [if_neg hne, hexG_small d 0 0 hs (by decide) (by omega)]
 refine ⟨rfl, ?_⟩
 have key : ∀ (l : List UInt8) (acc k : Nat), l.all hexOk = true → acc < 16 ^ k → l.foldl (fun n c => n * 16 + (hexV c).toNat) acc < 16 ^ (k + l.length) := by
  intro l
  induction l with
  | nil => intro acc k _ h; exact h
  | cons c t ih =>
   intro acc k hs h
   rw [List.all_cons, Bool.and_eq_true] at hs
   have := hexV16 hs.1
   rw [List.foldl_cons, List.length_cons, show k + (t.length + 1) = k + 1 + t.length by omega]
   exact ih _ _ hs.2 (by rw [Nat.pow_succ]; omega)
 have h1 := key d 0 0 hs (by decide)
 have h2 : (16 : Nat) ^ (0 + d.length) ≤ 16 ^ 4 := Nat.pow_le_pow_right (by decide) (by omega)
 exact Nat.lt_of_lt_of_le h1 (Nat.le_trans h2 (by decide))
theorem hexAll_is (c : UInt8) : decide (0 ≤ Lib.indexByte [48, 49, 50, 51, 52, 53, 54, 55, 56, 57, 97, 98, 99, 100, 101, 102, 65, 66, 67, 68, 69, 70] c) = hexOk c := by
 have key : ∀ n, n < 256 → decide (0 ≤ Lib.indexByte [48, 49, 50, 51, 52, 53, 54, 55, 56, 57, 97, 98, 99, 100, 101, 102, 65, 66, 67, 68, 69, 70] (UInt8.ofNat n)) = hexOk (UInt8.ofNat n) := by decide +kernel
 have := key c.toNat (byte_lt c)
 rwa [UInt8.ofNat_toNat] at this
theorem decAll_is (c : UInt8) : decide (0 ≤ Lib.indexByte [48, 49, 50, 51, 52, 53, 54, 55, 56, 57] c) = decOk c := by
 have key : ∀ n, n < 256 → decide (0 ≤ Lib.indexByte [48, 49, 50, 51, 52, 53, 54, 55, 56, 57] (UInt8.ofNat n)) = decOk (UInt8.ofNat n) := by decide +kernel
 have := key c.toNat (byte_lt c)
 rwa [UInt8.ofNat_toNat] at this
def Low (g : Nat) : Prop := 2 < g ∧ 3 < g
theorem EV.low {w w' : World} {g : Nat} (h : EV w) (hg : Low g) (hb : Below g w w') : EV w' := by
 obtain ⟨⟨e1, h1, k1⟩, e2, h2, k2⟩ := h
 exact ⟨⟨e1, (hb.cell (p := ⟨_, 0, none⟩) hg.1).trans h1, k1⟩, e2, (hb.cell (p := ⟨_, 0, none⟩) hg.2).trans h2, k2⟩
section
variable {P : Program} {w : World} {ops : Array Oper} {rest : List Oper} {o : Oper} {a : Act} {Q : Exit → Act → World → Prop}
theorem wpList_append_litM (sz : Nat) (hsz' : w.heap.size = sz) (hgd : o.guard = none) (s x : Operand) (t : TypeId)
  (ho : o.op = .call { callee := .builtin .append, args := #[s, x], argTypes := #[t, t] })
  (base : Nat) (e : TypeId) (z : Value) (size bytes : Nat) (ht : P.underlying t = some (.slice e))
  (hinfo : (P.info? e).map (fun i => (i.zero, i.size, i.bytes)) = some (some z, size, bytes)) (hzs : z.cells.size = size) (hsz : 0 < size)
  (v : Value) (n : Nat) (xs : List Value) (hs : a.eval s = v) (hown : w.ownsRow base e size v n xs)
  (us : Array Value) (m c : Nat) (e' : TypeId) (hx : a.eval x = .slice (some ⟨sz, 0, none⟩) m c) (hl : us.size = m * size) (h1 : ∀ u ∈ us.toList, u.oneCell' = true)
  (h63 : n + m ≤ 1000000) (hb : bytes ≤ 1000) (hbase : base ≤ w.heap.size)
  (h : ∀ A' c' w', n + m ≤ c' → c' ≤ maxLen → w'.ownsRow base e size (.slice A' (n + m) c') (n + m) (xs ++ us.toList) → Below base w w' → w.grownBy w' v.ownBlock → wpList P ops Q rest (a.put o.dst (.slice A' (n + m) c')) w') :
  wpList P ops Q (o :: rest) a (w.alloc (.cells us e')) := by
 subst hsz'
 exact wpList_append_lit hgd s x t ho base e z size bytes ht hinfo hzs hsz v n xs hs hown us m c e' hx hl h1 h63 hb hbase h
end
-- The pieces' row takes one number more.
set_option maxRecDepth 100000 in
set_option maxHeartbeats 8000000 in
theorem piece6_any (g : Nat) (s : List UInt8) (ok : Bool) (l : List Nat) (gap : Int) (w : World) (h : RD w g s ok l gap) (hev : EV w) (hlow : Low g) (hs : s.length ≤ 100000) (hl : l.length ≤ 100000) :
  Calls Tryz.prog 128 #[.pointer (some ⟨g, 0, none⟩)] w fun e w' => e = .returned (.tuple #[]) ∧ ∃ x, RD w' g (s.dropWhile hexOk) (ok && okPiece (s.takeWhile hexOk)) (l ++ [x]) gap ∧ x < 65536 ∧ Hid (okPiece (s.takeWhile hexOk) = true → x = hexN (s.takeWhile hexOk)) ∧ Below g w w' := by
 obtain ⟨v0, hr0, ho0⟩ := h
 have C1 := Lib.hid ((digits6_any hexOk _ hexAll_is g s ok v0 gap w hr0 hs).mono fun e w' h' => (⟨h'.1, ⟨v0, h'.2.1, own_gb ho0 h'.2.2⟩, gb_below h'.2.2 hr0.lt⟩ : _ ∧ RD w' g _ ok l gap ∧ Below g w w'))
 have HD := Lib.hid (takeWhile_all hexOk s)
 have HL := takeWhile_len hexOk s
 obtain ⟨d, hd⟩ : ∃ d, d = s.takeWhile hexOk := ⟨_, rfl⟩
 obtain ⟨r, hr⟩ : ∃ r, r = s.dropWhile hexOk := ⟨_, rfl⟩
 rw [← hd] at C1 HD HL ⊢
 rw [← hr] at C1 ⊢
 clear hd hr
 have hsz := str_size d
 have C2 := Lib.hid fun w hev => puHex_any d HD.out (by omega) w hev
 cases hk : okPiece d with
 | true =>
  have hk2 := of_decide_eq_true hk
  obtain ⟨k1, k2⟩ := hexW_piece HD.out hk
  rw [k1] at C2
  obtain ⟨n, hn⟩ : ∃ n, n = hexN d := ⟨_, rfl⟩
  rw [← hn] at C2 k2
  have HN := Lib.hid hn
  obtain ⟨hk3, hk4⟩ := hk2
  have C2 := Lib.hid (show ∀ w, EV w → Calls Tryz.prog 153 #[.string (str d), .int .i64 16, .int .i64 64] w fun e w' => e = .returned (.tuple #[.int .u64 (n : Int), .nilIface]) ∧ Below w.heap.size w w' from C2.out)
  clear hk hn k1
  cases ok with
  | true =>
   go_enter Tryz.func128, Tryz.ntmps128
   go_wp2_with (first
    | (go_at_call 152; go_must (go_fit C1.out); rintro e w1 ⟨rfl, h1, hb1⟩; have hev1 := hev.low hlow hb1)
    | (go_at_call 153; go_must (go_fit (C2.out _ hev1)); rintro e w2 ⟨rfl, hb2⟩; obtain ⟨v, hr2, ho2⟩ := RD.next h1 hb2; obtain ⟨A2, c2, rfl, hc2, hm2⟩ := own_shape ho2; have d1 := hr2.c1; have f1 := hr2.fr 1; have d2 := hr2.c2; have hr3 := hr2.s1 true; have ho3 := own_setU (j := 1) (z := .bool true) ho2; have hq := u16_wrapN n; have hz3 := hr3.lt; have hgl := h1.lt)
    | (at_builtin; go_loud (refine wpList_append_litM _ (show _ = w2.heap.size by simp) rfl _ _ _ rfl (g + 1) _ _ 1 2 Tryz.underlying72 info_u16 rfl (by decide) _ _ _ rfl ho3 _ 1 1 _ rfl rfl (by simp [Value.oneCell']) (by omega) (by decide) (by first | omega | (simp; omega)) ?_; intro A5 c5 w5 hc5 hm5 hown5 hb5 hg5; have h5 := Rdr.keep hr3 (hb5.block g (Nat.lt_succ_self g)); have g2 := h5.c2; have gf := h5.fr 2)))
   go_end0
   refine ⟨rfl, n % 65536, ⟨_, h5.s2 _, own_setU (own_as hown5 (by simp) (by rw [u16s_append]; rfl))⟩, Nat.mod_lt _ (by decide), ?_, ((((hb1.trans (hb2.mono (Nat.le_of_lt hgl))).setCell (p := ⟨g, 1, none⟩) (Nat.le_refl g) _).trans (hb5.mono (Nat.le_succ g))).setCell (p := ⟨g, 2, none⟩) (Nat.le_refl g) _)⟩
   exact (Nat.mod_eq_of_lt k2).trans HN.out
  | false =>
   go_enter Tryz.func128, Tryz.ntmps128
   go_wp2_with (first
    | (go_at_call 152; go_must (go_fit C1.out); rintro e w1 ⟨rfl, h1, hb1⟩; have hev1 := hev.low hlow hb1)
    | (go_at_call 153; go_must (go_fit (C2.out _ hev1)); rintro e w2 ⟨rfl, hb2⟩; obtain ⟨v, hr2, ho2⟩ := RD.next h1 hb2; obtain ⟨A2, c2, rfl, hc2, hm2⟩ := own_shape ho2; have d1 := hr2.c1; have f1 := hr2.fr 1; have d2 := hr2.c2; have hr3 := hr2.s1 false; have ho3 := own_setU (j := 1) (z := .bool false) ho2; have hq := u16_wrapN n; have hz3 := hr3.lt; have hgl := h1.lt)
    | (at_builtin; go_loud (refine wpList_append_litM _ (show _ = w2.heap.size by simp) rfl _ _ _ rfl (g + 1) _ _ 1 2 Tryz.underlying72 info_u16 rfl (by decide) _ _ _ rfl ho3 _ 1 1 _ rfl rfl (by simp [Value.oneCell']) (by omega) (by decide) (by first | omega | (simp; omega)) ?_; intro A5 c5 w5 hc5 hm5 hown5 hb5 hg5; have h5 := Rdr.keep hr3 (hb5.block g (Nat.lt_succ_self g)); have g2 := h5.c2; have gf := h5.fr 2)))
   go_end0
   refine ⟨rfl, n % 65536, ⟨_, h5.s2 _, own_setU (own_as hown5 (by simp) (by rw [u16s_append]; rfl))⟩, Nat.mod_lt _ (by decide), ?_, ((((hb1.trans (hb2.mono (Nat.le_of_lt hgl))).setCell (p := ⟨g, 1, none⟩) (Nat.le_refl g) _).trans (hb5.mono (Nat.le_succ g))).setCell (p := ⟨g, 2, none⟩) (Nat.le_refl g) _)⟩
   exact (Nat.mod_eq_of_lt k2).trans HN.out
 | false =>
  have hk2 := okPiece_no hk
  have C2 := Lib.hid (show ∀ w, EV w → Calls Tryz.prog 153 #[.string (str d), .int .i64 16, .int .i64 64] w fun e w' => (∃ (n : Nat) (E : Value), e = .returned (.tuple #[.int .u64 (n : Int), E])) ∧ Below w.heap.size w w' from fun w h => (C2.out w h).mono fun e w' ⟨he, hb⟩ => ⟨he.any, hb⟩)
  clear hk
  cases ok with
  | true =>
   rw [Bool.and_false]
   rcases hk2 with hk2 | hk2
   ·
    skip
    go_enter Tryz.func128, Tryz.ntmps128
    go_wp2_with (first
     | (go_at_call 152; go_must (go_fit C1.out); rintro e w1 ⟨rfl, h1, hb1⟩; have hev1 := hev.low hlow hb1)
     | (go_at_call 153; go_must (go_fit (C2.out _ hev1)); rintro e w2 ⟨⟨n, E, rfl⟩, hb2⟩; obtain ⟨v, hr2, ho2⟩ := RD.next h1 hb2; obtain ⟨A2, c2, rfl, hc2, hm2⟩ := own_shape ho2; have d1 := hr2.c1; have f1 := hr2.fr 1; have d2 := hr2.c2; have hr3 := hr2.s1 false; have ho3 := own_setU (j := 1) (z := .bool false) ho2; have hq := u16_wrapN n; have hz3 := hr3.lt; have hgl := h1.lt)
     | (at_builtin; go_loud (refine wpList_append_litM _ (show _ = w2.heap.size by simp) rfl _ _ _ rfl (g + 1) _ _ 1 2 Tryz.underlying72 info_u16 rfl (by decide) _ _ _ rfl ho3 _ 1 1 _ rfl rfl (by simp [Value.oneCell']) (by omega) (by decide) (by first | omega | (simp; omega)) ?_; intro A5 c5 w5 hc5 hm5 hown5 hb5 hg5; have h5 := Rdr.keep hr3 (hb5.block g (Nat.lt_succ_self g)); have g2 := h5.c2; have gf := h5.fr 2)))
    go_end0
    refine ⟨rfl, n % 65536, ⟨_, h5.s2 _, own_setU (own_as hown5 (by simp) (by rw [u16s_append]; rfl))⟩, Nat.mod_lt _ (by decide), ?_, ((((hb1.trans (hb2.mono (Nat.le_of_lt hgl))).setCell (p := ⟨g, 1, none⟩) (Nat.le_refl g) _).trans (hb5.mono (Nat.le_succ g))).setCell (p := ⟨g, 2, none⟩) (Nat.le_refl g) _)⟩
    exact trivial
   ·
    skip
    go_enter Tryz.func128, Tryz.ntmps128
    go_wp2_with (first
     | (go_at_call 152; go_must (go_fit C1.out); rintro e w1 ⟨rfl, h1, hb1⟩; have hev1 := hev.low hlow hb1)
     | (go_at_call 153; go_must (go_fit (C2.out _ hev1)); rintro e w2 ⟨⟨n, E, rfl⟩, hb2⟩; obtain ⟨v, hr2, ho2⟩ := RD.next h1 hb2; obtain ⟨A2, c2, rfl, hc2, hm2⟩ := own_shape ho2; have d1 := hr2.c1; have f1 := hr2.fr 1; have d2 := hr2.c2; have hr3 := hr2.s1 false; have ho3 := own_setU (j := 1) (z := .bool false) ho2; have hq := u16_wrapN n; have hz3 := hr3.lt; have hgl := h1.lt)
     | (at_builtin; go_loud (refine wpList_append_litM _ (show _ = w2.heap.size by simp) rfl _ _ _ rfl (g + 1) _ _ 1 2 Tryz.underlying72 info_u16 rfl (by decide) _ _ _ rfl ho3 _ 1 1 _ rfl rfl (by simp [Value.oneCell']) (by omega) (by decide) (by first | omega | (simp; omega)) ?_; intro A5 c5 w5 hc5 hm5 hown5 hb5 hg5; have h5 := Rdr.keep hr3 (hb5.block g (Nat.lt_succ_self g)); have g2 := h5.c2; have gf := h5.fr 2)))
    go_end0
    refine ⟨rfl, n % 65536, ⟨_, h5.s2 _, own_setU (own_as hown5 (by simp) (by rw [u16s_append]; rfl))⟩, Nat.mod_lt _ (by decide), ?_, ((((hb1.trans (hb2.mono (Nat.le_of_lt hgl))).setCell (p := ⟨g, 1, none⟩) (Nat.le_refl g) _).trans (hb5.mono (Nat.le_succ g))).setCell (p := ⟨g, 2, none⟩) (Nat.le_refl g) _)⟩
    exact trivial
  | false =>
   rw [Bool.and_false]
   go_enter Tryz.func128, Tryz.ntmps128
   go_wp2_with (first
    | (go_at_call 152; go_must (go_fit C1.out); rintro e w1 ⟨rfl, h1, hb1⟩; have hev1 := hev.low hlow hb1)
    | (go_at_call 153; go_must (go_fit (C2.out _ hev1)); rintro e w2 ⟨⟨n, E, rfl⟩, hb2⟩; obtain ⟨v, hr2, ho2⟩ := RD.next h1 hb2; obtain ⟨A2, c2, rfl, hc2, hm2⟩ := own_shape ho2; have d1 := hr2.c1; have f1 := hr2.fr 1; have d2 := hr2.c2; have hr3 := hr2.s1 false; have ho3 := own_setU (j := 1) (z := .bool false) ho2; have hq := u16_wrapN n; have hz3 := hr3.lt; have hgl := h1.lt)
    | (at_builtin; go_loud (refine wpList_append_litM _ (show _ = w2.heap.size by simp) rfl _ _ _ rfl (g + 1) _ _ 1 2 Tryz.underlying72 info_u16 rfl (by decide) _ _ _ rfl ho3 _ 1 1 _ rfl rfl (by simp [Value.oneCell']) (by omega) (by decide) (by first | omega | (simp; omega)) ?_; intro A5 c5 w5 hc5 hm5 hown5 hb5 hg5; have h5 := Rdr.keep hr3 (hb5.block g (Nat.lt_succ_self g)); have g2 := h5.c2; have gf := h5.fr 2)))
   go_end0
   refine ⟨rfl, n % 65536, ⟨_, h5.s2 _, own_setU (own_as hown5 (by simp) (by rw [u16s_append]; rfl))⟩, Nat.mod_lt _ (by decide), ?_, ((((hb1.trans (hb2.mono (Nat.le_of_lt hgl))).setCell (p := ⟨g, 1, none⟩) (Nat.le_refl g) _).trans (hb5.mono (Nat.le_succ g))).setCell (p := ⟨g, 2, none⟩) (Nat.le_refl g) _)⟩
   exact trivial
theorem decW_none {d : List UInt8} (h : decW d = none) : okByte d = false := by
 unfold decW at h
 unfold okByte
 rw [decide_eq_false]
 rintro ⟨h1, h2, _⟩
 rw [if_neg (by rintro (h3 | h3); exact h1 h3; omega)] at h
 cases h
theorem decW_some {d : List UInt8} {n : Nat} (h : decW d = some n) : n = decN d ∧ d ≠ [] := by
 unfold decW at h
 by_cases h0 : d = [] ∨ 2 ^ 64 ≤ decN d
 · rw [if_pos h0] at h; cases h
 ·
  rw [if_neg h0] at h
  injection h with h
  exact ⟨h.symm, fun e => h0 (.inl e)⟩
theorem okByte_big {d : List UInt8} (h : 256 ≤ decN d) : okByte d = false := decide_eq_false (by rintro ⟨_, h2, _⟩; omega)
theorem okByte_front {d : List UInt8} (h0 : d ≠ []) (h : decN d < 256) (h1 : d ≠ [48]) : okByte d = decide (gb d 0 ≠ 48) := by
 cases d with
 | nil => exact absurd rfl h0
 | cons c t =>
  unfold okByte
  rw [show gb (c :: t) 0 = c from rfl, Bool.eq_iff_iff, decide_eq_true_eq, decide_eq_true_eq]
  constructor
  ·
   rintro ⟨_, _, h2 | h2⟩
   · exact absurd h2 h1
   · intro e; exact h2 (by rw [e]; rfl)
  ·
   intro h2
   exact ⟨h0, h, .inr (fun e => h2 (by injection e))⟩
set_option maxRecDepth 100000 in
set_option maxHeartbeats 8000000 in
theorem byte6_any (g : Nat) (s : List UInt8) (ok : Bool) (v : Value) (gap : Int) (w : World) (h : Rdr w g s ok v gap) (hev : EV w) (hlow : Low g) (hs : s.length ≤ 100000) :
  Calls Tryz.prog 151 #[.pointer (some ⟨g, 0, none⟩)] w fun e w' => ∃ x : Nat, e = .returned (.int .u16 (x : Int)) ∧ x < 65536 ∧ Hid (okByte (s.takeWhile decOk) = true → x = decN (s.takeWhile decOk)) ∧ Rdr w' g (s.dropWhile decOk) (ok && okByte (s.takeWhile decOk)) v gap ∧ w.grownBy w' (some g) := by
 have hgw := h.lt
 have C1 := Lib.hid (digits6_any decOk _ decAll_is g s ok v gap w h hs)
 have HD := Lib.hid (takeWhile_all decOk s)
 have HL := takeWhile_len decOk s
 obtain ⟨d, hd⟩ : ∃ d, d = s.takeWhile decOk := ⟨_, rfl⟩
 obtain ⟨r, hr⟩ : ∃ r, r = s.dropWhile decOk := ⟨_, rfl⟩
 rw [← hd] at C1 HD HL ⊢
 rw [← hr] at C1 ⊢
 clear hd hr
 have hsz := str_size d
 have hgt := str_get d
 have htl := str_toL d
 have C2 := Lib.hid fun w hev => puDec_any d HD.out (by omega) w hev
 cases ok with
 | false =>
  rw [Bool.false_and]
  have C2 := Lib.hid (show ∀ w, EV w → Calls Tryz.prog 153 #[.string (str d), .int .i64 10, .int .i64 64] w fun e w' => (∃ (n : Nat) (E : Value), e = .returned (.tuple #[.int .u64 (n : Int), E]) ∧ Hid (decW d = some n ∨ okByte d = false)) ∧ Below w.heap.size w w' from fun w h => (C2.out w h).mono fun e w' ⟨he, hb⟩ => ⟨by
   cases hw : decW d with
   | some n => rw [hw] at he; exact ⟨n, _, he, .inl rfl⟩
   | none => rw [hw] at he; obtain ⟨n, N, he⟩ := he; exact ⟨n, _, he, .inr (decW_none hw)⟩, hb⟩)
  go_enter Tryz.func151, Tryz.ntmps151
  go_wp2_with (first
   | (go_at_call 152; go_must (go_fit C1.out); rintro e w1 ⟨rfl, h1, hb1⟩; have hev1 := hev.low hlow (gb_below hb1 hgw))
   | (go_at_call 153; go_must (go_fit (C2.out _ hev1)); rintro e w2 ⟨⟨n, E, rfl, hn⟩, hb2⟩; have h2 := Rdr.next h1 hb2; have d1 := h2.c1; have f1 := h2.fr 1; have hq := u16_wrapN n))
  go_ret
  refine ⟨n % 65536, rfl, Nat.mod_lt _ (by decide), ?_, h2.s1 false, (hb1.trans (below_gb hb2 _)).trans (set_gb _ _ _ _)⟩
  intro hk
  rcases hn.out with hn | hn
  ·
   have e1 := (decW_some hn).1
   have := of_decide_eq_true hk
   rw [Nat.mod_eq_of_lt (by omega)]
   exact e1
  · rw [hn] at hk; cases hk
 | true =>
  rw [Bool.true_and]
  cases hw : decW d with
  | none =>
   rw [hw] at C2
   rw [decW_none hw]
   have C2 := Lib.hid (show ∀ w, EV w → Calls Tryz.prog 153 #[.string (str d), .int .i64 10, .int .i64 64] w fun e w' => (∃ (n N : Nat), e = .returned (.tuple #[.int .u64 (n : Int), .iface 215 (.pointer (some ⟨N, 0, none⟩))])) ∧ Below w.heap.size w w' from C2.out)
   clear hw
   go_enter Tryz.func151, Tryz.ntmps151
   go_wp2_with (first
    | (go_at_call 152; go_must (go_fit C1.out); rintro e w1 ⟨rfl, h1, hb1⟩; have hev1 := hev.low hlow (gb_below hb1 hgw))
    | (go_at_call 153; go_must (go_fit (C2.out _ hev1)); rintro e w2 ⟨⟨n, N, rfl⟩, hb2⟩; have h2 := Rdr.next h1 hb2; have d1 := h2.c1; have f1 := h2.fr 1; have hq := u16_wrapN n))
   go_ret
   refine ⟨n % 65536, rfl, Nat.mod_lt _ (by decide), ?_, h2.s1 false, (hb1.trans (below_gb hb2 _)).trans (set_gb _ _ _ _)⟩
   first | exact trivial | exact (fun h => absurd h (by decide))
  | some n =>
   rw [hw] at C2
   obtain ⟨hn, hne⟩ := decW_some hw
   have C2 := Lib.hid (show ∀ w, EV w → Calls Tryz.prog 153 #[.string (str d), .int .i64 10, .int .i64 64] w fun e w' => e = .returned (.tuple #[.int .u64 (n : Int), .nilIface]) ∧ Below w.heap.size w w' from C2.out)
   clear hw
   have HN := Lib.hid hn
   by_cases h256 : 256 ≤ n
   ·
    rw [okByte_big (by omega)]
    clear hn
    go_enter Tryz.func151, Tryz.ntmps151
    go_wp2_with (first
     | (go_at_call 152; go_must (go_fit C1.out); rintro e w1 ⟨rfl, h1, hb1⟩; have hev1 := hev.low hlow (gb_below hb1 hgw))
     | (go_at_call 153; go_must (go_fit (C2.out _ hev1)); rintro e w2 ⟨rfl, hb2⟩; have h2 := Rdr.next h1 hb2; have d1 := h2.c1; have f1 := h2.fr 1; have hq := u16_wrapN n))
    go_ret
    refine ⟨n % 65536, rfl, Nat.mod_lt _ (by decide), ?_, h2.s1 false, (hb1.trans (below_gb hb2 _)).trans (set_gb _ _ _ _)⟩
    first | exact trivial | exact (fun h => absurd h (by decide))
   ·
    have h256' : n < 256 := by omega
    by_cases h48 : d = [48]
    ·
     have hk : okByte d = true := by rw [h48]; decide
     rw [hk]
     have q1 : (d == [48]) = true := by rw [h48]; rfl
     clear hn h256 h48 hne
     go_enter Tryz.func151, Tryz.ntmps151
     go_wp2_with (first
      | (go_at_call 152; go_must (go_fit C1.out); rintro e w1 ⟨rfl, h1, hb1⟩; have hev1 := hev.low hlow (gb_below hb1 hgw))
      | (go_at_call 153; go_must (go_fit (C2.out _ hev1)); rintro e w2 ⟨rfl, hb2⟩; have h2 := Rdr.next h1 hb2; have d1 := h2.c1; have f1 := h2.fr 1; have hq := u16_wrapN n))
     go_ret
     refine ⟨n % 65536, rfl, Nat.mod_lt _ (by decide), ?_, h2.s1 true, (hb1.trans (below_gb hb2 _)).trans (set_gb _ _ _ _)⟩
     exact (fun _ => (Nat.mod_eq_of_lt (show n < 65536 by omega)).trans HN.out)
    ·
     have q1 : (d == [48]) = false := by rw [beq_eq_false_iff_ne]; exact h48
     have hlen : 0 < d.length := List.length_pos_iff.2 hne
     have hlen1 : (0 : Int) < (d.length : Int) := by omega
     rw [okByte_front hne (by omega) h48]
     by_cases hf : gb d 0 = 48
     ·
      have q2 : (((gb d 0).toNat : Int) != 48) = false := by rw [hf]; rfl
      have q3 : ((gb d 0).toNat : Int) = 48 := by rw [hf]; rfl
      rw [decide_eq_false (fun h => h hf)]
      clear hn h256 h48 hne hf
      go_enter Tryz.func151, Tryz.ntmps151
      go_wp2_with (first
       | (go_at_call 152; go_must (go_fit C1.out); rintro e w1 ⟨rfl, h1, hb1⟩; have hev1 := hev.low hlow (gb_below hb1 hgw))
       | (go_at_call 153; go_must (go_fit (C2.out _ hev1)); rintro e w2 ⟨rfl, hb2⟩; have h2 := Rdr.next h1 hb2; have d1 := h2.c1; have f1 := h2.fr 1; have hq := u16_wrapN n))
      go_ret
      refine ⟨n % 65536, rfl, Nat.mod_lt _ (by decide), ?_, h2.s1 false, (hb1.trans (below_gb hb2 _)).trans (set_gb _ _ _ _)⟩
      first | exact trivial | exact (fun h => absurd h (by decide))
     ·
      have q2 : (((gb d 0).toNat : Int) != 48) = true := by
       rw [bne_iff_ne]
       intro e
       exact hf (byte_ext (show (gb d 0).toNat = 48 by omega))
      rw [decide_eq_true (show gb d 0 ≠ 48 from hf)]
      clear hn h256 h48 hne hf
      go_enter Tryz.func151, Tryz.ntmps151
      go_wp2_with (first
       | (go_at_call 152; go_must (go_fit C1.out); rintro e w1 ⟨rfl, h1, hb1⟩; have hev1 := hev.low hlow (gb_below hb1 hgw))
       | (go_at_call 153; go_must (go_fit (C2.out _ hev1)); rintro e w2 ⟨rfl, hb2⟩; have h2 := Rdr.next h1 hb2; have d1 := h2.c1; have f1 := h2.fr 1; have hq := u16_wrapN n))
      go_ret
      refine ⟨n % 65536, rfl, Nat.mod_lt _ (by decide), ?_, h2.s1 true, (hb1.trans (below_gb hb2 _)).trans (set_gb _ _ _ _)⟩
      exact (fun _ => (Nat.mod_eq_of_lt (show n < 65536 by omega)).trans HN.out)
end Go.Proofs.YtoapelcofjjdnaaGreatDoor
