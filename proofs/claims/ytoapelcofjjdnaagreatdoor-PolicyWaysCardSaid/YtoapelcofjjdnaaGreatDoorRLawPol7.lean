/- A part of the proof. -/
import Derived.Test.YtoapelcofjjdnaaGreatDoorRLawPol5
import Derived.Test.YtoapelcofjjdnaaGreatDoorR08
import Derived.Test.YtoapelcofjjdnaaGreatDoorR23
namespace Go.Proofs.YtoapelcofjjdnaaGreatDoor
set_option linter.all false
open Go.RowKit
theorem blkGo_l : ∀ (t : List UInt8) (b : Bool), (∀ c ∈ t, c ≠ 108) → blkGo [lhost] b t = false := by
 intro t
 induction t with
 | nil => intro b _; cases b <;> rfl
 | cons c t ih =>
  intro b h
  have hc := h c (by simp)
  have hn : [lhost].contains (c :: t) = false := by
   rw [Bool.eq_false_iff]; intro e
   have e := List.mem_singleton.1 (List.contains_iff_mem.1 e)
   injection e with e1 e2
   exact hc e1
  unfold blkGo
  rw [hn, Bool.and_false, Bool.false_or, ih _ fun x hx => h x (by simp [hx])]
theorem blk_l {s : List UInt8} (h : ∀ c ∈ s, c ≠ 108) : blk s [] = false := by
 unfold blk
 refine blkGo_l _ _ fun c hc => h c ?_
 unfold dTrim at hc
 split at hc
 · exact List.dropLast_subset _ hc
 · exact hc
theorem mem_hexs {c : UInt8} : ∀ (l : List Nat), c ∈ hexs (digs 16) l → c = 58 ∨ ∃ x, c ∈ digs 16 x := by
 intro l
 induction l with
 | nil => intro h; cases h
 | cons x l ih =>
  intro h
  cases l with
  | nil => rw [hexs_one] at h; exact .inr ⟨x, h⟩
  | cons y r =>
   rw [hexs_more] at h
   rcases List.mem_append.1 h with h | h
   · exact .inr ⟨x, h⟩
   ·
    rcases List.mem_cons.1 h with h | h
    · exact .inl h
    · exact ih h
theorem show6_l (a : List Nat) : ∀ c ∈ [91] ++ pShow6 a ++ [93], c ≠ 108 := by
 have key : ∀ l, ∀ c ∈ hexs (digs 16) l, c ≠ 108 := by
  intro l c hc e
  subst e
  rcases mem_hexs l hc with h | ⟨x, h⟩
  · exact absurd h (by decide)
  · exact absurd (List.all_eq_true.1 (digs_hexOk x) _ h) (by decide)
 intro c hc
 rcases List.mem_append.1 hc with hc | hc
 ·
  rcases List.mem_append.1 hc with hc | hc
  · rw [List.mem_singleton.1 hc]; decide
  ·
   unfold pShow6 pShowD at hc
   split at hc
   · exact key _ c hc
   ·
    rcases List.mem_append.1 hc with hc | hc
    · exact key _ c hc
    ·
     rcases List.mem_cons.1 hc with rfl | hc
     · decide
     ·
      rcases List.mem_cons.1 hc with rfl | hc
      · decide
      · exact key _ c hc
 · rw [List.mem_singleton.1 hc]; decide
theorem free6_eight {a : Nat} : free6 (uEight a) = free4 a := by
 unfold free6 uEight
 have e : a / 65536 * 65536 + a % 65536 = a := by omega
 simp [allZ, e]
def oFour (h : List UInt8) : Uo := ⟨uHttp, h, true, -1, [[]], false, [], false, [], false⟩
theorem may_show {h : List UInt8} {b : Bool} (h1 : bad14 h [] = !b) (h2 : h.length ≤ 200) : mayU (oFour h) [] = if b = true then 0 else 8 := by
 unfold mayU
 rw [if_pos (.inl rfl)]
 unfold may14
 rw [show (oFour h).host = h from rfl, h1]
 cases b with
 | false => rfl
 | true =>
  rw [if_neg (by decide), if_pos rfl]
  refine if_neg ?_
  unfold uShowF oFour uHttp
  simp [pShowP]
  omega
theorem bad_four {a : Nat} (ha : a < 2 ^ 32) : bad14 (pShow4 a) [] = !free4 a := by
 unfold bad14 bad4 bad6
 rw [hIP4_show ha, hIP6_four, blk_l (fun c hc e => by have := show4_signs a c hc; rw [e] at this; revert this; decide)]
 simp
theorem bad_eight {a : Nat} (ha : a < 2 ^ 32) : bad14 ([91] ++ pShow6 (uEight a) ++ [93]) [] = !free4 a := by
 unfold bad14 bad4 bad6
 rw [hIP4_long, hIP6_show rfl (uEight_lt ha), blk_l (show6_l _)]
 show (false || ((!free6 (uEight a)) || false)) = _
 rw [free6_eight]; simp
set_option maxRecDepth 100000 in
set_option maxHeartbeats 8000000 in
theorem policyWays_of (a : Nat) (ha : a < 4294967296) (k : UInt8) (r : Nat) (hr3 : k.toNat % 3 = r) (hr : r = 0 ∨ r = 1 ∨ r = 2) (T H : List UInt8) (hT : (r = 0 → T = digs 10 a) ∧ (r = 1 → T = pShow4 a) ∧ (r = 2 → T = [91] ++ uFour a ++ [93])) (hTl : T.length ≤ 100)
  (hu : uUrl (uAt T) = some (oFour H)) (hH : H.length ≤ 200) (hm : mayU (oFour H) [] = if free4 a = true then 0 else 8) (w : World) (hq : LH w) :
  Calls Tryz.prog 8 #[.int .u32 (a : Int), .int .u8 (k.toNat : Int)] w fun e w' => e = .returned (.bool true) ∧ Below w.heap.size w w' := by
 have C1 := Lib.hid fun w => ten6T_any a w (by omega)
 have C2 := Lib.hid fun w => rshow4_any a w ha
 have C3 := Lib.hid fun w => pip4_any a ha w
 have CU := Lib.hid fun w => url_ok (w := w) hu
 have hf := uUrl_fits hu (by unfold uAt uHttp; simp; omega)
 have CM := Lib.hid fun (A : Option Addr) (c : Nat) (w : World) (hr : Rd w w.heap.size A (strs (oFour H).path)) (hq : LH w) => pmayU_any (oFour H) hf (url_special_host hu) A c w hr none 0 [] Rd.nil (by decide) hq
 rw [hm] at CM
 have hkb := byte_lt k
 have kw : IntKind.i64.wrap (k.toNat : Int) = (k.toNat : Int) := IntWalk.i64_in _ (by omega)
 have aw : IntKind.u64.wrap (a : Int) = (a : Int) := IntWalk.u64_in _ (by omega)
 have kt : ((k.toNat : Int)).tmod 3 = (r : Int) := by rw [Int.tmod_eq_emod_of_nonneg (by omega)]; omega
 obtain ⟨N, hN⟩ : ∃ N, N = digs 10 a := ⟨_, rfl⟩
 obtain ⟨S, hS⟩ : ∃ S, S = pShow4 a := ⟨_, rfl⟩
 have hSl : S.length ≤ 15 := by rw [hS]; exact show4_len
 obtain ⟨F1, hF1⟩ : ∃ F1, F1 = [91, 58, 58, 102, 102, 102, 102, 58] ++ S := ⟨_, rfl⟩
 obtain ⟨F2, hF2⟩ : ∃ F2, F2 = F1 ++ [93] := ⟨_, rfl⟩
 have hFl : F1.length ≤ 23 := by rw [hF1, List.length_append]; simp only [List.length_cons, List.length_nil]; omega
 have eF1 : ({ data := #[91, 58, 58, 102, 102, 102, 102, 58] } : ByteArray) ++ str S = str F1 := (str_app [91, 58, 58, 102, 102, 102, 102, 58] S).trans (by rw [hF1])
 have eF2 : str F1 ++ { data := #[93] } = str F2 := (str_app F1 [93]).trans (by rw [hF2])
 have hFT : F2 = [91] ++ uFour a ++ [93] := by rw [hF2, hF1, hS]; unfold uFour; simp
 obtain ⟨G1, hG1⟩ : ∃ G1, G1 = [104, 116, 116, 112, 58, 47, 47] ++ T := ⟨_, rfl⟩
 have eG1 : ({ data := #[104, 116, 116, 112, 58, 47, 47] } : ByteArray) ++ str T = str G1 := (str_app [104, 116, 116, 112, 58, 47, 47] T).trans (by rw [hG1])
 have hGl : G1.length ≤ 107 := by rw [hG1, List.length_append]; simp only [List.length_cons, List.length_nil]; omega
 have eG2 : str G1 ++ { data := #[47] } = str (uAt T) := (str_app G1 [47]).trans (by rw [hG1]; unfold uAt uHttp; simp)
 have yS := str_size S
 have yF := str_size F1
 have yT := str_size T
 have yG := str_size G1
 have kS : (9223372036854775807 < 8 + S.length) = False := eq_false (by omega)
 have kF : (9223372036854775807 < F1.length + 1) = False := eq_false (by omega)
 have kT : (9223372036854775807 < 7 + T.length) = False := eq_false (by omega)
 have kG : (9223372036854775807 < G1.length + 1) = False := eq_false (by omega)
 rw [← hN] at C1 hT
 rw [← hS] at C2 hT
 rw [← hFT] at hT
 obtain ⟨U, hU⟩ : ∃ U, U = uAt T := ⟨_, rfl⟩
 rw [← hU] at CU eG2
 obtain ⟨b, hb⟩ : ∃ b, b = free4 a := ⟨_, rfl⟩
 rw [← hb] at C3 CM
 clear hu hf hm hN hS hF1 hF2 hFT hG1 hU hb hr3
 rcases hr with rfl | rfl | rfl
 ·
  have hT := hT.1 rfl
  rw [hT] at eG1 yT kT
  clear hT
  cases b
  all_goals
   go_enter Tryz.func8, Tryz.ntmps8
   go_wp2_with (first
    | (go_at_call 21; go_must (go_fit (begun14_any _ hq.1)); rintro e w1 ⟨rfl, hb1⟩)
    | (go_at_call 18; go_must (go_fit (C1.out w1)); rintro e w2 ⟨rfl, hb2⟩; have hB2 := bnext hb1 hb2)
    | (go_at_call 15; go_fit (C2.out w2); rintro e w3 ⟨rfl, hb3⟩; have hB3 := bnext hB2 hb3)
    | (go_at_call 15; go_must (go_fit (C2.out w3)); rintro e w4 ⟨rfl, hb4⟩; have hB4 := bnew (bnext hB3 hb4) (.cells #[.string (str N), .string (str S), .string (str F2)] 9))
    | (go_at_call 28; go_must (go_fit (CU.out _)); rintro e w5 ⟨A, c, rfl, hr5, hb5⟩; have hB5 := bnew (bnext hB4 hb5) (.cells #[.string (str uHttp), .string (str H), .bool true, .int .i64 (-1), .slice A 1 c, .bool false, .string (str []), .bool false, .string (str []), .bool false] 44); have hu5 : UrAt (w5.alloc (.cells #[.string (str uHttp), .string (str H), .bool true, .int .i64 (-1), .slice A 1 c, .bool false, .string (str []), .bool false, .string (str []), .bool false] 44)) w5.heap.size (oFour H) (.slice A 1 c) := UrAt.made w5 (oFour H) (.slice A 1 c); have hr5' := hr5.new (.cells #[.string (str uHttp), .string (str H), .bool true, .int .i64 (-1), .slice A 1 c, .bool false, .string (str []), .bool false, .string (str []), .bool false] 44))
    | (go_at_call 22; go_must (go_fit (C3.out _)); rintro e w6 ⟨rfl, hb6⟩; have hB6 := bnext hB5 hb6; have hu6 := hu5.next hb6; have hr6 := hr5'.far hb6; have kc0 := hu6.c0; have kc1 := hu6.c1; have kc2 := hu6.c2; have kc3 := hu6.c3; have kc4 := hu6.c4; have kc5 := hu6.c5; have kc6 := hu6.c6; have kc7 := hu6.c7; have kc8 := hu6.c8; have kc9 := hu6.c9)
    | (go_at_call 29; go_must (go_fit (CM.out A c w6 hr6 (hq.next hB6))); rintro e w7 ⟨rfl, hb7⟩; have hB7 := bnext hB6 hb7))
   go_ret
   exact ⟨rfl, hB7⟩
 ·
  have hT := hT.2.1 rfl
  rw [hT] at eG1 yT kT
  clear hT
  cases b
  all_goals
   go_enter Tryz.func8, Tryz.ntmps8
   go_wp2_with (first
    | (go_at_call 21; go_must (go_fit (begun14_any _ hq.1)); rintro e w1 ⟨rfl, hb1⟩)
    | (go_at_call 18; go_must (go_fit (C1.out w1)); rintro e w2 ⟨rfl, hb2⟩; have hB2 := bnext hb1 hb2)
    | (go_at_call 15; go_fit (C2.out w2); rintro e w3 ⟨rfl, hb3⟩; have hB3 := bnext hB2 hb3)
    | (go_at_call 15; go_must (go_fit (C2.out w3)); rintro e w4 ⟨rfl, hb4⟩; have hB4 := bnew (bnext hB3 hb4) (.cells #[.string (str N), .string (str S), .string (str F2)] 9))
    | (go_at_call 28; go_must (go_fit (CU.out _)); rintro e w5 ⟨A, c, rfl, hr5, hb5⟩; have hB5 := bnew (bnext hB4 hb5) (.cells #[.string (str uHttp), .string (str H), .bool true, .int .i64 (-1), .slice A 1 c, .bool false, .string (str []), .bool false, .string (str []), .bool false] 44); have hu5 : UrAt (w5.alloc (.cells #[.string (str uHttp), .string (str H), .bool true, .int .i64 (-1), .slice A 1 c, .bool false, .string (str []), .bool false, .string (str []), .bool false] 44)) w5.heap.size (oFour H) (.slice A 1 c) := UrAt.made w5 (oFour H) (.slice A 1 c); have hr5' := hr5.new (.cells #[.string (str uHttp), .string (str H), .bool true, .int .i64 (-1), .slice A 1 c, .bool false, .string (str []), .bool false, .string (str []), .bool false] 44))
    | (go_at_call 22; go_must (go_fit (C3.out _)); rintro e w6 ⟨rfl, hb6⟩; have hB6 := bnext hB5 hb6; have hu6 := hu5.next hb6; have hr6 := hr5'.far hb6; have kc0 := hu6.c0; have kc1 := hu6.c1; have kc2 := hu6.c2; have kc3 := hu6.c3; have kc4 := hu6.c4; have kc5 := hu6.c5; have kc6 := hu6.c6; have kc7 := hu6.c7; have kc8 := hu6.c8; have kc9 := hu6.c9)
    | (go_at_call 29; go_must (go_fit (CM.out A c w6 hr6 (hq.next hB6))); rintro e w7 ⟨rfl, hb7⟩; have hB7 := bnext hB6 hb7))
   go_ret
   exact ⟨rfl, hB7⟩
 ·
  have hT := hT.2.2 rfl
  rw [hT] at eG1 yT kT
  clear hT
  cases b
  all_goals
   go_enter Tryz.func8, Tryz.ntmps8
   go_wp2_with (first
    | (go_at_call 21; go_must (go_fit (begun14_any _ hq.1)); rintro e w1 ⟨rfl, hb1⟩)
    | (go_at_call 18; go_must (go_fit (C1.out w1)); rintro e w2 ⟨rfl, hb2⟩; have hB2 := bnext hb1 hb2)
    | (go_at_call 15; go_fit (C2.out w2); rintro e w3 ⟨rfl, hb3⟩; have hB3 := bnext hB2 hb3)
    | (go_at_call 15; go_must (go_fit (C2.out w3)); rintro e w4 ⟨rfl, hb4⟩; have hB4 := bnew (bnext hB3 hb4) (.cells #[.string (str N), .string (str S), .string (str F2)] 9))
    | (go_at_call 28; go_must (go_fit (CU.out _)); rintro e w5 ⟨A, c, rfl, hr5, hb5⟩; have hB5 := bnew (bnext hB4 hb5) (.cells #[.string (str uHttp), .string (str H), .bool true, .int .i64 (-1), .slice A 1 c, .bool false, .string (str []), .bool false, .string (str []), .bool false] 44); have hu5 : UrAt (w5.alloc (.cells #[.string (str uHttp), .string (str H), .bool true, .int .i64 (-1), .slice A 1 c, .bool false, .string (str []), .bool false, .string (str []), .bool false] 44)) w5.heap.size (oFour H) (.slice A 1 c) := UrAt.made w5 (oFour H) (.slice A 1 c); have hr5' := hr5.new (.cells #[.string (str uHttp), .string (str H), .bool true, .int .i64 (-1), .slice A 1 c, .bool false, .string (str []), .bool false, .string (str []), .bool false] 44))
    | (go_at_call 22; go_must (go_fit (C3.out _)); rintro e w6 ⟨rfl, hb6⟩; have hB6 := bnext hB5 hb6; have hu6 := hu5.next hb6; have hr6 := hr5'.far hb6; have kc0 := hu6.c0; have kc1 := hu6.c1; have kc2 := hu6.c2; have kc3 := hu6.c3; have kc4 := hu6.c4; have kc5 := hu6.c5; have kc6 := hu6.c6; have kc7 := hu6.c7; have kc8 := hu6.c8; have kc9 := hu6.c9)
    | (go_at_call 29; go_must (go_fit (CM.out A c w6 hr6 (hq.next hB6))); rintro e w7 ⟨rfl, hb7⟩; have hB7 := bnext hB6 hb7))
   go_ret
   exact ⟨rfl, hB7⟩
theorem policyWays_walk (a : Nat) (ha : a < 4294967296) (k : UInt8) (w : World) (hq : LH w) :
  Calls Tryz.prog 8 #[.int .u32 (a : Int), .int .u8 (k.toNat : Int)] w fun e w' => e = .returned (.bool true) ∧ Below w.heap.size w w' := by
 have h4 : (pShow4 a).length ≤ 15 := show4_len
 have hm4 := may_show (bad_four (a := a) ha) (by omega)
 have h6 : (pShow6 (uEight a)).length ≤ 100 := show6_len (uEight_lt ha) rfl
 have hm6 := may_show (bad_eight (a := a) ha) (by simp only [List.length_append, List.length_cons, List.length_nil]; omega)
 rcases (show k.toNat % 3 = 0 ∨ k.toNat % 3 = 1 ∨ k.toNat % 3 = 2 by omega) with h | h | h
 · exact policyWays_of a ha k 0 h (.inl rfl) _ _ ⟨fun _ => rfl, (fun e => by cases e), (fun e => by cases e)⟩ (by have := digs_len (b := 10) (by decide) 10 a (by omega); omega) (url_digs ha) (by omega) hm4 w hq
 · exact policyWays_of a ha k 1 h (.inr (.inl rfl)) _ _ ⟨(fun e => by cases e), fun _ => rfl, (fun e => by cases e)⟩ (by omega) (url_show ha) (by omega) hm4 w hq
 · exact policyWays_of a ha k 2 h (.inr (.inr rfl)) _ _ ⟨(fun e => by cases e), (fun e => by cases e), fun _ => rfl⟩ (by unfold uFour; simp only [List.length_append, List.length_cons, List.length_nil]; omega) (url_four ha) (by simp only [List.length_append, List.length_cons, List.length_nil]; omega) hm6 w hq
end Go.Proofs.YtoapelcofjjdnaaGreatDoor
