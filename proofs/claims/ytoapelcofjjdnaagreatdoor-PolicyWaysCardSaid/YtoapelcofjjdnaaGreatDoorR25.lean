/- A part of the proof. -/
import Derived.Test.YtoapelcofjjdnaaGreatDoorR16
import Derived.Test.YtoapelcofjjdnaaGreatDoorR22
import Derived.Test.YtoapelcofjjdnaaGreatDoorR03
import Derived.Test.YtoapelcofjjdnaaGreatDoorR08
import Derived.Test.YtoapelcofjjdnaaGreatDoorR23
import Derived.Test.YtoapelcofjjdnaaGreatDoorR17
import Derived.Test.YtoapelcofjjdnaaGreatDoorR14
import Derived.Test.YtoapelcofjjdnaaGreatDoorR13
import Derived.Test.YtoapelcofjjdnaaGreatDoorR04
import Derived.Test.YtoapelcofjjdnaaGreatDoorR05
import Derived.Test.YtoapelcofjjdnaaGreatDoorR12
import Derived.Deep.RegionHeld3
namespace Go.Proofs.YtoapelcofjjdnaaGreatDoor
set_option linter.all false
open Go.RowKit
theorem unpuny_63d {s : List UInt8} {l : List Int} (h : unpuny s = some l) : l.length ≤ 63 := by
 unfold unpuny at h
 split at h
 · cases h
 split at h
 · cases h
 cases hd : dec (dRest s) (dStart (ints (dBase s))) with
 | none => rw [hd] at h; cases h
 | some m =>
  rw [hd] at h
  simp only [Option.bind_some] at h
  split at h
  · injection h with h; subst h; assumption
  · cases h
theorem eLoop_RB {bs : Int} {l : List Int} (hl : cpAll l = true) (hlen : l.length ≤ 63) : ∀ (f : Nat) (n : Int) (s : ES), 128 ≤ n → (∃ σ, AtRound n bs l s σ) → RB l s → RB l (eLoop f n bs s l) := by
 intro f
 induction f with
 | zero => intro n s _ _ h; exact h
 | succ f ih =>
  intro n s hn hat hb
  by_cases hd : s.done < l.length
  ·
   rw [eLoop_next hd]
   obtain ⟨r1, _, r3, _, r5⟩ := round_step hn hl hlen hd hat hb
   exact ih _ _ (by omega) r1 r5
  · rw [eLoop_end hd]; exact hb
theorem puny_len {l : List Int} {s : List UInt8} (h : puny l = some s) : s.length ≤ 1000 := by
 obtain ⟨h63, hok⟩ := puny_some h
 rw [puny_yes h63 hok] at h
 injection h with h
 obtain ⟨h1, h2⟩ := start_round hok
 have h3 := eLoop_RB hok h63 l.length 128 (eStart l) (by decide) h1 h2
 obtain ⟨_, _, _, _, _, b6, b7⟩ := h3
 unfold OL at b7
 rw [h] at b7
 omega
def labV (o : Option (List UInt8)) : Value := match o with
 | some s => .tuple #[.string (str s), .bool true]
 | none => .tuple #[.string (str dMark), .bool false]
theorem mark_app (s : List UInt8) : (str dMark ++ str s) = str (dMark ++ s) := str_app dMark s
end Go.Proofs.YtoapelcofjjdnaaGreatDoor
namespace Go.Proofs.YtoapelcofjjdnaaGreatDoor
set_option linter.all false
open Go.RowKit
theorem dGo_step {f : Bool} {p : List Int} {r : List (List Int)} (hp : Fine p) :
  dGo f (p :: r) = match dMake p with
   | none => none
   | some s => if dRight s = true then (if s = [] ∧ (r ≠ [] ∨ f = true) then none else (dGo false r).map (s :: ·)) else none := by
 have hm := make_right hp.map hp.low
 cases e : dMake p with
 | none =>
  rw [e] at hm
  rw [dGo]
  cases e2 : dLab p with
  | none => rfl
  | some s =>
   rw [e2] at hm
   replace hm : none = if 63 < s.length then none else some s := hm
   simp only
   rw [if_pos]
   split at hm
   · exact .inl (by assumption)
   · cases hm
 | some s =>
  rw [e] at hm
  replace hm : (if dRight s = true then some s else none) = (dLab p).bind (fun s => if 63 < s.length then none else some s) := hm
  rw [dGo]
  by_cases hr : dRight s = true
  ·
   rw [if_pos hr] at hm
   cases e2 : dLab p with
   | none => rw [e2] at hm; cases hm
   | some t =>
    rw [e2] at hm
    replace hm : some s = if 63 < t.length then none else some t := hm
    split at hm
    · cases hm
    ·
     rename_i h63
     injection hm with hm
     subst hm
     simp only
     rw [if_pos hr]
     by_cases h0 : s = [] ∧ (r ≠ [] ∨ f = true)
     · rw [if_pos (.inr h0), if_pos h0]
     · rw [if_neg (by rintro (h | h); exact h63 h; exact h0 h), if_neg h0]
  ·
   rw [if_neg hr] at hm
   cases e2 : dLab p with
   | none => simp only; rw [if_neg hr]
   | some t =>
    rw [e2] at hm
    replace hm : none = if 63 < t.length then none else some t := hm
    simp only
    rw [if_neg hr]
    split at hm
    ·
     rename_i h63
     rw [if_pos (.inl h63)]
    · cases hm
structure MadeI (l : List Int) (L : List (List UInt8)) (t : List Int) : Prop where
 val : dNames l = (dGo L.isEmpty (cutZ t)).map (L ++ ·)
 fine : ∀ p ∈ cutZ t, Fine p
 len : L.length + t.length ≤ 400
theorem MadeI.last {l : List Int} {L : List (List UInt8)} {t : List Int} (h : MadeI l L t) (hn : (46 : Int) ∉ t) :
  dNames l = (match dMake t with
   | none => none
   | some s => if dRight s = true then (if s = [] ∧ L = [] then none else some (L ++ [s])) else none) := by
 have hc := cutZ_whole hn
 rw [h.val, hc, dGo_step (h.fine t (by rw [hc]; simp))]
 cases dMake t with
 | none => rfl
 | some s =>
  simp only
  by_cases hr : dRight s = true
  ·
   rw [if_pos hr, if_pos hr]
   by_cases h0 : s = [] ∧ L = []
   · rw [if_pos h0, if_pos ⟨h0.1, .inr (by rw [h0.2]; rfl)⟩]; rfl
   ·
    rw [if_neg h0, if_neg]
    · rfl
    ·
     rintro ⟨h1, h2 | h2⟩
     · exact h2 rfl
     · exact h0 ⟨h1, List.isEmpty_iff.1 h2⟩
  · rw [if_neg hr, if_neg hr]; rfl
theorem MadeI.more {l : List Int} {L : List (List UInt8)} {a u : List Int} (h : MadeI l L (a ++ 46 :: u)) (hn : (46 : Int) ∉ a) :
  (∀ s, dMake a = some s → dRight s = true → s ≠ [] → MadeI l (L ++ [s]) u) ∧ ((∀ s, dMake a = some s → dRight s = true → s = []) → dNames l = none) := by
 have hc := cutZ_at u hn
 have hf : Fine a := h.fine a (by rw [hc]; simp)
 have hv := h.val
 rw [hc, dGo_step hf] at hv
 constructor
 ·
  intro s h1 h2 h3
  rw [h1] at hv
  simp only at hv
  rw [if_pos h2, if_neg (fun e => h3 e.1)] at hv
  refine ⟨?_, fun p hp => h.fine p (by rw [hc]; simp [hp]), ?_⟩
  ·
   rw [hv, Option.map_map]
   have e : (L ++ [s]).isEmpty = false := by cases L <;> rfl
   rw [e]
   congr 1
   funext x
   simp
  ·
   have := h.len
   simp at this ⊢
   omega
 ·
  intro h1
  rw [hv]
  cases e : dMake a with
  | none => rfl
  | some s =>
   simp only
   by_cases hr : dRight s = true
   · rw [if_pos hr, if_pos ⟨h1 s e hr, .inl (cutZ_ne u)⟩]; rfl
   · rw [if_neg hr]; rfl
end Go.Proofs.YtoapelcofjjdnaaGreatDoor
namespace Go.Proofs.YtoapelcofjjdnaaGreatDoor
set_option linter.all false
open Go.RowKit
def nameV (o : Option (List UInt8)) : Value := match o with
 | some s => .tuple #[.string (str s), .int .i64 0]
 | none => .tuple #[.string (str []), .int .i64 5]
theorem join63 : ∀ (L : List (List UInt8)), (∀ s ∈ L, s.length ≤ 63) → (Lib.join L [46]).length ≤ 64 * L.length := by
 intro L
 induction L with
 | nil => intro _; simp [Lib.join, List.intercalate]
 | cons s L ih =>
  intro h
  have h1 := h s (by simp)
  cases L with
  | nil => rw [Lib.join_one]; simp; omega
  | cons t r =>
   have e : Lib.join (s :: t :: r) [46] = s ++ 46 :: Lib.join (t :: r) [46] := by simp [Lib.join, List.intercalate]
   have h2 := ih fun x hx => h x (by simp [hx])
   rw [e]
   simp at h2 ⊢
   omega
theorem text_low (b : List UInt8) : (dText b).length ≤ b.length := by
 unfold dText
 exact Nat.le_trans (fText_le _) (uDec_len_le b)
end Go.Proofs.YtoapelcofjjdnaaGreatDoor
namespace Go.Proofs.YtoapelcofjjdnaaGreatDoor
set_option linter.all false
open Go.RowKit
def LH (w : World) : Prop := ML w ∧ TB w ∧ EV w ∧ DBt w
theorem LH.next {w w' : World} (h : LH w) (hb : Below w.heap.size w w') : LH w' := ⟨h.1.next hb, h.2.1.next hb, h.2.2.1.next hb, h.2.2.2.next hb⟩
def hSet : List UInt8 := [0, 9, 10, 13, 32, 35, 47, 58, 60, 62, 63, 64, 91, 92, 93, 94, 124]
end Go.Proofs.YtoapelcofjjdnaaGreatDoor
namespace Go.Proofs.YtoapelcofjjdnaaGreatDoor
set_option linter.all false
open Go.RowKit
def ip4V (o : Option Nat) : Value := .tuple #[.int .u32 ((o.getD 0 : Nat) : Int), .bool o.isSome]
set_option maxRecDepth 100000 in
set_option maxHeartbeats 2000000 in
theorem hip4_any (s : List UInt8) (w : World) (hq : LH w) (hs : s.length ≤ 100000) :
  Calls Tryz.prog 19 #[.string (str s)] w fun e w' => e = .returned (ip4V (hIP4 s)) ∧ Below w.heap.size w w' := by
 have CP := Lib.hid (parse4_any s w hq.1 hs)
 have HV := Lib.hid (show hIP4 s = (pParse s).bind fun a => if pShow4 a = s then some a else none from rfl)
 obtain ⟨o, ho⟩ : ∃ o, o = pParse s := ⟨_, rfl⟩
 have HLT := Lib.hid fun (a : Nat) (h : o = some a) => pParse_lt (ho.symm.trans h)
 rw [← ho] at CP HV
 clear ho
 rcases o with _ | a
 ·
  have HN := Lib.hid (show hIP4 s = none from HV.out)
  simp only [Option.getD_none, Option.isSome_none] at CP
  go_enter Tryz.func19, Tryz.ntmps19
  go_wp2_with (go_at_call 42; go_must (go_fit CP.out); rintro e w1 ⟨rfl, hb1⟩)
  go_ret2
  rw [HN.out]
  exact ⟨rfl, hb1⟩
 ·
  have hlt := HLT.out a rfl
  have CS := Lib.hid fun w (hq : LH w) => show4_any a w hq.1 hq.2.1 hlt
  simp only [Option.getD_some, Option.isSome_some] at CP
  have hq2 := str_eqB (pShow4 a) s
  have HV2 := Lib.hid (show hIP4 s = if pShow4 a = s then some a else none from HV.out)
  by_cases he : pShow4 a = s
  ·
   rw [decide_eq_true he] at hq2
   have HN := Lib.hid (HV2.out.trans (if_pos he))
   clear he hlt HLT
   go_enter Tryz.func19, Tryz.ntmps19
   go_wp2_with (first
    | (go_at_call 42; go_must (go_fit CP.out); rintro e w1 ⟨rfl, hb1⟩; have hq1 := hq.next hb1)
    | (go_at_call 43; go_must (go_fit (CS.out w1 hq1)); rintro e w2 ⟨rfl, hb2⟩))
   go_ret2
   rw [HN.out]
   exact ⟨rfl, bnext hb1 hb2⟩
  ·
   rw [decide_eq_false he] at hq2
   have HN := Lib.hid (HV2.out.trans (if_neg he))
   clear he hlt HLT
   go_enter Tryz.func19, Tryz.ntmps19
   go_wp2_with (first
    | (go_at_call 42; go_must (go_fit CP.out); rintro e w1 ⟨rfl, hb1⟩; have hq1 := hq.next hb1)
    | (go_at_call 43; go_must (go_fit (CS.out w1 hq1)); rintro e w2 ⟨rfl, hb2⟩))
   go_ret2
   rw [HN.out]
   exact ⟨rfl, bnext hb1 hb2⟩
set_option maxRecDepth 100000 in
set_option maxHeartbeats 2000000 in
theorem rip4_any (s : List UInt8) (w : World) (hq : LH w) (hs : s.length ≤ 100000) :
  Calls Tryz.prog 32 #[.string (str s)] w fun e w' => e = .returned (ip4V (hIP4 s)) ∧ Below w.heap.size w w' := by
 have CP := Lib.hid (rparse4_any s w hs)
 have HV := Lib.hid (show hIP4 s = (pParse s).bind fun a => if pShow4 a = s then some a else none from rfl)
 obtain ⟨o, ho⟩ : ∃ o, o = pParse s := ⟨_, rfl⟩
 have HLT := Lib.hid fun (a : Nat) (h : o = some a) => pParse_lt (ho.symm.trans h)
 rw [← ho] at CP HV
 clear ho
 rcases o with _ | a
 ·
  have HN := Lib.hid (show hIP4 s = none from HV.out)
  simp only [Option.getD_none, Option.isSome_none] at CP
  go_enter Tryz.func32, Tryz.ntmps32
  go_wp2_with (go_at_call 72; go_must (go_fit CP.out); rintro e w1 ⟨rfl, hb1⟩)
  go_ret2
  rw [HN.out]
  exact ⟨rfl, hb1⟩
 ·
  have hlt := HLT.out a rfl
  have CS := Lib.hid fun w (hq : LH w) => rshow4_any a w hlt
  simp only [Option.getD_some, Option.isSome_some] at CP
  have hq2 := str_eqB (pShow4 a) s
  have HV2 := Lib.hid (show hIP4 s = if pShow4 a = s then some a else none from HV.out)
  by_cases he : pShow4 a = s
  ·
   rw [decide_eq_true he] at hq2
   have HN := Lib.hid (HV2.out.trans (if_pos he))
   clear he hlt HLT
   go_enter Tryz.func32, Tryz.ntmps32
   go_wp2_with (first
    | (go_at_call 72; go_must (go_fit CP.out); rintro e w1 ⟨rfl, hb1⟩; have hq1 := hq.next hb1)
    | (go_at_call 15; go_must (go_fit (CS.out w1 hq1)); rintro e w2 ⟨rfl, hb2⟩))
   go_ret2
   rw [HN.out]
   exact ⟨rfl, bnext hb1 hb2⟩
  ·
   rw [decide_eq_false he] at hq2
   have HN := Lib.hid (HV2.out.trans (if_neg he))
   clear he hlt HLT
   go_enter Tryz.func32, Tryz.ntmps32
   go_wp2_with (first
    | (go_at_call 72; go_must (go_fit CP.out); rintro e w1 ⟨rfl, hb1⟩; have hq1 := hq.next hb1)
    | (go_at_call 15; go_must (go_fit (CS.out w1 hq1)); rintro e w2 ⟨rfl, hb2⟩))
   go_ret2
   rw [HN.out]
   exact ⟨rfl, bnext hb1 hb2⟩
theorem eight_of {a : List Nat} (h : a.length = 8) : ∃ a0 a1 a2 a3 a4 a5 a6 a7, a = [a0, a1, a2, a3, a4, a5, a6, a7] := by
 match a, h with
 | [a0, a1, a2, a3, a4, a5, a6, a7], _ => exact ⟨a0, a1, a2, a3, a4, a5, a6, a7, rfl⟩
end Go.Proofs.YtoapelcofjjdnaaGreatDoor
namespace Go.Proofs.YtoapelcofjjdnaaGreatDoor
set_option linter.all false
open Go.RowKit
def ip6V (o : Option (List Nat)) : Value := .tuple #[adr o, .bool o.isSome]
set_option maxRecDepth 100000 in
set_option maxHeartbeats 4000000 in
theorem hip6_short (s : List UInt8) (w : World) (hs : s.length ≤ 1000) (h2I : (s.length : Int) < 2) (HN : Hid (hIP6 s = none)) :
  Calls Tryz.prog 20 #[.string (str s)] w fun e w' => e = .returned (ip6V (hIP6 s)) ∧ Below w.heap.size w w' := by
 have hsz := str_size s
 have hgt := str_get s
 have hR0 : Row (w.alloc (.cells #[.int .u16 0, .int .u16 0, .int .u16 0, .int .u16 0, .int .u16 0, .int .u16 0, .int .u16 0, .int .u16 0] 24)) w.heap.size (u16s (noughts 8)) := Row.made w #[.int .u16 0, .int .u16 0, .int .u16 0, .int .u16 0, .int .u16 0, .int .u16 0, .int .u16 0, .int .u16 0] 24
 have hB0 : Below w.heap.size w (w.alloc (.cells #[.int .u16 0, .int .u16 0, .int .u16 0, .int .u16 0, .int .u16 0, .int .u16 0, .int .u16 0, .int .u16 0] 24)) := (Below.refl _ _).alloc (Nat.le_refl _) _
 have y0 := hR0.2.1 0 (by decide); have y1 := hR0.2.1 1 (by decide); have y2 := hR0.2.1 2 (by decide); have y3 := hR0.2.1 3 (by decide); have y4 := hR0.2.1 4 (by decide); have y5 := hR0.2.1 5 (by decide); have y6 := hR0.2.1 6 (by decide); have y7 := hR0.2.1 7 (by decide); have z0 := hR0.1 0 _ rfl; have z1 := hR0.1 1 _ rfl; have z2 := hR0.1 2 _ rfl; have z3 := hR0.1 3 _ rfl; have z4 := hR0.1 4 _ rfl; have z5 := hR0.1 5 _ rfl; have z6 := hR0.1 6 _ rfl; have z7 := hR0.1 7 _ rfl
 go_enter Tryz.func20, Tryz.ntmps20
 go_wp2
 (try simp only [Exit.inBlock, Exit.then])
 refine bodyPost_ret (results_row (R := w.heap.size) (us := #[.int .u16 0, .int .u16 0, .int .u16 0, .int .u16 0, .int .u16 0, .int .u16 0, .int .u16 0, .int .u16 0].toList) (d := .array 8 23) rfl rfl (by exact hR0) Tryz.underlying24 rfl info_arr8) rfl ?_
 rw [HN.out]
 exact ⟨rfl, hB0⟩
set_option maxRecDepth 100000 in
set_option maxHeartbeats 4000000 in
theorem hip6_open (s : List UInt8) (w : World) (hs : s.length ≤ 1000) (h2I : ¬ (s.length : Int) < 2) (hc91 : (((gb s 0).toNat : Int) != 91) = true) (HN : Hid (hIP6 s = none)) :
  Calls Tryz.prog 20 #[.string (str s)] w fun e w' => e = .returned (ip6V (hIP6 s)) ∧ Below w.heap.size w w' := by
 have hsz := str_size s
 have hgt := str_get s
 have hR0 : Row (w.alloc (.cells #[.int .u16 0, .int .u16 0, .int .u16 0, .int .u16 0, .int .u16 0, .int .u16 0, .int .u16 0, .int .u16 0] 24)) w.heap.size (u16s (noughts 8)) := Row.made w #[.int .u16 0, .int .u16 0, .int .u16 0, .int .u16 0, .int .u16 0, .int .u16 0, .int .u16 0, .int .u16 0] 24
 have hB0 : Below w.heap.size w (w.alloc (.cells #[.int .u16 0, .int .u16 0, .int .u16 0, .int .u16 0, .int .u16 0, .int .u16 0, .int .u16 0, .int .u16 0] 24)) := (Below.refl _ _).alloc (Nat.le_refl _) _
 have h0I : (0 : Int) < (s.length : Int) := by omega
 have y0 := hR0.2.1 0 (by decide); have y1 := hR0.2.1 1 (by decide); have y2 := hR0.2.1 2 (by decide); have y3 := hR0.2.1 3 (by decide); have y4 := hR0.2.1 4 (by decide); have y5 := hR0.2.1 5 (by decide); have y6 := hR0.2.1 6 (by decide); have y7 := hR0.2.1 7 (by decide); have z0 := hR0.1 0 _ rfl; have z1 := hR0.1 1 _ rfl; have z2 := hR0.1 2 _ rfl; have z3 := hR0.1 3 _ rfl; have z4 := hR0.1 4 _ rfl; have z5 := hR0.1 5 _ rfl; have z6 := hR0.1 6 _ rfl; have z7 := hR0.1 7 _ rfl
 go_enter Tryz.func20, Tryz.ntmps20
 go_wp2
 (try simp only [Exit.inBlock, Exit.then])
 refine bodyPost_ret (results_row (R := w.heap.size) (us := #[.int .u16 0, .int .u16 0, .int .u16 0, .int .u16 0, .int .u16 0, .int .u16 0, .int .u16 0, .int .u16 0].toList) (d := .array 8 23) rfl rfl (by exact hR0) Tryz.underlying24 rfl info_arr8) rfl ?_
 rw [HN.out]
 exact ⟨rfl, hB0⟩
set_option maxRecDepth 100000 in
set_option maxHeartbeats 4000000 in
theorem hip6_close (s : List UInt8) (w : World) (hs : s.length ≤ 1000) (h2I : ¬ (s.length : Int) < 2) (hc91 : (((gb s 0).toNat : Int) != 91) = false) (hc93 : (((gb s (s.length - 1)).toNat : Int) != 93) = true) (HN : Hid (hIP6 s = none)) :
  Calls Tryz.prog 20 #[.string (str s)] w fun e w' => e = .returned (ip6V (hIP6 s)) ∧ Below w.heap.size w w' := by
 have hsz := str_size s
 have hgt := str_get s
 have hR0 : Row (w.alloc (.cells #[.int .u16 0, .int .u16 0, .int .u16 0, .int .u16 0, .int .u16 0, .int .u16 0, .int .u16 0, .int .u16 0] 24)) w.heap.size (u16s (noughts 8)) := Row.made w #[.int .u16 0, .int .u16 0, .int .u16 0, .int .u16 0, .int .u16 0, .int .u16 0, .int .u16 0, .int .u16 0] 24
 have hB0 : Below w.heap.size w (w.alloc (.cells #[.int .u16 0, .int .u16 0, .int .u16 0, .int .u16 0, .int .u16 0, .int .u16 0, .int .u16 0, .int .u16 0] 24)) := (Below.refl _ _).alloc (Nat.le_refl _) _
 have h0I : (0 : Int) < (s.length : Int) := by omega
 obtain ⟨M, hM⟩ : ∃ M, M = s.length - 1 := ⟨_, rfl⟩
 have hMI : (s.length : Int) - 1 = (M : Int) := by omega
 have hMw : IntKind.i64.wrap (M : Int) = (M : Int) := IntWalk.i64_in _ (by omega)
 have hM0 : (0 : Int) ≤ (M : Int) := by omega
 have hM3 : (M : Int) < (s.length : Int) := by omega
 have hgM := hgt M (by rw [hsz]; exact Int.ofNat_lt.1 hM3)
 rw [← hM] at hc93
 clear hM
 have y0 := hR0.2.1 0 (by decide); have y1 := hR0.2.1 1 (by decide); have y2 := hR0.2.1 2 (by decide); have y3 := hR0.2.1 3 (by decide); have y4 := hR0.2.1 4 (by decide); have y5 := hR0.2.1 5 (by decide); have y6 := hR0.2.1 6 (by decide); have y7 := hR0.2.1 7 (by decide); have z0 := hR0.1 0 _ rfl; have z1 := hR0.1 1 _ rfl; have z2 := hR0.1 2 _ rfl; have z3 := hR0.1 3 _ rfl; have z4 := hR0.1 4 _ rfl; have z5 := hR0.1 5 _ rfl; have z6 := hR0.1 6 _ rfl; have z7 := hR0.1 7 _ rfl
 go_enter Tryz.func20, Tryz.ntmps20
 go_wp2
 (try simp only [Exit.inBlock, Exit.then])
 refine bodyPost_ret (results_row (R := w.heap.size) (us := #[.int .u16 0, .int .u16 0, .int .u16 0, .int .u16 0, .int .u16 0, .int .u16 0, .int .u16 0, .int .u16 0].toList) (d := .array 8 23) rfl rfl (by exact hR0) Tryz.underlying24 rfl info_arr8) rfl ?_
 rw [HN.out]
 exact ⟨rfl, hB0⟩
set_option maxRecDepth 100000 in
set_option maxHeartbeats 4000000 in
theorem hip6_none (s : List UInt8) (w : World) (hq : LH w) (hs : s.length ≤ 1000) (h2I : ¬ (s.length : Int) < 2) (hc91 : (((gb s 0).toNat : Int) != 91) = false) (hc93 : (((gb s (s.length - 1)).toNat : Int) != 93) = false) (ho : pParse6 (hIn s) = none) (HN : Hid (hIP6 s = none)) :
  Calls Tryz.prog 20 #[.string (str s)] w fun e w' => e = .returned (ip6V (hIP6 s)) ∧ Below w.heap.size w w' := by
 have hsz := str_size s
 have hgt := str_get s
 have hR0 : Row (w.alloc (.cells #[.int .u16 0, .int .u16 0, .int .u16 0, .int .u16 0, .int .u16 0, .int .u16 0, .int .u16 0, .int .u16 0] 24)) w.heap.size (u16s (noughts 8)) := Row.made w #[.int .u16 0, .int .u16 0, .int .u16 0, .int .u16 0, .int .u16 0, .int .u16 0, .int .u16 0, .int .u16 0] 24
 have hB0 : Below w.heap.size w (w.alloc (.cells #[.int .u16 0, .int .u16 0, .int .u16 0, .int .u16 0, .int .u16 0, .int .u16 0, .int .u16 0, .int .u16 0] 24)) := (Below.refl _ _).alloc (Nat.le_refl _) _
 have h0I : (0 : Int) < (s.length : Int) := by omega
 obtain ⟨M, hM⟩ : ∃ M, M = s.length - 1 := ⟨_, rfl⟩
 have hMI : (s.length : Int) - 1 = (M : Int) := by omega
 have hMw : IntKind.i64.wrap (M : Int) = (M : Int) := IntWalk.i64_in _ (by omega)
 have hM0 : (0 : Int) ≤ (M : Int) := by omega
 have hM3 : (M : Int) < (s.length : Int) := by omega
 have hgM := hgt M (by rw [hsz]; exact Int.ofNat_lt.1 hM3)
 rw [← hM] at hc93
 have hin : (str s).extract 1 M = str (hIn s) := hM ▸ str_mid s 1 (s.length - 1)
 have hinl : (hIn s).length ≤ 1000 := by unfold hIn mid; simp; omega
 have hM1 : (1 : Int) ≤ (M : Int) := by omega
 have hM2 : (M : Int) ≤ (s.length : Int) := by omega
 clear hM
 have hq0 := hq.next hB0
 have C6 := Lib.hid fun w hev => parse6_none (hIn s) ho w hev hinl
 clear ho
 go_enter Tryz.func20, Tryz.ntmps20
 go_wp2_with (go_at_call 44; go_must (go_fit (C6.out _ hq0.2.2.1)); rintro e w1 ⟨rfl, hb1⟩; have hR1 := hR0.below hb1 hR0.2.2; have hR2 := Row.far hR1 (.cells #[.int .u16 0, .int .u16 0, .int .u16 0, .int .u16 0, .int .u16 0, .int .u16 0, .int .u16 0, .int .u16 0] 24); have hB2 := bnew (bnext hB0 hb1) (.cells #[.int .u16 0, .int .u16 0, .int .u16 0, .int .u16 0, .int .u16 0, .int .u16 0, .int .u16 0, .int .u16 0] 24); have y0 := hR2.2.1 0 (by decide); have y1 := hR2.2.1 1 (by decide); have y2 := hR2.2.1 2 (by decide); have y3 := hR2.2.1 3 (by decide); have y4 := hR2.2.1 4 (by decide); have y5 := hR2.2.1 5 (by decide); have y6 := hR2.2.1 6 (by decide); have y7 := hR2.2.1 7 (by decide); have z0 := hR2.1 0 _ rfl; have z1 := hR2.1 1 _ rfl; have z2 := hR2.1 2 _ rfl; have z3 := hR2.1 3 _ rfl; have z4 := hR2.1 4 _ rfl; have z5 := hR2.1 5 _ rfl; have z6 := hR2.1 6 _ rfl; have z7 := hR2.1 7 _ rfl)
 (try simp only [Exit.inBlock, Exit.then])
 refine bodyPost_ret (results_row (R := w.heap.size) (us := #[.int .u16 0, .int .u16 0, .int .u16 0, .int .u16 0, .int .u16 0, .int .u16 0, .int .u16 0, .int .u16 0].toList) (d := .array 8 23) rfl rfl (by exact (Row.set (Row.set (Row.set (Row.set (Row.set (Row.set (Row.set (Row.set hR2 (j := 0) (by simp [u16s, noughts]) (.int .u16 0)) (j := 1) (by simp [u16s, noughts]) (.int .u16 0)) (j := 2) (by simp [u16s, noughts]) (.int .u16 0)) (j := 3) (by simp [u16s, noughts]) (.int .u16 0)) (j := 4) (by simp [u16s, noughts]) (.int .u16 0)) (j := 5) (by simp [u16s, noughts]) (.int .u16 0)) (j := 6) (by simp [u16s, noughts]) (.int .u16 0)) (j := 7) (by simp [u16s, noughts]) (.int .u16 0))) Tryz.underlying24 rfl info_arr8) rfl ?_
 rw [HN.out]
 exact ⟨rfl, (Below.setCell (Below.setCell (Below.setCell (Below.setCell (Below.setCell (Below.setCell (Below.setCell (Below.setCell hB2 (p := ⟨w.heap.size, 0, none⟩) (Nat.le_refl _) (.int .u16 0)) (p := ⟨w.heap.size, 1, none⟩) (Nat.le_refl _) (.int .u16 0)) (p := ⟨w.heap.size, 2, none⟩) (Nat.le_refl _) (.int .u16 0)) (p := ⟨w.heap.size, 3, none⟩) (Nat.le_refl _) (.int .u16 0)) (p := ⟨w.heap.size, 4, none⟩) (Nat.le_refl _) (.int .u16 0)) (p := ⟨w.heap.size, 5, none⟩) (Nat.le_refl _) (.int .u16 0)) (p := ⟨w.heap.size, 6, none⟩) (Nat.le_refl _) (.int .u16 0)) (p := ⟨w.heap.size, 7, none⟩) (Nat.le_refl _) (.int .u16 0))⟩
set_option maxRecDepth 100000 in
set_option maxHeartbeats 4000000 in
theorem hip6_yes (s : List UInt8) (w : World) (hq : LH w) (hs : s.length ≤ 1000) (h2I : ¬ (s.length : Int) < 2) (hc91 : (((gb s 0).toNat : Int) != 91) = false) (hc93 : (((gb s (s.length - 1)).toNat : Int) != 93) = false) (a : List Nat) (ho : pParse6 (hIn s) = some a) (he : [91] ++ pShow6 a ++ [93] = s) (HN : Hid (hIP6 s = some a)) :
  Calls Tryz.prog 20 #[.string (str s)] w fun e w' => e = .returned (ip6V (hIP6 s)) ∧ Below w.heap.size w w' := by
 have hsz := str_size s
 have hgt := str_get s
 have hR0 : Row (w.alloc (.cells #[.int .u16 0, .int .u16 0, .int .u16 0, .int .u16 0, .int .u16 0, .int .u16 0, .int .u16 0, .int .u16 0] 24)) w.heap.size (u16s (noughts 8)) := Row.made w #[.int .u16 0, .int .u16 0, .int .u16 0, .int .u16 0, .int .u16 0, .int .u16 0, .int .u16 0, .int .u16 0] 24
 have hB0 : Below w.heap.size w (w.alloc (.cells #[.int .u16 0, .int .u16 0, .int .u16 0, .int .u16 0, .int .u16 0, .int .u16 0, .int .u16 0, .int .u16 0] 24)) := (Below.refl _ _).alloc (Nat.le_refl _) _
 have h0I : (0 : Int) < (s.length : Int) := by omega
 obtain ⟨M, hM⟩ : ∃ M, M = s.length - 1 := ⟨_, rfl⟩
 have hMI : (s.length : Int) - 1 = (M : Int) := by omega
 have hMw : IntKind.i64.wrap (M : Int) = (M : Int) := IntWalk.i64_in _ (by omega)
 have hM0 : (0 : Int) ≤ (M : Int) := by omega
 have hM3 : (M : Int) < (s.length : Int) := by omega
 have hgM := hgt M (by rw [hsz]; exact Int.ofNat_lt.1 hM3)
 rw [← hM] at hc93
 have hin : (str s).extract 1 M = str (hIn s) := hM ▸ str_mid s 1 (s.length - 1)
 have hinl : (hIn s).length ≤ 1000 := by unfold hIn mid; simp; omega
 have hM1 : (1 : Int) ≤ (M : Int) := by omega
 have hM2 : (M : Int) ≤ (s.length : Int) := by omega
 clear hM
 have hq0 := hq.next hB0
 obtain ⟨h8, h16⟩ := pParse6_ok ho
 obtain ⟨a0, a1, a2, a3, a4, a5, a6, a7, ha⟩ := eight_of h8
 have hT := show6_len h16 h8
 have CS := Lib.hid fun w hd => show6_any a a0 a1 a2 a3 a4 a5 a6 a7 ha h16 w hd
 obtain ⟨T, hTe⟩ : ∃ T, T = pShow6 a := ⟨_, rfl⟩
 rw [← hTe] at CS he hT
 rw [ha] at ho HN
 have C6 := Lib.hid fun w hev => parse6_some (hIn s) ho w hev hinl
 clear ho hTe ha h8 h16
 have yT := str_size T
 have e1 : ({ data := #[91] } : ByteArray) ++ str T = str ([91] ++ T) := str_app [91] T
 have k1 : (9223372036854775807 < 1 + T.length) = False := eq_false (by omega)
 obtain ⟨U, hU⟩ : ∃ U, U = [91] ++ T := ⟨_, rfl⟩
 have hUl : U.length = T.length + 1 := by rw [hU]; rfl
 rw [← hU] at e1 he
 have yU : (str U).size = T.length + 1 := by rw [str_size, hUl]
 have e2 : str U ++ ({ data := #[93] } : ByteArray) = str (U ++ [93]) := str_app U [93]
 have k2 : (9223372036854775807 < T.length + 1 + 1) = False := eq_false (by omega)
 have qe := str_eqB (U ++ [93]) s
 clear hU
 rw [decide_eq_true he] at qe
 clear he
 go_enter Tryz.func20, Tryz.ntmps20
 go_wp2_with (first
  | (go_at_call 44; go_must (go_fit (C6.out _ hq0.2.2.1)); rintro e w1 ⟨rfl, hb1⟩; have hR1 := hR0.below hb1 hR0.2.2; have hR2 := Row.far hR1 (.cells #[.int .u16 (a0 : Int), .int .u16 (a1 : Int), .int .u16 (a2 : Int), .int .u16 (a3 : Int), .int .u16 (a4 : Int), .int .u16 (a5 : Int), .int .u16 (a6 : Int), .int .u16 (a7 : Int)] 24); have hB2 := bnew (bnext hB0 hb1) (.cells #[.int .u16 (a0 : Int), .int .u16 (a1 : Int), .int .u16 (a2 : Int), .int .u16 (a3 : Int), .int .u16 (a4 : Int), .int .u16 (a5 : Int), .int .u16 (a6 : Int), .int .u16 (a7 : Int)] 24); have hqA := hq.next hB2; have hX := Row.made w1 #[.int .u16 (a0 : Int), .int .u16 (a1 : Int), .int .u16 (a2 : Int), .int .u16 (a3 : Int), .int .u16 (a4 : Int), .int .u16 (a5 : Int), .int .u16 (a6 : Int), .int .u16 (a7 : Int)] 24; have x0 := hX.1 0 _ rfl; have x1 := hX.1 1 _ rfl; have x2 := hX.1 2 _ rfl; have x3 := hX.1 3 _ rfl; have x4 := hX.1 4 _ rfl; have x5 := hX.1 5 _ rfl; have x6 := hX.1 6 _ rfl; have x7 := hX.1 7 _ rfl)
  | (go_at_call 45; go_must (go_fit (CS.out _ hqA.2.2.2)); rintro e w3 ⟨rfl, hb3⟩; have hR3 := Row.below hR2 hb3 hR2.2.2; have hX3 := Row.below hX hb3 hX.2.2; have hB3 := bnext hB2 hb3; have y0 := hR3.2.1 0 (by decide); have y1 := hR3.2.1 1 (by decide); have y2 := hR3.2.1 2 (by decide); have y3 := hR3.2.1 3 (by decide); have y4 := hR3.2.1 4 (by decide); have y5 := hR3.2.1 5 (by decide); have y6 := hR3.2.1 6 (by decide); have y7 := hR3.2.1 7 (by decide); have z0 := hR3.1 0 _ rfl; have z1 := hR3.1 1 _ rfl; have z2 := hR3.1 2 _ rfl; have z3 := hR3.1 3 _ rfl; have z4 := hR3.1 4 _ rfl; have z5 := hR3.1 5 _ rfl; have z6 := hR3.1 6 _ rfl; have z7 := hR3.1 7 _ rfl; have x30 := hX3.1 0 _ rfl; have x31 := hX3.1 1 _ rfl; have x32 := hX3.1 2 _ rfl; have x33 := hX3.1 3 _ rfl; have x34 := hX3.1 4 _ rfl; have x35 := hX3.1 5 _ rfl; have x36 := hX3.1 6 _ rfl; have x37 := hX3.1 7 _ rfl))
 (try simp only [Exit.inBlock, Exit.then])
 refine bodyPost_ret (results_row (R := w.heap.size) (us := #[.int .u16 (a0 : Int), .int .u16 (a1 : Int), .int .u16 (a2 : Int), .int .u16 (a3 : Int), .int .u16 (a4 : Int), .int .u16 (a5 : Int), .int .u16 (a6 : Int), .int .u16 (a7 : Int)].toList) (d := .array 8 23) rfl rfl (by exact (Row.set (Row.set (Row.set (Row.set (Row.set (Row.set (Row.set (Row.set hR3 (j := 0) (by simp [u16s, noughts]) (.int .u16 (a0 : Int))) (j := 1) (by simp [u16s, noughts]) (.int .u16 (a1 : Int))) (j := 2) (by simp [u16s, noughts]) (.int .u16 (a2 : Int))) (j := 3) (by simp [u16s, noughts]) (.int .u16 (a3 : Int))) (j := 4) (by simp [u16s, noughts]) (.int .u16 (a4 : Int))) (j := 5) (by simp [u16s, noughts]) (.int .u16 (a5 : Int))) (j := 6) (by simp [u16s, noughts]) (.int .u16 (a6 : Int))) (j := 7) (by simp [u16s, noughts]) (.int .u16 (a7 : Int)))) Tryz.underlying24 rfl info_arr8) rfl ?_
 rw [HN.out]
 exact ⟨rfl, (Below.setCell (Below.setCell (Below.setCell (Below.setCell (Below.setCell (Below.setCell (Below.setCell (Below.setCell hB3 (p := ⟨w.heap.size, 0, none⟩) (Nat.le_refl _) (.int .u16 (a0 : Int))) (p := ⟨w.heap.size, 1, none⟩) (Nat.le_refl _) (.int .u16 (a1 : Int))) (p := ⟨w.heap.size, 2, none⟩) (Nat.le_refl _) (.int .u16 (a2 : Int))) (p := ⟨w.heap.size, 3, none⟩) (Nat.le_refl _) (.int .u16 (a3 : Int))) (p := ⟨w.heap.size, 4, none⟩) (Nat.le_refl _) (.int .u16 (a4 : Int))) (p := ⟨w.heap.size, 5, none⟩) (Nat.le_refl _) (.int .u16 (a5 : Int))) (p := ⟨w.heap.size, 6, none⟩) (Nat.le_refl _) (.int .u16 (a6 : Int))) (p := ⟨w.heap.size, 7, none⟩) (Nat.le_refl _) (.int .u16 (a7 : Int)))⟩
set_option maxRecDepth 100000 in
set_option maxHeartbeats 4000000 in
theorem hip6_no (s : List UInt8) (w : World) (hq : LH w) (hs : s.length ≤ 1000) (h2I : ¬ (s.length : Int) < 2) (hc91 : (((gb s 0).toNat : Int) != 91) = false) (hc93 : (((gb s (s.length - 1)).toNat : Int) != 93) = false) (a : List Nat) (ho : pParse6 (hIn s) = some a) (he : ¬ [91] ++ pShow6 a ++ [93] = s) (HN : Hid (hIP6 s = none)) :
  Calls Tryz.prog 20 #[.string (str s)] w fun e w' => e = .returned (ip6V (hIP6 s)) ∧ Below w.heap.size w w' := by
 have hsz := str_size s
 have hgt := str_get s
 have hR0 : Row (w.alloc (.cells #[.int .u16 0, .int .u16 0, .int .u16 0, .int .u16 0, .int .u16 0, .int .u16 0, .int .u16 0, .int .u16 0] 24)) w.heap.size (u16s (noughts 8)) := Row.made w #[.int .u16 0, .int .u16 0, .int .u16 0, .int .u16 0, .int .u16 0, .int .u16 0, .int .u16 0, .int .u16 0] 24
 have hB0 : Below w.heap.size w (w.alloc (.cells #[.int .u16 0, .int .u16 0, .int .u16 0, .int .u16 0, .int .u16 0, .int .u16 0, .int .u16 0, .int .u16 0] 24)) := (Below.refl _ _).alloc (Nat.le_refl _) _
 have h0I : (0 : Int) < (s.length : Int) := by omega
 obtain ⟨M, hM⟩ : ∃ M, M = s.length - 1 := ⟨_, rfl⟩
 have hMI : (s.length : Int) - 1 = (M : Int) := by omega
 have hMw : IntKind.i64.wrap (M : Int) = (M : Int) := IntWalk.i64_in _ (by omega)
 have hM0 : (0 : Int) ≤ (M : Int) := by omega
 have hM3 : (M : Int) < (s.length : Int) := by omega
 have hgM := hgt M (by rw [hsz]; exact Int.ofNat_lt.1 hM3)
 rw [← hM] at hc93
 have hin : (str s).extract 1 M = str (hIn s) := hM ▸ str_mid s 1 (s.length - 1)
 have hinl : (hIn s).length ≤ 1000 := by unfold hIn mid; simp; omega
 have hM1 : (1 : Int) ≤ (M : Int) := by omega
 have hM2 : (M : Int) ≤ (s.length : Int) := by omega
 clear hM
 have hq0 := hq.next hB0
 obtain ⟨h8, h16⟩ := pParse6_ok ho
 obtain ⟨a0, a1, a2, a3, a4, a5, a6, a7, ha⟩ := eight_of h8
 have hT := show6_len h16 h8
 have CS := Lib.hid fun w hd => show6_any a a0 a1 a2 a3 a4 a5 a6 a7 ha h16 w hd
 obtain ⟨T, hTe⟩ : ∃ T, T = pShow6 a := ⟨_, rfl⟩
 rw [← hTe] at CS he hT
 rw [ha] at ho
 have C6 := Lib.hid fun w hev => parse6_some (hIn s) ho w hev hinl
 clear ho hTe ha h8 h16
 have yT := str_size T
 have e1 : ({ data := #[91] } : ByteArray) ++ str T = str ([91] ++ T) := str_app [91] T
 have k1 : (9223372036854775807 < 1 + T.length) = False := eq_false (by omega)
 obtain ⟨U, hU⟩ : ∃ U, U = [91] ++ T := ⟨_, rfl⟩
 have hUl : U.length = T.length + 1 := by rw [hU]; rfl
 rw [← hU] at e1 he
 have yU : (str U).size = T.length + 1 := by rw [str_size, hUl]
 have e2 : str U ++ ({ data := #[93] } : ByteArray) = str (U ++ [93]) := str_app U [93]
 have k2 : (9223372036854775807 < T.length + 1 + 1) = False := eq_false (by omega)
 have qe := str_eqB (U ++ [93]) s
 clear hU
 rw [decide_eq_false he] at qe
 clear he
 go_enter Tryz.func20, Tryz.ntmps20
 go_wp2_with (first
  | (go_at_call 44; go_must (go_fit (C6.out _ hq0.2.2.1)); rintro e w1 ⟨rfl, hb1⟩; have hR1 := hR0.below hb1 hR0.2.2; have hR2 := Row.far hR1 (.cells #[.int .u16 (a0 : Int), .int .u16 (a1 : Int), .int .u16 (a2 : Int), .int .u16 (a3 : Int), .int .u16 (a4 : Int), .int .u16 (a5 : Int), .int .u16 (a6 : Int), .int .u16 (a7 : Int)] 24); have hB2 := bnew (bnext hB0 hb1) (.cells #[.int .u16 (a0 : Int), .int .u16 (a1 : Int), .int .u16 (a2 : Int), .int .u16 (a3 : Int), .int .u16 (a4 : Int), .int .u16 (a5 : Int), .int .u16 (a6 : Int), .int .u16 (a7 : Int)] 24); have hqA := hq.next hB2; have hX := Row.made w1 #[.int .u16 (a0 : Int), .int .u16 (a1 : Int), .int .u16 (a2 : Int), .int .u16 (a3 : Int), .int .u16 (a4 : Int), .int .u16 (a5 : Int), .int .u16 (a6 : Int), .int .u16 (a7 : Int)] 24; have x0 := hX.1 0 _ rfl; have x1 := hX.1 1 _ rfl; have x2 := hX.1 2 _ rfl; have x3 := hX.1 3 _ rfl; have x4 := hX.1 4 _ rfl; have x5 := hX.1 5 _ rfl; have x6 := hX.1 6 _ rfl; have x7 := hX.1 7 _ rfl)
  | (go_at_call 45; go_must (go_fit (CS.out _ hqA.2.2.2)); rintro e w3 ⟨rfl, hb3⟩; have hR3 := Row.below hR2 hb3 hR2.2.2; have hX3 := Row.below hX hb3 hX.2.2; have hB3 := bnext hB2 hb3; have y0 := hR3.2.1 0 (by decide); have y1 := hR3.2.1 1 (by decide); have y2 := hR3.2.1 2 (by decide); have y3 := hR3.2.1 3 (by decide); have y4 := hR3.2.1 4 (by decide); have y5 := hR3.2.1 5 (by decide); have y6 := hR3.2.1 6 (by decide); have y7 := hR3.2.1 7 (by decide); have z0 := hR3.1 0 _ rfl; have z1 := hR3.1 1 _ rfl; have z2 := hR3.1 2 _ rfl; have z3 := hR3.1 3 _ rfl; have z4 := hR3.1 4 _ rfl; have z5 := hR3.1 5 _ rfl; have z6 := hR3.1 6 _ rfl; have z7 := hR3.1 7 _ rfl; have x30 := hX3.1 0 _ rfl; have x31 := hX3.1 1 _ rfl; have x32 := hX3.1 2 _ rfl; have x33 := hX3.1 3 _ rfl; have x34 := hX3.1 4 _ rfl; have x35 := hX3.1 5 _ rfl; have x36 := hX3.1 6 _ rfl; have x37 := hX3.1 7 _ rfl))
 (try simp only [Exit.inBlock, Exit.then])
 refine bodyPost_ret (results_row (R := w.heap.size) (us := #[.int .u16 0, .int .u16 0, .int .u16 0, .int .u16 0, .int .u16 0, .int .u16 0, .int .u16 0, .int .u16 0].toList) (d := .array 8 23) rfl rfl (by exact (Row.set (Row.set (Row.set (Row.set (Row.set (Row.set (Row.set (Row.set hR3 (j := 0) (by simp [u16s, noughts]) (.int .u16 0)) (j := 1) (by simp [u16s, noughts]) (.int .u16 0)) (j := 2) (by simp [u16s, noughts]) (.int .u16 0)) (j := 3) (by simp [u16s, noughts]) (.int .u16 0)) (j := 4) (by simp [u16s, noughts]) (.int .u16 0)) (j := 5) (by simp [u16s, noughts]) (.int .u16 0)) (j := 6) (by simp [u16s, noughts]) (.int .u16 0)) (j := 7) (by simp [u16s, noughts]) (.int .u16 0))) Tryz.underlying24 rfl info_arr8) rfl ?_
 rw [HN.out]
 exact ⟨rfl, (Below.setCell (Below.setCell (Below.setCell (Below.setCell (Below.setCell (Below.setCell (Below.setCell (Below.setCell hB3 (p := ⟨w.heap.size, 0, none⟩) (Nat.le_refl _) (.int .u16 0)) (p := ⟨w.heap.size, 1, none⟩) (Nat.le_refl _) (.int .u16 0)) (p := ⟨w.heap.size, 2, none⟩) (Nat.le_refl _) (.int .u16 0)) (p := ⟨w.heap.size, 3, none⟩) (Nat.le_refl _) (.int .u16 0)) (p := ⟨w.heap.size, 4, none⟩) (Nat.le_refl _) (.int .u16 0)) (p := ⟨w.heap.size, 5, none⟩) (Nat.le_refl _) (.int .u16 0)) (p := ⟨w.heap.size, 6, none⟩) (Nat.le_refl _) (.int .u16 0)) (p := ⟨w.heap.size, 7, none⟩) (Nat.le_refl _) (.int .u16 0))⟩
theorem hip6_any (s : List UInt8) (w : World) (hq : LH w) (hs : s.length ≤ 1000) :
  Calls Tryz.prog 20 #[.string (str s)] w fun e w' => e = .returned (ip6V (hIP6 s)) ∧ Below w.heap.size w w' := by
 by_cases h2 : s.length < 2
 · exact hip6_short s w hs (by omega) (Lib.hid (if_neg fun h => by omega))
 ·
  have h2I : ¬ (s.length : Int) < 2 := by omega
  have hhead : s.head? = some (gb s 0) := by rw [List.head?_eq_getElem?]; exact gb_some (by omega)
  have hlast : s.getLast? = some (gb s (s.length - 1)) := by rw [List.getLast?_eq_getElem?]; exact gb_some (by omega)
  by_cases h91 : gb s 0 = 91
  ·
   have hc91 : (((gb s 0).toNat : Int) != 91) = false := by rw [h91]; rfl
   by_cases h93 : gb s (s.length - 1) = 93
   ·
    have hc93 : (((gb s (s.length - 1)).toNat : Int) != 93) = false := by rw [h93]; rfl
    have HV : hIP6 s = (pParse6 (hIn s)).bind fun a => if [91] ++ pShow6 a ++ [93] = s then some a else none := if_pos ⟨by rw [hhead, h91], by omega, by rw [hlast, h93]⟩
    cases ho : pParse6 (hIn s) with
    | none => exact hip6_none s w hq hs h2I hc91 hc93 ho (Lib.hid (by rw [HV, ho]; rfl))
    | some a =>
     have HV2 : hIP6 s = if [91] ++ pShow6 a ++ [93] = s then some a else none := by rw [HV, ho]; rfl
     by_cases he : [91] ++ pShow6 a ++ [93] = s
     · exact hip6_yes s w hq hs h2I hc91 hc93 a ho he (Lib.hid (HV2.trans (if_pos he)))
     · exact hip6_no s w hq hs h2I hc91 hc93 a ho he (Lib.hid (HV2.trans (if_neg he)))
   ·
    have hc93 : (((gb s (s.length - 1)).toNat : Int) != 93) = true := by rw [bne_iff_ne]; exact fun e => h93 (byte_ext (by show _ = 93; omega))
    exact hip6_close s w hs h2I hc91 hc93 (Lib.hid (if_neg fun h => by rw [hlast] at h; exact h93 (by simpa using h.2.2)))
  ·
   have hc91 : (((gb s 0).toNat : Int) != 91) = true := by rw [bne_iff_ne]; exact fun e => h91 (byte_ext (by show _ = 91; omega))
   exact hip6_open s w hs h2I hc91 (Lib.hid (if_neg fun h => by rw [hhead] at h; exact h91 (by simpa using h.1)))
end Go.Proofs.YtoapelcofjjdnaaGreatDoor
namespace Go.Proofs.YtoapelcofjjdnaaGreatDoor
set_option linter.all false
open Go.RowKit
theorem rparse6_some {a0 a1 a2 a3 a4 a5 a6 a7 : Nat} (s : List UInt8) (h : pParse6 s = some [a0, a1, a2, a3, a4, a5, a6, a7]) (w : World) (hs : s.length ≤ 1000) :
  Calls Tryz.prog 67 #[.string (str s)] w fun e w' => e = .returned (.tuple #[.agg #[.int .u16 (a0 : Int), .int .u16 (a1 : Int), .int .u16 (a2 : Int), .int .u16 (a3 : Int), .int .u16 (a4 : Int), .int .u16 (a5 : Int), .int .u16 (a6 : Int), .int .u16 (a7 : Int)], .int .i64 0]) ∧ Below w.heap.size w w' :=
 (rparse6_any s w hs).mono fun e w' ⟨he, hb⟩ => ⟨by rw [he, ← parse6_eq, h]; rfl, hb⟩
theorem rparse6_fail (s : List UInt8) (h : pParse6 s = none) (w : World) (hs : s.length ≤ 1000) :
  Calls Tryz.prog 67 #[.string (str s)] w fun e w' => e = .returned (.tuple #[.agg #[.int .u16 0, .int .u16 0, .int .u16 0, .int .u16 0, .int .u16 0, .int .u16 0, .int .u16 0, .int .u16 0], .int .i64 5]) ∧ Below w.heap.size w w' :=
 (rparse6_any s w hs).mono fun e w' ⟨he, hb⟩ => ⟨by rw [he, ← parse6_eq, h, ret6_none], hb⟩
set_option maxRecDepth 100000 in
set_option maxHeartbeats 4000000 in
theorem rip6_short (s : List UInt8) (w : World) (hs : s.length ≤ 1000) (h2I : (s.length : Int) < 2) (HN : Hid (hIP6 s = none)) :
  Calls Tryz.prog 33 #[.string (str s)] w fun e w' => e = .returned (ip6V (hIP6 s)) ∧ Below w.heap.size w w' := by
 have hsz := str_size s
 have hgt := str_get s
 have hR0 : Row (w.alloc (.cells #[.int .u16 0, .int .u16 0, .int .u16 0, .int .u16 0, .int .u16 0, .int .u16 0, .int .u16 0, .int .u16 0] 24)) w.heap.size (u16s (noughts 8)) := Row.made w #[.int .u16 0, .int .u16 0, .int .u16 0, .int .u16 0, .int .u16 0, .int .u16 0, .int .u16 0, .int .u16 0] 24
 have hB0 : Below w.heap.size w (w.alloc (.cells #[.int .u16 0, .int .u16 0, .int .u16 0, .int .u16 0, .int .u16 0, .int .u16 0, .int .u16 0, .int .u16 0] 24)) := (Below.refl _ _).alloc (Nat.le_refl _) _
 have y0 := hR0.2.1 0 (by decide); have y1 := hR0.2.1 1 (by decide); have y2 := hR0.2.1 2 (by decide); have y3 := hR0.2.1 3 (by decide); have y4 := hR0.2.1 4 (by decide); have y5 := hR0.2.1 5 (by decide); have y6 := hR0.2.1 6 (by decide); have y7 := hR0.2.1 7 (by decide); have z0 := hR0.1 0 _ rfl; have z1 := hR0.1 1 _ rfl; have z2 := hR0.1 2 _ rfl; have z3 := hR0.1 3 _ rfl; have z4 := hR0.1 4 _ rfl; have z5 := hR0.1 5 _ rfl; have z6 := hR0.1 6 _ rfl; have z7 := hR0.1 7 _ rfl
 go_enter Tryz.func33, Tryz.ntmps33
 go_wp2
 (try simp only [Exit.inBlock, Exit.then])
 refine bodyPost_ret (results_row (R := w.heap.size) (us := #[.int .u16 0, .int .u16 0, .int .u16 0, .int .u16 0, .int .u16 0, .int .u16 0, .int .u16 0, .int .u16 0].toList) (d := .array 8 23) rfl rfl (by exact hR0) Tryz.underlying24 rfl info_arr8) rfl ?_
 rw [HN.out]
 exact ⟨rfl, hB0⟩
set_option maxRecDepth 100000 in
set_option maxHeartbeats 4000000 in
theorem rip6_open (s : List UInt8) (w : World) (hs : s.length ≤ 1000) (h2I : ¬ (s.length : Int) < 2) (hc91 : (((gb s 0).toNat : Int) != 91) = true) (HN : Hid (hIP6 s = none)) :
  Calls Tryz.prog 33 #[.string (str s)] w fun e w' => e = .returned (ip6V (hIP6 s)) ∧ Below w.heap.size w w' := by
 have hsz := str_size s
 have hgt := str_get s
 have hR0 : Row (w.alloc (.cells #[.int .u16 0, .int .u16 0, .int .u16 0, .int .u16 0, .int .u16 0, .int .u16 0, .int .u16 0, .int .u16 0] 24)) w.heap.size (u16s (noughts 8)) := Row.made w #[.int .u16 0, .int .u16 0, .int .u16 0, .int .u16 0, .int .u16 0, .int .u16 0, .int .u16 0, .int .u16 0] 24
 have hB0 : Below w.heap.size w (w.alloc (.cells #[.int .u16 0, .int .u16 0, .int .u16 0, .int .u16 0, .int .u16 0, .int .u16 0, .int .u16 0, .int .u16 0] 24)) := (Below.refl _ _).alloc (Nat.le_refl _) _
 have h0I : (0 : Int) < (s.length : Int) := by omega
 have y0 := hR0.2.1 0 (by decide); have y1 := hR0.2.1 1 (by decide); have y2 := hR0.2.1 2 (by decide); have y3 := hR0.2.1 3 (by decide); have y4 := hR0.2.1 4 (by decide); have y5 := hR0.2.1 5 (by decide); have y6 := hR0.2.1 6 (by decide); have y7 := hR0.2.1 7 (by decide); have z0 := hR0.1 0 _ rfl; have z1 := hR0.1 1 _ rfl; have z2 := hR0.1 2 _ rfl; have z3 := hR0.1 3 _ rfl; have z4 := hR0.1 4 _ rfl; have z5 := hR0.1 5 _ rfl; have z6 := hR0.1 6 _ rfl; have z7 := hR0.1 7 _ rfl
 go_enter Tryz.func33, Tryz.ntmps33
 go_wp2
 (try simp only [Exit.inBlock, Exit.then])
 refine bodyPost_ret (results_row (R := w.heap.size) (us := #[.int .u16 0, .int .u16 0, .int .u16 0, .int .u16 0, .int .u16 0, .int .u16 0, .int .u16 0, .int .u16 0].toList) (d := .array 8 23) rfl rfl (by exact hR0) Tryz.underlying24 rfl info_arr8) rfl ?_
 rw [HN.out]
 exact ⟨rfl, hB0⟩
set_option maxRecDepth 100000 in
set_option maxHeartbeats 4000000 in
theorem rip6_close (s : List UInt8) (w : World) (hs : s.length ≤ 1000) (h2I : ¬ (s.length : Int) < 2) (hc91 : (((gb s 0).toNat : Int) != 91) = false) (hc93 : (((gb s (s.length - 1)).toNat : Int) != 93) = true) (HN : Hid (hIP6 s = none)) :
  Calls Tryz.prog 33 #[.string (str s)] w fun e w' => e = .returned (ip6V (hIP6 s)) ∧ Below w.heap.size w w' := by
 have hsz := str_size s
 have hgt := str_get s
 have hR0 : Row (w.alloc (.cells #[.int .u16 0, .int .u16 0, .int .u16 0, .int .u16 0, .int .u16 0, .int .u16 0, .int .u16 0, .int .u16 0] 24)) w.heap.size (u16s (noughts 8)) := Row.made w #[.int .u16 0, .int .u16 0, .int .u16 0, .int .u16 0, .int .u16 0, .int .u16 0, .int .u16 0, .int .u16 0] 24
 have hB0 : Below w.heap.size w (w.alloc (.cells #[.int .u16 0, .int .u16 0, .int .u16 0, .int .u16 0, .int .u16 0, .int .u16 0, .int .u16 0, .int .u16 0] 24)) := (Below.refl _ _).alloc (Nat.le_refl _) _
 have h0I : (0 : Int) < (s.length : Int) := by omega
 obtain ⟨M, hM⟩ : ∃ M, M = s.length - 1 := ⟨_, rfl⟩
 have hMI : (s.length : Int) - 1 = (M : Int) := by omega
 have hMw : IntKind.i64.wrap (M : Int) = (M : Int) := IntWalk.i64_in _ (by omega)
 have hM0 : (0 : Int) ≤ (M : Int) := by omega
 have hM3 : (M : Int) < (s.length : Int) := by omega
 have hgM := hgt M (by rw [hsz]; exact Int.ofNat_lt.1 hM3)
 rw [← hM] at hc93
 clear hM
 have y0 := hR0.2.1 0 (by decide); have y1 := hR0.2.1 1 (by decide); have y2 := hR0.2.1 2 (by decide); have y3 := hR0.2.1 3 (by decide); have y4 := hR0.2.1 4 (by decide); have y5 := hR0.2.1 5 (by decide); have y6 := hR0.2.1 6 (by decide); have y7 := hR0.2.1 7 (by decide); have z0 := hR0.1 0 _ rfl; have z1 := hR0.1 1 _ rfl; have z2 := hR0.1 2 _ rfl; have z3 := hR0.1 3 _ rfl; have z4 := hR0.1 4 _ rfl; have z5 := hR0.1 5 _ rfl; have z6 := hR0.1 6 _ rfl; have z7 := hR0.1 7 _ rfl
 go_enter Tryz.func33, Tryz.ntmps33
 go_wp2
 (try simp only [Exit.inBlock, Exit.then])
 refine bodyPost_ret (results_row (R := w.heap.size) (us := #[.int .u16 0, .int .u16 0, .int .u16 0, .int .u16 0, .int .u16 0, .int .u16 0, .int .u16 0, .int .u16 0].toList) (d := .array 8 23) rfl rfl (by exact hR0) Tryz.underlying24 rfl info_arr8) rfl ?_
 rw [HN.out]
 exact ⟨rfl, hB0⟩
set_option maxRecDepth 100000 in
set_option maxHeartbeats 4000000 in
theorem rip6_none (s : List UInt8) (w : World) (hq : LH w) (hs : s.length ≤ 1000) (h2I : ¬ (s.length : Int) < 2) (hc91 : (((gb s 0).toNat : Int) != 91) = false) (hc93 : (((gb s (s.length - 1)).toNat : Int) != 93) = false) (ho : pParse6 (hIn s) = none) (HN : Hid (hIP6 s = none)) :
  Calls Tryz.prog 33 #[.string (str s)] w fun e w' => e = .returned (ip6V (hIP6 s)) ∧ Below w.heap.size w w' := by
 have hsz := str_size s
 have hgt := str_get s
 have hR0 : Row (w.alloc (.cells #[.int .u16 0, .int .u16 0, .int .u16 0, .int .u16 0, .int .u16 0, .int .u16 0, .int .u16 0, .int .u16 0] 24)) w.heap.size (u16s (noughts 8)) := Row.made w #[.int .u16 0, .int .u16 0, .int .u16 0, .int .u16 0, .int .u16 0, .int .u16 0, .int .u16 0, .int .u16 0] 24
 have hB0 : Below w.heap.size w (w.alloc (.cells #[.int .u16 0, .int .u16 0, .int .u16 0, .int .u16 0, .int .u16 0, .int .u16 0, .int .u16 0, .int .u16 0] 24)) := (Below.refl _ _).alloc (Nat.le_refl _) _
 have h0I : (0 : Int) < (s.length : Int) := by omega
 obtain ⟨M, hM⟩ : ∃ M, M = s.length - 1 := ⟨_, rfl⟩
 have hMI : (s.length : Int) - 1 = (M : Int) := by omega
 have hMw : IntKind.i64.wrap (M : Int) = (M : Int) := IntWalk.i64_in _ (by omega)
 have hM0 : (0 : Int) ≤ (M : Int) := by omega
 have hM3 : (M : Int) < (s.length : Int) := by omega
 have hgM := hgt M (by rw [hsz]; exact Int.ofNat_lt.1 hM3)
 rw [← hM] at hc93
 have hin : (str s).extract 1 M = str (hIn s) := hM ▸ str_mid s 1 (s.length - 1)
 have hinl : (hIn s).length ≤ 1000 := by unfold hIn mid; simp; omega
 have hM1 : (1 : Int) ≤ (M : Int) := by omega
 have hM2 : (M : Int) ≤ (s.length : Int) := by omega
 clear hM
 have hq0 := hq.next hB0
 have C6 := Lib.hid fun w => rparse6_fail (hIn s) ho w hinl
 clear ho
 go_enter Tryz.func33, Tryz.ntmps33
 go_wp2_with (go_at_call 67; go_must (go_fit (C6.out _)); rintro e w1 ⟨rfl, hb1⟩; have hR1 := hR0.below hb1 hR0.2.2; have hR2 := Row.far hR1 (.cells #[.int .u16 0, .int .u16 0, .int .u16 0, .int .u16 0, .int .u16 0, .int .u16 0, .int .u16 0, .int .u16 0] 24); have hB2 := bnew (bnext hB0 hb1) (.cells #[.int .u16 0, .int .u16 0, .int .u16 0, .int .u16 0, .int .u16 0, .int .u16 0, .int .u16 0, .int .u16 0] 24); have y0 := hR2.2.1 0 (by decide); have y1 := hR2.2.1 1 (by decide); have y2 := hR2.2.1 2 (by decide); have y3 := hR2.2.1 3 (by decide); have y4 := hR2.2.1 4 (by decide); have y5 := hR2.2.1 5 (by decide); have y6 := hR2.2.1 6 (by decide); have y7 := hR2.2.1 7 (by decide); have z0 := hR2.1 0 _ rfl; have z1 := hR2.1 1 _ rfl; have z2 := hR2.1 2 _ rfl; have z3 := hR2.1 3 _ rfl; have z4 := hR2.1 4 _ rfl; have z5 := hR2.1 5 _ rfl; have z6 := hR2.1 6 _ rfl; have z7 := hR2.1 7 _ rfl)
 (try simp only [Exit.inBlock, Exit.then])
 refine bodyPost_ret (results_row (R := w.heap.size) (us := #[.int .u16 0, .int .u16 0, .int .u16 0, .int .u16 0, .int .u16 0, .int .u16 0, .int .u16 0, .int .u16 0].toList) (d := .array 8 23) rfl rfl (by exact (Row.set (Row.set (Row.set (Row.set (Row.set (Row.set (Row.set (Row.set hR2 (j := 0) (by simp [u16s, noughts]) (.int .u16 0)) (j := 1) (by simp [u16s, noughts]) (.int .u16 0)) (j := 2) (by simp [u16s, noughts]) (.int .u16 0)) (j := 3) (by simp [u16s, noughts]) (.int .u16 0)) (j := 4) (by simp [u16s, noughts]) (.int .u16 0)) (j := 5) (by simp [u16s, noughts]) (.int .u16 0)) (j := 6) (by simp [u16s, noughts]) (.int .u16 0)) (j := 7) (by simp [u16s, noughts]) (.int .u16 0))) Tryz.underlying24 rfl info_arr8) rfl ?_
 rw [HN.out]
 exact ⟨rfl, (Below.setCell (Below.setCell (Below.setCell (Below.setCell (Below.setCell (Below.setCell (Below.setCell (Below.setCell hB2 (p := ⟨w.heap.size, 0, none⟩) (Nat.le_refl _) (.int .u16 0)) (p := ⟨w.heap.size, 1, none⟩) (Nat.le_refl _) (.int .u16 0)) (p := ⟨w.heap.size, 2, none⟩) (Nat.le_refl _) (.int .u16 0)) (p := ⟨w.heap.size, 3, none⟩) (Nat.le_refl _) (.int .u16 0)) (p := ⟨w.heap.size, 4, none⟩) (Nat.le_refl _) (.int .u16 0)) (p := ⟨w.heap.size, 5, none⟩) (Nat.le_refl _) (.int .u16 0)) (p := ⟨w.heap.size, 6, none⟩) (Nat.le_refl _) (.int .u16 0)) (p := ⟨w.heap.size, 7, none⟩) (Nat.le_refl _) (.int .u16 0))⟩
set_option maxRecDepth 100000 in
set_option maxHeartbeats 4000000 in
theorem rip6_yes (s : List UInt8) (w : World) (hq : LH w) (hs : s.length ≤ 1000) (h2I : ¬ (s.length : Int) < 2) (hc91 : (((gb s 0).toNat : Int) != 91) = false) (hc93 : (((gb s (s.length - 1)).toNat : Int) != 93) = false) (a : List Nat) (ho : pParse6 (hIn s) = some a) (he : [91] ++ pShow6 a ++ [93] = s) (HN : Hid (hIP6 s = some a)) :
  Calls Tryz.prog 33 #[.string (str s)] w fun e w' => e = .returned (ip6V (hIP6 s)) ∧ Below w.heap.size w w' := by
 have hsz := str_size s
 have hgt := str_get s
 have hR0 : Row (w.alloc (.cells #[.int .u16 0, .int .u16 0, .int .u16 0, .int .u16 0, .int .u16 0, .int .u16 0, .int .u16 0, .int .u16 0] 24)) w.heap.size (u16s (noughts 8)) := Row.made w #[.int .u16 0, .int .u16 0, .int .u16 0, .int .u16 0, .int .u16 0, .int .u16 0, .int .u16 0, .int .u16 0] 24
 have hB0 : Below w.heap.size w (w.alloc (.cells #[.int .u16 0, .int .u16 0, .int .u16 0, .int .u16 0, .int .u16 0, .int .u16 0, .int .u16 0, .int .u16 0] 24)) := (Below.refl _ _).alloc (Nat.le_refl _) _
 have h0I : (0 : Int) < (s.length : Int) := by omega
 obtain ⟨M, hM⟩ : ∃ M, M = s.length - 1 := ⟨_, rfl⟩
 have hMI : (s.length : Int) - 1 = (M : Int) := by omega
 have hMw : IntKind.i64.wrap (M : Int) = (M : Int) := IntWalk.i64_in _ (by omega)
 have hM0 : (0 : Int) ≤ (M : Int) := by omega
 have hM3 : (M : Int) < (s.length : Int) := by omega
 have hgM := hgt M (by rw [hsz]; exact Int.ofNat_lt.1 hM3)
 rw [← hM] at hc93
 have hin : (str s).extract 1 M = str (hIn s) := hM ▸ str_mid s 1 (s.length - 1)
 have hinl : (hIn s).length ≤ 1000 := by unfold hIn mid; simp; omega
 have hM1 : (1 : Int) ≤ (M : Int) := by omega
 have hM2 : (M : Int) ≤ (s.length : Int) := by omega
 clear hM
 have hq0 := hq.next hB0
 obtain ⟨h8, h16⟩ := pParse6_ok ho
 obtain ⟨a0, a1, a2, a3, a4, a5, a6, a7, ha⟩ := eight_of h8
 have hT := show6_len h16 h8
 have CS := Lib.hid fun w => show6r_any a a0 a1 a2 a3 a4 a5 a6 a7 ha h16 w
 obtain ⟨T, hTe⟩ : ∃ T, T = pShow6 a := ⟨_, rfl⟩
 rw [← hTe] at CS he hT
 rw [ha] at ho HN
 have C6 := Lib.hid fun w => rparse6_some (hIn s) ho w hinl
 clear ho hTe ha h8 h16
 have yT := str_size T
 have e1 : ({ data := #[91] } : ByteArray) ++ str T = str ([91] ++ T) := str_app [91] T
 have k1 : (9223372036854775807 < 1 + T.length) = False := eq_false (by omega)
 obtain ⟨U, hU⟩ : ∃ U, U = [91] ++ T := ⟨_, rfl⟩
 have hUl : U.length = T.length + 1 := by rw [hU]; rfl
 rw [← hU] at e1 he
 have yU : (str U).size = T.length + 1 := by rw [str_size, hUl]
 have e2 : str U ++ ({ data := #[93] } : ByteArray) = str (U ++ [93]) := str_app U [93]
 have k2 : (9223372036854775807 < T.length + 1 + 1) = False := eq_false (by omega)
 have qe := str_eqB (U ++ [93]) s
 clear hU
 rw [decide_eq_true he] at qe
 clear he
 go_enter Tryz.func33, Tryz.ntmps33
 go_wp2_with (first
  | (go_at_call 67; go_must (go_fit (C6.out _)); rintro e w1 ⟨rfl, hb1⟩; have hR1 := hR0.below hb1 hR0.2.2; have hR2 := Row.far hR1 (.cells #[.int .u16 (a0 : Int), .int .u16 (a1 : Int), .int .u16 (a2 : Int), .int .u16 (a3 : Int), .int .u16 (a4 : Int), .int .u16 (a5 : Int), .int .u16 (a6 : Int), .int .u16 (a7 : Int)] 24); have hB2 := bnew (bnext hB0 hb1) (.cells #[.int .u16 (a0 : Int), .int .u16 (a1 : Int), .int .u16 (a2 : Int), .int .u16 (a3 : Int), .int .u16 (a4 : Int), .int .u16 (a5 : Int), .int .u16 (a6 : Int), .int .u16 (a7 : Int)] 24); have hqA := hq.next hB2; have hX := Row.made w1 #[.int .u16 (a0 : Int), .int .u16 (a1 : Int), .int .u16 (a2 : Int), .int .u16 (a3 : Int), .int .u16 (a4 : Int), .int .u16 (a5 : Int), .int .u16 (a6 : Int), .int .u16 (a7 : Int)] 24; have x0 := hX.1 0 _ rfl; have x1 := hX.1 1 _ rfl; have x2 := hX.1 2 _ rfl; have x3 := hX.1 3 _ rfl; have x4 := hX.1 4 _ rfl; have x5 := hX.1 5 _ rfl; have x6 := hX.1 6 _ rfl; have x7 := hX.1 7 _ rfl)
  | (go_at_call 16; go_must (go_fit (CS.out _)); rintro e w3 ⟨rfl, hb3⟩; have hR3 := Row.below hR2 hb3 hR2.2.2; have hX3 := Row.below hX hb3 hX.2.2; have hB3 := bnext hB2 hb3; have y0 := hR3.2.1 0 (by decide); have y1 := hR3.2.1 1 (by decide); have y2 := hR3.2.1 2 (by decide); have y3 := hR3.2.1 3 (by decide); have y4 := hR3.2.1 4 (by decide); have y5 := hR3.2.1 5 (by decide); have y6 := hR3.2.1 6 (by decide); have y7 := hR3.2.1 7 (by decide); have z0 := hR3.1 0 _ rfl; have z1 := hR3.1 1 _ rfl; have z2 := hR3.1 2 _ rfl; have z3 := hR3.1 3 _ rfl; have z4 := hR3.1 4 _ rfl; have z5 := hR3.1 5 _ rfl; have z6 := hR3.1 6 _ rfl; have z7 := hR3.1 7 _ rfl; have x30 := hX3.1 0 _ rfl; have x31 := hX3.1 1 _ rfl; have x32 := hX3.1 2 _ rfl; have x33 := hX3.1 3 _ rfl; have x34 := hX3.1 4 _ rfl; have x35 := hX3.1 5 _ rfl; have x36 := hX3.1 6 _ rfl; have x37 := hX3.1 7 _ rfl))
 (try simp only [Exit.inBlock, Exit.then])
 refine bodyPost_ret (results_row (R := w.heap.size) (us := #[.int .u16 (a0 : Int), .int .u16 (a1 : Int), .int .u16 (a2 : Int), .int .u16 (a3 : Int), .int .u16 (a4 : Int), .int .u16 (a5 : Int), .int .u16 (a6 : Int), .int .u16 (a7 : Int)].toList) (d := .array 8 23) rfl rfl (by exact (Row.set (Row.set (Row.set (Row.set (Row.set (Row.set (Row.set (Row.set hR3 (j := 0) (by simp [u16s, noughts]) (.int .u16 (a0 : Int))) (j := 1) (by simp [u16s, noughts]) (.int .u16 (a1 : Int))) (j := 2) (by simp [u16s, noughts]) (.int .u16 (a2 : Int))) (j := 3) (by simp [u16s, noughts]) (.int .u16 (a3 : Int))) (j := 4) (by simp [u16s, noughts]) (.int .u16 (a4 : Int))) (j := 5) (by simp [u16s, noughts]) (.int .u16 (a5 : Int))) (j := 6) (by simp [u16s, noughts]) (.int .u16 (a6 : Int))) (j := 7) (by simp [u16s, noughts]) (.int .u16 (a7 : Int)))) Tryz.underlying24 rfl info_arr8) rfl ?_
 rw [HN.out]
 exact ⟨rfl, (Below.setCell (Below.setCell (Below.setCell (Below.setCell (Below.setCell (Below.setCell (Below.setCell (Below.setCell hB3 (p := ⟨w.heap.size, 0, none⟩) (Nat.le_refl _) (.int .u16 (a0 : Int))) (p := ⟨w.heap.size, 1, none⟩) (Nat.le_refl _) (.int .u16 (a1 : Int))) (p := ⟨w.heap.size, 2, none⟩) (Nat.le_refl _) (.int .u16 (a2 : Int))) (p := ⟨w.heap.size, 3, none⟩) (Nat.le_refl _) (.int .u16 (a3 : Int))) (p := ⟨w.heap.size, 4, none⟩) (Nat.le_refl _) (.int .u16 (a4 : Int))) (p := ⟨w.heap.size, 5, none⟩) (Nat.le_refl _) (.int .u16 (a5 : Int))) (p := ⟨w.heap.size, 6, none⟩) (Nat.le_refl _) (.int .u16 (a6 : Int))) (p := ⟨w.heap.size, 7, none⟩) (Nat.le_refl _) (.int .u16 (a7 : Int)))⟩
set_option maxRecDepth 100000 in
set_option maxHeartbeats 4000000 in
theorem rip6_no (s : List UInt8) (w : World) (hq : LH w) (hs : s.length ≤ 1000) (h2I : ¬ (s.length : Int) < 2) (hc91 : (((gb s 0).toNat : Int) != 91) = false) (hc93 : (((gb s (s.length - 1)).toNat : Int) != 93) = false) (a : List Nat) (ho : pParse6 (hIn s) = some a) (he : ¬ [91] ++ pShow6 a ++ [93] = s) (HN : Hid (hIP6 s = none)) :
  Calls Tryz.prog 33 #[.string (str s)] w fun e w' => e = .returned (ip6V (hIP6 s)) ∧ Below w.heap.size w w' := by
 have hsz := str_size s
 have hgt := str_get s
 have hR0 : Row (w.alloc (.cells #[.int .u16 0, .int .u16 0, .int .u16 0, .int .u16 0, .int .u16 0, .int .u16 0, .int .u16 0, .int .u16 0] 24)) w.heap.size (u16s (noughts 8)) := Row.made w #[.int .u16 0, .int .u16 0, .int .u16 0, .int .u16 0, .int .u16 0, .int .u16 0, .int .u16 0, .int .u16 0] 24
 have hB0 : Below w.heap.size w (w.alloc (.cells #[.int .u16 0, .int .u16 0, .int .u16 0, .int .u16 0, .int .u16 0, .int .u16 0, .int .u16 0, .int .u16 0] 24)) := (Below.refl _ _).alloc (Nat.le_refl _) _
 have h0I : (0 : Int) < (s.length : Int) := by omega
 obtain ⟨M, hM⟩ : ∃ M, M = s.length - 1 := ⟨_, rfl⟩
 have hMI : (s.length : Int) - 1 = (M : Int) := by omega
 have hMw : IntKind.i64.wrap (M : Int) = (M : Int) := IntWalk.i64_in _ (by omega)
 have hM0 : (0 : Int) ≤ (M : Int) := by omega
 have hM3 : (M : Int) < (s.length : Int) := by omega
 have hgM := hgt M (by rw [hsz]; exact Int.ofNat_lt.1 hM3)
 rw [← hM] at hc93
 have hin : (str s).extract 1 M = str (hIn s) := hM ▸ str_mid s 1 (s.length - 1)
 have hinl : (hIn s).length ≤ 1000 := by unfold hIn mid; simp; omega
 have hM1 : (1 : Int) ≤ (M : Int) := by omega
 have hM2 : (M : Int) ≤ (s.length : Int) := by omega
 clear hM
 have hq0 := hq.next hB0
 obtain ⟨h8, h16⟩ := pParse6_ok ho
 obtain ⟨a0, a1, a2, a3, a4, a5, a6, a7, ha⟩ := eight_of h8
 have hT := show6_len h16 h8
 have CS := Lib.hid fun w => show6r_any a a0 a1 a2 a3 a4 a5 a6 a7 ha h16 w
 obtain ⟨T, hTe⟩ : ∃ T, T = pShow6 a := ⟨_, rfl⟩
 rw [← hTe] at CS he hT
 rw [ha] at ho
 have C6 := Lib.hid fun w => rparse6_some (hIn s) ho w hinl
 clear ho hTe ha h8 h16
 have yT := str_size T
 have e1 : ({ data := #[91] } : ByteArray) ++ str T = str ([91] ++ T) := str_app [91] T
 have k1 : (9223372036854775807 < 1 + T.length) = False := eq_false (by omega)
 obtain ⟨U, hU⟩ : ∃ U, U = [91] ++ T := ⟨_, rfl⟩
 have hUl : U.length = T.length + 1 := by rw [hU]; rfl
 rw [← hU] at e1 he
 have yU : (str U).size = T.length + 1 := by rw [str_size, hUl]
 have e2 : str U ++ ({ data := #[93] } : ByteArray) = str (U ++ [93]) := str_app U [93]
 have k2 : (9223372036854775807 < T.length + 1 + 1) = False := eq_false (by omega)
 have qe := str_eqB (U ++ [93]) s
 clear hU
 rw [decide_eq_false he] at qe
 clear he
 go_enter Tryz.func33, Tryz.ntmps33
 go_wp2_with (first
  | (go_at_call 67; go_must (go_fit (C6.out _)); rintro e w1 ⟨rfl, hb1⟩; have hR1 := hR0.below hb1 hR0.2.2; have hR2 := Row.far hR1 (.cells #[.int .u16 (a0 : Int), .int .u16 (a1 : Int), .int .u16 (a2 : Int), .int .u16 (a3 : Int), .int .u16 (a4 : Int), .int .u16 (a5 : Int), .int .u16 (a6 : Int), .int .u16 (a7 : Int)] 24); have hB2 := bnew (bnext hB0 hb1) (.cells #[.int .u16 (a0 : Int), .int .u16 (a1 : Int), .int .u16 (a2 : Int), .int .u16 (a3 : Int), .int .u16 (a4 : Int), .int .u16 (a5 : Int), .int .u16 (a6 : Int), .int .u16 (a7 : Int)] 24); have hqA := hq.next hB2; have hX := Row.made w1 #[.int .u16 (a0 : Int), .int .u16 (a1 : Int), .int .u16 (a2 : Int), .int .u16 (a3 : Int), .int .u16 (a4 : Int), .int .u16 (a5 : Int), .int .u16 (a6 : Int), .int .u16 (a7 : Int)] 24; have x0 := hX.1 0 _ rfl; have x1 := hX.1 1 _ rfl; have x2 := hX.1 2 _ rfl; have x3 := hX.1 3 _ rfl; have x4 := hX.1 4 _ rfl; have x5 := hX.1 5 _ rfl; have x6 := hX.1 6 _ rfl; have x7 := hX.1 7 _ rfl)
  | (go_at_call 16; go_must (go_fit (CS.out _)); rintro e w3 ⟨rfl, hb3⟩; have hR3 := Row.below hR2 hb3 hR2.2.2; have hX3 := Row.below hX hb3 hX.2.2; have hB3 := bnext hB2 hb3; have y0 := hR3.2.1 0 (by decide); have y1 := hR3.2.1 1 (by decide); have y2 := hR3.2.1 2 (by decide); have y3 := hR3.2.1 3 (by decide); have y4 := hR3.2.1 4 (by decide); have y5 := hR3.2.1 5 (by decide); have y6 := hR3.2.1 6 (by decide); have y7 := hR3.2.1 7 (by decide); have z0 := hR3.1 0 _ rfl; have z1 := hR3.1 1 _ rfl; have z2 := hR3.1 2 _ rfl; have z3 := hR3.1 3 _ rfl; have z4 := hR3.1 4 _ rfl; have z5 := hR3.1 5 _ rfl; have z6 := hR3.1 6 _ rfl; have z7 := hR3.1 7 _ rfl; have x30 := hX3.1 0 _ rfl; have x31 := hX3.1 1 _ rfl; have x32 := hX3.1 2 _ rfl; have x33 := hX3.1 3 _ rfl; have x34 := hX3.1 4 _ rfl; have x35 := hX3.1 5 _ rfl; have x36 := hX3.1 6 _ rfl; have x37 := hX3.1 7 _ rfl))
 (try simp only [Exit.inBlock, Exit.then])
 refine bodyPost_ret (results_row (R := w.heap.size) (us := #[.int .u16 0, .int .u16 0, .int .u16 0, .int .u16 0, .int .u16 0, .int .u16 0, .int .u16 0, .int .u16 0].toList) (d := .array 8 23) rfl rfl (by exact (Row.set (Row.set (Row.set (Row.set (Row.set (Row.set (Row.set (Row.set hR3 (j := 0) (by simp [u16s, noughts]) (.int .u16 0)) (j := 1) (by simp [u16s, noughts]) (.int .u16 0)) (j := 2) (by simp [u16s, noughts]) (.int .u16 0)) (j := 3) (by simp [u16s, noughts]) (.int .u16 0)) (j := 4) (by simp [u16s, noughts]) (.int .u16 0)) (j := 5) (by simp [u16s, noughts]) (.int .u16 0)) (j := 6) (by simp [u16s, noughts]) (.int .u16 0)) (j := 7) (by simp [u16s, noughts]) (.int .u16 0))) Tryz.underlying24 rfl info_arr8) rfl ?_
 rw [HN.out]
 exact ⟨rfl, (Below.setCell (Below.setCell (Below.setCell (Below.setCell (Below.setCell (Below.setCell (Below.setCell (Below.setCell hB3 (p := ⟨w.heap.size, 0, none⟩) (Nat.le_refl _) (.int .u16 0)) (p := ⟨w.heap.size, 1, none⟩) (Nat.le_refl _) (.int .u16 0)) (p := ⟨w.heap.size, 2, none⟩) (Nat.le_refl _) (.int .u16 0)) (p := ⟨w.heap.size, 3, none⟩) (Nat.le_refl _) (.int .u16 0)) (p := ⟨w.heap.size, 4, none⟩) (Nat.le_refl _) (.int .u16 0)) (p := ⟨w.heap.size, 5, none⟩) (Nat.le_refl _) (.int .u16 0)) (p := ⟨w.heap.size, 6, none⟩) (Nat.le_refl _) (.int .u16 0)) (p := ⟨w.heap.size, 7, none⟩) (Nat.le_refl _) (.int .u16 0))⟩
theorem rip6_any (s : List UInt8) (w : World) (hq : LH w) (hs : s.length ≤ 1000) :
  Calls Tryz.prog 33 #[.string (str s)] w fun e w' => e = .returned (ip6V (hIP6 s)) ∧ Below w.heap.size w w' := by
 by_cases h2 : s.length < 2
 · exact rip6_short s w hs (by omega) (Lib.hid (if_neg fun h => by omega))
 ·
  have h2I : ¬ (s.length : Int) < 2 := by omega
  have hhead : s.head? = some (gb s 0) := by rw [List.head?_eq_getElem?]; exact gb_some (by omega)
  have hlast : s.getLast? = some (gb s (s.length - 1)) := by rw [List.getLast?_eq_getElem?]; exact gb_some (by omega)
  by_cases h91 : gb s 0 = 91
  ·
   have hc91 : (((gb s 0).toNat : Int) != 91) = false := by rw [h91]; rfl
   by_cases h93 : gb s (s.length - 1) = 93
   ·
    have hc93 : (((gb s (s.length - 1)).toNat : Int) != 93) = false := by rw [h93]; rfl
    have HV : hIP6 s = (pParse6 (hIn s)).bind fun a => if [91] ++ pShow6 a ++ [93] = s then some a else none := if_pos ⟨by rw [hhead, h91], by omega, by rw [hlast, h93]⟩
    cases ho : pParse6 (hIn s) with
    | none => exact rip6_none s w hq hs h2I hc91 hc93 ho (Lib.hid (by rw [HV, ho]; rfl))
    | some a =>
     have HV2 : hIP6 s = if [91] ++ pShow6 a ++ [93] = s then some a else none := by rw [HV, ho]; rfl
     by_cases he : [91] ++ pShow6 a ++ [93] = s
     · exact rip6_yes s w hq hs h2I hc91 hc93 a ho he (Lib.hid (HV2.trans (if_pos he)))
     · exact rip6_no s w hq hs h2I hc91 hc93 a ho he (Lib.hid (HV2.trans (if_neg he)))
   ·
    have hc93 : (((gb s (s.length - 1)).toNat : Int) != 93) = true := by rw [bne_iff_ne]; exact fun e => h93 (byte_ext (by show _ = 93; omega))
    exact rip6_close s w hs h2I hc91 hc93 (Lib.hid (if_neg fun h => by rw [hlast] at h; exact h93 (by simpa using h.2.2)))
  ·
   have hc91 : (((gb s 0).toNat : Int) != 91) = true := by rw [bne_iff_ne]; exact fun e => h91 (byte_ext (by show _ = 91; omega))
   exact rip6_open s w hs h2I hc91 (Lib.hid (if_neg fun h => by rw [hhead] at h; exact h91 (by simpa using h.1)))
end Go.Proofs.YtoapelcofjjdnaaGreatDoor
namespace Go.Proofs.YtoapelcofjjdnaaGreatDoor
set_option linter.all false
open Go.RowKit
theorem wide_take {l : List Int} {j : Nat} {x : Int} (h : l[j]? = some x) : dWide (l.take (j + 1)) = (dWide (l.take j) || decide (128 ≤ x)) := by
 obtain ⟨hj, e⟩ := List.getElem?_eq_some_iff.1 h
 unfold dWide
 rw [take_snoc' l j hj, e, List.any_append]; simp
theorem gt127 (x : Int) : decide (127 < x) = decide (128 ≤ x) := by rw [decide_eq_decide]; omega
theorem drop4_str (s : List UInt8) : (str s).extract 4 s.length = str (s.drop 4) := str_end s 4
set_option maxRecDepth 100000 in
set_option maxHeartbeats 4000000 in
theorem known6_any (s : List UInt8) (w : World) (h4 : 4 ≤ s.length) (hs : s.length ≤ 100000) :
  Calls Tryz.prog 137 #[.string (str s)] w fun e w' => e = .returned (.bool (dKnown (s.drop 4))) ∧ Below w.heap.size w w' := by
 have hsz := str_size s
 have h4I : (4 : Int) ≤ (s.length : Int) := by omega
 have he := drop4_str s
 obtain ⟨r, hr⟩ : ∃ r, r = s.drop 4 := ⟨_, rfl⟩
 have hrl : r.length ≤ 100000 := by rw [hr, List.length_drop]; omega
 have CD := Lib.hid fun w => runpuny_any r w (by omega)
 rw [← hr] at he ⊢
 have HK := Lib.hid (show dKnown r = match unpuny r with | none => false | some l => dWide l && (decide (fText l = l) && decide (puny l = some r)) from rfl)
 clear hr
 obtain ⟨o, ho⟩ : ∃ o, o = unpuny r := ⟨_, rfl⟩
 rw [← ho] at CD HK
 rcases o with _ | l
 ·
  have HE := Lib.hid (show dKnown r = false from HK.out)
  unfold DecP at CD
  simp only at CD
  clear ho
  go_enter Tryz.func137, Tryz.ntmps137
  go_wp2_with (go_at_call 161; go_must (go_fit (CD.out w)); rintro e w2 ⟨hb2, rfl⟩)
  go_ret
  exact ⟨ret_bool HE.out.symm, hb2⟩
 ·
  have hl63 := unpuny_63d ho.symm
  have HE := Lib.hid (show dKnown r = (dWide l && (decide (fText l = l) && decide (puny l = some r))) from HK.out)
  clear ho HK
  have CE := Lib.hid fun A c w (h : Rd w w.heap.size A (runes l)) => rpuny_any A c l w h (by omega)
  have CT := Lib.hid fun A c w (h : Rd w w.heap.size A (runes l)) => rtext_any A c l w h (by omega)
  have CS := Lib.hid fun A c A2 c2 w (h : Rd w w.heap.size A (runes (fText l))) (h2 : Rd w w.heap.size A2 (runes l)) => same_any A A2 c c2 (fText l) l w h h2 (by have := fText_le l; omega) (by omega)
  have HSB := Lib.hid (show sameB (fText l) l = decide (fText l = l) from rfl)
  rw [HSB.out] at CS
  obtain ⟨p, hp⟩ : ∃ p, p = puny l := ⟨_, rfl⟩
  rw [← hp] at HE CE
  clear hp HSB
  go_enter Tryz.func137, Tryz.ntmps137
  go_wp2_with (go_at_call 161; go_must (go_fit (CD.out w)); rintro e w2 ⟨hb2, v2, rfl, hown2⟩; obtain ⟨A2, c2, rfl, hc2, hm2, hx2⟩ := own_rd hown2)
  go_loopg [5, 6] (l.length) (fun m s5 i wr => ∃ j : Nat, m = l.length - j ∧ j ≤ l.length ∧ i = .int .i64 j ∧ s5 = .bool (dWide (l.take j)) ∧ w2 = wr)
  case atStart => exact ⟨0, rfl, Nat.zero_le _, rfl, rfl, rfl⟩
  case round =>
   obtain ⟨j, rfl, hj, rfl, rfl, rfl⟩ := hrel
   by_cases hlt : j < l.length
   ·
    obtain ⟨b, off, x, rfl, hbk, hcx, hx⟩ := hx2.rune_at hlt
    have hlt1 : (j : Int) < (l.length : Int) := by omega
    have hj0 : (0 : Int) ≤ (j : Int) := by omega
    have HW := Lib.hid (wide_take hx.out)
    obtain ⟨d, hd⟩ : ∃ d, d = dWide (l.take j) := ⟨_, rfl⟩
    rw [← hd] at HW ⊢
    clear hd hx
    cases d with
    | true =>
     go_wp2
     go_roundg (l.length - (j + 1))
     case measure => omega
     case rel => exact ⟨j + 1, rfl, by omega, by go_num, by rw [HW.out]; rfl, rfl⟩
    | false =>
     go_wp2
     go_roundg (l.length - (j + 1))
     case measure => omega
     case rel => exact ⟨j + 1, rfl, by omega, by go_num, by rw [HW.out, Bool.false_or, ← gt127], rfl⟩
   ·
    obtain rfl : j = l.length := by omega
    rw [List.take_length]
    clear hlt
    obtain ⟨d, hd⟩ : ∃ d, d = dWide l := ⟨_, rfl⟩
    rw [← hd] at HE ⊢
    clear hd
    rcases p with _ | t
    ·
     have HE2 := Lib.hid (show dKnown r = false by rw [HE.out, decide_eq_false (by simp : ¬ (none : Option (List UInt8)) = some r), Bool.and_false, Bool.and_false])
     dsimp only [punyV] at CE
     cases d with
     | true =>
      go_wp2_with (go_at_call 138; go_must (go_fit (CE.out A2 c2 w2 hx2)); rintro e w3 ⟨rfl, hb3⟩)
      go_ret
      exact ⟨ret_bool HE2.out.symm, bnext hb2 hb3⟩
     | false =>
      go_wp2_with (go_at_call 138; go_must (go_fit (CE.out A2 c2 w2 hx2)); rintro e w3 ⟨rfl, hb3⟩)
      go_ret
      exact ⟨ret_bool HE2.out.symm, bnext hb2 hb3⟩
    ·
     dsimp only [punyV] at CE
     have qe := str_eqB t r
     cases d with
     | false =>
      have HE2 := Lib.hid (show dKnown r = false by rw [HE.out, Bool.false_and])
      go_wp2_with (go_at_call 138; go_must (go_fit (CE.out A2 c2 w2 hx2)); rintro e w3 ⟨rfl, hb3⟩)
      go_ret
      exact ⟨ret_bool HE2.out.symm, bnext hb2 hb3⟩
     | true =>
      by_cases htr : t = r
      ·
       rw [decide_eq_true htr] at qe
       have HE2 := Lib.hid (show dKnown r = decide (fText l = l) by rw [HE.out, decide_eq_true (by rw [htr] : some t = some r), Bool.and_true, Bool.true_and])
       clear htr HE
       go_wp2_with (first
        | (go_at_call 138; go_must (go_fit (CE.out A2 c2 w2 hx2)); rintro e w3 ⟨rfl, hb3⟩; have hx3 := hx2.next hb3)
        | (go_at_call 106; go_must (go_fit (CT.out A2 c2 w3 hx3)); rintro e w4 ⟨v4, rfl, hown4, hb4⟩; rw [runes_len] at hown4; obtain ⟨A4, c4, rfl, hc4, hm4, hy4⟩ := own_rd hown4; have hx4 := hx3.next hb4)
        | (go_at_call 162; go_must (go_fit (CS.out A4 c4 A2 c2 w4 hy4 hx4)); rintro e w5 ⟨rfl, hb5⟩))
       go_ret
       exact ⟨ret_bool HE2.out.symm, bnext (bnext (bnext hb2 hb3) hb4) hb5⟩
      ·
       rw [decide_eq_false htr] at qe
       have HE2 := Lib.hid (show dKnown r = false by rw [HE.out, decide_eq_false (by simpa using htr : ¬ some t = some r), Bool.and_false, Bool.and_false])
       clear htr HE
       go_wp2_with (go_at_call 138; go_must (go_fit (CE.out A2 c2 w2 hx2)); rintro e w3 ⟨rfl, hb3⟩)
       go_ret
       exact ⟨ret_bool HE2.out.symm, bnext hb2 hb3⟩
def rlabV (p : List Int) : Value := if dWide p = true then labV ((puny p).map (dMark ++ ·)) else .tuple #[.string (str (p.map byteOf)), .bool (dLow (p.map byteOf))]
theorem byte_wrap {x : Int} (h : 0 ≤ x) : Value.int .u8 (IntKind.u8.wrap x) = .int .u8 ((byteOf x).toNat : Int) := by
 obtain ⟨n, rfl⟩ : ∃ n : Nat, x = n := ⟨x.toNat, by omega⟩
 congr 1
theorem map_snocZ {l : List Int} {j : Nat} {x : Int} (h : l[j]? = some x) : (l.map byteOf).take (j + 1) = (l.map byteOf).take j ++ [byteOf x] := by
 obtain ⟨hj, e⟩ := List.getElem?_eq_some_iff.1 h
 rw [← List.map_take, ← List.map_take, take_snoc' l j hj, e, List.map_append]; rfl
theorem marked_take (s : List UInt8) : dMarked s = decide (tk s 4 = dMark) := by
 unfold dMarked tk
 rw [decide_eq_decide, List.prefix_iff_eq_take]
 exact ⟨fun h => h.symm, fun h => h.symm⟩
theorem marked_short {s : List UInt8} (h : s.length < 4) : dMarked s = false := by
 rw [marked_take, decide_eq_false]
 intro e
 have := congrArg List.length e
 rw [tk_len] at this
 simp [dMark] at this
 omega
set_option maxRecDepth 100000 in
set_option maxHeartbeats 4000000 in
theorem rlabel_any (A : Option Addr) (c : Nat) (l : List Int) (w : World) (hr : Rd w w.heap.size A (runes l)) (hl : l.length ≤ 1000) (h0 : ∀ x ∈ l, 0 ≤ x) :
  Calls Tryz.prog 108 #[.slice A l.length c] w fun e w' => e = .returned (rlabV l) ∧ Below w.heap.size w w' := by
 have H0 := Lib.hid h0
 have CP := Lib.hid fun A c w (h : Rd w w.heap.size A (runes l)) => rpuny_any A c l w h (by omega)
 clear h0
 go_enter Tryz.func108, Tryz.ntmps108
 go_wp2
 go_loopg [4, 5, 6] (l.length) (fun m s4 s5 i wr => ∃ j : Nat, m = l.length - j ∧ j ≤ l.length ∧ i = .int .i64 j ∧ s4 = .bool (dWide (l.take j)) ∧ wr.ownsRow w.heap.size 5 1 s5 (bytes ((l.map byteOf).take j)).length (bytes ((l.map byteOf).take j)) ∧ Below w.heap.size w wr)
 case atStart => exact ⟨0, rfl, Nat.zero_le _, rfl, rfl, World.ownsRow_nil _ _ _ _, Below.refl _ _⟩
 case round =>
  obtain ⟨j, rfl, hj, rfl, rfl, hown, hbel⟩ := hrel
  have hq0 := hbel.size
  by_cases hlt : j < l.length
  ·
   obtain ⟨b, off, x, rfl, hbk, hcx, hx⟩ := (hr.below hbel).rune_at hlt
   have hlt1 : (j : Int) < (l.length : Int) := by omega
   have hj0 : (0 : Int) ≤ (j : Int) := by omega
   have HW := Lib.hid (wide_take hx.out)
   have HB := Lib.hid (map_snocZ hx.out)
   have hbw := Lib.hid (byte_wrap (H0.out x (List.mem_of_getElem? hx.out)))
   have hbl : (bytes ((l.map byteOf).take j)).length ≤ 1000 := by rw [bytes_len, List.length_take]; omega
   obtain ⟨d, hd⟩ : ∃ d, d = dWide (l.take j) := ⟨_, rfl⟩
   rw [← hd] at HW ⊢
   clear hd hx
   cases d with
   | true =>
    go_wp2_with (at_builtin; refine wpList_append_lit rfl _ _ _ rfl w.heap.size _ _ 1 1 Tryz.underlying58 info_byte rfl (by decide) _ _ _ rfl hown _ 1 1 _ rfl rfl (by simp [Value.oneCell']) (by omega) (by decide) (by omega) ?_; intro A2 c2 w2 hc2 hm2 hown2 hb2 hg2)
    go_roundg (l.length - (j + 1))
    case measure => omega
    case rel => exact ⟨j + 1, rfl, by omega, by go_num, by rw [HW.out]; rfl, own_as hown2 (by rw [HB.out, bytes_append, List.length_append]; rfl) (by rw [HB.out, bytes_append]; exact congrArg (fun z => _ ++ [z]) hbw.out), hbel.trans hb2⟩
   | false =>
    go_wp2_with (at_builtin; refine wpList_append_lit rfl _ _ _ rfl w.heap.size _ _ 1 1 Tryz.underlying58 info_byte rfl (by decide) _ _ _ rfl hown _ 1 1 _ rfl rfl (by simp [Value.oneCell']) (by omega) (by decide) (by omega) ?_; intro A2 c2 w2 hc2 hm2 hown2 hb2 hg2)
    go_roundg (l.length - (j + 1))
    case measure => omega
    case rel => exact ⟨j + 1, rfl, by omega, by go_num, by rw [HW.out, Bool.false_or, ← gt127], own_as hown2 (by rw [HB.out, bytes_append, List.length_append]; rfl) (by rw [HB.out, bytes_append]; exact congrArg (fun z => _ ++ [z]) hbw.out), hbel.trans hb2⟩
  ·
   obtain rfl : j = l.length := by omega
   rw [List.take_of_length_le (show (l.map byteOf).length ≤ l.length by rw [List.length_map]; exact Nat.le_refl _)] at hown
   rw [List.take_length]
   clear hlt
   obtain ⟨S, hS⟩ : ∃ S, S = l.map byteOf := ⟨_, rfl⟩
   have hSl : S.length = l.length := by rw [hS, List.length_map]
   have HV := Lib.hid (show rlabV l = if dWide l = true then labV ((puny l).map (dMark ++ ·)) else .tuple #[.string (str S), .bool (dLow S)] by rw [hS]; rfl)
   rw [← hS, bytes_len] at hown
   clear hS
   obtain ⟨A3, c3, rfl, hc3, hm3, hx3⟩ := own_rd hown
   obtain ⟨d, hd⟩ : ∃ d, d = dWide l := ⟨_, rfl⟩
   rw [← hd] at HV ⊢
   clear hd
   cases d with
   | true =>
    have HV2 := Lib.hid (HV.out.trans (if_pos rfl))
    have hrr := hr.next hbel
    obtain ⟨o, ho⟩ : ∃ o, o = puny l := ⟨_, rfl⟩
    rw [← ho] at CP HV2
    have HS := Lib.hid fun (s : List UInt8) (h : o = some s) => puny_len (ho.symm.trans h)
    clear ho HV
    rcases o with _ | s
    ·
     dsimp only [punyV] at CP
     have hz : (str []).size = 0 := rfl
     go_wp2_with (go_at_call 138; go_must (go_fit (CP.out _ _ wr hrr)); rintro e w2 ⟨rfl, hb2⟩)
     go_ret2
     rw [HV2.out]
     exact ⟨rfl, bnext hbel hb2⟩
    ·
     have hsl := HS.out s rfl
     dsimp only [punyV] at CP
     have hz := str_size s
     have hk : (9223372036854775807 < 4 + s.length) = False := eq_false (by omega)
     have HA := Lib.hid (mark_app s)
     go_wp2_with (go_at_call 138; go_must (go_fit (CP.out _ _ wr hrr)); rintro e w2 ⟨rfl, hb2⟩)
     go_ret2
     rw [HV2.out]
     exact ⟨congrArg (fun x => Ending.returned (.tuple #[.string x, .bool true])) HA.out, bnext hbel hb2⟩
   | false =>
    have HV2 := Lib.hid (HV.out.trans (if_neg (by decide)))
    have hsz := str_size S
    clear HV
    by_cases h4 : S.length < 4
    ·
     have h4I : (S.length : Int) < 4 := by omega
     have HE := Lib.hid (show dLow S = true by unfold dLow; rw [marked_short h4]; rfl)
     clear h4
     go_wp2_with (refine wpList_strL rfl _ _ _ _ rfl Tryz.underlying58 Tryz.underlying5 Tryz.underlying9 _ _ _ _ S rfl rfl hx3 ?_)
     go_ret2
     rw [HV2.out, HE.out]
     exact ⟨rfl, hbel⟩
    ·
     have h4I : ¬ (S.length : Int) < 4 := by omega
     have h4K : ¬ (l.length : Int) < 4 := by omega
     have h4L : (4 : Int) ≤ (l.length : Int) := by omega
     have h4J : (4 : Int) ≤ (S.length : Int) := by omega
     have ht4 : (str S).extract 0 4 = str (tk S 4) := str_front S 4
     have tq : (str (tk S 4)).toList = tk S 4 := str_toL _
     by_cases hm : tk S 4 = dMark
     ·
      have hq : (tk S 4 != [120, 110, 45, 45]) = false := by rw [hm]; rfl
      have hq2 : (tk S 4 == [120, 110, 45, 45]) = true := by rw [hm]; rfl
      have HE := Lib.hid (show dLow S = dKnown (S.drop 4) by unfold dLow; rw [marked_take, decide_eq_true hm]; rfl)
      have CK := Lib.hid fun w => known6_any S w (by omega) (by omega)
      clear hm h4
      go_wp2_with (first
       | (refine wpList_strL rfl _ _ _ _ rfl Tryz.underlying58 Tryz.underlying5 Tryz.underlying9 _ _ _ _ S rfl rfl hx3 ?_)
       | (go_at_call 137; go_must (go_fit (CK.out _)); rintro e w4 ⟨rfl, hb4⟩))
      go_ret2
      rw [HV2.out, HE.out]
      exact ⟨rfl, bnext hbel hb4⟩
     ·
      have hq : (tk S 4 != [120, 110, 45, 45]) = true := by rw [bne_iff_ne]; exact hm
      have hq2 : (tk S 4 == [120, 110, 45, 45]) = false := by rw [beq_eq_false_iff_ne]; exact hm
      have HE := Lib.hid (show dLow S = true by unfold dLow; rw [marked_take, decide_eq_false hm]; rfl)
      clear hm h4
      go_wp2_with (refine wpList_strL rfl _ _ _ _ rfl Tryz.underlying58 Tryz.underlying5 Tryz.underlying9 _ _ _ _ S rfl rfl hx3 ?_)
      go_ret2
      rw [HV2.out, HE.out]
      exact ⟨rfl, hbel⟩
end Go.Proofs.YtoapelcofjjdnaaGreatDoor
namespace Go.Proofs.YtoapelcofjjdnaaGreatDoor
set_option linter.all false
open Go.RowKit
theorem rd_rowD {w w' : World} {A : Option Addr} {n c : Nat} {xs : List Value} {row : Option Nat} (h : Rd w w.heap.size A xs) (hg : w.grownBy w' row) (hne : ∀ k, (Value.slice A n c).ownBlock = some k → row ≠ some k) : Rd w' w'.heap.size A xs := fun hn => by
 obtain ⟨b, o, rfl, hb, hc⟩ := h hn
 exact ⟨b, o, rfl, Nat.lt_of_lt_of_le hb hg.size, fun j u hu => hg.cell (hc j u hu) (fun e => hne b rfl e.symm)⟩
theorem gb_allocD (w : World) (o : Obj) : w.grownBy (w.alloc o).drew none := ⟨rfl, rfl, rfl, by simp, fun k hk _ => Below.heap_alloc _ _ _ hk⟩
theorem gb_set (w : World) (g j : Nat) (v : Value) : w.grownBy (w.setCell ⟨g, j, none⟩ v) (some g) :=
 ⟨rfl, rfl, rfl, by simp [World.setCell], fun k _ hk => Below.heap_setCell _ _ _ _ (fun e => hk (by simp [e]))⟩
def Fin1 (w : World) (R L : Value) (v : Value) (p : List Int) : Prop := ∃ A c, v = .slice A p.length c ∧ Rd w w.heap.size A (runes p) ∧ (∀ b, v.ownBlock = some b → b < w.heap.size) ∧ ApartV v R ∧ ApartV v L
theorem Fin1.keep {w w' : World} {R L R' L' v : Value} {p : List Int} {row : Option Nat} (h : Fin1 w R L v p) (hg : w.grownBy w' row) (hrow : ∀ k, v.ownBlock = some k → row ≠ some k) (hR : ApartV v R → ApartV v R') (hL : ApartV v L → ApartV v L') : Fin1 w' R' L' v p := by
 obtain ⟨A, c, rfl, hr, hlt, h1, h2⟩ := h
 exact ⟨A, c, rfl, rd_rowD hr hg hrow, fun b hb => Nat.lt_of_lt_of_le (hlt b hb) hg.size, hR h1, hL h2⟩
theorem apart_row {u v : Value} (h : ApartV u v) : ∀ k, u.ownBlock = some k → v.ownBlock ≠ some k := h
theorem apart_newer {u v v' : Value} {X n : Nat} (ha : ApartV u v) (hlt : ∀ b, u.ownBlock = some b → b < n) (hX : n ≤ X) (hv : v'.ownBlock = v.ownBlock ∨ v'.ownBlock = some X) : ApartV u v' := by
 intro b h1 h2
 rcases hv with e | e
 · exact ha b h1 (e ▸ h2)
 ·
  rw [e] at h2
  injection h2 with h2
  have := hlt b h1
  omega
structure RowsI (w : World) (B : Nat) (R : Value) (q : List (List Int)) (p : List Int) : Prop where
 ex : ∃ (vs : List Value) (L : Value), vs.length = q.length ∧ w.ownsRow B 127 1 R (q.length + 1) (vs ++ [L]) ∧ w.ownsRow B 21 1 L p.length (runes p) ∧ ApartV L R ∧ ∀ (i : Nat) v x, vs[i]? = some v → q[i]? = some x → Fin1 w R L v x
theorem info_sl : (Tryz.prog.info? 127).map (fun i => (i.zero, i.size, i.bytes)) = some (some (.slice none 0 0), 1, 24) := by kernel_rfl
theorem rows_start (w : World) : RowsI (w.alloc (.cells #[.slice none 0 0] 127)) w.heap.size (.slice (some ⟨w.heap.size, 0, none⟩) 1 1) [] [] :=
 ⟨[], .slice none 0 0, rfl, World.ownsRow_lit w #[.slice none 0 0] 1 (Nat.le_refl _) (by decide) rfl, World.ownsRow_nil _ _ _ _, ApartV.none rfl, fun i v x h => by cases h⟩
theorem RowsI.push {w w' : World} {B X : Nat} {R : Value} {q : List (List Int)} {p : List Int} {vs : List Value} {L : Value} {A5 : Option Addr} {c5 : Nat} (hv : vs.length = q.length) (hL : w.ownsRow B 21 1 L p.length (runes p)) (hap : ApartV L R)
  (hf : ∀ (i : Nat) v x, vs[i]? = some v → q[i]? = some x → Fin1 w R L v x) (hg : w.grownBy w' R.ownBlock) (hX : w.heap.size ≤ X)
  (hat : (Value.slice A5 (q.length + 1 + 1) c5).ownBlock = R.ownBlock ∨ (Value.slice A5 (q.length + 1 + 1) c5).ownBlock = some X)
  (hown : w'.ownsRow B 127 1 (.slice A5 (q.length + 1 + 1) c5) (q.length + 1 + 1) ((vs ++ [L]) ++ [Value.slice none 0 0])) : RowsI w' B (.slice A5 (q.length + 1 + 1) c5) (q ++ [p]) [] := by
 have hlen : (q ++ [p]).length = q.length + 1 := by simp
 refine ⟨vs ++ [L], .slice none 0 0, by rw [List.length_append, hv, hlen]; rfl, by rw [hlen]; exact hown, World.ownsRow_nil _ _ _ _, ApartV.none rfl, fun i v x h1 h2 => ?_⟩
 by_cases hi : i < vs.length
 ·
  rw [List.getElem?_append_left hi] at h1
  rw [List.getElem?_append_left (by omega)] at h2
  have h := hf i v x h1 h2
  obtain ⟨_, _, _, _, hlt, h3, _⟩ := id h
  exact h.keep hg (apart_row h3) (fun h3 => apart_newer h3 hlt hX hat) (fun _ => fun b _ e => by cases e)
 ·
  have hi2 : i = vs.length := by
   have := (List.getElem?_eq_some_iff.1 h1).1
   rw [List.length_append] at this
   simp at this
   omega
  subst hi2
  rw [List.getElem?_append_right (Nat.le_refl _), Nat.sub_self] at h1
  rw [hv, List.getElem?_append_right (Nat.le_refl _), Nat.sub_self] at h2
  injection h1 with h1
  injection h2 with h2
  subst h1 h2
  obtain ⟨A, c, rfl, _, _, hr⟩ := own_rd (own_apart hL hg hap)
  exact ⟨A, c, rfl, hr, fun b hb => Nat.lt_of_lt_of_le (hL.lt b hb).2 hg.size, hap.grown hL hX hat, fun b _ e => by cases e⟩
theorem RowsI.more {w w' : World} {B X g n c : Nat} {q : List (List Int)} {p : List Int} {vs : List Value} {L : Value} {x : Int} {A5 : Option Addr} {c5 : Nat} (hv : vs.length = q.length) (hR : w.ownsRow B 127 1 (.slice (some ⟨g, 0, none⟩) n c) (q.length + 1) (vs ++ [L]))
  (hL : w.ownsRow B 21 1 L p.length (runes p)) (hap : ApartV L (.slice (some ⟨g, 0, none⟩) n c))
  (hf : ∀ (i : Nat) v x, vs[i]? = some v → q[i]? = some x → Fin1 w (.slice (some ⟨g, 0, none⟩) n c) L v x) (hg : w.grownBy w' L.ownBlock) (hX : w.heap.size ≤ X)
  (hat : (Value.slice A5 (p.length + 1) c5).ownBlock = L.ownBlock ∨ (Value.slice A5 (p.length + 1) c5).ownBlock = some X)
  (hown : w'.ownsRow B 21 1 (.slice A5 (p.length + 1) c5) (p.length + 1) (runes p ++ [Value.int .i32 x])) :
  RowsI (w'.setCell ⟨g, q.length, none⟩ (.slice A5 (p.length + 1) c5)) B (.slice (some ⟨g, 0, none⟩) n c) q (p ++ [x]) := by
 have hn : n = q.length + 1 := by
  obtain ⟨_, _, e, _, _⟩ := own_shape hR
  injection e
 subst hn
 have hR2 := own_apart hR hg hap.symm
 have hst := hR2.stored q.length (.slice A5 (p.length + 1) c5)
 have hgs := gb_set w' g q.length (.slice A5 (p.length + 1) c5)
 have hap2 : ApartV (.slice A5 (p.length + 1) c5) (.slice (some ⟨g, 0, none⟩) (q.length + 1) c) := (hap.symm.grown hR hX hat).symm
 refine ⟨vs, .slice A5 (p.length + 1) c5, hv, ?_, ?_, hap2, fun i v y h1 h2 => ?_⟩
 ·
  have h := hst.1
  have e : (vs ++ [L]).set q.length (.slice A5 (p.length + 1) c5) = vs ++ [.slice A5 (p.length + 1) c5] := by
   rw [← hv, List.set_append_right _ _ (Nat.le_refl _), Nat.sub_self]; rfl
  rwa [e] at h
 ·
  rw [List.length_append]
  have := own_apart (v := .slice (some ⟨g, 0, none⟩) (q.length + 1) c) hown hgs hap2
  rw [runes_append]; exact this
 ·
  have h := hf i v y h1 h2
  obtain ⟨_, _, _, _, hlt, h3, h4⟩ := id h
  have k1 := h.keep (R' := .slice (some ⟨g, 0, none⟩) (q.length + 1) c) (L' := .slice A5 (p.length + 1) c5) hg (apart_row h4) id (fun h4 => apart_newer h4 hlt hX hat)
  exact k1.keep hgs (fun k hk e => h3 k hk e) id id
theorem RowsI.keep {w w' : World} {B : Nat} {R : Value} {q : List (List Int)} {p : List Int} (h : RowsI w B R q p) (hb : Below w.heap.size w w') : RowsI w' B R q p := by
 obtain ⟨vs, L, hv, hR, hL, hap, hf⟩ := h.ex
 refine ⟨vs, L, hv, own_below hR hb (Nat.le_refl _), own_below hL hb (Nat.le_refl _), hap, fun i v x h1 h2 => ?_⟩
 obtain ⟨A, c, e, hr, hlt, h3, h4⟩ := hf i v x h1 h2
 exact ⟨A, c, e, hr.next hb, fun b hb' => Nat.lt_of_lt_of_le (hlt b hb') hb.size, h3, h4⟩
theorem RowsI.at_ {w : World} {B : Nat} {R : Value} {q : List (List Int)} {p : List Int} (h : RowsI w B R q p) {i : Nat} {x : List Int} (hx : (q ++ [p])[i]? = some x) :
  ∃ g A c cR, R = .slice (some ⟨g, 0, none⟩) (q.length + 1) cR ∧ w.cell? ⟨g, i, none⟩ = some (.slice A x.length c) ∧ Rd w w.heap.size A (runes x) ∧ g < w.heap.size := by
 obtain ⟨vs, L, hv, hR, hL, hap, hf⟩ := h.ex
 obtain ⟨g, cR, rfl, _, hg⟩ := hR.form (by omega)
 have hi : i < q.length + 1 := by
  have := (List.getElem?_eq_some_iff.1 hx).1
  rw [List.length_append] at this
  simpa using this
 have hc := hR.cellAt i (by omega)
 by_cases hq : i < q.length
 ·
  rw [List.getElem?_append_left hq] at hx
  rw [List.getElem?_append_left (by omega)] at hc
  obtain ⟨v, hvi⟩ : ∃ v, vs[i]? = some v := ⟨vs[i]'(by omega), List.getElem?_eq_getElem (by omega)⟩
  obtain ⟨A, c, rfl, hr, _, _, _⟩ := hf i v x hvi hx
  exact ⟨g, A, c, cR, rfl, by rw [hc, hvi], hr, hg⟩
 ·
  obtain rfl : i = q.length := by omega
  rw [List.getElem?_append_right (Nat.le_refl _), Nat.sub_self] at hx
  rw [← hv, List.getElem?_append_right (Nat.le_refl _), Nat.sub_self] at hc
  injection hx with hx
  subst hx
  obtain ⟨A, c, rfl, _, _, hr⟩ := own_rd hL
  exact ⟨g, A, c, cR, rfl, by rw [← hv, hc]; rfl, hr, hg⟩
theorem rlab_is (x : List Int) : ∃ (S : List UInt8) (ok : Bool), rlabV x = .tuple #[.string (str S), .bool ok] ∧ dLab x = (if ok = true then some S else none) ∧ S.length ≤ x.length + 2000 := by
 unfold rlabV dLab
 by_cases hw : dWide x = true
 ·
  rw [if_pos hw, if_pos hw]
  cases e : puny x with
  | none => exact ⟨dMark, false, rfl, rfl, by simp [dMark]⟩
  | some s => exact ⟨dMark ++ s, true, rfl, rfl, by have := puny_len e; simp [dMark]; omega⟩
 ·
  rw [if_neg hw, if_neg hw]
  exact ⟨x.map byteOf, dLow (x.map byteOf), rfl, rfl, by simp⟩
theorem dGo_fail {f : Bool} {x : List Int} {r : List (List Int)} {S : List UInt8} {ok : Bool} (h : dLab x = (if ok = true then some S else none)) (hb : ok = false ∨ 63 < S.length ∨ (S = [] ∧ (r ≠ [] ∨ f = true))) : dGo f (x :: r) = none := by
 rw [dGo, h]
 cases ok with
 | false => rfl
 | true =>
  simp only [if_true]
  rw [if_pos]
  rcases hb with h | h | h
  · cases h
  · exact .inl h
  · exact .inr h
theorem dGo_good {f : Bool} {x : List Int} {r : List (List Int)} {S : List UInt8} (h : dLab x = some S) (h1 : ¬ 63 < S.length) (h2 : ¬ (S = [] ∧ (r ≠ [] ∨ f = true))) : dGo f (x :: r) = (dGo false r).map (S :: ·) := by
 rw [dGo, h]
 simp only
 rw [if_neg]
 rintro (h | h)
 · exact h1 h
 · exact h2 h
theorem join_snoc (L : List (List UInt8)) (s : List UInt8) : Lib.join (L ++ [s]) [46] = if L = [] then s else Lib.join L [46] ++ [46] ++ s := by
 by_cases h : L = []
 · rw [if_pos h, h]; exact Lib.join_one _ _
 · rw [if_neg h, join_append h (by simp), Lib.join_one]; simp
theorem go_ne {P : List (List Int)} {L : List (List UInt8)} (hP : P ≠ []) (h : dGo true P = some L) : Lib.join L [46] ≠ [] := by
 cases P with
 | nil => exact absurd rfl hP
 | cons p r =>
  obtain ⟨s, M, rfl, _, _, h3, _⟩ := dGo_parts h
  intro e
  have hs : s = [] := by
   cases M with
   | nil => rwa [Lib.join_one] at e
   | cons m M =>
    have e2 : Lib.join (s :: m :: M) [46] = s ++ 46 :: Lib.join (m :: M) [46] := by simp [Lib.join, List.intercalate]
    rw [e2] at e
    cases s <;> simp at e
  exact absurd (h3 hs).2 (by decide)
theorem ascii_rows {b : List UInt8} (h : ¬ 400 < b.length) : dASCII b = if (65533 : Int) ∈ dText b then none else match dGo true (cutZ (dText b)) with
  | none => none
  | some L => dEnd (Lib.join L [46]) := by
 unfold dASCII
 rw [if_neg h]
 by_cases h2 : (65533 : Int) ∈ dText b
 · rw [if_pos h2, if_pos h2]
 ·
  rw [if_neg h2, if_neg h2]
  unfold dNames
  cases dGo true (cutZ (dText b)) <;> rfl
theorem cutZ_last {l : List Int} {j : Nat} {x : Int} {q : List (List Int)} {p : List Int} (h : cutZ (l.take j) = q ++ [p]) (hx : l[j]? = some x) :
  (x = 46 → cutZ (l.take (j + 1)) = (q ++ [p]) ++ [[]]) ∧ (x ≠ 46 → cutZ (l.take (j + 1)) = q ++ [p ++ [x]]) := by
 obtain ⟨hj, e⟩ := List.getElem?_eq_some_iff.1 hx
 rw [take_snoc' l j hj, e]
 constructor
 ·
  intro h46
  rw [h46, cutZ_snoc_hit, h]
 ·
  intro h46
  obtain ⟨q0, l0, e1, e2⟩ := cutZ_snoc h46 (l.take j)
  rw [h] at e1
  obtain ⟨h1, h2⟩ := List.append_inj' e1 rfl
  injection h2 with h2
  rw [e2, ← h1, ← h2]
end Go.Proofs.YtoapelcofjjdnaaGreatDoor
namespace Go.Proofs.YtoapelcofjjdnaaGreatDoor
set_option linter.all false
open Go.RowKit
def dSet6 : List UInt8 := [35, 47, 58, 60, 62, 63, 64, 91, 92, 93, 94, 124, 37]
structure OutI (P : List (List Int)) (j : Nat) (L : List (List UInt8)) : Prop where
 len : L.length = j
 val : dGo true P = (dGo (decide (j = 0)) (P.drop j)).map (L ++ ·)
 small : ∀ s ∈ L, s.length ≤ 63
theorem OutI.start (P : List (List Int)) : OutI P 0 [] := ⟨rfl, by simp, by simp⟩
theorem OutI.here {P : List (List Int)} {j : Nat} {L : List (List UInt8)} {x : List Int} (h : OutI P j L) (hx : P[j]? = some x) : dGo true P = (dGo (decide (j = 0)) (x :: P.drop (j + 1))).map (L ++ ·) := by
 obtain ⟨hj, e⟩ := List.getElem?_eq_some_iff.1 hx
 rw [h.val, List.drop_eq_getElem_cons hj, e]
theorem OutI.fail {P : List (List Int)} {j : Nat} {L : List (List UInt8)} {x : List Int} {S : List UInt8} {ok : Bool} (h : OutI P j L) (hx : P[j]? = some x) (hl : dLab x = (if ok = true then some S else none))
  (hb : ok = false ∨ 63 < S.length ∨ (S = [] ∧ (j + 1 ≠ P.length ∨ j = 0))) : dGo true P = none := by
 obtain ⟨hj, e⟩ := List.getElem?_eq_some_iff.1 hx
 rw [h.here hx, dGo_fail hl]
 · rfl
 ·
  rcases hb with h | h | ⟨h1, h2⟩
  · exact .inl h
  · exact .inr (.inl h)
  ·
   refine .inr (.inr ⟨h1, ?_⟩)
   rcases h2 with h2 | h2
   ·
    left
    intro e
    have := congrArg List.length e
    rw [List.length_drop, List.length_nil] at this
    omega
   · exact .inr (decide_eq_true h2)
theorem OutI.next {P : List (List Int)} {j : Nat} {L : List (List UInt8)} {x : List Int} {S : List UInt8} (h : OutI P j L) (hx : P[j]? = some x) (hl : dLab x = some S) (h63 : ¬ 63 < S.length) (h0 : ¬ (S = [] ∧ (j + 1 ≠ P.length ∨ j = 0))) : OutI P (j + 1) (L ++ [S]) := by
 obtain ⟨hj, e⟩ := List.getElem?_eq_some_iff.1 hx
 refine ⟨by rw [List.length_append, h.len]; rfl, ?_, ?_⟩
 ·
  rw [h.here hx, dGo_good hl h63]
  ·
   rw [Option.map_map]
   have e0 : decide (j + 1 = 0) = false := rfl
   rw [e0]
   congr 1
   funext z
   simp
  ·
   rintro ⟨h1, h2⟩
   refine h0 ⟨h1, ?_⟩
   rcases h2 with h2 | h2
   ·
    left
    intro e2
    exact h2 (List.drop_eq_nil_of_le (by omega))
   · exact .inr (of_decide_eq_true h2)
 ·
  intro s hs
  rcases List.mem_append.1 hs with hs | hs
  · exact h.small s hs
  · rw [List.mem_singleton.1 hs]; omega
theorem OutI.done {P : List (List Int)} {L : List (List UInt8)} (h : OutI P P.length L) : dGo true P = some L := by
 rw [h.val, List.drop_length]
 show some (L ++ []) = _
 rw [List.append_nil]
theorem OutI.joinLen {P : List (List Int)} {j : Nat} {L : List (List UInt8)} (h : OutI P j L) : (Lib.join L [46]).length ≤ 64 * j := by
 have := join63 L h.small
 rw [h.len] at this; exact this
theorem trim_len {s : List UInt8} (h : s ≠ []) : ((dTrim s).length : Int) = if gb s (s.length - 1) = 46 then (s.length : Int) - 1 else (s.length : Int) := by
 have hp : 0 < s.length := List.length_pos_iff.2 h
 have hl : s.getLast? = some (gb s (s.length - 1)) := by
  rw [List.getLast?_eq_getElem?]
  exact gb_some (by omega)
 unfold dTrim
 rw [hl]
 by_cases e : gb s (s.length - 1) = 46
 · rw [if_pos (by rw [e]), if_pos e, List.length_dropLast]; omega
 · rw [if_neg (by simpa using e), if_neg e]
set_option maxRecDepth 100000 in
set_option maxHeartbeats 16000000 in
theorem rascii_any (A : Option Addr) (c : Nat) (b : List UInt8) (w : World) (hr : Rd w w.heap.size A (bytes b)) (hc : b.length ≤ c) (hcm : c ≤ maxLen) :
  Calls Tryz.prog 69 #[.slice A b.length c] w fun e w' => e = .returned (nameV (dASCII b)) ∧ Below w.heap.size w w' := by
 by_cases h400 : 400 < b.length
 ·
  have hI : (400 : Int) < (b.length : Int) := by omega
  have HE := Lib.hid (show dASCII b = none from if_pos h400)
  clear h400
  go_enter Tryz.func69, Tryz.ntmps69
  go_wp2
  go_ret2
  rw [HE.out]
  exact ⟨rfl, Below.refl _ _⟩
 ·
  have hI : ¬ (400 : Int) < (b.length : Int) := by omega
  have CD := Lib.hid (rdecode_any A c b w hr hc hcm (by omega))
  have hul := uDec_len_le b
  have CT := Lib.hid fun A c w (h : Rd w w.heap.size A (runes (uDec b))) => rtext_any A c (uDec b) w h (by omega)
  have htl := text_low b
  have HE := Lib.hid (ascii_rows h400)
  have H0 := Lib.hid fun x (hx : x ∈ dText b) => dText_low hx
  obtain ⟨l, hl⟩ : ∃ l, l = dText b := ⟨_, rfl⟩
  have HT := Lib.hid (show fText (uDec b) = l from hl.symm)
  rw [HT.out] at CT
  rw [← hl] at HE H0 htl
  clear hl HT h400
  go_enter Tryz.func69, Tryz.ntmps69
  go_wp2_with (first
   | (go_at_call 107; go_must (go_fit CD.out); rintro e w1 ⟨v1, rfl, hown1, hb1⟩; rw [runes_len] at hown1; obtain ⟨A1, c1, rfl, hc1, hm1, hx1⟩ := own_rd hown1)
   | (go_at_call 106; go_must (go_fit (CT.out A1 c1 w1 hx1)); rintro e w2 ⟨v2, rfl, hown2, hb2⟩; rw [runes_len] at hown2; obtain ⟨A2, c2, rfl, hc2, hm2, hx2⟩ := own_rd hown2; have hb12 := bnext hb1 hb2))
  have hrs := rows_start w2
  have hbs : Below w2.heap.size w2 (w2.alloc (.cells #[.slice none 0 0] 127)) := (Below.refl _ _).alloc (Nat.le_refl _) _
  go_loopg [5, 6] (l.length) (fun m s5 i wr => ∃ (j : Nat) (q : List (List Int)) (p : List Int), m = l.length - j ∧ j ≤ l.length ∧ i = .int .i64 j ∧ Hid (cutZ (l.take j) = q ++ [p]) ∧ Hid ((65533 : Int) ∉ l.take j) ∧ q.length + p.length ≤ j ∧ RowsI wr w2.heap.size s5 q p ∧ Below w2.heap.size w2 wr)
  case atStart => exact ⟨0, [], [], rfl, Nat.zero_le _, rfl, rfl, (fun h => by cases h), Nat.le_refl _, hrs, hbs⟩
  case round =>
   clear hrs hbs
   obtain ⟨j, q, p, rfl, hj, rfl, hcut, hno, hsm, hrows, hbel⟩ := hrel
   have hq0 := hbel.size
   by_cases hlt : j < l.length
   ·
    obtain ⟨bk, off, x, rfl, hbk, hcx, hx⟩ := (hx2.below hbel).rune_at hlt
    have hlt1 : (j : Int) < (l.length : Int) := by omega
    have hj0 : (0 : Int) ≤ (j : Int) := by omega
    by_cases h65 : x = 65533
    ·
     subst h65
     have HE2 := Lib.hid (HE.out.trans (if_pos (List.mem_of_getElem? hx.out)))
     go_wp2
     go_ret2
     rw [HE2.out]
     exact ⟨rfl, hb12.trans (hbel.mono hb12.size)⟩
    ·
     have hb65 : (x == 65533) = false := by rw [beq_eq_false_iff_ne]; exact h65
     have HNO := Lib.hid (idx_next hx.out hno.out h65)
     have HCL := Lib.hid (cutZ_last hcut.out hx.out)
     obtain ⟨vs, L, hv, hR, hL, hap, hf⟩ := hrows.ex
     obtain ⟨g, cR, rfl, hg0, hg1⟩ := hR.form (by omega)
     clear h65
     by_cases h46 : x = 46
     ·
      subst h46
      have HC2 := Lib.hid (HCL.out.1 rfl)
      go_wp2_with (at_builtin; refine wpList_append_litAt rfl _ _ _ rfl w2.heap.size _ _ 1 24 Tryz.underlying130 info_sl rfl (by decide) _ _ _ rfl hR _ 1 1 _ rfl rfl (by simp [Value.oneCell']) (by omega) (by decide) (by omega) ?_; intro A5 c5 w5 hc5 hm5 hown5 hb5 hg5 hat5)
      go_roundg (l.length - (j + 1))
      case measure => omega
      case rel => exact ⟨j + 1, q ++ [p], [], rfl, by omega, by go_num, HC2.out, HNO.out, by simp; omega, RowsI.push hv hL hap hf hg5 (Nat.le_succ _) hat5 hown5, hbel.trans hb5⟩
     ·
      have hb46 : (x == 46) = false := by rw [beq_eq_false_iff_ne]; exact h46
      have HC2 := Lib.hid (HCL.out.2 h46)
      clear h46
      have hcell := hR.cellAt q.length (by omega)
      rw [← hv, List.getElem?_append_right (Nat.le_refl _), Nat.sub_self] at hcell
      replace hcell : wr.cell? ⟨g, vs.length, none⟩ = some L := hcell
      rw [hv] at hcell
      have hfrz := hR.frozenAt q.length
      obtain ⟨A3, c3, rfl, hc3, hm3⟩ := own_shape hL
      have hpl : (runes p).length = p.length := runes_len p
      have hw1 : IntKind.i64.wrap (q.length : Int) = (q.length : Int) := IntWalk.i64_in _ (by omega)
      have hw2 : (0 : Int) ≤ (q.length : Int) := by omega
      have hw3 : (q.length : Int) < (q.length : Int) + 1 := by omega
      have hw4 : IntKind.i64.wrap ((j : Int) + 1) = (j : Int) + 1 := IntWalk.i64_in _ (by omega)
      go_wp2
      go_region_law (refine step_append_cellsAt rfl _ _ _ rfl w2.heap.size _ _ 1 4 Tryz.underlying127 info_i32u rfl (by decide) (.slice A3 p.length c3) _ _ rfl (hL.alloc _) wr.heap.size #[.int .i32 x] 1 1 21 (0, 0) rfl (heap_alloc_new wr _) rfl (by simp [Value.oneCell']) (by omega) (by decide) (by simp; omega) ?_; intro A5 c5 w5 hc5 hm5 hown5 hb5' hg5' hat5; rw [show (wr.alloc (.cells #[.int .i32 x] 21)).drew.heap.size = wr.heap.size + 1 by simp] at hat5; have hg5 := World.grownBy.trans ((gb_allocD wr (.cells #[.int .i32 x] 21)).but _) hg5'; have hR5 := own_apart hR hg5 hap.symm; have hcell5 := hR5.cellAt q.length (by omega); have hfrz5 := hR5.frozenAt q.length)
      all_goals (try go_wp2)
      all_goals go_roundg (l.length - (j + 1))
      all_goals first
       | (case measure => omega)
       | (case rel => exact ⟨j + 1, q, p ++ [x], rfl, by omega, by go_num, HC2.out, HNO.out, by simp; omega, RowsI.more hv hR hL hap hf hg5 (Nat.le_succ _) hat5 hown5, Below.setCell (hbel.trans (((Below.refl _ _).alloc hq0 _).drew.trans hb5')) (p := ⟨g, q.length, none⟩) hg0 _⟩)
   ·
    obtain rfl : j = l.length := by omega
    rw [List.take_length] at hcut hno
    have HE3 := Lib.hid (show dASCII b = match dGo true (cutZ l) with | none => none | some L => dEnd (Lib.join L [46]) from HE.out.trans (if_neg hno.out))
    rw [hcut.out] at HE3
    have HPL := Lib.hid fun x (hx : x ∈ q ++ [p]) => (show x.length ≤ l.length by rw [← hcut.out] at hx; exact cutZ_part_len l x hx)
    have HP0 := Lib.hid fun x (hx : x ∈ q ++ [p]) y (hy : y ∈ x) => H0.out y (by rw [← hcut.out] at hx; exact (cutZ_mem l x hx).2 y hy)
    obtain ⟨N, hN⟩ : ∃ N, N = q.length + 1 := ⟨_, rfl⟩
    have hPN : (q ++ [p]).length = N := by rw [hN, List.length_append]; rfl
    obtain ⟨vs, L0, hv, hR, hL, hap, hf⟩ := hrows.ex
    obtain ⟨g, cR, rfl, hg0, hg1⟩ := hR.form (by omega)
    clear hR hL hap hf hv vs L0
    rw [← hN] at hrows ⊢
    have HNN := Lib.hid hN
    have hN4 : N ≤ 401 := by omega
    have hN0 : 0 < N := by omega
    obtain ⟨P, hP⟩ : ∃ P, P = q ++ [p] := ⟨_, rfl⟩
    have HP := Lib.hid hP
    rw [← hP] at HE3 HPL HP0 hPN
    clear hN hP hlt
    have hbW := hb12.trans (hbel.mono hb12.size)
    have hqW := hbW.size
    go_wp2
    obtain ⟨wa, hwa⟩ : ∃ wa, wa = wr := ⟨_, rfl⟩
    subst hwa
    go_loopg [7, 8] N (fun m s7 i w4 => ∃ (j : Nat) (L : List (List UInt8)), m = N - j ∧ j ≤ N ∧ i = .int .i64 j ∧ s7 = .string (str (Lib.join L [46])) ∧ Hid (OutI P j L) ∧ Below wa.heap.size wa w4)
    case atStart => exact ⟨0, [], rfl, Nat.zero_le _, rfl, rfl, OutI.start P, Below.refl _ _⟩
    case round =>
     obtain ⟨j, L, rfl, hj, rfl, rfl, hout, hbel4⟩ := hrel
     have hJl := hout.out.joinLen
     obtain ⟨J, hJ⟩ : ∃ J, J = Lib.join L [46] := ⟨_, rfl⟩
     rw [← hJ] at hJl ⊢
     have HJ := Lib.hid hJ
     clear hJ
     have hyJ := str_size J
     by_cases hlt : j < N
     ·
      have hlt1 : (j : Int) < (N : Int) := by omega
      have hj0 : (0 : Int) ≤ (j : Int) := by omega
      obtain ⟨x, hx⟩ : ∃ x, P[j]? = some x := ⟨P[j]'(by omega), List.getElem?_eq_getElem (by omega)⟩
      have HX := Lib.hid hx
      have hx' := hx
      rw [HP.out] at hx'
      obtain ⟨g', A4, c4, cR', eR, hcell4, hrd4, hg4⟩ := (hrows.keep hbel4).at_ hx'
      injection eR with eR1 eR2 eR3
      injection eR1 with eR1
      injection eR1 with eR1
      subst eR1 eR3
      clear eR2
      have hxl := HPL.out x (List.mem_of_getElem? hx)
      have hx0 := HP0.out x (List.mem_of_getElem? hx)
      obtain ⟨S, ok, hV, hD, hSl⟩ := rlab_is x
      have CL := Lib.hid (rlabel_any A4 c4 x wr hrd4 (by omega) hx0)
      rw [hV] at CL
      have hyS := str_size S
      have hw1 : IntKind.i64.wrap ((N : Int) - 1) = (N : Int) - 1 := IntWalk.i64_in _ (by omega)
      have hw4 : IntKind.i64.wrap ((j : Int) + 1) = (j : Int) + 1 := IntWalk.i64_in _ (by omega)
      have HF := Lib.hid fun h => (show dASCII b = none by rw [HE3.out, hout.out.fail HX.out hD h])
      have HG := Lib.hid fun (h : ok = true) h1 h2 => hout.out.next HX.out (hD.trans (if_pos h)) h1 h2
      clear hx hx' hV hD hrd4
      cases ok with
      | false =>
       have HN := Lib.hid (HF.out (.inl rfl))
       go_wp2_with (go_at_call 108; go_must (go_fit CL.out); rintro e w5 ⟨rfl, hb5⟩)
       go_ret2
       rw [HN.out]
       exact ⟨rfl, hbW.trans ((bnext hbel4 hb5).mono hqW)⟩
      | true =>
       by_cases h63 : 63 < S.length
       ·
        have HN := Lib.hid (HF.out (.inr (.inl h63)))
        have h63I : (63 : Int) < (S.length : Int) := by omega
        clear h63
        go_wp2_with (go_at_call 108; go_must (go_fit CL.out); rintro e w5 ⟨rfl, hb5⟩)
        go_ret2
        rw [HN.out]
        exact ⟨rfl, hbW.trans ((bnext hbel4 hb5).mono hqW)⟩
       ·
        have h63I : ¬ (63 : Int) < (S.length : Int) := by omega
        by_cases hS0 : S = []
        ·
         have hS1 : ((S.length : Int) == 0) = true := by rw [hS0]; rfl
         by_cases hl : j + 1 = N
         ·
          have hlst : ((j : Int) == (N : Int) - 1) = true := by rw [beq_iff_eq]; omega
          by_cases hj1 : j = 0
          ·
           have HN := Lib.hid (HF.out (.inr (.inr ⟨hS0, .inr hj1⟩)))
           have hjI : ¬ (0 : Int) < (j : Int) := by omega
           have hjN : ¬ 0 < j := by omega
           clear h63 hS0 hl hj1
           go_wp2_with (go_at_call 108; go_must (go_fit CL.out); rintro e w5 ⟨rfl, hb5⟩)
           go_ret2
           rw [HN.out]
           exact ⟨rfl, hbW.trans ((bnext hbel4 hb5).mono hqW)⟩
          ·
           have HO := Lib.hid (HG.out rfl h63 (by rintro ⟨_, h | h⟩; exact h (by omega); exact hj1 h))
           have hjI : (0 : Int) < (j : Int) := by omega
           have hjN : 0 < j := by omega
           have hLj := hout.out.len
           have HJ2 := Lib.hid (show Lib.join (L ++ [S]) [46] = J ++ [46] ++ S by rw [join_snoc, if_neg (by intro e; rw [e] at hLj; exact hj1 hLj.symm), HJ.out])
           obtain ⟨T1, hT1⟩ : ∃ Z0, Z0 = J ++ [46] := ⟨_, rfl⟩
           have eT1 : str J ++ { data := #[46] } = str T1 := (str_app J [46]).trans (by rw [hT1])
           have nT1 : T1.length ≤ 30001 := by rw [hT1, List.length_append]; simp only [List.length_cons, List.length_nil]; omega
           have yT1 := str_size T1
           have kT1 : (9223372036854775807 < J.length + 1) = False := eq_false (by omega)
           obtain ⟨T2, hT2⟩ : ∃ Z0, Z0 = T1 ++ S := ⟨_, rfl⟩
           have eT2 : str T1 ++ str S = str T2 := (str_app T1 S).trans (by rw [hT2])
           have nT2 : T2.length ≤ 30100 := by rw [hT2, List.length_append]; omega
           have yT2 := str_size T2
           have kT2 : (9223372036854775807 < T1.length + S.length) = False := eq_false (by omega)
           have HT := Lib.hid (show T2 = Lib.join (L ++ [S]) [46] by rw [hT2, hT1, HJ2.out])
           clear h63 hS0 hl hj1 hT1 hT2
           go_wp2_with (go_at_call 108; go_must (go_fit CL.out); rintro e w5 ⟨rfl, hb5⟩)
           go_roundg (N - (j + 1))
           case measure => omega
           case rel => exact ⟨j + 1, L ++ [S], rfl, by omega, by go_num, by rw [HT.out], HO.out, bnext hbel4 hb5⟩
         ·
          have hlst : ((j : Int) == (N : Int) - 1) = false := by rw [beq_eq_false_iff_ne]; omega
          have HN := Lib.hid (HF.out (.inr (.inr ⟨hS0, .inl (by omega)⟩)))
          clear h63 hS0 hl
          go_wp2_with (go_at_call 108; go_must (go_fit CL.out); rintro e w5 ⟨rfl, hb5⟩)
          go_ret2
          rw [HN.out]
          exact ⟨rfl, hbW.trans ((bnext hbel4 hb5).mono hqW)⟩
        ·
         have hS1 : ((S.length : Int) == 0) = false := by
          rw [beq_eq_false_iff_ne]
          exact fun e => hS0 (List.eq_nil_of_length_eq_zero (by omega))
         have HO := Lib.hid (HG.out rfl h63 (fun e => hS0 e.1))
         have hLj := hout.out.len
         by_cases hj1 : j = 0
         ·
          subst hj1
          have HJ2 := Lib.hid (show Lib.join (L ++ [S]) [46] = J ++ S by rw [join_snoc, List.eq_nil_of_length_eq_zero hLj, if_pos rfl, HJ.out, List.eq_nil_of_length_eq_zero hLj]; rfl)
          obtain ⟨T2, hT2⟩ : ∃ Z0, Z0 = J ++ S := ⟨_, rfl⟩
          have eT2 : str J ++ str S = str T2 := (str_app J S).trans (by rw [hT2])
          have nT2 : T2.length ≤ 30100 := by rw [hT2, List.length_append]; omega
          have yT2 := str_size T2
          have kT2 : (9223372036854775807 < J.length + S.length) = False := eq_false (by omega)
          have HT := Lib.hid (show T2 = Lib.join (L ++ [S]) [46] by rw [hT2, HJ2.out])
          clear h63 hS0 hT2
          go_wp2_with (go_at_call 108; go_must (go_fit CL.out); rintro e w5 ⟨rfl, hb5⟩)
          go_roundg (N - (0 + 1))
          case measure => omega
          case rel => exact ⟨0 + 1, L ++ [S], rfl, by omega, by go_num, by rw [HT.out], HO.out, bnext hbel4 hb5⟩
         ·
          have hjI : (0 : Int) < (j : Int) := by omega
          have HJ2 := Lib.hid (show Lib.join (L ++ [S]) [46] = J ++ [46] ++ S by rw [join_snoc, if_neg (by intro e; rw [e] at hLj; exact hj1 hLj.symm), HJ.out])
          obtain ⟨T1, hT1⟩ : ∃ Z0, Z0 = J ++ [46] := ⟨_, rfl⟩
          have eT1 : str J ++ { data := #[46] } = str T1 := (str_app J [46]).trans (by rw [hT1])
          have nT1 : T1.length ≤ 30001 := by rw [hT1, List.length_append]; simp only [List.length_cons, List.length_nil]; omega
          have yT1 := str_size T1
          have kT1 : (9223372036854775807 < J.length + 1) = False := eq_false (by omega)
          obtain ⟨T2, hT2⟩ : ∃ Z0, Z0 = T1 ++ S := ⟨_, rfl⟩
          have eT2 : str T1 ++ str S = str T2 := (str_app T1 S).trans (by rw [hT2])
          have nT2 : T2.length ≤ 30100 := by rw [hT2, List.length_append]; omega
          have yT2 := str_size T2
          have kT2 : (9223372036854775807 < T1.length + S.length) = False := eq_false (by omega)
          have HT := Lib.hid (show T2 = Lib.join (L ++ [S]) [46] by rw [hT2, hT1, HJ2.out])
          clear h63 hS0 hj1 hT1 hT2
          go_wp2_with (go_at_call 108; go_must (go_fit CL.out); rintro e w5 ⟨rfl, hb5⟩)
          go_roundg (N - (j + 1))
          case measure => omega
          case rel => exact ⟨j + 1, L ++ [S], rfl, by omega, by go_num, by rw [HT.out], HO.out, bnext hbel4 hb5⟩
     ·
      obtain rfl : j = N := by omega
      have hdone := (by have h := hout.out; rw [← hPN] at h; exact h.done : dGo true P = some L)
      have hne := go_ne (by intro e; rw [e] at hPN; simp at hPN; omega) hdone
      rw [← HJ.out] at hne
      have HE4 := Lib.hid (show dASCII b = if J.any dNo = true ∨ 253 < (dTrim J).length then none else some J by rw [HE3.out, hdone, HJ.out]; rfl)
      have htr := trim_len hne
      have hgJ := str_get J
      have hJp : 0 < J.length := List.length_pos_iff.2 hne
      obtain ⟨M, hM⟩ : ∃ M, M = J.length - 1 := ⟨_, rfl⟩
      have hMI : (J.length : Int) - 1 = (M : Int) := by omega
      have hMw : IntKind.i64.wrap (M : Int) = (M : Int) := IntWalk.i64_in _ (by omega)
      have hM0 : (0 : Int) ≤ (M : Int) := by omega
      have hM1 : (M : Int) < (J.length : Int) := by omega
      have hgM := hgJ M (by rw [hyJ]; exact Int.ofNat_lt.1 hM1)
      rw [← hM] at htr
      clear hdone hne hlt hM
      by_cases h46 : gb J M = 46
      ·
       have hc46 : (((gb J M).toNat : Int) == 46) = true := by rw [h46]; rfl
       rw [if_pos h46, hMI] at htr
       have HTR := Lib.hid htr
       clear htr h46
       go_wp2
       go_loopg [13] (J.length) (fun m i w5 => ∃ k : Nat, m = J.length - k ∧ k ≤ J.length ∧ i = .int .i64 k ∧ Hid ((J.take k).any dNo = false) ∧ wr = w5)
       case atStart => exact ⟨0, rfl, Nat.zero_le _, rfl, rfl, rfl⟩
       case round =>
        obtain ⟨k, rfl, hk, rfl, hany, rfl⟩ := hrel
        by_cases hlt3 : k < J.length
        ·
         have hk1 : (k : Int) < (J.length : Int) := by omega
         have hk0 : (0 : Int) ≤ (k : Int) := by omega
         have hgk := gb_some hlt3
         obtain ⟨ch, hch⟩ : ∃ ch, ch = gb J k := ⟨_, rfl⟩
         have hgc := hgJ k (by rw [hyJ]; exact hlt3)
         rw [← hch] at hgk hgc
         have HGK := Lib.hid hgk
         clear hgk
         by_cases c1 : (ch.toNat : Int) ≤ 32
         ·
          have HN := Lib.hid (show dASCII b = none by rw [HE4.out]; exact if_pos (.inl (any_hereD HGK.out (by unfold dNo; rw [decide_eq_true (.inl (by omega))]; rfl))))
          rw [hch] at c1
          go_wp2
          go_ret2
          rw [HN.out]
          exact ⟨rfl, hbW.trans (hbel4.mono hqW)⟩
         ·
          by_cases c2 : ch.toNat = 127
          ·
           have HN := Lib.hid (show dASCII b = none by rw [HE4.out]; exact if_pos (.inl (any_hereD HGK.out (by unfold dNo; rw [decide_eq_true (.inr c2)]; rfl))))
           have c2' : ((ch.toNat : Int) == 127) = true := by rw [c2]; rfl
           rw [hch] at c1 c2'
           clear c2
           go_wp2
           go_ret2
           rw [HN.out]
           exact ⟨rfl, hbW.trans (hbel4.mono hqW)⟩
          ·
           have c2' : ((ch.toNat : Int) == 127) = false := by rw [beq_eq_false_iff_ne]; omega
           have HD := Lib.hid (show dNo ch = dSet6.contains ch by unfold dNo; rw [decide_eq_false (by omega)]; rfl)
           have CH := Lib.hid fun w => has6_any dSet6 ch w (by decide)
           rw [← HD.out] at CH
           rw [hch] at c1 c2'
           clear c2
           by_cases c3 : dNo ch = true
           ·
            have HN := Lib.hid (show dASCII b = none by rw [HE4.out]; exact if_pos (.inl (any_hereD HGK.out c3)))
            rw [c3] at CH
            rw [hch] at CH
            clear c3
            go_wp2_with (go_at_call 68; go_must (go_fit (CH.out _)); rintro e w6 ⟨rfl, rfl⟩)
            go_ret2
            rw [HN.out]
            exact ⟨rfl, hbW.trans (hbel4.mono hqW)⟩
           ·
            have c3' : dNo ch = false := by simpa using c3
            have HA := Lib.hid (any_takeD HGK.out hany.out c3')
            rw [c3'] at CH
            rw [hch] at CH
            clear c3 c3'
            go_wp2_with (go_at_call 68; go_must (go_fit (CH.out _)); rintro e w6 ⟨rfl, rfl⟩)
            go_roundg (J.length - (k + 1))
            case measure => omega
            case rel => exact ⟨k + 1, rfl, by omega, by go_num, HA.out, rfl⟩
        ·
         obtain rfl : k = J.length := by omega
         rw [List.take_length] at hany
         by_cases hbig : 253 < (dTrim J).length
         ·
          have HN := Lib.hid (show dASCII b = none by rw [HE4.out]; exact if_pos (.inr hbig))
          have hb1 : (253 : Int) < (M : Int) := by rw [← HTR.out]; omega
          clear hbig
          go_wp2
          go_ret2
          rw [HN.out]
          exact ⟨rfl, hbW.trans (hbel4.mono hqW)⟩
         ·
          have HN := Lib.hid (show dASCII b = some J by rw [HE4.out]; exact if_neg (by rintro (h | h); rw [hany.out] at h; cases h; exact hbig h))
          have hb1 : ¬ (253 : Int) < (M : Int) := by rw [← HTR.out]; omega
          clear hbig
          go_wp2
          go_ret2
          rw [HN.out]
          exact ⟨rfl, hbW.trans (hbel4.mono hqW)⟩
      ·
       have hc46 : (((gb J M).toNat : Int) == 46) = false := by
        rw [beq_eq_false_iff_ne]
        exact fun e => h46 (byte_ext (by show _ = 46; omega))
       rw [if_neg h46] at htr
       have HTR := Lib.hid htr
       clear htr h46
       go_wp2
       go_loopg [13] (J.length) (fun m i w5 => ∃ k : Nat, m = J.length - k ∧ k ≤ J.length ∧ i = .int .i64 k ∧ Hid ((J.take k).any dNo = false) ∧ wr = w5)
       case atStart => exact ⟨0, rfl, Nat.zero_le _, rfl, rfl, rfl⟩
       case round =>
        obtain ⟨k, rfl, hk, rfl, hany, rfl⟩ := hrel
        by_cases hlt3 : k < J.length
        ·
         have hk1 : (k : Int) < (J.length : Int) := by omega
         have hk0 : (0 : Int) ≤ (k : Int) := by omega
         have hgk := gb_some hlt3
         obtain ⟨ch, hch⟩ : ∃ ch, ch = gb J k := ⟨_, rfl⟩
         have hgc := hgJ k (by rw [hyJ]; exact hlt3)
         rw [← hch] at hgk hgc
         have HGK := Lib.hid hgk
         clear hgk
         by_cases c1 : (ch.toNat : Int) ≤ 32
         ·
          have HN := Lib.hid (show dASCII b = none by rw [HE4.out]; exact if_pos (.inl (any_hereD HGK.out (by unfold dNo; rw [decide_eq_true (.inl (by omega))]; rfl))))
          rw [hch] at c1
          go_wp2
          go_ret2
          rw [HN.out]
          exact ⟨rfl, hbW.trans (hbel4.mono hqW)⟩
         ·
          by_cases c2 : ch.toNat = 127
          ·
           have HN := Lib.hid (show dASCII b = none by rw [HE4.out]; exact if_pos (.inl (any_hereD HGK.out (by unfold dNo; rw [decide_eq_true (.inr c2)]; rfl))))
           have c2' : ((ch.toNat : Int) == 127) = true := by rw [c2]; rfl
           rw [hch] at c1 c2'
           clear c2
           go_wp2
           go_ret2
           rw [HN.out]
           exact ⟨rfl, hbW.trans (hbel4.mono hqW)⟩
          ·
           have c2' : ((ch.toNat : Int) == 127) = false := by rw [beq_eq_false_iff_ne]; omega
           have HD := Lib.hid (show dNo ch = dSet6.contains ch by unfold dNo; rw [decide_eq_false (by omega)]; rfl)
           have CH := Lib.hid fun w => has6_any dSet6 ch w (by decide)
           rw [← HD.out] at CH
           rw [hch] at c1 c2'
           clear c2
           by_cases c3 : dNo ch = true
           ·
            have HN := Lib.hid (show dASCII b = none by rw [HE4.out]; exact if_pos (.inl (any_hereD HGK.out c3)))
            rw [c3] at CH
            rw [hch] at CH
            clear c3
            go_wp2_with (go_at_call 68; go_must (go_fit (CH.out _)); rintro e w6 ⟨rfl, rfl⟩)
            go_ret2
            rw [HN.out]
            exact ⟨rfl, hbW.trans (hbel4.mono hqW)⟩
           ·
            have c3' : dNo ch = false := by simpa using c3
            have HA := Lib.hid (any_takeD HGK.out hany.out c3')
            rw [c3'] at CH
            rw [hch] at CH
            clear c3 c3'
            go_wp2_with (go_at_call 68; go_must (go_fit (CH.out _)); rintro e w6 ⟨rfl, rfl⟩)
            go_roundg (J.length - (k + 1))
            case measure => omega
            case rel => exact ⟨k + 1, rfl, by omega, by go_num, HA.out, rfl⟩
        ·
         obtain rfl : k = J.length := by omega
         rw [List.take_length] at hany
         by_cases hbig : 253 < (dTrim J).length
         ·
          have HN := Lib.hid (show dASCII b = none by rw [HE4.out]; exact if_pos (.inr hbig))
          have hb1 : (253 : Int) < (J.length : Int) := by rw [← HTR.out]; omega
          clear hbig
          go_wp2
          go_ret2
          rw [HN.out]
          exact ⟨rfl, hbW.trans (hbel4.mono hqW)⟩
         ·
          have HN := Lib.hid (show dASCII b = some J by rw [HE4.out]; exact if_neg (by rintro (h | h); rw [hany.out] at h; cases h; exact hbig h))
          have hb1 : ¬ (253 : Int) < (J.length : Int) := by rw [← HTR.out]; omega
          clear hbig
          go_wp2
          go_ret2
          rw [HN.out]
          exact ⟨rfl, hbW.trans (hbel4.mono hqW)⟩
end Go.Proofs.YtoapelcofjjdnaaGreatDoor
namespace Go.Proofs.YtoapelcofjjdnaaGreatDoor
set_option linter.all false
open Go.RowKit
theorem rascii_none {A : Option Addr} {c : Nat} {b : List UInt8} {w : World} (h : dASCII b = none) (hr : Rd w w.heap.size A (bytes b)) (hc : b.length ≤ c) (hcm : c ≤ maxLen) :
  Calls Tryz.prog 69 #[.slice A b.length c] w fun e w' => e = .returned (.tuple #[.string (str []), .int .i64 5]) ∧ Below w.heap.size w w' := by
 have := rascii_any A c b w hr hc hcm
 rwa [h] at this
theorem rascii_some {A : Option Addr} {c : Nat} {b t : List UInt8} {w : World} (h : dASCII b = some t) (hr : Rd w w.heap.size A (bytes b)) (hc : b.length ≤ c) (hcm : c ≤ maxLen) :
  Calls Tryz.prog 69 #[.slice A b.length c] w fun e w' => e = .returned (.tuple #[.string (str t), .int .i64 0]) ∧ Below w.heap.size w w' := by
 have := rascii_any A c b w hr hc hcm
 rwa [h] at this
set_option maxRecDepth 100000 in
set_option maxHeartbeats 4000000 in
theorem rname_any (s : List UInt8) (w : World) (hs : s.length ≤ 100000) (h0 : (¬ (0 : Int) < (s.length : Int)) ∨ ((0 : Int) < (s.length : Int) ∧ (((gb s 0).toNat : Int) == 91) = false)) :
  Calls Tryz.prog 31 #[.string (str s), .bool true] w fun e w' => e = .returned (nameV (hName s)) ∧ Below w.heap.size w w' := by
 have hsz := str_size s
 have hgt := str_get s
 have CD := Lib.hid (plain_any s w hs)
 have hdl := pDec_len_le s
 have HV := Lib.hid (show hName s = (dASCII (pDec s)).bind fun d => if pEnds d = true then (pParse d).map pShow4 else some d from rfl)
 obtain ⟨p, hp⟩ : ∃ p, p = pDec s := ⟨_, rfl⟩
 rw [← hp] at CD hdl HV
 clear hp
 cases ho : dASCII p with
 | none =>
  have CA := Lib.hid fun A c w h h1 h2 => rascii_none (A := A) (c := c) (w := w) ho h h1 h2
  have HN := Lib.hid (show hName s = none by rw [HV.out, ho]; rfl)
  clear ho
  rcases h0 with h0 | ⟨h0, hc0⟩
  all_goals
   go_enter Tryz.func31, Tryz.ntmps31
   go_wp2_with (first
    | (go_at_call 70; go_must (go_fit CD.out); rintro e w1 ⟨v1, rfl, hown1, hb1⟩; rw [bytes_len] at hown1; obtain ⟨A1, c1, rfl, hc1, hm1, hx1⟩ := own_rd hown1)
    | (go_at_call 69; go_must (go_fit (CA.out A1 c1 w1 hx1 hc1 hm1)); rintro e w2 ⟨rfl, hb2⟩))
   go_ret2
   rw [HN.out]
   exact ⟨rfl, bnext hb1 hb2⟩
 | some d =>
  have CA := Lib.hid fun A c w h h1 h2 => rascii_some (A := A) (c := c) (w := w) ho h h1 h2
  have hne := hName_ne ho
  have hdl2 : d.length ≤ 254 := by
   obtain ⟨L, hN, _⟩ := name_of ho
   exact (dEnd_some hN.fin).2.2
  have HV2 := Lib.hid (show hName s = if pEnds d = true then (pParse d).map pShow4 else some d by rw [HV.out, ho]; rfl)
  have hz : (str d).toList.isEmpty = false := by rw [str_toL]; cases d with | nil => exact absurd rfl hne | cons _ _ => rfl
  have CE := Lib.hid fun w => rends6_any d w (by omega)
  have CP := Lib.hid fun w => rparse4_any d w (by omega)
  clear ho hne HV
  cases hE : pEnds d with
  | false =>
   have HN := Lib.hid (HV2.out.trans (if_neg (by rw [hE]; decide)))
   rw [hE] at CE
   clear hE
   rcases h0 with h0 | ⟨h0, hc0⟩
   all_goals
    go_enter Tryz.func31, Tryz.ntmps31
    go_wp2_with (first
     | (go_at_call 70; go_must (go_fit CD.out); rintro e w1 ⟨v1, rfl, hown1, hb1⟩; rw [bytes_len] at hown1; obtain ⟨A1, c1, rfl, hc1, hm1, hx1⟩ := own_rd hown1)
     | (go_at_call 69; go_must (go_fit (CA.out A1 c1 w1 hx1 hc1 hm1)); rintro e w2 ⟨rfl, hb2⟩; have hb12 := bnext hb1 hb2)
     | (go_at_call 71; go_must (go_fit (CE.out w2)); rintro e w3 ⟨rfl, hb3⟩))
    go_ret2
    rw [HN.out]
    exact ⟨rfl, bnext hb12 hb3⟩
  | true =>
   have HV3 := Lib.hid (HV2.out.trans (if_pos hE))
   rw [hE] at CE
   clear hE HV2
   obtain ⟨o, ho⟩ : ∃ o, o = pParse d := ⟨_, rfl⟩
   have HLT := Lib.hid fun (a : Nat) (h : o = some a) => pParse_lt (ho.symm.trans h)
   rw [← ho] at CP HV3
   clear ho
   rcases o with _ | a
   ·
    have HN := Lib.hid (show hName s = none from HV3.out)
    simp only [Option.getD_none, Option.isSome_none] at CP
    rcases h0 with h0 | ⟨h0, hc0⟩
    all_goals
     go_enter Tryz.func31, Tryz.ntmps31
     go_wp2_with (first
      | (go_at_call 70; go_must (go_fit CD.out); rintro e w1 ⟨v1, rfl, hown1, hb1⟩; rw [bytes_len] at hown1; obtain ⟨A1, c1, rfl, hc1, hm1, hx1⟩ := own_rd hown1)
      | (go_at_call 69; go_must (go_fit (CA.out A1 c1 w1 hx1 hc1 hm1)); rintro e w2 ⟨rfl, hb2⟩; have hb12 := bnext hb1 hb2)
      | (go_at_call 71; go_must (go_fit (CE.out w2)); rintro e w3 ⟨rfl, hb3⟩)
      | (go_at_call 72; go_must (go_fit (CP.out w3)); rintro e w4 ⟨rfl, hb4⟩))
     go_ret2
     rw [HN.out]
     exact ⟨rfl, bnext (bnext hb12 hb3) hb4⟩
   ·
    have hlt := HLT.out a rfl
    have HN := Lib.hid (show hName s = some (pShow4 a) from HV3.out)
    have CS := Lib.hid fun w => rshow4_any a w hlt
    simp only [Option.getD_some, Option.isSome_some] at CP
    rcases h0 with h0 | ⟨h0, hc0⟩
    all_goals
     go_enter Tryz.func31, Tryz.ntmps31
     go_wp2_with (first
      | (go_at_call 70; go_must (go_fit CD.out); rintro e w1 ⟨v1, rfl, hown1, hb1⟩; rw [bytes_len] at hown1; obtain ⟨A1, c1, rfl, hc1, hm1, hx1⟩ := own_rd hown1)
      | (go_at_call 69; go_must (go_fit (CA.out A1 c1 w1 hx1 hc1 hm1)); rintro e w2 ⟨rfl, hb2⟩; have hb12 := bnext hb1 hb2)
      | (go_at_call 71; go_must (go_fit (CE.out w2)); rintro e w3 ⟨rfl, hb3⟩)
      | (go_at_call 72; go_must (go_fit (CP.out w3)); rintro e w4 ⟨rfl, hb4⟩)
      | (go_at_call 15; go_must (go_fit (CS.out w4)); rintro e w5 ⟨rfl, hb5⟩))
     go_ret2
     rw [HN.out]
     exact ⟨rfl, bnext (bnext (bnext hb12 hb3) hb4) hb5⟩
end Go.Proofs.YtoapelcofjjdnaaGreatDoor
namespace Go.Proofs.YtoapelcofjjdnaaGreatDoor
set_option linter.all false
open Go.RowKit
set_option maxRecDepth 100000 in
set_option maxHeartbeats 4000000 in
theorem rlong_end (s : List UInt8) (sp : Bool) (w : World) (hs : s.length ≤ 1000) (h0 : (0 : Int) < (s.length : Int)) (hc91 : (((gb s 0).toNat : Int) == 91) = true) (hc93 : (((gb s (s.length - 1)).toNat : Int) != 93) = true) (HN : Hid (hLong s = none)) :
  Calls Tryz.prog 31 #[.string (str s), .bool sp] w fun e w' => e = .returned (nameV (hLong s)) ∧ Below w.heap.size w w' := by
 have hsz := str_size s
 have hgt := str_get s
 obtain ⟨M, hM⟩ : ∃ M, M = s.length - 1 := ⟨_, rfl⟩
 have hMI : (s.length : Int) - 1 = (M : Int) := by omega
 have hMw : IntKind.i64.wrap (M : Int) = (M : Int) := IntWalk.i64_in _ (by omega)
 have hM0 : (0 : Int) ≤ (M : Int) := by omega
 have hM3 : (M : Int) < (s.length : Int) := by omega
 have hgM := hgt M (by rw [hsz]; exact Int.ofNat_lt.1 hM3)
 rw [← hM] at hc93
 clear hM
 go_enter Tryz.func31, Tryz.ntmps31
 go_wp2
 go_ret2
 rw [HN.out]
 exact ⟨rfl, Below.refl _ _⟩
set_option maxRecDepth 100000 in
set_option maxHeartbeats 4000000 in
theorem rlong_none (s : List UInt8) (sp : Bool) (w : World) (hs : s.length ≤ 1000) (h2 : 2 ≤ s.length) (hc91 : (((gb s 0).toNat : Int) == 91) = true) (hc93 : (((gb s (s.length - 1)).toNat : Int) != 93) = false) (ho : pParse6 (hIn s) = none) (HN : Hid (hLong s = none)) :
  Calls Tryz.prog 31 #[.string (str s), .bool sp] w fun e w' => e = .returned (nameV (hLong s)) ∧ Below w.heap.size w w' := by
 have hsz := str_size s
 have hgt := str_get s
 have h0 : (0 : Int) < (s.length : Int) := by omega
 obtain ⟨M, hM⟩ : ∃ M, M = s.length - 1 := ⟨_, rfl⟩
 have hMI : (s.length : Int) - 1 = (M : Int) := by omega
 have hMw : IntKind.i64.wrap (M : Int) = (M : Int) := IntWalk.i64_in _ (by omega)
 have hM0 : (0 : Int) ≤ (M : Int) := by omega
 have hM1 : (1 : Int) ≤ (M : Int) := by omega
 have hM2 : (M : Int) ≤ (s.length : Int) := by omega
 have hM3 : (M : Int) < (s.length : Int) := by omega
 have hmx : max (M : Int) 1 = (M : Int) := by omega
 have hgM := hgt M (by rw [hsz]; exact Int.ofNat_lt.1 hM3)
 rw [← hM] at hc93
 have hin : (str s).extract 1 M = str (hIn s) := hM ▸ str_mid s 1 (s.length - 1)
 have hinl : (hIn s).length ≤ 1000 := by unfold hIn mid; simp; omega
 clear hM
 have C6 := Lib.hid fun w => rparse6_fail (hIn s) ho w hinl
 clear ho
 go_enter Tryz.func31, Tryz.ntmps31
 go_wp2_with (go_at_call 67; go_must (go_fit (C6.out _)); rintro e w1 ⟨rfl, hb1⟩)
 go_ret2
 rw [HN.out]
 exact ⟨rfl, bnew hb1 _⟩
set_option maxRecDepth 100000 in
set_option maxHeartbeats 4000000 in
theorem rlong_some (s : List UInt8) (sp : Bool) (w : World) (hs : s.length ≤ 1000) (h2 : 2 ≤ s.length) (hc91 : (((gb s 0).toNat : Int) == 91) = true) (hc93 : (((gb s (s.length - 1)).toNat : Int) != 93) = false) (a : List Nat) (ho : pParse6 (hIn s) = some a) (HN : Hid (hLong s = some ([91] ++ pShow6 a ++ [93]))) :
  Calls Tryz.prog 31 #[.string (str s), .bool sp] w fun e w' => e = .returned (nameV (hLong s)) ∧ Below w.heap.size w w' := by
 have hsz := str_size s
 have hgt := str_get s
 have h0 : (0 : Int) < (s.length : Int) := by omega
 obtain ⟨M, hM⟩ : ∃ M, M = s.length - 1 := ⟨_, rfl⟩
 have hMI : (s.length : Int) - 1 = (M : Int) := by omega
 have hMw : IntKind.i64.wrap (M : Int) = (M : Int) := IntWalk.i64_in _ (by omega)
 have hM0 : (0 : Int) ≤ (M : Int) := by omega
 have hM1 : (1 : Int) ≤ (M : Int) := by omega
 have hM2 : (M : Int) ≤ (s.length : Int) := by omega
 have hM3 : (M : Int) < (s.length : Int) := by omega
 have hmx : max (M : Int) 1 = (M : Int) := by omega
 have hgM := hgt M (by rw [hsz]; exact Int.ofNat_lt.1 hM3)
 rw [← hM] at hc93
 have hin : (str s).extract 1 M = str (hIn s) := hM ▸ str_mid s 1 (s.length - 1)
 have hinl : (hIn s).length ≤ 1000 := by unfold hIn mid; simp; omega
 clear hM
 obtain ⟨h8, h16⟩ := pParse6_ok ho
 obtain ⟨a0, a1, a2, a3, a4, a5, a6, a7, ha⟩ := eight_of h8
 have hT := show6_len h16 h8
 have CS := Lib.hid fun w => show6r_any a a0 a1 a2 a3 a4 a5 a6 a7 ha h16 w
 obtain ⟨T, hTe⟩ : ∃ T, T = pShow6 a := ⟨_, rfl⟩
 rw [← hTe] at CS HN hT
 rw [ha] at ho
 have C6 := Lib.hid fun w => rparse6_some (hIn s) ho w hinl
 clear ho hTe ha h8 h16
 have yT := str_size T
 have e1 : ({ data := #[91] } : ByteArray) ++ str T = str ([91] ++ T) := str_app [91] T
 have k1 : (9223372036854775807 < 1 + T.length) = False := eq_false (by omega)
 obtain ⟨U, hU⟩ : ∃ U, U = [91] ++ T := ⟨_, rfl⟩
 have hUl : U.length = T.length + 1 := by rw [hU]; rfl
 rw [← hU] at e1 HN
 have yU : (str U).size = T.length + 1 := by rw [str_size, hUl]
 have e2 : str U ++ ({ data := #[93] } : ByteArray) = str (U ++ [93]) := str_app U [93]
 have k2 : (9223372036854775807 < T.length + 1 + 1) = False := eq_false (by omega)
 clear hU
 go_enter Tryz.func31, Tryz.ntmps31
 go_wp2_with (first
  | (go_at_call 67; go_must (go_fit (C6.out _)); rintro e w1 ⟨rfl, hb1⟩; have hB2 := bnew hb1 (.cells #[.int .u16 (a0 : Int), .int .u16 (a1 : Int), .int .u16 (a2 : Int), .int .u16 (a3 : Int), .int .u16 (a4 : Int), .int .u16 (a5 : Int), .int .u16 (a6 : Int), .int .u16 (a7 : Int)] 24); have hX := Row.made w1 #[.int .u16 (a0 : Int), .int .u16 (a1 : Int), .int .u16 (a2 : Int), .int .u16 (a3 : Int), .int .u16 (a4 : Int), .int .u16 (a5 : Int), .int .u16 (a6 : Int), .int .u16 (a7 : Int)] 24; have x0 := hX.1 0 _ rfl; have x1 := hX.1 1 _ rfl; have x2 := hX.1 2 _ rfl; have x3 := hX.1 3 _ rfl; have x4 := hX.1 4 _ rfl; have x5 := hX.1 5 _ rfl; have x6 := hX.1 6 _ rfl; have x7 := hX.1 7 _ rfl)
  | (go_at_call 16; go_must (go_fit (CS.out _)); rintro e w3 ⟨rfl, hb3⟩))
 go_ret2
 rw [HN.out]
 exact ⟨rfl, bnext hB2 hb3⟩
end Go.Proofs.YtoapelcofjjdnaaGreatDoor
namespace Go.Proofs.YtoapelcofjjdnaaGreatDoor
set_option linter.all false
open Go.RowKit
def hSet16 : List UInt8 := [9, 10, 13, 32, 35, 47, 58, 60, 62, 63, 64, 91, 92, 93, 94, 124]
theorem hNo_two (c : UInt8) : hNo c = (decide (c = 0) || hSet16.contains c) := by
 unfold hNo hSet16
 rw [List.contains_cons]
 congr 1
set_option maxRecDepth 100000 in
set_option maxHeartbeats 4000000 in
theorem rother_any (s : List UInt8) (w : World) (hs : s.length ≤ 1000) (h0 : (¬ (0 : Int) < (s.length : Int)) ∨ ((0 : Int) < (s.length : Int) ∧ (((gb s 0).toNat : Int) == 91) = false)) (o : Option (List UInt8)) (HV : Hid (o = if s.any hNo = true then none else some (pEnc 0 s))) :
  Calls Tryz.prog 31 #[.string (str s), .bool false] w fun e w' => e = .returned (nameV o) ∧ Below w.heap.size w w' := by
 have hsz := str_size s
 have hgt := str_get s
 have CE := Lib.hid fun A c w h => percent_any 0 A c s w h (by omega)
 rcases h0 with h0 | ⟨h0, hc0⟩
 all_goals
  go_enter Tryz.func31, Tryz.ntmps31
  go_wp2
  go_loopg [8] (s.length) (fun k i wr => ∃ j : Nat, k = s.length - j ∧ j ≤ s.length ∧ i = .int .i64 j ∧ Hid ((s.take j).any hNo = false) ∧ w = wr)
  case atStart => exact ⟨0, rfl, Nat.zero_le _, rfl, rfl, rfl⟩
  case round =>
   obtain ⟨j, rfl, hj, rfl, hn, rfl⟩ := hrel
   by_cases hlt : j < s.length
   ·
    have hx := Lib.hid (gb_some hlt)
    have hlt1 : (j : Int) < (s.length : Int) := by omega
    have hj0 : (0 : Int) ≤ (j : Int) := by omega
    have HT := Lib.hid (hNo_two (gb s j))
    by_cases hz : gb s j = 0
    ·
     have hcz : (((gb s j).toNat : Int) == 0) = true := by rw [hz]; rfl
     have HA := Lib.hid (any_hereD hx.out (by rw [HT.out, hz]; rfl) : s.any hNo = true)
     have HN := Lib.hid (HV.out.trans (if_pos HA.out))
     clear hz HT
     go_wp2
     go_ret2
     rw [HN.out]
     exact ⟨rfl, Below.refl _ _⟩
    ·
     have hcz : (((gb s j).toNat : Int) == 0) = false := by
      rw [beq_eq_false_iff_ne]; exact fun e => hz (byte_ext (by show _ = 0; omega))
     have C := Lib.hid fun w => has6_any hSet16 (gb s j) w (by decide)
     by_cases hp : hSet16.contains (gb s j) = true
     ·
      have HA := Lib.hid (any_hereD hx.out (by rw [HT.out, hp, Bool.or_true]) : s.any hNo = true)
      have HN := Lib.hid (HV.out.trans (if_pos HA.out))
      rw [hp] at C
      clear hp hz HT
      go_wp2_with (go_at_call 68; go_must (go_fit (C.out _)); rintro e w1 ⟨rfl, rfl⟩)
      go_ret2
      rw [HN.out]
      exact ⟨rfl, Below.refl _ _⟩
     ·
      have hp := Bool.eq_false_iff.2 hp
      have HP := Lib.hid (show hNo (gb s j) = false by rw [HT.out, hp, decide_eq_false hz]; rfl)
      rw [hp] at C
      clear hp hz HT
      go_wp2_with (go_at_call 68; go_must (go_fit (C.out _)); rintro e w1 ⟨rfl, rfl⟩)
      go_roundg (s.length - (j + 1))
      case measure => omega
      case rel => exact ⟨j + 1, rfl, by omega, by go_num, any_takeD hx.out hn.out HP.out, rfl⟩
   ·
    obtain rfl : j = s.length := by omega
    have HA := Lib.hid (show s.any hNo = false by have h := hn.out; rwa [List.take_length] at h)
    have HN := Lib.hid (HV.out.trans (if_neg (by rw [HA.out]; decide)))
    clear hlt
    go_wp2_with (first
     | (refine wpList_bytesL rfl _ _ _ _ rfl Tryz.underlying9 Tryz.underlying58 Tryz.underlying5 s rfl (by omega) ?_; intro c6 w6 hc6 hm6 hrow6 hr6 hb6 hz6)
     | (go_at_call 59; go_must (go_fit (CE.out _ _ w6 hr6)); rintro e w9 ⟨rfl, hb9⟩))
    go_ret2
    rw [HN.out]
    exact ⟨rfl, bnext hb6 hb9⟩
theorem rhost_any (s : List UInt8) (sp : Bool) (w : World) (hs : s.length ≤ 1000) :
  Calls Tryz.prog 31 #[.string (str s), .bool sp] w fun e w' => e = .returned (nameV (hParse s sp)) ∧ Below w.heap.size w w' := by
 by_cases hh : s.head? = some 91
 ·
  have hp : 0 < s.length := by cases s with | nil => cases hh | cons _ _ => simp
  have hhead : s.head? = some (gb s 0) := by rw [List.head?_eq_getElem?]; exact gb_some hp
  have hlast : s.getLast? = some (gb s (s.length - 1)) := by rw [List.getLast?_eq_getElem?]; exact gb_some (by omega)
  have h91 : gb s 0 = 91 := by rw [hhead] at hh; simpa using hh
  have hc91 : (((gb s 0).toNat : Int) == 91) = true := by rw [h91]; rfl
  rw [hParse_long hh sp]
  by_cases h93 : gb s (s.length - 1) = 93
  ·
   have hc93 : (((gb s (s.length - 1)).toNat : Int) != 93) = false := by rw [h93]; rfl
   have h2 : 2 ≤ s.length := by
    by_cases h : s.length = 1
    · rw [h] at h93; rw [h91] at h93; exact absurd h93 (by decide)
    · omega
   have HV : hLong s = (pParse6 (hIn s)).map fun a => [91] ++ pShow6 a ++ [93] := if_pos (by rw [hlast, h93])
   cases ho : pParse6 (hIn s) with
   | none => 
    have := rlong_none s sp w hs h2 hc91 hc93 ho (Lib.hid (by rw [HV, ho]; rfl))
    exact this
   | some a => exact rlong_some s sp w hs h2 hc91 hc93 a ho (Lib.hid (by rw [HV, ho]; rfl))
  ·
   have hc93 : (((gb s (s.length - 1)).toNat : Int) != 93) = true := by rw [bne_iff_ne]; exact fun e => h93 (byte_ext (by show _ = 93; omega))
   exact rlong_end s sp w hs (by omega) hc91 hc93 (Lib.hid (if_neg fun h => by rw [hlast] at h; exact h93 (by simpa using h)))
 ·
  have h0 : (¬ (0 : Int) < (s.length : Int)) ∨ ((0 : Int) < (s.length : Int) ∧ (((gb s 0).toNat : Int) == 91) = false) := by
   by_cases hp : 0 < s.length
   ·
    refine .inr ⟨by omega, ?_⟩
    rw [beq_eq_false_iff_ne]
    intro e
    have hhead : s.head? = some (gb s 0) := by rw [List.head?_eq_getElem?]; exact gb_some hp
    exact hh (by rw [hhead, show gb s 0 = 91 from byte_ext (by show _ = 91; omega)])
   · exact .inl (by omega)
  cases sp with
  | true => rw [hParse_name hh]; exact rname_any s w (by omega) h0
  | false => exact rother_any s w hs h0 _ (Lib.hid (by unfold hParse; rw [if_neg hh, if_neg (by decide)]))
end Go.Proofs.YtoapelcofjjdnaaGreatDoor
namespace Go.Proofs.YtoapelcofjjdnaaGreatDoor
set_option linter.all false
open Go.RowKit
theorem ip4_some {s : List UInt8} {a : Nat} {w : World} (h : hIP4 s = some a) (hq : LH w) (hs : s.length ≤ 1000) :
  Calls Tryz.prog 19 #[.string (str s)] w fun e w' => e = .returned (.tuple #[.int .u32 (a : Int), .bool true]) ∧ Below w.heap.size w w' := by
 have := hip4_any s w hq (by omega)
 rwa [h] at this
theorem ip4_none {s : List UInt8} {w : World} (h : hIP4 s = none) (hq : LH w) (hs : s.length ≤ 1000) :
  Calls Tryz.prog 19 #[.string (str s)] w fun e w' => e = .returned (.tuple #[.int .u32 0, .bool false]) ∧ Below w.heap.size w w' := by
 have := hip4_any s w hq (by omega)
 rwa [h] at this
theorem ip6_some {s : List UInt8} {a0 a1 a2 a3 a4 a5 a6 a7 : Nat} {w : World} (h : hIP6 s = some [a0, a1, a2, a3, a4, a5, a6, a7]) (hq : LH w) (hs : s.length ≤ 1000) :
  Calls Tryz.prog 20 #[.string (str s)] w fun e w' => e = .returned (.tuple #[.agg #[.int .u16 (a0 : Int), .int .u16 (a1 : Int), .int .u16 (a2 : Int), .int .u16 (a3 : Int), .int .u16 (a4 : Int), .int .u16 (a5 : Int), .int .u16 (a6 : Int), .int .u16 (a7 : Int)], .bool true]) ∧ Below w.heap.size w w' := by
 have := hip6_any s w hq hs
 rwa [h] at this
theorem ip6_none {s : List UInt8} {w : World} (h : hIP6 s = none) (hq : LH w) (hs : s.length ≤ 1000) :
  Calls Tryz.prog 20 #[.string (str s)] w fun e w' => e = .returned (.tuple #[.agg #[.int .u16 0, .int .u16 0, .int .u16 0, .int .u16 0, .int .u16 0, .int .u16 0, .int .u16 0, .int .u16 0], .bool false]) ∧ Below w.heap.size w w' := by
 have := hip6_any s w hq hs
 rwa [h] at this
end Go.Proofs.YtoapelcofjjdnaaGreatDoor
namespace Go.Proofs.YtoapelcofjjdnaaGreatDoor
set_option linter.all false
open Go.RowKit
theorem Row.c8 {w : World} {g : Nat} {v0 v1 v2 v3 v4 v5 v6 v7 : Value} (h : Row w g [v0, v1, v2, v3, v4, v5, v6, v7]) :
  w.cell? ⟨g, 0, none⟩ = some v0 ∧ w.cell? ⟨g, 1, none⟩ = some v1 ∧ w.cell? ⟨g, 2, none⟩ = some v2 ∧ w.cell? ⟨g, 3, none⟩ = some v3 ∧ w.cell? ⟨g, 4, none⟩ = some v4 ∧ w.cell? ⟨g, 5, none⟩ = some v5 ∧ w.cell? ⟨g, 6, none⟩ = some v6 ∧ w.cell? ⟨g, 7, none⟩ = some v7 :=
 ⟨h.1 0 _ rfl, h.1 1 _ rfl, h.1 2 _ rfl, h.1 3 _ rfl, h.1 4 _ rfl, h.1 5 _ rfl, h.1 6 _ rfl, h.1 7 _ rfl⟩
end Go.Proofs.YtoapelcofjjdnaaGreatDoor
namespace Go.Proofs.YtoapelcofjjdnaaGreatDoor
set_option linter.all false
open Go.RowKit
theorem hIP6_eight {s : List UInt8} {a : List Nat} (h : hIP6 s = some a) : a.length = 8 := by
 unfold hIP6 at h
 split at h
 ·
  obtain ⟨b, h1, h2⟩ := Option.bind_eq_some_iff.1 h
  split at h2
  · injection h2 with h2; subst h2; exact (pParse6_ok h1).1
  · cases h2
 · cases h
end Go.Proofs.YtoapelcofjjdnaaGreatDoor
