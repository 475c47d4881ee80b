/- ip6's reader: all. -/
import Derived.Test.YtaglbcniomcfnaaDoorSixD
namespace Go.Proofs.YtaglbcniomcfnaaDoor
set_option linter.all false
open Go.RowKit

section
variable {g : Nat} {s p : List UInt8} {ok : Bool} {l : List Nat} {gap : Int}
theorem noughts_yes (w : World) (h : RD w g s ok l gap) (hl : l.length ≤ 100000) (ht : two58 s = true) :
    Calls Tryd.prog 49 #[.pointer (some ⟨g, 0, none⟩)] w fun e w' => e = .returned (.bool true) ∧ RD w' g (s.drop 2) (ok && decide (gap < 0)) l l.length ∧ Below g w w' :=
  (noughts6_any g s ok l gap w h hl).mono fun e w' h' => ⟨by rw [h'.1, ht], h'.2.1 ht, h'.2.2.2⟩
theorem noughts_no (w : World) (h : RD w g s ok l gap) (hl : l.length ≤ 100000) (ht : two58 s = false) :
    Calls Tryd.prog 49 #[.pointer (some ⟨g, 0, none⟩)] w fun e w' => e = .returned (.bool false) ∧ RD w' g s ok l gap ∧ Below g w w' :=
  (noughts6_any g s ok l gap w h hl).mono fun e w' h' => ⟨by rw [h'.1, ht], h'.2.2.1 ht, h'.2.2.2⟩
theorem takeR (w : World) (h : RD w g s ok l gap) (p : List UInt8) :
    Calls Tryd.prog 53 #[.pointer (some ⟨g, 0, none⟩), .string (str p)] w fun e w' => e = .returned (.bool (Lib.hasPrefix s p)) ∧ RD w' g (Lib.trimPrefix s p) ok l gap ∧ Below g w w' := by
  obtain ⟨v, hr, ho⟩ := h
  exact (take6_any g s p ok v gap w hr).mono fun e w' h' => ⟨h'.1, ⟨v, h'.2.1, own_gb ho h'.2.2⟩, gb_below h'.2.2 hr.lt⟩
end
theorem take_yes {g : Nat} {s t : List UInt8} {ok : Bool} {l : List Nat} {gap : Int} (hs : s = 58 :: t) (w : World) (h : RD w g s ok l gap) :
    Calls Tryd.prog 53 #[.pointer (some ⟨g, 0, none⟩), .string (str [58])] w fun e w' => e = .returned (.bool true) ∧ RD w' g t ok l gap ∧ Below g w w' := by
  have hp : Lib.hasPrefix s [58] = true := by rw [hs]; simp [Lib.hasPrefix]
  have ht : Lib.trimPrefix s [58] = t := by unfold Lib.trimPrefix; rw [hp, hs]; rfl
  have := takeR w h [58]
  rw [hp, ht] at this
  exact this
theorem take_no {g : Nat} {s : List UInt8} {ok : Bool} {l : List Nat} {gap : Int} (hs : ∀ t, s ≠ 58 :: t) (w : World) (h : RD w g s ok l gap) :
    Calls Tryd.prog 53 #[.pointer (some ⟨g, 0, none⟩), .string (str [58])] w fun e w' => e = .returned (.bool false) ∧ RD w' g s ok l gap ∧ Below g w w' := by
  have hp : Lib.hasPrefix s [58] = false := by
    cases s with
    | nil => rfl
    | cons c t =>
      cases h : Lib.hasPrefix (c :: t) [58] with
      | false => rfl
      | true => simp [Lib.hasPrefix] at h; exact absurd (by rw [h]) (hs t)
  have ht : Lib.trimPrefix s [58] = s := by unfold Lib.trimPrefix; rw [hp]; rfl
  have := takeR w h [58]
  rw [hp, ht] at this
  exact this
theorem two58_yes (u : List UInt8) : two58 (58 :: 58 :: u) = true := by simp [two58, Lib.hasPrefix]
theorem two58_no {s : List UInt8} (h : ∀ u, s ≠ 58 :: 58 :: u) : two58 s = false := by
  cases s with
  | nil => rfl
  | cons c t =>
    cases t with
    | nil => unfold two58 Lib.hasPrefix; simp [List.isPrefixOf]
    | cons d u =>
      cases hh : two58 (c :: d :: u) with
      | false => rfl
      | true => simp [two58, Lib.hasPrefix] at hh; exact absurd (by rw [← hh.1, ← hh.2]) (h u)

theorem piece_yes {g : Nat} {s : List UInt8} {l : List Nat} {gap : Int} (w : World) (h : RD w g s true l gap) (hev : EV w) (hlow : Low g) (hs : s.length ≤ 100000) (hl : l.length ≤ 100000) (hk : okPiece (s.takeWhile hexOk) = true) :
    Calls Tryd.prog 52 #[.pointer (some ⟨g, 0, none⟩)] w fun e w' => e = .returned (.tuple #[]) ∧ RD w' g (s.dropWhile hexOk) true (l ++ [hexN (s.takeWhile hexOk)]) gap ∧ Below g w w' :=
  (piece6_any g s true l gap w h hev hlow hs hl).mono fun e w' ⟨he, x, h, _, hxd, hb⟩ => ⟨he, by rw [hk, hxd.out hk] at h; exact h, hb⟩
theorem piece_no {g : Nat} {s : List UInt8} {l : List Nat} {gap : Int} (w : World) (h : RD w g s true l gap) (hev : EV w) (hlow : Low g) (hs : s.length ≤ 100000) (hl : l.length ≤ 100000) (hk : okPiece (s.takeWhile hexOk) = false) :
    Calls Tryd.prog 52 #[.pointer (some ⟨g, 0, none⟩)] w fun e w' => e = .returned (.tuple #[]) ∧ ∃ x, RD w' g (s.dropWhile hexOk) false (l ++ [x]) gap ∧ x < 65536 ∧ Below g w w' :=
  (piece6_any g s true l gap w h hev hlow hs hl).mono fun e w' ⟨he, x, h, hx, _, hb⟩ => ⟨he, x, by rw [hk] at h; exact h, hx, hb⟩
def gapI : Option Nat → Int | none => -1 | some k => (k : Int)
/-- What all hands on. -/
def AllIs (T : Option (List Nat × Option Nat)) (r : List UInt8) (ok : Bool) (l : List Nat) (gap : Int) : Prop :=
  (∃ m go, T = some (m, go) ∧ ok = true ∧ r = [] ∧ l = m ∧ gap = gapI go ∧ ∀ k, go = some k → k ≤ m.length) ∨ (T = none ∧ (ok = false ∨ r ≠ [] ∨ 8 < l.length))
/-- How far all has come. -/
def LI (k : Nat) (nx : Bool) (r : List UInt8) (ok : Bool) (l : List Nat) (gap : Int) (T : Option (List Nat × Option Nat)) : Prop :=
  (nx = true ∧ ok = true ∧ ∃ go, gap = gapI go ∧ r.length < k ∧ sGo k r l go = T ∧ ∀ k, go = some k → k ≤ l.length) ∨ ((nx && ok) = false ∧ AllIs T r ok l gap)
def AllPost (g : Nat) (T : Option (List Nat × Option Nat)) (w w' : World) : Prop := ∃ r ok l gap, RD w' g r ok l gap ∧ (∀ x ∈ l, x < 65536) ∧ l.length ≤ 20 ∧ -1 ≤ gap ∧ gap ≤ 20 ∧ AllIs T r ok l gap ∧ Below g w w'
theorem AllIs.no {T : Option (List Nat × Option Nat)} {r : List UInt8} {ok : Bool} {l : List Nat} {gap : Int} (hT : T = none) (h : ok = false ∨ r ≠ [] ∨ 8 < l.length) : AllIs T r ok l gap := .inr ⟨hT, h⟩
theorem go_long {f : Nat} {r : List UInt8} {l : List Nat} {go : Option Nat} (h : 8 < l.length) : sGo f r l go = none := by
  cases f with
  | zero => rfl
  | succ f => rw [sGo, if_pos h]
theorem go_dots {f : Nat} {r : List UInt8} {l : List Nat} {go : Option Nat} (h : ¬ 8 < l.length) (hd : dotted r = true) : sGo (f + 1) r l go = (sFour r).map fun m => (l ++ m, go) := by
  rw [sGo, if_neg h, if_pos hd]
theorem go_bad {f : Nat} {r : List UInt8} {l : List Nat} {go : Option Nat} (h : ¬ 8 < l.length) (hd : dotted r = false) (hk : okPiece (r.takeWhile hexOk) = false) : sGo (f + 1) r l go = none := by
  rw [sGo, if_neg h, if_neg (by rw [hd]; decide), if_neg (by rw [hk]; decide)]
section
variable {f : Nat} {r : List UInt8} {l : List Nat} {go : Option Nat} (h : ¬ 8 < l.length) (hd : dotted r = false) (hk : okPiece (r.takeWhile hexOk) = true)
include h hd hk
theorem go_end (hq : r.dropWhile hexOk = []) : sGo (f + 1) r l go = some (l ++ [hexN (r.takeWhile hexOk)], go) := by
  rw [sGo, if_neg h, if_neg (by rw [hd]; decide), if_pos hk, hq]
theorem go_other {c : UInt8} {t : List UInt8} (hq : r.dropWhile hexOk = c :: t) (hc : c ≠ 58) : sGo (f + 1) r l go = none := by
  rw [sGo, if_neg h, if_neg (by rw [hd]; decide), if_pos hk, hq]
  simp only [if_neg hc]
theorem go_colon (hq : r.dropWhile hexOk = [58]) : sGo (f + 1) r l go = none := by
  rw [sGo, if_neg h, if_neg (by rw [hd]; decide), if_pos hk, hq]
  simp only [if_pos]
theorem go_next {d : UInt8} {u : List UInt8} (hq : r.dropWhile hexOk = 58 :: d :: u) (hc : d ≠ 58) : sGo (f + 1) r l go = sGo f (d :: u) (l ++ [hexN (r.takeWhile hexOk)]) go := by
  rw [sGo, if_neg h, if_neg (by rw [hd]; decide), if_pos hk, hq]
  simp only [if_pos, if_neg hc]
theorem go_gap {u : List UInt8} (hq : r.dropWhile hexOk = 58 :: 58 :: u) : sGo (f + 1) r l go = if go.isSome = true then none else if u = [] then some (l ++ [hexN (r.takeWhile hexOk)], some (l.length + 1)) else sGo f u (l ++ [hexN (r.takeWhile hexOk)]) (some (l.length + 1)) := by
  rw [sGo, if_neg h, if_neg (by rw [hd]; decide), if_pos hk, hq]
  simp only [if_pos]
end
theorem go_empty {f : Nat} {l : List Nat} {go : Option Nat} : sGo f [] l go = none := by
  cases f with
  | zero => rfl
  | succ f =>
    by_cases h : 8 < l.length
    · exact go_long h
    · exact go_bad h (by rfl) (by rfl)
theorem lt_snoc {l : List Nat} {x : Nat} (h : ∀ y ∈ l, y < 65536) (hx : x < 65536) : ∀ y ∈ l ++ [x], y < 65536 := by
  intro y hy
  rcases List.mem_append.1 hy with hy | hy
  · exact h y hy
  · rw [List.mem_singleton.1 hy]; exact hx

-- The calls of a round.
-- The round's end: nothing more is to be read.
set_option maxRecDepth 100000 in
set_option maxHeartbeats 16000000 in
theorem all6_any (g : Nat) (s : List UInt8) (w : World) (h : RD w g s true [] (-1)) (hev : EV w) (hlow : Low g) (hs : s.length ≤ 1000) :
    Calls Tryd.prog 36 #[.pointer (some ⟨g, 0, none⟩)] w fun e w' => e = .returned (.tuple #[]) ∧ AllPost g (sAll s) w w' := by
  by_cases htw : ∃ t, s = 58 :: 58 :: t
  · obtain ⟨t, rfl⟩ := htw
    have CN := Lib.hid ((noughts_yes w h (by simp) (two58_yes t)).mono fun e w' h' => (⟨h'.1, h'.2.1, h'.2.2⟩ : e = .returned (.bool true) ∧ RD w' g t true [] 0 ∧ Below g w w'))
    simp only [List.length_cons] at hs
    by_cases ht : t = []
    · subst ht
      have htl := str_toL []
      go_enter Tryd.func36, Tryd.ntmps36
      go_wp2_with (go_at_call 49; go_must (go_fit CN.out); rintro e w1 ⟨rfl, h1, hb1⟩; have c0 := h1.c0; have c3 := h1.c3)
      go_loopg [2] 0 (fun k s2 wr => s2 = .bool false ∧ w1 = wr)
      case atStart => exact ⟨rfl, rfl⟩
      case round =>
        obtain ⟨rfl, rfl⟩ := hrel
        go_wp2
        go_end0
        exact ⟨rfl, by unfold AllPost; exact ⟨[], true, [], 0, h1, by simp, by simp, by omega, by omega, .inl ⟨[], some 0, rfl, rfl, rfl, rfl, rfl, fun k hk => by injection hk with hk; omega⟩, hb1⟩⟩
    · have hte : t.isEmpty = false := by cases t with | nil => exact absurd rfl ht | cons _ _ => rfl
      have hT : sAll (58 :: 58 :: t) = sGo (t.length + 2 + 1) t [] (some 0) := by
        show (if t = [] then _ else _) = _
        rw [if_neg ht]; rfl
      obtain ⟨T, hTe⟩ : ∃ T, T = sAll (58 :: 58 :: t) := ⟨_, rfl⟩
      rw [← hTe] at hT ⊢
      have HT := Lib.hid hT
      clear hT hTe ht
      have htl := str_toL t
      go_enter Tryd.func36, Tryd.ntmps36
      go_wp2_with (go_at_call 49; go_must (go_fit CN.out); rintro e w1 ⟨rfl, h1, hb1⟩; have c0 := h1.c0; have c3 := h1.c3)
      clear c0 c3 htl hte
      go_loopg [2] (t.length + 2 + 1) (fun k s2 wr => ∃ (r : List UInt8) (ok : Bool) (l : List Nat) (gap : Int) (nx : Bool), s2 = .bool nx ∧ r.length ≤ 1000 ∧ RD wr g r ok l gap ∧ Below g w wr ∧ (∀ x ∈ l, x < 65536) ∧ l.length ≤ 20 ∧ -1 ≤ gap ∧ gap ≤ 20 ∧ Hid (LI k nx r ok l gap T))
      case atStart => exact ⟨t, true, [], 0, true, rfl, by omega, h1, hb1, by simp, by simp, by omega, by omega, .inl ⟨rfl, rfl, some 0, rfl, by omega, HT.out.symm, fun k hk => by injection hk with hk; omega⟩⟩
      case round =>
        obtain ⟨r, ok, l, gap, nx, rfl, hr0, h, hb, hl0, hlen, hg0, hg1, hLI⟩ := hrel
        have c0 := h.c0
        have c1 := h.c1
        have c3 := h.c3
        obtain ⟨A, cc, c2, hcc, hmm⟩ := h.c2
        have HL := Lib.hid hl0
        rcases hLI.out with ⟨rfl, rfl, go, hgo, hrk, hT, hgk⟩ | ⟨hnx, hF⟩
        · obtain ⟨f, rfl⟩ : ∃ f, gk = f + 1 := ⟨gk - 1, by omega⟩
          by_cases h8 : 8 < l.length
          · have HF := Lib.hid (AllIs.no (r := r) (ok := true) (l := l) (gap := gap) (hT.symm.trans (go_long h8)) (.inr (.inr h8)))
            have h8' : ¬ (l.length : Int) ≤ 8 := by omega
            clear hLI hT hgk
            go_wp2
            go_end0
            exact ⟨rfl, by unfold AllPost; exact ⟨r, true, l, gap, h, HL.out, by omega, hg0, hg1, HF.out, hb⟩⟩
          · have h8' : (l.length : Int) ≤ 8 := by omega
            have CD := Lib.hid fun w h => dotted6_any g r true l gap w h
            cases hd : dotted r with
            | true =>
              rw [hd] at CD
              have hT2 := hT.symm.trans (go_dots h8 hd)
              have HT2 := Lib.hid hT2
              have HG := Lib.hid (show gap = gapI go ∧ ∀ k, go = some k → k ≤ l.length from ⟨hgo, hgk⟩)
              have CF := Lib.hid (four6_any g r l gap wr h (hev.low hlow hb) hlow (by omega) (by omega))
              clear hLI hT hd hT2 hgk hgo h8
              go_wp2_with (first
                | (go_at_call 50; go_must (go_fit (CD.out _ h)); rintro e w1 ⟨rfl, rfl⟩)
                | (go_at_call 51; go_must (go_fit CF.out); rintro e w2 ⟨rfl, h2⟩))
              go_end0
              refine ⟨rfl, ?_⟩
              unfold FourPost at h2
              obtain ⟨r2, ok2, y0, y1, h2, hy0, hy1, hF4, hb2⟩ := h2
              unfold AllPost
              refine ⟨r2, ok2, l ++ [y0, y1], gap, h2, ?_, by rw [List.length_append]; simp; omega, hg0, hg1, ?_, hb.trans hb2⟩
              · rw [show l ++ [y0, y1] = (l ++ [y0]) ++ [y1] by simp]
                exact lt_snoc (lt_snoc HL.out hy0) hy1
              · rcases hF4 with ⟨m, e1, e2, e3, e4⟩ | ⟨e1, e2⟩
                · refine .inl ⟨l ++ m, go, by rw [HT2.out, e1]; rfl, e2, e3, by rw [e4], HG.out.1, fun k hk => ?_⟩
                  have := HG.out.2 k hk
                  rw [List.length_append]; omega
                · refine .inr ⟨by rw [HT2.out, e1]; rfl, ?_⟩
                  cases ok2 with
                  | false => exact .inl rfl
                  | true => exact .inr (.inl fun e => e2 ⟨rfl, e⟩)
            | false =>
              rw [hd] at CD
              have hdw := dropWhile_len hexOk r
              cases hk : okPiece (r.takeWhile hexOk) with
              | false =>
                have hT2 := hT.symm.trans (go_bad h8 hd hk)
                have CP := Lib.hid (piece_no wr h (hev.low hlow hb) hlow (by omega) (by omega) hk)
                have HT2 := Lib.hid hT2
                obtain ⟨q, hq⟩ : ∃ q, q = r.dropWhile hexOk := ⟨_, rfl⟩
                rw [← hq] at CP hdw
                clear hLI hT hd hT2 hgk hgo h8 hk hq
                cases htw : two58 q with
                | true =>
                  have HTW := Lib.hid htw
                  clear htw
                  go_wp2_with (first
                    | (go_at_call 50; go_must (go_fit (CD.out _ h)); rintro e w1 ⟨rfl, rfl⟩)
                    | (go_at_call 52; go_must (go_fit CP.out); rintro e w2 ⟨rfl, x, h2, hx, hb2⟩; have hlx := lt_snoc HL.out hx; have f0 := h2.c0)
                    | (go_at_call 49; go_must (go_fit (noughts_yes _ h2 (by rw [List.length_append]; simp; omega) HTW.out)); rintro e w3 ⟨rfl, h3, hb3⟩; have d0 := h3.c0))
                  all_goals go_roundg 0
                  all_goals first
                    | (case measure => omega)
                    | (case rel => exact ⟨_, false, _, _, _, rfl, by simp; omega, h3, (hb.trans hb2).trans hb3, hlx, by simp; omega, by simp; omega, by simp; omega, .inr ⟨by simp, AllIs.no HT2.out (.inl rfl)⟩⟩)
                | false =>
                  have HTW := Lib.hid htw
                  clear htw
                  by_cases hc : ∃ t, q = 58 :: t
                  · obtain ⟨t, ht⟩ := hc
                    have HQ := Lib.hid ht
                    clear ht
                    go_wp2_with (first
                      | (go_at_call 50; go_must (go_fit (CD.out _ h)); rintro e w1 ⟨rfl, rfl⟩)
                      | (go_at_call 52; go_must (go_fit CP.out); rintro e w2 ⟨rfl, x, h2, hx, hb2⟩; have hlx := lt_snoc HL.out hx; have f0 := h2.c0)
                      | (go_at_call 49; go_must (go_fit (noughts_no _ h2 (by rw [List.length_append]; simp; omega) HTW.out)); rintro e w3 ⟨rfl, h3, hb3⟩; have d0 := h3.c0)
                      | (go_at_call 53; go_must (go_fit (take_yes HQ.out _ h3)); rintro e w4 ⟨rfl, h4, hb4⟩))
                    go_roundg 0
                    case measure => omega
                    case rel => exact ⟨_, false, _, _, _, rfl, by have := HQ.out; rw [this] at hdw; simp at hdw; omega, h4, ((hb.trans hb2).trans hb3).trans hb4, hlx, by simp; omega, by omega, by omega, .inr ⟨by simp, AllIs.no HT2.out (.inl rfl)⟩⟩
                  · have HQ := Lib.hid (show ∀ t, q ≠ 58 :: t from fun t e => hc ⟨t, e⟩)
                    clear hc
                    go_wp2_with (first
                      | (go_at_call 50; go_must (go_fit (CD.out _ h)); rintro e w1 ⟨rfl, rfl⟩)
                      | (go_at_call 52; go_must (go_fit CP.out); rintro e w2 ⟨rfl, x, h2, hx, hb2⟩; have hlx := lt_snoc HL.out hx; have f0 := h2.c0)
                      | (go_at_call 49; go_must (go_fit (noughts_no _ h2 (by rw [List.length_append]; simp; omega) HTW.out)); rintro e w3 ⟨rfl, h3, hb3⟩; have d0 := h3.c0)
                      | (go_at_call 53; go_must (go_fit (take_no HQ.out _ h3)); rintro e w4 ⟨rfl, h4, hb4⟩))
                    go_roundg 0
                    case measure => omega
                    case rel => exact ⟨_, false, _, _, _, rfl, by omega, h4, ((hb.trans hb2).trans hb3).trans hb4, hlx, by simp; omega, by omega, by omega, .inr ⟨by simp, AllIs.no HT2.out (.inl rfl)⟩⟩
              | true =>
                have CP := Lib.hid (piece_yes wr h (hev.low hlow hb) hlow (by omega) (by omega) hk)
                obtain ⟨_, hn16⟩ := hexW_piece (takeWhile_all hexOk r) hk
                have E1 := go_end (f := f) (l := l) (go := go) h8 hd hk
                have E2 := fun (c : UInt8) (t : List UInt8) => go_other (f := f) (l := l) (go := go) h8 hd hk (c := c) (t := t)
                have E3 := go_colon (f := f) (l := l) (go := go) h8 hd hk
                have E4 := fun (c : UInt8) (t : List UInt8) => go_next (f := f) (l := l) (go := go) h8 hd hk (d := c) (u := t)
                have E5 := fun (t : List UInt8) => go_gap (f := f) (l := l) (go := go) h8 hd hk (u := t)
                rw [hT] at E1 E2 E3 E4 E5
                obtain ⟨q, hq⟩ : ∃ q, q = r.dropWhile hexOk := ⟨_, rfl⟩
                obtain ⟨n, hn⟩ : ∃ n, n = hexN (r.takeWhile hexOk) := ⟨_, rfl⟩
                rw [← hq] at CP hdw E1 E2 E3 E4 E5
                rw [← hn] at CP hn16 E1 E4 E5
                have hlx := lt_snoc HL.out hn16
                have HG := Lib.hid (show gap = gapI go ∧ ∀ k, go = some k → k ≤ l.length from ⟨hgo, hgk⟩)
                clear hLI hT hd hgk hk hq hn
                have fin0 : (l ++ [n]).length ≤ 20 := by rw [List.length_append]; simp; omega
                match q, hdw, CP, E1, E2, E3, E4, E5 with
                | [], hdw, CP, E1, _, _, _, _ =>
                  have HTW := Lib.hid (show two58 [] = false from rfl)
                  have HQ := Lib.hid (show ∀ t, ([] : List UInt8) ≠ 58 :: t from fun t e => by cases e)
                  have HT2 := Lib.hid (E1 rfl)
                  clear E1 hgo h8
                  go_wp2_with (first
                    | (go_at_call 50; go_must (go_fit (CD.out _ h)); rintro e w1 ⟨rfl, rfl⟩)
                    | (go_at_call 52; go_must (go_fit CP.out); rintro e w2 ⟨rfl, h2, hb2⟩; have f0 := h2.c0)
                    | (go_at_call 49; go_must (go_fit (noughts_no _ h2 (by rw [List.length_append]; simp; omega) HTW.out)); rintro e w3 ⟨rfl, h3, hb3⟩; have d0 := h3.c0)
                    | (go_at_call 53; go_must (go_fit (take_no HQ.out _ h3)); rintro e w4 ⟨rfl, h4, hb4⟩))
                  go_roundg 0
                  case measure => omega
                  case rel => exact ⟨_, _, _, _, _, rfl, by simp, h4, ((hb.trans hb2).trans hb3).trans hb4, hlx, fin0, by omega, by omega, .inr ⟨by simp, .inl ⟨_, _, HT2.out, rfl, rfl, rfl, HG.out.1, fun k hk => by have := HG.out.2 k hk; rw [List.length_append]; omega⟩⟩⟩
                | c :: t, hdw, CP, _, E2, E3, E4, E5 =>
                  simp only [List.length_cons] at hdw
                  by_cases hc : c = 58
                  · subst hc
                    match t, hdw, CP, E3, E4, E5 with
                    | [], hdw, CP, E3, _, _ =>
                      have HTW := Lib.hid (show two58 [58] = false from two58_no (fun u e => by cases e))
                      have HT2 := Lib.hid (E3 rfl)
                      clear E2 E3 hgo h8
                      go_wp2_with (first
                        | (go_at_call 50; go_must (go_fit (CD.out _ h)); rintro e w1 ⟨rfl, rfl⟩)
                        | (go_at_call 52; go_must (go_fit CP.out); rintro e w2 ⟨rfl, h2, hb2⟩; have f0 := h2.c0)
                        | (go_at_call 49; go_must (go_fit (noughts_no _ h2 (by rw [List.length_append]; simp; omega) HTW.out)); rintro e w3 ⟨rfl, h3, hb3⟩; have d0 := h3.c0)
                        | (go_at_call 53; go_must (go_fit (take_yes rfl _ h3)); rintro e w4 ⟨rfl, h4, hb4⟩))
                      go_roundg f
                      case measure => omega
                      case rel => exact ⟨_, _, _, _, _, rfl, by simp, h4, ((hb.trans hb2).trans hb3).trans hb4, hlx, fin0, by omega, by omega, .inl ⟨rfl, rfl, go, HG.out.1, by simp; omega, by rw [go_empty, HT2.out], fun k hk => by have := HG.out.2 k hk; rw [List.length_append]; omega⟩⟩
                    | d :: u, hdw, CP, _, E4, E5 =>
                      simp only [List.length_cons] at hdw
                      by_cases hd58 : d = 58
                      · subst hd58
                        have HTW := Lib.hid (two58_yes u)
                        have HT2 := Lib.hid (E5 _ rfl)
                        clear E2 E4 E5
                        have hul := str_toL u
                        cases go with
                        | some k =>
                          have hgn : ¬ gap < 0 := by rw [hgo]; show ¬ (k : Int) < 0; omega
                          have hgb : (true && decide (gap < 0)) = false := by rw [decide_eq_false hgn]; rfl
                          have CNo := Lib.hid fun w h => (noughts_yes (g := g) (s := 58 :: 58 :: u) (ok := true) (l := l ++ [n]) (gap := gap) w h (by omega) HTW.out).mono fun e w' h' => (⟨h'.1, by rw [hgb] at h'; exact h'.2.1, h'.2.2⟩ : e = .returned (.bool true) ∧ RD w' g u false (l ++ [n]) (l ++ [n]).length ∧ Below g w w')
                          have HF := Lib.hid (show T = none from HT2.out.trans (if_pos rfl))
                          clear HT2 hgo h8 hgn hgb
                          go_wp2_with (first
                            | (go_at_call 50; go_must (go_fit (CD.out _ h)); rintro e w1 ⟨rfl, rfl⟩)
                            | (go_at_call 52; go_must (go_fit CP.out); rintro e w2 ⟨rfl, h2, hb2⟩; have f0 := h2.c0)
                            | (go_at_call 49; go_must (go_fit (CNo.out _ h2)); rintro e w3 ⟨rfl, h3, hb3⟩; have d0 := h3.c0))
                          go_roundg 0
                          case measure => omega
                          case rel => exact ⟨_, false, _, _, _, rfl, by omega, h3, (hb.trans hb2).trans hb3, hlx, fin0, by omega, by omega, .inr ⟨by simp, AllIs.no HF.out (.inl rfl)⟩⟩
                        | none =>
                          have hgn : gap < 0 := by rw [hgo]; decide
                          have hgb : (true && decide (gap < 0)) = true := by rw [decide_eq_true hgn]; rfl
                          have CNo := Lib.hid fun w h => (noughts_yes (g := g) (s := 58 :: 58 :: u) (ok := true) (l := l ++ [n]) (gap := gap) w h (by omega) HTW.out).mono fun e w' h' => (⟨h'.1, by rw [hgb] at h'; exact h'.2.1, h'.2.2⟩ : e = .returned (.bool true) ∧ RD w' g u true (l ++ [n]) (l ++ [n]).length ∧ Below g w w')
                          have HF := Lib.hid (show T = if u = [] then some (l ++ [n], some (l.length + 1)) else sGo f u (l ++ [n]) (some (l.length + 1)) from HT2.out.trans (if_neg (by simp)))
                          clear HT2 hgo h8 hgn hgb
                          by_cases hu : u = []
                          · subst hu
                            have HF := Lib.hid (HF.out.trans (if_pos rfl))
                            go_wp2_with (first
                              | (go_at_call 50; go_must (go_fit (CD.out _ h)); rintro e w1 ⟨rfl, rfl⟩)
                              | (go_at_call 52; go_must (go_fit CP.out); rintro e w2 ⟨rfl, h2, hb2⟩; have f0 := h2.c0)
                              | (go_at_call 49; go_must (go_fit (CNo.out _ h2)); rintro e w3 ⟨rfl, h3, hb3⟩; have d0 := h3.c0))
                            go_roundg 0
                            case measure => omega
                            case rel => exact ⟨_, true, _, _, _, rfl, by simp, h3, (hb.trans hb2).trans hb3, hlx, fin0, by omega, by omega, .inr ⟨by simp, .inl ⟨_, _, HF.out, rfl, rfl, rfl, by rw [List.length_append]; rfl, fun k hk => by injection hk with hk; rw [List.length_append]; simp; omega⟩⟩⟩
                          · have hue : u.isEmpty = false := by cases u with | nil => exact absurd rfl hu | cons _ _ => rfl
                            have HF2 := Lib.hid (HF.out.trans (if_neg hu))
                            clear hu HF
                            go_wp2_with (first
                              | (go_at_call 50; go_must (go_fit (CD.out _ h)); rintro e w1 ⟨rfl, rfl⟩)
                              | (go_at_call 52; go_must (go_fit CP.out); rintro e w2 ⟨rfl, h2, hb2⟩; have f0 := h2.c0)
                              | (go_at_call 49; go_must (go_fit (CNo.out _ h2)); rintro e w3 ⟨rfl, h3, hb3⟩; have d0 := h3.c0))
                            go_roundg f
                            case measure => omega
                            case rel => exact ⟨_, true, _, _, true, by simp, by omega, h3, (hb.trans hb2).trans hb3, hlx, fin0, by omega, by omega, .inl ⟨rfl, rfl, some (l.length + 1), by rw [List.length_append]; rfl, by omega, HF2.out.symm, fun k hk => by injection hk with hk; rw [List.length_append]; simp; omega⟩⟩
                      · have HTW := Lib.hid (show two58 (58 :: d :: u) = false from two58_no (fun u e => by injection e with _ e; injection e with e; exact hd58 e))
                        have HT2 := Lib.hid (E4 _ _ rfl hd58)
                        clear E2 E4 E5 hgo h8 hd58
                        go_wp2_with (first
                          | (go_at_call 50; go_must (go_fit (CD.out _ h)); rintro e w1 ⟨rfl, rfl⟩)
                          | (go_at_call 52; go_must (go_fit CP.out); rintro e w2 ⟨rfl, h2, hb2⟩; have f0 := h2.c0)
                          | (go_at_call 49; go_must (go_fit (noughts_no _ h2 (by rw [List.length_append]; simp; omega) HTW.out)); rintro e w3 ⟨rfl, h3, hb3⟩; have d0 := h3.c0)
                          | (go_at_call 53; go_must (go_fit (take_yes rfl _ h3)); rintro e w4 ⟨rfl, h4, hb4⟩))
                        go_roundg f
                        case measure => omega
                        case rel => exact ⟨_, _, _, _, _, rfl, by simp only [List.length_cons]; omega, h4, ((hb.trans hb2).trans hb3).trans hb4, hlx, fin0, by omega, by omega, .inl ⟨rfl, rfl, go, HG.out.1, by simp only [List.length_cons]; omega, HT2.out.symm, fun k hk => by have := HG.out.2 k hk; rw [List.length_append]; omega⟩⟩
                  · have HTW := Lib.hid (show two58 (c :: t) = false from two58_no (fun u e => by injection e with e; exact hc e))
                    have HQ := Lib.hid (show ∀ u, c :: t ≠ 58 :: u from fun u e => by injection e with e; exact hc e)
                    have HT2 := Lib.hid (E2 _ _ rfl hc)
                    clear E2 E3 E4 E5 hgo h8 hc
                    go_wp2_with (first
                      | (go_at_call 50; go_must (go_fit (CD.out _ h)); rintro e w1 ⟨rfl, rfl⟩)
                      | (go_at_call 52; go_must (go_fit CP.out); rintro e w2 ⟨rfl, h2, hb2⟩; have f0 := h2.c0)
                      | (go_at_call 49; go_must (go_fit (noughts_no _ h2 (by rw [List.length_append]; simp; omega) HTW.out)); rintro e w3 ⟨rfl, h3, hb3⟩; have d0 := h3.c0)
                      | (go_at_call 53; go_must (go_fit (take_no HQ.out _ h3)); rintro e w4 ⟨rfl, h4, hb4⟩))
                    go_roundg 0
                    case measure => omega
                    case rel => exact ⟨_, _, _, _, _, rfl, by simp only [List.length_cons]; omega, h4, ((hb.trans hb2).trans hb3).trans hb4, hlx, fin0, by omega, by omega, .inr ⟨by simp, AllIs.no HT2.out (.inr (.inl (by simp)))⟩⟩
        · have HF := Lib.hid hF
          cases nx with
          | false =>
            clear hLI hF hnx
            go_wp2
            go_end0
            exact ⟨rfl, by unfold AllPost; exact ⟨r, ok, l, gap, h, HL.out, by omega, hg0, hg1, HF.out, hb⟩⟩
          | true =>
            rw [Bool.true_and] at hnx
            subst hnx
            clear hLI hF
            go_wp2
            go_end0
            exact ⟨rfl, by unfold AllPost; exact ⟨r, false, l, gap, h, HL.out, by omega, hg0, hg1, HF.out, hb⟩⟩
  · have h2 : ∀ t, s ≠ 58 :: 58 :: t := fun t e => htw ⟨t, e⟩
    have CN := Lib.hid (noughts_no w h (by simp) (two58_no h2))
    by_cases hs0 : s = []
    · subst hs0
      have htl := str_toL []
      go_enter Tryd.func36, Tryd.ntmps36
      go_wp2_with (go_at_call 49; go_must (go_fit CN.out); rintro e w1 ⟨rfl, h1, hb1⟩; have c0 := h1.c0; have c3 := h1.c3)
      go_loopg [2] 0 (fun k s2 wr => s2 = .bool false ∧ w1 = wr)
      case atStart => exact ⟨rfl, rfl⟩
      case round =>
        obtain ⟨rfl, rfl⟩ := hrel
        go_wp2
        go_end0
        exact ⟨rfl, by unfold AllPost; exact ⟨[], true, [], -1, h1, by simp, by simp, by omega, by omega, .inl ⟨[], none, rfl, rfl, rfl, rfl, rfl, fun k hk => by cases hk⟩, hb1⟩⟩
    · have hte : s.isEmpty = false := by cases s with | nil => exact absurd rfl hs0 | cons _ _ => rfl
      have hT := sAll_one hs0 h2
      obtain ⟨T, hTe⟩ : ∃ T, T = sAll s := ⟨_, rfl⟩
      rw [← hTe] at hT ⊢
      have HT := Lib.hid hT
      clear hT hTe hs0 h2 htw
      have htl := str_toL s
      go_enter Tryd.func36, Tryd.ntmps36
      go_wp2_with (go_at_call 49; go_must (go_fit CN.out); rintro e w1 ⟨rfl, h1, hb1⟩; have c0 := h1.c0; have c3 := h1.c3)
      clear c0 c3 htl hte
      go_loopg [2] (s.length + 1) (fun k s2 wr => ∃ (r : List UInt8) (ok : Bool) (l : List Nat) (gap : Int) (nx : Bool), s2 = .bool nx ∧ r.length ≤ 1000 ∧ RD wr g r ok l gap ∧ Below g w wr ∧ (∀ x ∈ l, x < 65536) ∧ l.length ≤ 20 ∧ -1 ≤ gap ∧ gap ≤ 20 ∧ Hid (LI k nx r ok l gap T))
      case atStart => exact ⟨s, true, [], -1, true, rfl, by omega, h1, hb1, by simp, by simp, by omega, by omega, .inl ⟨rfl, rfl, none, rfl, by omega, HT.out.symm, fun k hk => by cases hk⟩⟩
      case round =>
        obtain ⟨r, ok, l, gap, nx, rfl, hr0, h, hb, hl0, hlen, hg0, hg1, hLI⟩ := hrel
        have c0 := h.c0
        have c1 := h.c1
        have c3 := h.c3
        obtain ⟨A, cc, c2, hcc, hmm⟩ := h.c2
        have HL := Lib.hid hl0
        rcases hLI.out with ⟨rfl, rfl, go, hgo, hrk, hT, hgk⟩ | ⟨hnx, hF⟩
        · obtain ⟨f, rfl⟩ : ∃ f, gk = f + 1 := ⟨gk - 1, by omega⟩
          by_cases h8 : 8 < l.length
          · have HF := Lib.hid (AllIs.no (r := r) (ok := true) (l := l) (gap := gap) (hT.symm.trans (go_long h8)) (.inr (.inr h8)))
            have h8' : ¬ (l.length : Int) ≤ 8 := by omega
            clear hLI hT hgk
            go_wp2
            go_end0
            exact ⟨rfl, by unfold AllPost; exact ⟨r, true, l, gap, h, HL.out, by omega, hg0, hg1, HF.out, hb⟩⟩
          · have h8' : (l.length : Int) ≤ 8 := by omega
            have CD := Lib.hid fun w h => dotted6_any g r true l gap w h
            cases hd : dotted r with
            | true =>
              rw [hd] at CD
              have hT2 := hT.symm.trans (go_dots h8 hd)
              have HT2 := Lib.hid hT2
              have HG := Lib.hid (show gap = gapI go ∧ ∀ k, go = some k → k ≤ l.length from ⟨hgo, hgk⟩)
              have CF := Lib.hid (four6_any g r l gap wr h (hev.low hlow hb) hlow (by omega) (by omega))
              clear hLI hT hd hT2 hgk hgo h8
              go_wp2_with (first
                | (go_at_call 50; go_must (go_fit (CD.out _ h)); rintro e w1 ⟨rfl, rfl⟩)
                | (go_at_call 51; go_must (go_fit CF.out); rintro e w2 ⟨rfl, h2⟩))
              go_end0
              refine ⟨rfl, ?_⟩
              unfold FourPost at h2
              obtain ⟨r2, ok2, y0, y1, h2, hy0, hy1, hF4, hb2⟩ := h2
              unfold AllPost
              refine ⟨r2, ok2, l ++ [y0, y1], gap, h2, ?_, by rw [List.length_append]; simp; omega, hg0, hg1, ?_, hb.trans hb2⟩
              · rw [show l ++ [y0, y1] = (l ++ [y0]) ++ [y1] by simp]
                exact lt_snoc (lt_snoc HL.out hy0) hy1
              · rcases hF4 with ⟨m, e1, e2, e3, e4⟩ | ⟨e1, e2⟩
                · refine .inl ⟨l ++ m, go, by rw [HT2.out, e1]; rfl, e2, e3, by rw [e4], HG.out.1, fun k hk => ?_⟩
                  have := HG.out.2 k hk
                  rw [List.length_append]; omega
                · refine .inr ⟨by rw [HT2.out, e1]; rfl, ?_⟩
                  cases ok2 with
                  | false => exact .inl rfl
                  | true => exact .inr (.inl fun e => e2 ⟨rfl, e⟩)
            | false =>
              rw [hd] at CD
              have hdw := dropWhile_len hexOk r
              cases hk : okPiece (r.takeWhile hexOk) with
              | false =>
                have hT2 := hT.symm.trans (go_bad h8 hd hk)
                have CP := Lib.hid (piece_no wr h (hev.low hlow hb) hlow (by omega) (by omega) hk)
                have HT2 := Lib.hid hT2
                obtain ⟨q, hq⟩ : ∃ q, q = r.dropWhile hexOk := ⟨_, rfl⟩
                rw [← hq] at CP hdw
                clear hLI hT hd hT2 hgk hgo h8 hk hq
                cases htw : two58 q with
                | true =>
                  have HTW := Lib.hid htw
                  clear htw
                  go_wp2_with (first
                    | (go_at_call 50; go_must (go_fit (CD.out _ h)); rintro e w1 ⟨rfl, rfl⟩)
                    | (go_at_call 52; go_must (go_fit CP.out); rintro e w2 ⟨rfl, x, h2, hx, hb2⟩; have hlx := lt_snoc HL.out hx; have f0 := h2.c0)
                    | (go_at_call 49; go_must (go_fit (noughts_yes _ h2 (by rw [List.length_append]; simp; omega) HTW.out)); rintro e w3 ⟨rfl, h3, hb3⟩; have d0 := h3.c0))
                  all_goals go_roundg 0
                  all_goals first
                    | (case measure => omega)
                    | (case rel => exact ⟨_, false, _, _, _, rfl, by simp; omega, h3, (hb.trans hb2).trans hb3, hlx, by simp; omega, by simp; omega, by simp; omega, .inr ⟨by simp, AllIs.no HT2.out (.inl rfl)⟩⟩)
                | false =>
                  have HTW := Lib.hid htw
                  clear htw
                  by_cases hc : ∃ t, q = 58 :: t
                  · obtain ⟨t, ht⟩ := hc
                    have HQ := Lib.hid ht
                    clear ht
                    go_wp2_with (first
                      | (go_at_call 50; go_must (go_fit (CD.out _ h)); rintro e w1 ⟨rfl, rfl⟩)
                      | (go_at_call 52; go_must (go_fit CP.out); rintro e w2 ⟨rfl, x, h2, hx, hb2⟩; have hlx := lt_snoc HL.out hx; have f0 := h2.c0)
                      | (go_at_call 49; go_must (go_fit (noughts_no _ h2 (by rw [List.length_append]; simp; omega) HTW.out)); rintro e w3 ⟨rfl, h3, hb3⟩; have d0 := h3.c0)
                      | (go_at_call 53; go_must (go_fit (take_yes HQ.out _ h3)); rintro e w4 ⟨rfl, h4, hb4⟩))
                    go_roundg 0
                    case measure => omega
                    case rel => exact ⟨_, false, _, _, _, rfl, by have := HQ.out; rw [this] at hdw; simp at hdw; omega, h4, ((hb.trans hb2).trans hb3).trans hb4, hlx, by simp; omega, by omega, by omega, .inr ⟨by simp, AllIs.no HT2.out (.inl rfl)⟩⟩
                  · have HQ := Lib.hid (show ∀ t, q ≠ 58 :: t from fun t e => hc ⟨t, e⟩)
                    clear hc
                    go_wp2_with (first
                      | (go_at_call 50; go_must (go_fit (CD.out _ h)); rintro e w1 ⟨rfl, rfl⟩)
                      | (go_at_call 52; go_must (go_fit CP.out); rintro e w2 ⟨rfl, x, h2, hx, hb2⟩; have hlx := lt_snoc HL.out hx; have f0 := h2.c0)
                      | (go_at_call 49; go_must (go_fit (noughts_no _ h2 (by rw [List.length_append]; simp; omega) HTW.out)); rintro e w3 ⟨rfl, h3, hb3⟩; have d0 := h3.c0)
                      | (go_at_call 53; go_must (go_fit (take_no HQ.out _ h3)); rintro e w4 ⟨rfl, h4, hb4⟩))
                    go_roundg 0
                    case measure => omega
                    case rel => exact ⟨_, false, _, _, _, rfl, by omega, h4, ((hb.trans hb2).trans hb3).trans hb4, hlx, by simp; omega, by omega, by omega, .inr ⟨by simp, AllIs.no HT2.out (.inl rfl)⟩⟩
              | true =>
                have CP := Lib.hid (piece_yes wr h (hev.low hlow hb) hlow (by omega) (by omega) hk)
                obtain ⟨_, hn16⟩ := hexW_piece (takeWhile_all hexOk r) hk
                have E1 := go_end (f := f) (l := l) (go := go) h8 hd hk
                have E2 := fun (c : UInt8) (t : List UInt8) => go_other (f := f) (l := l) (go := go) h8 hd hk (c := c) (t := t)
                have E3 := go_colon (f := f) (l := l) (go := go) h8 hd hk
                have E4 := fun (c : UInt8) (t : List UInt8) => go_next (f := f) (l := l) (go := go) h8 hd hk (d := c) (u := t)
                have E5 := fun (t : List UInt8) => go_gap (f := f) (l := l) (go := go) h8 hd hk (u := t)
                rw [hT] at E1 E2 E3 E4 E5
                obtain ⟨q, hq⟩ : ∃ q, q = r.dropWhile hexOk := ⟨_, rfl⟩
                obtain ⟨n, hn⟩ : ∃ n, n = hexN (r.takeWhile hexOk) := ⟨_, rfl⟩
                rw [← hq] at CP hdw E1 E2 E3 E4 E5
                rw [← hn] at CP hn16 E1 E4 E5
                have hlx := lt_snoc HL.out hn16
                have HG := Lib.hid (show gap = gapI go ∧ ∀ k, go = some k → k ≤ l.length from ⟨hgo, hgk⟩)
                clear hLI hT hd hgk hk hq hn
                have fin0 : (l ++ [n]).length ≤ 20 := by rw [List.length_append]; simp; omega
                match q, hdw, CP, E1, E2, E3, E4, E5 with
                | [], hdw, CP, E1, _, _, _, _ =>
                  have HTW := Lib.hid (show two58 [] = false from rfl)
                  have HQ := Lib.hid (show ∀ t, ([] : List UInt8) ≠ 58 :: t from fun t e => by cases e)
                  have HT2 := Lib.hid (E1 rfl)
                  clear E1 hgo h8
                  go_wp2_with (first
                    | (go_at_call 50; go_must (go_fit (CD.out _ h)); rintro e w1 ⟨rfl, rfl⟩)
                    | (go_at_call 52; go_must (go_fit CP.out); rintro e w2 ⟨rfl, h2, hb2⟩; have f0 := h2.c0)
                    | (go_at_call 49; go_must (go_fit (noughts_no _ h2 (by rw [List.length_append]; simp; omega) HTW.out)); rintro e w3 ⟨rfl, h3, hb3⟩; have d0 := h3.c0)
                    | (go_at_call 53; go_must (go_fit (take_no HQ.out _ h3)); rintro e w4 ⟨rfl, h4, hb4⟩))
                  go_roundg 0
                  case measure => omega
                  case rel => exact ⟨_, _, _, _, _, rfl, by simp, h4, ((hb.trans hb2).trans hb3).trans hb4, hlx, fin0, by omega, by omega, .inr ⟨by simp, .inl ⟨_, _, HT2.out, rfl, rfl, rfl, HG.out.1, fun k hk => by have := HG.out.2 k hk; rw [List.length_append]; omega⟩⟩⟩
                | c :: t, hdw, CP, _, E2, E3, E4, E5 =>
                  simp only [List.length_cons] at hdw
                  by_cases hc : c = 58
                  · subst hc
                    match t, hdw, CP, E3, E4, E5 with
                    | [], hdw, CP, E3, _, _ =>
                      have HTW := Lib.hid (show two58 [58] = false from two58_no (fun u e => by cases e))
                      have HT2 := Lib.hid (E3 rfl)
                      clear E2 E3 hgo h8
                      go_wp2_with (first
                        | (go_at_call 50; go_must (go_fit (CD.out _ h)); rintro e w1 ⟨rfl, rfl⟩)
                        | (go_at_call 52; go_must (go_fit CP.out); rintro e w2 ⟨rfl, h2, hb2⟩; have f0 := h2.c0)
                        | (go_at_call 49; go_must (go_fit (noughts_no _ h2 (by rw [List.length_append]; simp; omega) HTW.out)); rintro e w3 ⟨rfl, h3, hb3⟩; have d0 := h3.c0)
                        | (go_at_call 53; go_must (go_fit (take_yes rfl _ h3)); rintro e w4 ⟨rfl, h4, hb4⟩))
                      go_roundg f
                      case measure => omega
                      case rel => exact ⟨_, _, _, _, _, rfl, by simp, h4, ((hb.trans hb2).trans hb3).trans hb4, hlx, fin0, by omega, by omega, .inl ⟨rfl, rfl, go, HG.out.1, by simp; omega, by rw [go_empty, HT2.out], fun k hk => by have := HG.out.2 k hk; rw [List.length_append]; omega⟩⟩
                    | d :: u, hdw, CP, _, E4, E5 =>
                      simp only [List.length_cons] at hdw
                      by_cases hd58 : d = 58
                      · subst hd58
                        have HTW := Lib.hid (two58_yes u)
                        have HT2 := Lib.hid (E5 _ rfl)
                        clear E2 E4 E5
                        have hul := str_toL u
                        cases go with
                        | some k =>
                          have hgn : ¬ gap < 0 := by rw [hgo]; show ¬ (k : Int) < 0; omega
                          have hgb : (true && decide (gap < 0)) = false := by rw [decide_eq_false hgn]; rfl
                          have CNo := Lib.hid fun w h => (noughts_yes (g := g) (s := 58 :: 58 :: u) (ok := true) (l := l ++ [n]) (gap := gap) w h (by omega) HTW.out).mono fun e w' h' => (⟨h'.1, by rw [hgb] at h'; exact h'.2.1, h'.2.2⟩ : e = .returned (.bool true) ∧ RD w' g u false (l ++ [n]) (l ++ [n]).length ∧ Below g w w')
                          have HF := Lib.hid (show T = none from HT2.out.trans (if_pos rfl))
                          clear HT2 hgo h8 hgn hgb
                          go_wp2_with (first
                            | (go_at_call 50; go_must (go_fit (CD.out _ h)); rintro e w1 ⟨rfl, rfl⟩)
                            | (go_at_call 52; go_must (go_fit CP.out); rintro e w2 ⟨rfl, h2, hb2⟩; have f0 := h2.c0)
                            | (go_at_call 49; go_must (go_fit (CNo.out _ h2)); rintro e w3 ⟨rfl, h3, hb3⟩; have d0 := h3.c0))
                          go_roundg 0
                          case measure => omega
                          case rel => exact ⟨_, false, _, _, _, rfl, by omega, h3, (hb.trans hb2).trans hb3, hlx, fin0, by omega, by omega, .inr ⟨by simp, AllIs.no HF.out (.inl rfl)⟩⟩
                        | none =>
                          have hgn : gap < 0 := by rw [hgo]; decide
                          have hgb : (true && decide (gap < 0)) = true := by rw [decide_eq_true hgn]; rfl
                          have CNo := Lib.hid fun w h => (noughts_yes (g := g) (s := 58 :: 58 :: u) (ok := true) (l := l ++ [n]) (gap := gap) w h (by omega) HTW.out).mono fun e w' h' => (⟨h'.1, by rw [hgb] at h'; exact h'.2.1, h'.2.2⟩ : e = .returned (.bool true) ∧ RD w' g u true (l ++ [n]) (l ++ [n]).length ∧ Below g w w')
                          have HF := Lib.hid (show T = if u = [] then some (l ++ [n], some (l.length + 1)) else sGo f u (l ++ [n]) (some (l.length + 1)) from HT2.out.trans (if_neg (by simp)))
                          clear HT2 hgo h8 hgn hgb
                          by_cases hu : u = []
                          · subst hu
                            have HF := Lib.hid (HF.out.trans (if_pos rfl))
                            go_wp2_with (first
                              | (go_at_call 50; go_must (go_fit (CD.out _ h)); rintro e w1 ⟨rfl, rfl⟩)
                              | (go_at_call 52; go_must (go_fit CP.out); rintro e w2 ⟨rfl, h2, hb2⟩; have f0 := h2.c0)
                              | (go_at_call 49; go_must (go_fit (CNo.out _ h2)); rintro e w3 ⟨rfl, h3, hb3⟩; have d0 := h3.c0))
                            go_roundg 0
                            case measure => omega
                            case rel => exact ⟨_, true, _, _, _, rfl, by simp, h3, (hb.trans hb2).trans hb3, hlx, fin0, by omega, by omega, .inr ⟨by simp, .inl ⟨_, _, HF.out, rfl, rfl, rfl, by rw [List.length_append]; rfl, fun k hk => by injection hk with hk; rw [List.length_append]; simp; omega⟩⟩⟩
                          · have hue : u.isEmpty = false := by cases u with | nil => exact absurd rfl hu | cons _ _ => rfl
                            have HF2 := Lib.hid (HF.out.trans (if_neg hu))
                            clear hu HF
                            go_wp2_with (first
                              | (go_at_call 50; go_must (go_fit (CD.out _ h)); rintro e w1 ⟨rfl, rfl⟩)
                              | (go_at_call 52; go_must (go_fit CP.out); rintro e w2 ⟨rfl, h2, hb2⟩; have f0 := h2.c0)
                              | (go_at_call 49; go_must (go_fit (CNo.out _ h2)); rintro e w3 ⟨rfl, h3, hb3⟩; have d0 := h3.c0))
                            go_roundg f
                            case measure => omega
                            case rel => exact ⟨_, true, _, _, true, by simp, by omega, h3, (hb.trans hb2).trans hb3, hlx, fin0, by omega, by omega, .inl ⟨rfl, rfl, some (l.length + 1), by rw [List.length_append]; rfl, by omega, HF2.out.symm, fun k hk => by injection hk with hk; rw [List.length_append]; simp; omega⟩⟩
                      · have HTW := Lib.hid (show two58 (58 :: d :: u) = false from two58_no (fun u e => by injection e with _ e; injection e with e; exact hd58 e))
                        have HT2 := Lib.hid (E4 _ _ rfl hd58)
                        clear E2 E4 E5 hgo h8 hd58
                        go_wp2_with (first
                          | (go_at_call 50; go_must (go_fit (CD.out _ h)); rintro e w1 ⟨rfl, rfl⟩)
                          | (go_at_call 52; go_must (go_fit CP.out); rintro e w2 ⟨rfl, h2, hb2⟩; have f0 := h2.c0)
                          | (go_at_call 49; go_must (go_fit (noughts_no _ h2 (by rw [List.length_append]; simp; omega) HTW.out)); rintro e w3 ⟨rfl, h3, hb3⟩; have d0 := h3.c0)
                          | (go_at_call 53; go_must (go_fit (take_yes rfl _ h3)); rintro e w4 ⟨rfl, h4, hb4⟩))
                        go_roundg f
                        case measure => omega
                        case rel => exact ⟨_, _, _, _, _, rfl, by simp only [List.length_cons]; omega, h4, ((hb.trans hb2).trans hb3).trans hb4, hlx, fin0, by omega, by omega, .inl ⟨rfl, rfl, go, HG.out.1, by simp only [List.length_cons]; omega, HT2.out.symm, fun k hk => by have := HG.out.2 k hk; rw [List.length_append]; omega⟩⟩
                  · have HTW := Lib.hid (show two58 (c :: t) = false from two58_no (fun u e => by injection e with e; exact hc e))
                    have HQ := Lib.hid (show ∀ u, c :: t ≠ 58 :: u from fun u e => by injection e with e; exact hc e)
                    have HT2 := Lib.hid (E2 _ _ rfl hc)
                    clear E2 E3 E4 E5 hgo h8 hc
                    go_wp2_with (first
                      | (go_at_call 50; go_must (go_fit (CD.out _ h)); rintro e w1 ⟨rfl, rfl⟩)
                      | (go_at_call 52; go_must (go_fit CP.out); rintro e w2 ⟨rfl, h2, hb2⟩; have f0 := h2.c0)
                      | (go_at_call 49; go_must (go_fit (noughts_no _ h2 (by rw [List.length_append]; simp; omega) HTW.out)); rintro e w3 ⟨rfl, h3, hb3⟩; have d0 := h3.c0)
                      | (go_at_call 53; go_must (go_fit (take_no HQ.out _ h3)); rintro e w4 ⟨rfl, h4, hb4⟩))
                    go_roundg 0
                    case measure => omega
                    case rel => exact ⟨_, _, _, _, _, rfl, by simp only [List.length_cons]; omega, h4, ((hb.trans hb2).trans hb3).trans hb4, hlx, fin0, by omega, by omega, .inr ⟨by simp, AllIs.no HT2.out (.inr (.inl (by simp)))⟩⟩
        · have HF := Lib.hid hF
          cases nx with
          | false =>
            clear hLI hF hnx
            go_wp2
            go_end0
            exact ⟨rfl, by unfold AllPost; exact ⟨r, ok, l, gap, h, HL.out, by omega, hg0, hg1, HF.out, hb⟩⟩
          | true =>
            rw [Bool.true_and] at hnx
            subst hnx
            clear hLI hF
            go_wp2
            go_end0
            exact ⟨rfl, by unfold AllPost; exact ⟨r, false, l, gap, h, HL.out, by omega, hg0, hg1, HF.out, hb⟩⟩
end Go.Proofs.YtaglbcniomcfnaaDoor

