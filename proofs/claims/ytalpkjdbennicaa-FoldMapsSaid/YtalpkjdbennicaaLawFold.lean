/- The walks of the statements of layer 4, fold: each returns true and turns nothing that was there. -/
import Derived.Test.YtalpkjdbennicaaFoldB
import Derived.Test.YtalpkjdbennicaaOwn
namespace Go.Proofs.Ytalpkjdbennicaa
set_option linter.all false
open Go.RowKit

set_option maxRecDepth 100000 in
set_option maxHeartbeats 1000000 in
theorem begun4_any (w : World) : Calls Try.prog 23 #[] w fun e w' => e = .returned (.bool true) ∧ Below w.heap.size w w' := by
  have e1 : mOut 65 = 97 := by decide
  have e2 : mKeep 65 = true := by decide
  have e3 : mKeep 173 = false := by decide
  go_enter Try.func23, Try.ntmps23
  go_wp2_with (first
    | (go_at_call 24; go_fit (map_any 65 w); rintro e w1 ⟨rfl, hb1⟩)
    | (go_at_call 24; go_fit (map_any 173 w1); rintro e w2 ⟨rfl, hb2⟩)
    | (go_at_call 27; go_must (go_fit (text_any _ 2 [65, 173] (w2.alloc (.cells #[.int .i32 65, .int .i32 173] 21)) Rd.lit (by decide))); rintro e w3 ⟨v3, rfl, hown3, hb3⟩; obtain ⟨A3, c3, rfl, hc3, hm3, hr3⟩ := own_rd hown3))
  go_ret
  exact ⟨ret_bool (by decide), bnext (bnew (bnext hb1 hb2) _) hb3⟩

set_option maxRecDepth 100000 in
set_option maxHeartbeats 1000000 in
theorem foldMaps_walk (r : Int) (w : World) : Calls Try.prog 3 #[.int .i32 r] w fun e w' => e = .returned (.bool true) ∧ Below w.heap.size w w' := by
  go_enter Try.func3, Try.ntmps3
  go_wp2_with (first
    | (go_at_call 23; go_must (go_fit (begun4_any w)); rintro e w1 ⟨rfl, hb1⟩)
    | (go_at_call 24; go_must (go_fit (map_any r w1)); rintro e w2 ⟨rfl, hb2⟩)
    | (go_at_call 25; go_must (go_fit (rmap_any r w2)); rintro e w3 ⟨rfl, hb3⟩))
  go_ret
  exact ⟨ret_bool (by simp), bnext (bnext hb1 hb2) hb3⟩

set_option maxRecDepth 100000 in
set_option maxHeartbeats 1000000 in
theorem foldStays_walk (r : Int) (w : World) : Calls Try.prog 5 #[.int .i32 r] w fun e w' => e = .returned (.bool true) ∧ Below w.heap.size w w' := by
  by_cases hk : mKeep r = true
  · have h := mOut_fix hk
    obtain ⟨h1, h2⟩ := h
    obtain ⟨y, hy⟩ : ∃ y, y = mOut r := ⟨_, rfl⟩
    rw [← hy] at h1 h2
    have HY := Lib.hid hy
    have C1 := Lib.hid fun w => map_any r w
    rw [← hy] at C1
    have C2 := Lib.hid fun w => map_any y w
    rw [h1, h2] at C2
    rw [hk] at C1
    clear hy h1 h2
    go_enter Try.func5, Try.ntmps5
    go_wp2_with (first
      | (go_at_call 23; go_must (go_fit (begun4_any w)); rintro e w1 ⟨rfl, hb1⟩)
      | (go_at_call 24; go_fit (C1.out w1); rintro e w2 ⟨rfl, hb2⟩)
      | (go_at_call 24; go_fit (C2.out w2); rintro e w3 ⟨rfl, hb3⟩))
    go_ret
    exact ⟨ret_bool (by simp), bnext (bnext hb1 hb2) hb3⟩
  · have hk : mKeep r = false := Bool.eq_false_iff.2 hk
    have h0 := mOut_gone hk
    have C1 := Lib.hid fun w => map_any r w
    rw [hk, h0] at C1
    clear h0
    go_enter Try.func5, Try.ntmps5
    go_wp2_with (first
      | (go_at_call 23; go_must (go_fit (begun4_any w)); rintro e w1 ⟨rfl, hb1⟩)
      | (go_at_call 24; go_fit (C1.out w1); rintro e w2 ⟨rfl, hb2⟩)
      | (go_at_call 24; go_fit (map_any 0 w2); rintro e w3 ⟨rfl, hb3⟩))
    go_ret
    exact ⟨ret_bool (by simp), bnext (bnext hb1 hb2) hb3⟩

set_option maxRecDepth 100000 in
set_option maxHeartbeats 1000000 in
theorem foldTexts_walk (A : Option Addr) (c : Nat) (l : List Int) (w : World) (hr : Rd w w.heap.size A (runes l)) (hm : l.length ≤ 9223372036854775807) :
    Calls Try.prog 4 #[.slice A l.length c] w fun e w' => e = .returned (.bool true) ∧ Below w.heap.size w w' := by
  have hsb : sameB (fText l) (fText l) = true := sameB_self _
  have hsb2 : sameB l l = true := sameB_self _
  by_cases hl : (l.length : Int) ≤ 40
  · have hft : (fText l).length ≤ 1000000 := by have := fText_le l; omega
    go_enter Try.func4, Try.ntmps4
    go_wp2_with (first
      | (go_at_call 23; go_must (go_fit (begun4_any w)); rintro e w1 ⟨rfl, hb1⟩; have hr1 := hr.next hb1)
      | (at_builtin; refine wpList_append_rd rfl _ _ _ rfl w1.heap.size _ _ 4 Try.underlying26 info_i32 rfl _ 0 [] rfl (empty_own w1 _) _ _ _ _ _ rfl (runes_len l).symm (hr1.new _) (runes_one _) (by omega) (by decide) (by simp) ?_; intro A2 c2 w2 hc2 hm2 hown2 hb2 hg2; simp only [Nat.zero_add, List.nil_append] at hc2 hown2; have hb2' : Below w1.heap.size w1 w2 := (bnew (Below.refl _ _) _).trans hb2; have hr2 := hr1.next hb2')
      | (go_at_call 27; go_must (go_fit (text_any A c l w2 hr2 (by omega))); rintro e w3 ⟨v3, rfl, hown3, hb3⟩; rw [runes_len] at hown3; obtain ⟨A3, c3, rfl, hc3, hm3, hr3⟩ := own_rd hown3; have hq3 := (Rd.own hown2).next hb3; have hr3' := hr2.next hb3)
      | (go_at_call 28; go_must (go_fit (rtext_any A2 c2 l w3 hq3 (by omega))); rintro e w4 ⟨v4, rfl, hown4, hb4⟩; rw [runes_len] at hown4; obtain ⟨A4, c4, rfl, hc4, hm4, hr4⟩ := own_rd hown4; have hq4 := hq3.next hb4; have hr4' := hr3'.next hb4; have hs4 := hr3.next hb4)
      | (go_at_call 26; go_fit (same_any A3 A4 c3 c4 (fText l) (fText l) w4 hs4 hr4 hft hft); rintro e w5 ⟨rfl, hb5⟩; have hq5 := hq4.next hb5; have hr5 := hr4'.next hb5)
      | (go_at_call 26; go_fit (same_any A A2 c c2 l l w5 hr5 hq5 (by omega) (by omega)); rintro e w6 ⟨rfl, hb6⟩))
    go_ret
    exact ⟨ret_bool (by simp), bnext (bnext (bnext (bnext (bnext hb1 hb2') hb3) hb4) hb5) hb6⟩
  · have hl' : 40 < (l.length : Int) := by omega
    clear hl
    go_enter Try.func4, Try.ntmps4
    go_wp2_with (go_at_call 23; go_must (go_fit (begun4_any w)); rintro e w1 ⟨rfl, hb1⟩)
    go_ret
    exact ⟨rfl, hb1⟩

def formsFrom : List Int := [65, 90, 91, 64, 192, 215, 222, 223, 256, 257, 302, 304, 913, 930, 937, 938, 1024, 1039, 1040, 1071, 1072, 12290, 65294, 65313, 65377, 65375, -1]
def formsTo : List Int := [97, 122, 91, 64, 224, 215, 254, 223, 257, 257, 303, 304, 945, 930, 969, 938, 1104, 1119, 1072, 1103, 1072, 46, 46, 97, 46, 65375, -1]
theorem forms_all : ∀ j, j < 27 → mKeep (formsFrom.getD j 0) = true ∧ mOut (formsFrom.getD j 0) = formsTo.getD j 0 := by decide
theorem forms_at {j : Nat} {x y : Int} (hj : j < 27) (hx : formsFrom[j]? = some x) (hy : formsTo[j]? = some y) : mKeep x = true ∧ mOut x = y := by
  have h := forms_all j hj
  rw [List.getD_eq_getElem?_getD, List.getD_eq_getElem?_getD, hx, hy] at h
  exact h

set_option maxRecDepth 100000 in
set_option maxHeartbeats 2000000 in
theorem foldForms_walk (w : World) : Calls Try.prog 6 #[] w fun e w' => e = .returned (.bool true) ∧ Below w.heap.size w w' := by
  go_enter Try.func6, Try.ntmps6
  go_wp2_with (go_at_call 23; go_must (go_fit (begun4_any w)); rintro e w1 ⟨rfl, hb1⟩)
  have hF : Rd (w1.alloc (.cells (runes formsFrom).toArray 21)) (w1.heap.size + 1) (some ⟨w1.heap.size, 0, none⟩) (runes formsFrom) := by
    have := @Rd.lit w1 (runes formsFrom).toArray 21 (0, 0)
    simpa using this
  have hF2 := hF.alloc (by simp) (.cells (runes formsTo).toArray 21)
  have hT : Rd ((w1.alloc (.cells (runes formsFrom).toArray 21)).alloc (.cells (runes formsTo).toArray 21)) (w1.heap.size + 2) (some ⟨w1.heap.size + 1, 0, none⟩) (runes formsTo) := by
    have := @Rd.lit (w1.alloc (.cells (runes formsFrom).toArray 21)) (runes formsTo).toArray 21 (0, 0)
    simpa using this
  obtain ⟨w2, hw2⟩ : ∃ w2, w2 = (w1.alloc (.cells (runes formsFrom).toArray 21)).alloc (.cells (runes formsTo).toArray 21) := ⟨_, rfl⟩
  rw [← hw2] at hF2 hT
  have hsz : w2.heap.size = w1.heap.size + 2 := by rw [hw2]; simp
  have hb2 : Below w.heap.size w w2 := by rw [hw2]; exact bnew (bnew hb1 _) _
  have HW := Lib.hid hw2
  have HS := Lib.hid hsz
  clear hF hw2 hsz
  go_loopg [3] 27 (fun k i wr => ∃ j : Nat, k = 27 - j ∧ j ≤ 27 ∧ i = .int .i64 j ∧ Below w2.heap.size w2 wr)
  case atStart => exact ⟨0, rfl, Nat.zero_le _, rfl, by rw [HW.out]; exact Below.refl _ _⟩
  case round =>
    obtain ⟨j, rfl, hj, rfl, hbel⟩ := hrel
    have hFr := (hF2.mono (B' := w2.heap.size) (by have := HS.out; omega)).below hbel
    have hTr := (hT.mono (B' := w2.heap.size) (by have := HS.out; omega)).below hbel
    by_cases hlt : j < 27
    · obtain ⟨b, off, x, hA, hb, hc, hx⟩ := hFr.rune_at (k := j) (by rw [show formsFrom.length = 27 from rfl]; exact hlt)
      obtain ⟨b2, off2, y, hA2, hb2', hc2, hy⟩ := hTr.rune_at (k := j) (by rw [show formsTo.length = 27 from rfl]; exact hlt)
      injection hA with hA; injection hA with hA1 hA2'; subst hA1; subst hA2'
      injection hA2 with hA2; injection hA2 with hA3 hA4; subst hA3; subst hA4
      obtain ⟨f1, f2⟩ := forms_at hlt hx.out hy.out
      have C1 := Lib.hid fun w => map_any x w
      rw [f1, f2] at C1
      clear f1 f2
      rw [Nat.zero_add] at hc hc2
      have hlt1 : (j : Int) < 27 := by omega
      have hj0 : (0 : Int) ≤ (j : Int) := by omega
      go_wp2_with (go_at_call 24; go_must (go_fit (C1.out wr)); rintro e w3 ⟨rfl, hb3⟩; have hc3 := (hb3.cell (p := ⟨w1.heap.size + 1, j, none⟩) (by show w1.heap.size + 1 < wr.heap.size; have h1 := hbel.size; have h2 := HS.out; omega)).trans hc2)
      go_roundg (27 - (j + 1))
      case measure => omega
      case rel => exact ⟨j + 1, rfl, by omega, by go_num, hbel.trans (hb3.mono hbel.size)⟩
    · obtain rfl : j = 27 := by omega
      go_wp2_with (go_at_call 27; go_must (go_fit (text_any _ 5 [173, 8203, 8205, 8288, 65279] (wr.alloc (.cells #[.int .i32 173, .int .i32 8203, .int .i32 8205, .int .i32 8288, .int .i32 65279] 21)) Rd.lit (by decide))); rintro e w3 ⟨v3, rfl, hown3, hb3⟩; obtain ⟨A3, c3, rfl, hc3, hm3, hr3⟩ := own_rd hown3)
      go_ret
      have hx := hb2.trans (hbel.mono hb2.size)
      exact ⟨ret_bool (by decide), bnext (bnew hx _) hb3⟩

set_option maxRecDepth 100000 in
set_option maxHeartbeats 2000000 in
theorem foldParts_walk (A B : Option Addr) (c d : Nat) (a b : List Int) (w : World) (hra : Rd w w.heap.size A (runes a)) (hrb : Rd w w.heap.size B (runes b)) (hma : a.length ≤ 9223372036854775807) (hmb : b.length ≤ 9223372036854775807) :
    Calls Try.prog 7 #[.slice A a.length c, .slice B b.length d] w fun e w' => e = .returned (.bool true) ∧ Below w.heap.size w w' := by
  by_cases hla : (a.length : Int) ≤ 30
  · by_cases hlb : (b.length : Int) ≤ 30
    · have la := fText_le a
      have lb := fText_le b
      have lz : (fText (a ++ b)).length ≤ 60 ∧ (fText a ++ fText b).length ≤ 60 ∧ (fText (fText a)).length ≤ 60 ∧ (fText a).length ≤ 30 ∧ (fText b).length ≤ 30 := by
        have lc := fText_le (a ++ b)
        have ld : (a ++ b).length = a.length + b.length := List.length_append
        have le : (fText a ++ fText b).length = (fText a).length + (fText b).length := List.length_append
        have lf := fText_le (fText a)
        omega
      obtain ⟨lz1, lz2, lz3, lz4, lz5⟩ := lz
      have e1 : sameB (fText (a ++ b)) (fText a ++ fText b) = true := by rw [fText_append]; exact sameB_self _
      have e2 : sameB (fText (fText a)) (fText a) = true := by rw [fText_fix]; exact sameB_self _
      have hle : ((fText a).length : Int) ≤ (a.length : Int) := by omega
      go_enter Try.func7, Try.ntmps7
      go_wp2_with (first
        | (go_at_call 23; go_must (go_fit (begun4_any w)); rintro e w1 ⟨rfl, hb1⟩; have ha1 := hra.next hb1; have hB1 := hrb.next hb1)
        | (go_at_call 27; go_fit (text_any A c a w1 ha1 (by omega)); rintro e w2 ⟨v2, rfl, hown2, hb2⟩; rw [runes_len] at hown2; obtain ⟨A2, c2, rfl, hc2, hm2, hx2⟩ := own_rd hown2; have ha2 := ha1.next hb2; have hB2 := hB1.next hb2)
        | (go_at_call 27; go_fit (text_any B d b w2 hB2 (by omega)); rintro e w3 ⟨v3, rfl, hown3, hb3⟩; rw [runes_len] at hown3; obtain ⟨A3, c3, rfl, hc3, hm3, hy3⟩ := own_rd hown3; have ha3 := ha2.next hb3; have hB3 := hB2.next hb3; have hx3 := hx2.next hb3; have hz3 := hb3.size)
        | (at_builtin; refine wpList_append_rd rfl _ _ _ rfl w3.heap.size _ _ 4 Try.underlying26 info_i32 rfl _ _ _ rfl (empty_own w3 _) _ _ _ _ _ rfl (runes_len a).symm (ha3.new _) (runes_one _) (by omega) (by decide) (by first | (simp; done) | omega) ?_; intro A4 c4 w4 hc4 hm4 hown4 hb4 hg4; simp only [Nat.zero_add, List.nil_append, ← runes_append] at hc4 hown4; have hb4' : Below w3.heap.size w3 w4 := (bnew (Below.refl _ _) _).trans hb4; have hs4 := hb4'.size)
        | (at_builtin; refine wpList_append_rd rfl _ _ _ rfl w3.heap.size _ _ 4 Try.underlying26 info_i32 rfl _ _ _ rfl hown4 _ _ _ _ _ rfl (runes_len b).symm (hB3.next hb4') (runes_one _) (by omega) (by decide) (by first | (simp; done) | omega) ?_; intro A5 c5 w5 hc5 hm5 hown5 hb5 hg5; simp only [Nat.zero_add, List.nil_append, ← runes_append] at hc5 hown5; have hb5' : Below w3.heap.size w3 w5 := hb4'.trans hb5; have hx5 := hx3.next hb5'; have hy5 := hy3.next hb5'; have ha5 := ha3.next hb5')
        | (go_at_call 27; have hT := Lib.hid (text_any A5 c5 (a ++ b) w5 (Rd.own hown5) (by rw [List.length_append]; omega)); rw [List.length_append] at hT; go_fit hT.out; rintro e w6 ⟨v6, rfl, hown6, hb6⟩; rw [runes_len] at hown6; obtain ⟨A6, c6, rfl, hc6, hm6, hz6⟩ := own_rd hown6; have hx6 := hx5.next hb6; have hy6 := hy5.next hb6; have hs6 := hb6.size)
        | (at_builtin; refine wpList_append_rd rfl _ _ _ rfl w6.heap.size _ _ 4 Try.underlying26 info_i32 rfl _ _ _ rfl (empty_own w6 _) _ _ _ _ _ rfl (runes_len (fText a)).symm (hx6.new _) (runes_one _) (by omega) (by decide) (by first | (simp; done) | omega) ?_; intro A7 c7 w7 hc7 hm7 hown7 hb7 hg7; simp only [Nat.zero_add, List.nil_append, ← runes_append] at hc7 hown7; have hb7' : Below w6.heap.size w6 w7 := (bnew (Below.refl _ _) _).trans hb7; have hs7 := hb7'.size)
        | (at_builtin; refine wpList_append_rd rfl _ _ _ rfl w6.heap.size _ _ 4 Try.underlying26 info_i32 rfl _ _ _ rfl hown7 _ _ _ _ _ rfl (runes_len (fText b)).symm (hy6.next hb7') (runes_one _) (by omega) (by decide) (by first | (simp; done) | omega) ?_; intro A8 c8 w8 hc8 hm8 hown8 hb8 hg8; simp only [Nat.zero_add, List.nil_append, ← runes_append] at hc8 hown8; have hb8' : Below w6.heap.size w6 w8 := hb7'.trans hb8; have hx8 := hx6.next hb8'; have hz8 := hz6.next hb8')
        | (go_at_call 26; have hT2 := Lib.hid (same_any A6 A8 c6 c8 (fText (a ++ b)) (fText a ++ fText b) w8 hz8 (Rd.own hown8) (by omega) (by omega)); rw [List.length_append] at hT2; go_fit hT2.out; rintro e w9 ⟨rfl, hb9⟩; have hx9 := hx8.next hb9)
        | (go_at_call 27; go_fit (text_any A2 c2 (fText a) w9 hx9 (by omega)); rintro e w10 ⟨v10, rfl, hown10, hb10⟩; rw [runes_len] at hown10; obtain ⟨A10, c10, rfl, hc10, hm10, hx10⟩ := own_rd hown10; have hq10 := hx9.next hb10)
        | (go_at_call 26; go_fit (same_any A10 A2 c10 c2 (fText (fText a)) (fText a) w10 hx10 hq10 (by omega) (by omega)); rintro e w11 ⟨rfl, hb11⟩))
      go_ret
      exact ⟨ret_bool (by simp), bnext (bnext (bnext (bnext (bnext (bnext (bnext (bnext hb1 hb2) hb3) hb5') hb6) hb8') hb9) hb10) hb11⟩
    · have hlb' : 30 < (b.length : Int) := by omega
      clear hlb
      go_enter Try.func7, Try.ntmps7
      go_wp2_with (go_at_call 23; go_must (go_fit (begun4_any w)); rintro e w1 ⟨rfl, hb1⟩)
      go_ret
      exact ⟨rfl, hb1⟩
  · have hla' : 30 < (a.length : Int) := by omega
    clear hla
    go_enter Try.func7, Try.ntmps7
    go_wp2_with (go_at_call 23; go_must (go_fit (begun4_any w)); rintro e w1 ⟨rfl, hb1⟩)
    go_ret
    exact ⟨rfl, hb1⟩
end Go.Proofs.Ytalpkjdbennicaa
