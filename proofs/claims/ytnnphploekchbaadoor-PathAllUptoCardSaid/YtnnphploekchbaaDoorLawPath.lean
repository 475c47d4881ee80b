/- The walks of the statements of layer 10: begun, PathBack. -/
import Derived.Test.YtnnphploekchbaaDoorPathE
namespace Go.Proofs.YtnnphploekchbaaDoor
set_option linter.all false
open Go.RowKit

def LP (w : World) : Prop := ML w ∧ AF w
theorem LP.next {w w' : World} (h : LP w) (hb : Below w.heap.size w w') : LP w' := ⟨h.1.next hb, h.2.next hb⟩
/-- The bounds of what is parsed and shown. -/
theorem pGo_le {M : Nat} : ∀ (L out : List (List UInt8)), (∀ y ∈ out, y.length ≤ M) → (∀ x ∈ L, 3 * x.length ≤ M) → (∀ y ∈ pGo out L, y.length ≤ M) ∧ (pGo out L).length ≤ out.length + L.length := by
  intro L
  induction L with
  | nil => intro out h _; exact ⟨h, Nat.le_refl _⟩
  | cons x L ih =>
    intro out h hL
    have hx := hL x (by simp)
    have he := pEnc_le 4 x
    have hl1 := pLast_len out x
    have hn1 := pNext_len out x
    have hnx : ∀ y ∈ pNext out x, y.length ≤ M := by
      intro y hy
      unfold pNext at hy
      split at hy
      · exact h y (List.dropLast_subset _ hy)
      · split at hy
        · exact h y hy
        · rcases List.mem_append.1 hy with hy | hy
          · exact h y hy
          · rw [List.mem_singleton.1 hy]; omega
    have hls : ∀ y ∈ pLast out x, y.length ≤ M := by
      intro y hy
      unfold pLast at hy
      split at hy
      · rcases List.mem_append.1 hy with hy | hy
        · exact h y (List.dropLast_subset _ hy)
        · rw [List.mem_singleton.1 hy]; exact Nat.zero_le _
      · split at hy
        · rcases List.mem_append.1 hy with hy | hy
          · exact h y hy
          · rw [List.mem_singleton.1 hy]; exact Nat.zero_le _
        · rcases List.mem_append.1 hy with hy | hy
          · exact h y hy
          · rw [List.mem_singleton.1 hy]; omega
    rw [pGo_step]
    split
    · next hL0 => subst hL0; exact ⟨hls, by simpa using hl1⟩
    · obtain ⟨g1, g2⟩ := ih (pNext out x) hnx fun z hz => hL z (by simp [hz])
      exact ⟨g1, by rw [List.length_cons]; omega⟩
theorem showP_bound {M : Nat} : ∀ (l : List (List UInt8)), (∀ y ∈ l, y.length ≤ M) → (pShowP l).length ≤ l.length * (M + 1) := by
  intro l
  induction l with
  | nil => intro _; simp [pShowP]
  | cons x l ih =>
    intro h
    have h1 := h x (by simp)
    have h2 := ih fun y hy => h y (by simp [hy])
    have e : pShowP (x :: l) = 47 :: x ++ pShowP l := by simp [pShowP]
    rw [e, List.length_append, List.length_cons, List.length_cons, Nat.succ_mul]; omega
theorem parse_bound {s : List UInt8} {sp : Bool} {N : Nat} (h : s.length ≤ N) : (∀ y ∈ pParse s sp [], y.length ≤ 3 * N) ∧ (pParse s sp []).length ≤ N + 1 := by
  have hc := cuts_le 47 (slash sp s)
  rw [slash_len] at hc
  obtain ⟨g1, g2⟩ := pGo_le (M := 3 * N) (pCut sp s) [] (fun y hy => by cases hy) fun x hx => by
    have := cuts_sum 47 (slash sp s) x hx
    rw [slash_len] at this; omega
  exact ⟨g1, by unfold pCut at g2; simp only [List.length_nil] at g2; unfold pParse pCut; omega⟩
theorem show_bound {s : List UInt8} {sp : Bool} {N : Nat} (h : s.length ≤ N) : (pShowP (pParse s sp [])).length ≤ (N + 1) * (3 * N + 1) := by
  obtain ⟨g1, g2⟩ := parse_bound (sp := sp) h
  exact Nat.le_trans (showP_bound _ g1) (Nat.mul_le_mul_right _ g2)

theorem parse10B (s : List UInt8) (sp : Bool) (A : Option Addr) (c : Nat) (base : List (List UInt8)) (w : World) (h : LP w) (hr : Rd w w.heap.size A (strs base)) (hs : s.length ≤ 30000) (hb : base.length ≤ 10000) :
    Calls Tryd.prog 18 #[.string (str s), .bool sp, .slice A base.length c] w fun e w' => ∃ A' c', e = .returned (.slice A' (pParse s sp base).length c') ∧ Rd w' w'.heap.size A' (strs (pParse s sp base)) ∧ (pParse s sp base).length ≤ c' ∧ c' ≤ maxLen ∧ Below w.heap.size w w' := by
  refine (pparse_any s sp A c base w hr h.1 h.2 hs hb).mono fun e w' ⟨v, he, ho, hbl⟩ => ?_
  obtain ⟨A', c', rfl, h1, h2, h3⟩ := own_rdN ho
  exact ⟨A', c', he, h3, h1, h2, hbl⟩
theorem parse10 (s : List UInt8) (sp : Bool) (w : World) (h : LP w) (hs : s.length ≤ 30000) :
    Calls Tryd.prog 18 #[.string (str s), .bool sp, .slice none 0 0] w fun e w' => ∃ A' c', e = .returned (.slice A' (pParse s sp []).length c') ∧ Rd w' w'.heap.size A' (strs (pParse s sp [])) ∧ (pParse s sp []).length ≤ c' ∧ c' ≤ maxLen ∧ Below w.heap.size w w' :=
  parse10B s sp none 0 [] w h Rd.nil hs (by decide)

set_option maxRecDepth 100000 in
set_option maxHeartbeats 4000000 in
theorem begun10_any (w : World) (hq : LP w) : Calls Tryd.prog 17 #[] w fun e w' => e = .returned (.bool true) ∧ Below w.heap.size w w' := by
  have p1 : pParse [97, 47, 46, 46, 47, 98] true [] = [[98]] := by decide +kernel
  have p2 : pSingle [37, 50, 69] = true := by decide +kernel
  have p3 : pDouble [46, 37, 50, 101] = true := by decide +kernel
  have p4 : pShowP [[97], [98]] = [47, 97, 47, 98] := by decide
  have C1 := Lib.hid (parse10 [97, 47, 46, 46, 47, 98] true w hq (by decide))
  have C2 := Lib.hid fun w h => single_any [37, 50, 69] w h (by decide)
  have C3 := Lib.hid fun w h => double_any [46, 37, 50, 101] w h (by decide)
  have C4 := Lib.hid fun A c w (h : Rd w w.heap.size A (strs [[97], [98]])) => pshow_any A c [[97], [98]] w h (by decide) (by decide)
  rw [p1] at C1
  rw [p2] at C2
  rw [p3] at C3
  rw [p4] at C4
  clear p1 p2 p3 p4
  have t1 : (str [98]).toList = [98] := str_toL _
  have t2 : (str [47, 97, 47, 98]).toList = [47, 97, 47, 98] := str_toL _
  go_enter Tryd.func17, Tryd.ntmps17
  go_wp2_with (first
    | (go_at_call 18; go_must (go_fit C1.out); rintro e w1 ⟨A, c, rfl, hr1, hc1, hm1, hb1⟩; obtain ⟨b, off, x, rfl, hb', hc0, hx⟩ := hr1.str_at (k := 0) (by decide); obtain rfl : x = [98] := (by have := hx.out; injection this with h; exact h.symm); rw [Nat.add_zero] at hc0; have hq1 := hq.next hb1)
    | (go_at_call 19; go_must (go_fit (C2.out w1 hq1.2)); rintro e w2 ⟨rfl, hb2⟩; have hq2 := hq1.next hb2; have hc2 := cell_on hb2 hc0 hb')
    | (go_at_call 21; go_must (go_fit (C3.out w2 hq2.2)); rintro e w3 ⟨rfl, hb3⟩; have hc3 := cell_on hb3 hc2 (by have := hb2.size; omega); have hb13 := bnext (bnext hb1 hb2) hb3; have hR3 := @Rd.lit w3 #[.string (str [97]), .string (str [98])] 9 (0, 0))
    | (go_at_call 25; go_must (go_fit (C4.out (some ⟨w3.heap.size, 0, none⟩) 2 (w3.alloc (.cells #[.string (str [97]), .string (str [98])] 9)) (by simpa [strs] using hR3))); rintro e w4 ⟨rfl, hb4⟩))
  go_ret
  exact ⟨rfl, bnext (bnew hb13 _) hb4⟩

set_option maxRecDepth 100000 in
set_option maxHeartbeats 8000000 in
theorem pathBack_walk (s : List UInt8) (sp : Bool) (w : World) (hq : LP w) : Calls Tryd.prog 4 #[.string (str s), .bool sp] w fun e w' => e = .returned (.bool true) ∧ Below w.heap.size w w' := by
  have hsz := str_size s
  by_cases hs : s.length ≤ 80
  · have hsI : ¬ (80 : Int) < (s.length : Int) := by omega
    have C1 := Lib.hid fun w h => parse10 s sp w h (by omega)
    have hne := pParse_ne s sp []
    have hseg := pParse_seg s sp
    have hback := path_back s sp
    have hT := show_bound (s := s) (sp := sp) (N := 80) hs
    have hl80 := (parse_bound (s := s) (sp := sp) (N := 80) hs).2
    have hyl := (parse_bound (s := s) (sp := sp) (N := 80) hs).1
    obtain ⟨l, hl⟩ : ∃ l, l = pParse s sp [] := ⟨_, rfl⟩
    rw [← hl] at C1 hne hseg hback hT hl80 hyl
    have hTe := pShow_join hne
    obtain ⟨J, hJ⟩ : ∃ J, J = Lib.join l [47] := ⟨_, rfl⟩
    rw [← hJ] at hTe hback
    have hJl : J.length ≤ 30000 := by rw [hTe, List.length_cons] at hT; omega
    have C2 := Lib.hid fun A c w (h : Rd w w.heap.size A (strs l)) => pshow_any A c l w h (by omega) (by omega)
    rw [hTe] at C2
    have C3 := Lib.hid fun w h => parse10 J sp w h hJl
    rw [hback] at C3
    have C4 := Lib.hid fun A c A2 c2 w (h : Rd w w.heap.size A (strs l)) (h2 : Rd w w.heap.size A2 (strs l)) => sameT_any A A2 c c2 l l w h h2 (by omega) (by omega)
    rw [sameT_self] at C4
    have HS := Lib.hid hseg
    have HY := Lib.hid hyl
    have hlen : l.length ≠ 0 := fun e => hne (List.eq_nil_of_length_eq_zero e)
    have hlI : ((l.length : Int) == 0) = false := by rw [beq_eq_false_iff_ne]; omega
    obtain ⟨T, hTT⟩ : ∃ T, T = 47 :: J := ⟨_, rfl⟩
    rw [← hTT] at C2
    have hTl : T.length = J.length + 1 := by rw [hTT]; rfl
    have hgt := str_get T
    have hg0 : gb T 0 = 47 := by rw [hTT]; rfl
    have hTs : (str T).size = J.length + 1 := by rw [str_size, hTl]
    have hTI : (((J.length + 1 : Nat) : Int) == 0) = false := by rw [beq_eq_false_iff_ne]; omega
    have hdr : (str T).extract 1 (J.length + 1) = str J := by
      have := str_end T 1
      rw [hTl] at this
      rw [this, hTT]; rfl
    clear hne hseg hback hT hTe hJ hl hTT hyl
    go_enter Tryd.func4, Tryd.ntmps4
    go_wp2_with (first
      | (go_at_call 17; go_must (go_fit (begun10_any w hq)); rintro e w1 ⟨rfl, hb1⟩; have hq1 := hq.next hb1)
      | (go_at_call 18; go_must (go_fit (C1.out w1 hq1)); rintro e w2 ⟨A, c, rfl, hr2, hc2, hm2, hb2⟩; have hq2 := hq1.next hb2)
      | (go_at_call 25; go_must (go_fit (C2.out A c w2 hr2)); rintro e w3 ⟨rfl, hb3⟩; have hq3 := hq2.next hb3; have hr3 := hr2.far hb3; have hb03 := bnext (bnext hb1 hb2) hb3))
    go_loopg [7] l.length (fun k s7 wr => ∃ j : Nat, k = l.length - j ∧ j ≤ l.length ∧ s7 = .int .i64 (j : Int) ∧ Below w3.heap.size w3 wr)
    case atStart => exact ⟨0, rfl, Nat.zero_le _, rfl, Below.refl _ _⟩
    case round =>
      obtain ⟨j, rfl, hj, rfl, hbel⟩ := hrel
      have hqr := hq3.next hbel
      have hrr := hr3.far hbel
      by_cases hlt : j < l.length
      · obtain ⟨b, off, y, rfl, hb', hc, hy⟩ := hrr.str_at (k := j) hlt
        have hm := List.mem_of_getElem? hy.out
        have hsg := HS.out y hm
        have hyl := HY.out y hm
        have CS := Lib.hid (single_any y wr hqr.2 (by omega))
        have CD := Lib.hid fun w h => double_any y w h (by omega)
        rw [hsg.single] at CS
        rw [hsg.double] at CD
        have hlt1 : (j : Int) < (l.length : Int) := by omega
        have hj0 : (0 : Int) ≤ (j : Int) := by omega
        clear hy hsg hm
        go_wp2_with (first
          | (go_at_call 19; go_must (go_fit CS.out); rintro e w5 ⟨rfl, hb5⟩; have hc5 := cell_on hb5 hc hb')
          | (go_at_call 21; go_must (go_fit (CD.out w5 (hqr.next hb5).2)); rintro e w6 ⟨rfl, hb6⟩))
        go_roundg (l.length - (j + 1))
        case measure => omega
        case rel => exact ⟨j + 1, rfl, by omega, by go_num, hbel.trans ((bnext hb5 hb6).mono hbel.size)⟩
      · obtain rfl : j = l.length := by omega
        have hb0r := bnext hb03 hbel
        clear hlt
        go_wp2_with (first
          | (go_at_call 18; go_must (go_fit (C3.out wr hqr)); rintro e w7 ⟨A7, c7, rfl, hr7, hc7, hm7, hb7⟩; have hr37 := hrr.far hb7)
          | (go_at_call 23; go_must (go_fit (C4.out A7 c7 A c w7 hr7 hr37)); rintro e w8 ⟨rfl, hb8⟩))
        go_ret
        exact ⟨rfl, bnext (bnext hb0r hb7) hb8⟩
  · have hsI : (80 : Int) < (s.length : Int) := by omega
    go_enter Tryd.func4, Tryd.ntmps4
    go_wp2_with (go_at_call 17; go_must (go_fit (begun10_any w hq)); rintro e w1 ⟨rfl, hb1⟩)
    go_ret
    exact ⟨rfl, hb1⟩

set_option maxRecDepth 100000 in
set_option maxHeartbeats 8000000 in
theorem pathParts_walk (a b : List UInt8) (sp : Bool) (w : World) (hq : LP w) : Calls Tryd.prog 5 #[.string (str a), .string (str b), .bool sp] w fun e w' => e = .returned (.bool true) ∧ Below w.heap.size w w' := by
  have hsa := str_size a
  have hsb := str_size b
  by_cases ha : a.length ≤ 40
  · have haI : ¬ (40 : Int) < (a.length : Int) := by omega
    by_cases hb : b.length ≤ 40
    · have hbI : ¬ (40 : Int) < (b.length : Int) := by omega
      have e1 : str a ++ { data := #[47] } = str (a ++ [47]) := str_app a [47]
      have y1 : (str (a ++ [47])).size = a.length + 1 := by rw [str_size, List.length_append]; rfl
      have e2 : str (a ++ [47]) ++ str b = str (a ++ 47 :: b) := (str_app _ _).trans (by simp)
      have k1 : (9223372036854775807 < a.length + 1) = False := eq_false (by omega)
      have k2 : (9223372036854775807 < a.length + 1 + b.length) = False := eq_false (by omega)
      have C1 := Lib.hid fun w h => parse10 (a ++ [47]) sp w h (by rw [List.length_append]; simp; omega)
      have he := path_end a sp
      have hlb := (parse_bound (s := a ++ [47]) (sp := sp) (N := 41) (by rw [List.length_append]; simp; omega)).2
      rw [he] at C1 hlb
      obtain ⟨P, hP⟩ : ∃ P, P = pAll a sp := ⟨_, rfl⟩
      have hpp := path_parts a b sp
      rw [← hP] at C1 hpp hlb
      have hPl : P.length ≤ 41 := by rw [List.length_append] at hlb; simp at hlb; omega
      have C2 := Lib.hid fun A c w h (hr : Rd w w.heap.size A (strs P)) => parse10B b sp A c P w h hr (by omega) (by omega)
      rw [hpp] at C2
      have C3 := Lib.hid fun w h => parse10 (a ++ 47 :: b) sp w h (by rw [List.length_append, List.length_cons]; omega)
      have hRl := (parse_bound (s := a ++ 47 :: b) (sp := sp) (N := 81) (by rw [List.length_append, List.length_cons]; omega)).2
      obtain ⟨R, hR⟩ : ∃ R, R = pParse (a ++ 47 :: b) sp [] := ⟨_, rfl⟩
      rw [← hR] at C2 C3 hRl
      have C4 := Lib.hid fun A c A2 c2 w (h : Rd w w.heap.size A (strs R)) (h2 : Rd w w.heap.size A2 (strs R)) => sameT_any A A2 c c2 R R w h h2 (by omega) (by omega)
      rw [sameT_self] at C4
      have hll : (P ++ [([] : List UInt8)]).length = P.length + 1 := by rw [List.length_append]; rfl
      rw [hll] at C1
      have hPI : ((((P.length : Nat) : Int) + 1) == 0) = false := by rw [beq_eq_false_iff_ne]; omega
      have hw1 : IntKind.i64.wrap ((P.length : Int) + 1 - 1) = (P.length : Int) := by rw [IntWalk.i64_in _ (by omega)]; omega
      have hp0 : (0 : Int) ≤ (P.length : Int) := by omega
      have hp1 : (P.length : Int) < (P.length : Int) + 1 := by omega
      have etl : ({ data := #[] } : ByteArray).toList = [] := str_toL []
      have e0 : str [] = { data := #[] } := rfl
      have hgP := Lib.hid (show (P ++ [([] : List UInt8)])[P.length]? = some [] by rw [List.getElem?_append_right (Nat.le_refl _), Nat.sub_self]; rfl)
      clear he hP hpp hR hlb hll
      go_enter Tryd.func5, Tryd.ntmps5
      go_wp2_with (first
        | (go_at_call 17; go_must (go_fit (begun10_any w hq)); rintro e w1 ⟨rfl, hb1⟩; have hq1 := hq.next hb1)
        | (go_at_call 18; go_fit (C1.out w1 hq1); rintro e w2 ⟨A, c, rfl, hr2, hc2, hm2, hb2⟩; have hq2 := hq1.next hb2; have hb02 := bnext hb1 hb2; obtain ⟨bb, off, x, rfl, hb', hc0, hx⟩ := hr2.str_at (k := P.length) (by rw [List.length_append]; simp); obtain rfl : x = [] := (by have := hx.out.symm.trans hgP.out; injection this); have hrP : Rd w2 w2.heap.size (some ⟨bb, off, none⟩) (strs P) := (by have h := hr2.take P.length; rw [strs_append, List.take_left' (strs_len P)] at h; exact h); have hcI : (P.length : Int) ≤ (c : Int) := by omega)
        | (go_at_call 18; go_fit (C2.out _ c w2 hq2 hrP); rintro e w3 ⟨A3, c3, rfl, hr3, hc3, hm3, hb3⟩; have hq3 := hq2.next hb3)
        | (go_at_call 18; go_must (go_fit (C3.out w3 hq3)); rintro e w4 ⟨A4, c4, rfl, hr4, hc4, hm4, hb4⟩; have hr34 := hr3.far hb4)
        | (go_at_call 23; go_must (go_fit (C4.out A3 c3 A4 c4 w4 hr34 hr4)); rintro e w5 ⟨rfl, hb5⟩))
      go_ret
      exact ⟨rfl, bnext (bnext (bnext hb02 hb3) hb4) hb5⟩
    · have hbI : (40 : Int) < (b.length : Int) := by omega
      go_enter Tryd.func5, Tryd.ntmps5
      go_wp2_with (go_at_call 17; go_must (go_fit (begun10_any w hq)); rintro e w1 ⟨rfl, hb1⟩)
      go_ret
      exact ⟨rfl, hb1⟩
  · have haI : (40 : Int) < (a.length : Int) := by omega
    go_enter Tryd.func5, Tryd.ntmps5
    go_wp2_with (go_at_call 17; go_must (go_fit (begun10_any w hq)); rintro e w1 ⟨rfl, hb1⟩)
    go_ret
    exact ⟨rfl, hb1⟩
end Go.Proofs.YtnnphploekchbaaDoor

