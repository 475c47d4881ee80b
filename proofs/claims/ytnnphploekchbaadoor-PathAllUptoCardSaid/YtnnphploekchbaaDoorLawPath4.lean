/- The walk of the statement PathAll, where the texts that it shows are bounded. -/
import Derived.Test.YtnnphploekchbaaDoorLawPath
import Derived.Test.YtnnphploekchbaaDoorPathG
namespace Go.Proofs.YtnnphploekchbaaDoor
set_option linter.all false
open Go.RowKit

theorem le_sumL : ∀ (l : List (List UInt8)) (y : List UInt8), y ∈ l → y.length ≤ (l.map List.length).sum := by
  intro l
  induction l with
  | nil => intro y h; cases h
  | cons x l ih =>
    intro y h
    rw [List.map_cons, List.sum_cons]
    rcases List.mem_cons.1 h with e | e
    · rw [e]; omega
    · have := ih y e; omega
set_option maxRecDepth 100000 in
set_option maxHeartbeats 8000000 in
theorem pathAll_walk (s : List UInt8) (sp : Bool) (A : Option Addr) (c : Nat) (base : List (List UInt8)) (w : World) (hq : LP w) (hr : Rd w w.heap.size A (strs base)) (hcb : base.length ≤ c) (hT : (pShowP base).length ≤ 10000000) :
    Calls Tryd.prog 3 #[.string (str s), .bool sp, .slice A base.length c] w fun e w' => e = .returned (.bool true) ∧ Below w.heap.size w w' := by
  have hsz := str_size s
  by_cases hs : s.length ≤ 80
  · have hsI : ¬ (80 : Int) < (s.length : Int) := by omega
    by_cases hb : base.length ≤ 8
    · have hbI : ¬ (8 : Int) < (base.length : Int) := by omega
      have C1 := Lib.hid fun w h (hr : Rd w w.heap.size A (strs base)) => parse10B s sp A c base w h hr (by omega) (by omega)
      have hcl := cuts_le 47 (slash sp s)
      rw [slash_len] at hcl
      have hRl : (pParse s sp base).length ≤ 100 := by
        have := (pGo_le (M := (base.map List.length).sum + 3 * 80) (pCut sp s) base (fun y hy => by have := le_sumL base y hy; omega) fun x hx => by
          have := cuts_sum 47 (slash sp s) x hx
          rw [slash_len] at this; omega).2
        unfold pCut at this
        unfold pParse pCut; omega
      obtain ⟨R, hR⟩ : ∃ R, R = pParse s sp base := ⟨_, rfl⟩
      have C5 := Lib.hid fun A2 c2 w (hr : Rd w w.heap.size A2 (strs base)) => rpath_any s sp A2 c2 base w hr (by omega) (by omega)
      rw [← hR] at C1 C5 hRl
      have D1 := Lib.hid fun w h => single_any s w h (by omega)
      have D2 := Lib.hid fun w => rsingle_any s w (by omega)
      have D3 := Lib.hid fun w h => double_any s w h (by omega)
      have D4 := Lib.hid fun w => rdouble_any s w (by omega)
      have C6 := Lib.hid fun A c A2 c2 w (h : Rd w w.heap.size A (strs R)) (h2 : Rd w w.heap.size A2 (strs R)) => sameT_any A A2 c c2 R R w h h2 (by omega) (by omega)
      have C7 := Lib.hid fun A c A2 c2 w (h : Rd w w.heap.size A (strs base)) (h2 : Rd w w.heap.size A2 (strs base)) => sameT_any A A2 c c2 base base w h h2 (by omega) (by omega)
      rw [sameT_self] at C6 C7
      have C8 := Lib.hid fun A c w h => pshow_any A c base w h (by omega) hT
      have C9 := Lib.hid fun A c w h => rshowP_any A c base w h (by omega) hT
      obtain ⟨T, hTe⟩ : ∃ T, T = pShowP base := ⟨_, rfl⟩
      rw [← hTe] at C8 C9
      have hty : (str T).toList = T := str_toL T
      obtain ⟨bs, hbs⟩ : ∃ b, b = pSingle s := ⟨_, rfl⟩
      obtain ⟨bd, hbd⟩ : ∃ b, b = pDouble s := ⟨_, rfl⟩
      rw [← hbs] at D1 D2
      rw [← hbd] at D3 D4
      have hz0 := hq.1
      clear hR hTe hbs hbd hT hcl hz0
      go_enter Tryd.func3, Tryd.ntmps3
      go_wp2_with (first
        | (go_at_call 17; go_must (go_fit (begun10_any w hq)); rintro e w1 ⟨rfl, hb1⟩; have hq1 := hq.next hb1; have hr1 := hr.far hb1)
        | (at_builtin; refine wpList_append_rd rfl _ _ _ rfl w1.heap.size _ _ 16 Tryd.underlying22 info_strU rfl _ 0 [] rfl (own_lit0 w1) w1.heap.size A base.length c (strs base) rfl (by rw [strs_len]) (hr1.alloc (Nat.le_refl _) _) (strs_one _) (by omega) (by decide) (by simp) ?_; intro A2 c2 w2 hc2 hm2 hown2 hb2 hg2; simp only [Nat.zero_add] at hc2; have hb12 : Below w1.heap.size w1 w2 := ((Below.refl w1.heap.size w1).alloc (Nat.le_refl _) _).trans hb2; have hq2 := hq1.next hb12; have hrA2 := hr1.far hb12; obtain ⟨A2', c2', e2, h21, h22, hrW2⟩ := own_rdN (own_zero hown2); injection e2 with e21 _ e22; subst e21 e22; clear hg2 hown2)
        | (go_at_call 18; go_must (go_fit (C1.out w2 hq2 hrA2)); rintro e w3 ⟨A3, c3, rfl, hr3, hc3, hm3, hb3⟩; have hq3 := hq2.next hb3; have hrA3 := hrA2.far hb3; have hrW3 := hrW2.far hb3)
        | (go_at_call 19; go_must (go_fit (D1.out w3 hq3.2)); rintro e w4 ⟨rfl, hb4⟩)
        | (go_at_call 20; go_must (go_fit (D2.out w4)); rintro e w5 ⟨rfl, hb5⟩; have hb35 := bnext hb4 hb5; have hq5 := hq3.next hb35)
        | (go_at_call 21; go_must (go_fit (D3.out w5 hq5.2)); rintro e w6 ⟨rfl, hb6⟩)
        | (go_at_call 22; go_must (go_fit (D4.out w6)); rintro e w7 ⟨rfl, hb7⟩; have hb37 := bnext (bnext hb35 hb6) hb7; have hr7 := hr3.far hb37; have hrA7 := hrA3.far hb37; have hrW7 := hrW3.far hb37)
        | (go_at_call 24; go_must (go_fit (C5.out A2 c2 w7 hrW7)); rintro e w8 ⟨v8, rfl, hown8, hb8⟩; obtain ⟨A8, c8, rfl, hc8, hm8, hr8⟩ := own_rdN hown8; have hr38 := hr7.far hb8; have hrA8 := hrA7.far hb8; have hrW8 := hrW7.far hb8)
        | (go_at_call 23; go_fit (C6.out A3 c3 A8 c8 w8 hr38 hr8); rintro e w9 ⟨rfl, hb9⟩; have hrA9 := hrA8.far hb9; have hrW9 := hrW8.far hb9)
        | (go_at_call 23; go_fit (C7.out A c A2 c2 w9 hrA9 hrW9); rintro e w10 ⟨rfl, hb10⟩; have hrA10 := hrA9.far hb10; have hrW10 := hrW9.far hb10)
        | (go_at_call 25; go_must (go_fit (C8.out A c w10 hrA10)); rintro e w11 ⟨rfl, hb11⟩; have hrW11 := hrW10.far hb11)
        | (go_at_call 26; go_must (go_fit (C9.out A2 c2 w11 hrW11)); rintro e w12 ⟨rfl, rfl⟩))
      go_ret
      exact ⟨rfl, bnext (bnext (bnext (bnext (bnext (bnext hb1 hb12) hb3) hb37) hb8) (bnext hb9 hb10)) hb11⟩
    · have hbI : (8 : Int) < (base.length : Int) := by omega
      go_enter Tryd.func3, Tryd.ntmps3
      go_wp2_with (go_at_call 17; go_must (go_fit (begun10_any w hq)); rintro e w1 ⟨rfl, hb1⟩)
      go_ret
      exact ⟨rfl, hb1⟩
  · have hsI : (80 : Int) < (s.length : Int) := by omega
    go_enter Tryd.func3, Tryd.ntmps3
    go_wp2_with (go_at_call 17; go_must (go_fit (begun10_any w hq)); rintro e w1 ⟨rfl, hb1⟩)
    go_ret
    exact ⟨rfl, hb1⟩
end Go.Proofs.YtnnphploekchbaaDoor

