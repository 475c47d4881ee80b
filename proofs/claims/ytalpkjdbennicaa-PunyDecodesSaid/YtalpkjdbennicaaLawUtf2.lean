/- The walks of the statements UtfGo and UtfBack. -/
import Derived.Test.YtalpkjdbennicaaLawUtf
import Derived.Test.YtalpkjdbennicaaUtfG
namespace Go.Proofs.Ytalpkjdbennicaa
set_option linter.all false
open Go.RowKit

/-- The row that '[]rune(s)' lays. -/
def runeRow (w : World) (l : List Int) (t : TypeId) : Obj :=
  .cells ((runes l).toArray ++ Array.replicate (grownCap w l.length 0 t - l.length) (.int .i32 0)) t

theorem runes_at (w : World) {b : List UInt8} (h : b.length ≤ 1000000) :
    (convert 9 26 (.string (str b))).run Try.prog w =
      .ok (.slice (some ⟨w.heap.size, 0, none⟩) (uDec b).length (grownCap w (uDec b).length 0 21)) (w.drew.alloc (runeRow w (uDec b) 21)) := by
  have e : Conv.runesFrom (str b) (str b).size 0 #[] = (runes (uDec b)).toArray := by rw [runes_of_text, str_data]
  have hsz : (Conv.runesFrom (str b) (str b).size 0 #[]).size = (uDec b).length := by rw [e, List.size_toArray, runes_len]
  have hl := uDec_len_le b
  have := run_runes_of_string (P := Try.prog) w 9 26 21 (str b) Try.underlying9 Try.underlying26 Try.underlying21 (by rw [hsz]; omega)
  rw [hsz] at this
  rw [this, e]
  rfl

theorem runeRow_rd (w : World) (l : List Int) (t : TypeId) {B : Nat} (hB : w.heap.size < B) : Rd (w.drew.alloc (runeRow w l t)) B (some ⟨w.heap.size, 0, none⟩) (runes l) := fun _ => by
  refine ⟨w.heap.size, 0, rfl, hB, fun j u hu => ?_⟩
  have hj : j < (runes l).length := by
    rcases Nat.lt_or_ge j (runes l).length with h1 | h1
    · exact h1
    · rw [List.getElem?_eq_none h1] at hu; cases hu
  rw [Nat.zero_add]
  have hrow : (w.drew.alloc (runeRow w l t)).heap[w.heap.size]? = some (runeRow w l t) := heap_alloc_new w.drew _
  unfold runeRow at hrow ⊢
  rw [cell_of_row _ _ j _ _ _ hrow, Array.getElem?_append_left (by simpa using hj), ← hu]
  simp

set_option maxRecDepth 100000 in
set_option maxHeartbeats 4000000 in
theorem utfGo_walk (A : Option Addr) (c : Nat) (b : List UInt8) (w : World) (hrb : Rd w w.heap.size A (bytes b)) (hcb : b.length ≤ c) (hcm : c ≤ maxLen) :
    Calls Try.prog 10 #[.slice A b.length c] w fun e w' => e = .returned (.bool true) ∧ Below w.heap.size w w' := by
  have hbm : b.length ≤ 9223372036854775807 := by unfold maxLen at hcm; omega
  by_cases hb60 : (b.length : Int) ≤ 60
  · have hs1 : sameB (uDec b) (uDec b) = true := sameB_self _
    have hdl := uDec_len_le b
    have hkr := fun (w : World) => runes_at w (b := b) (by omega)
    go_enter Try.func10, Try.ntmps10
    go_wp2_with (go_at_call 29; go_must (go_fit (begun2_any w)); rintro e w1 ⟨rfl, hb1⟩)
    have hrb1 := hrb.next hb1
    have hsb := str_at (c := c) (w := w1.drew) hrb1 rfl
    have hN0 : w1.drew.heap.size < (w1.drew.drew.alloc (runeRow w1.drew (uDec b) 21)).heap.size := by simp
    go_region_with (first
      | (go_at_call 30; refine (decode_any A c b w1.drew hrb1 hcb hcm (by omega)).mono ?_; rintro e w2 ⟨v2, rfl, hown2, hb2⟩; rw [runes_len] at hown2; obtain ⟨A2, c2, rfl, hc2, hm2, hx2⟩ := own_rd hown2; have hrb2 := Rd.next (w := w1.drew) hrb1 hb2; have hsb2 := str_at (c := c) hrb2 rfl; have hN2 : w2.heap.size < (w2.drew.alloc (runeRow w2 (uDec b) 21)).heap.size := by simp)
      | (go_at_call 30; refine (decode_any A c b (w1.drew.drew.alloc (runeRow w1.drew (uDec b) 21)) (Rd.new (w := w1.drew.drew) hrb1 _) hcb hcm (by omega)).mono ?_; rintro e w2 ⟨v2, rfl, hown2, hb2⟩; rw [runes_len] at hown2; obtain ⟨A2, c2, rfl, hc2, hm2, hx2⟩ := own_rd hown2; have hy2 := Rd.next (runeRow_rd w1.drew (uDec b) 21 hN0) hb2)
      | (go_at_call 26; refine (same_any A2 _ c2 _ (uDec b) (uDec b) w2 hx2 hy2 (by omega) (by omega)).mono ?_; rintro e w4 ⟨rfl, hb4⟩; have hfin := bnext (bnext (bnew (Below.drew (Below.drew hb1)) (runeRow w1.drew (uDec b) 21)) hb2) hb4)
      | (go_at_call 26; refine (same_any A2 _ c2 _ (uDec b) (uDec b) (w2.drew.alloc (runeRow w2 (uDec b) 21)) (Rd.new (w := w2.drew) hx2 _) (runeRow_rd w2 (uDec b) 21 hN2) (by omega) (by omega)).mono ?_; rintro e w4 ⟨rfl, hb4⟩; have hfin := bnext (bnew (Below.drew (bnext (Below.drew hb1) hb2)) (runeRow w2 (uDec b) 21)) hb4))
    all_goals
      go_wp2
      go_ret
      exact ⟨ret_bool (by simp), hfin⟩
  · have hb60' : 60 < (b.length : Int) := by omega
    clear hb60
    go_enter Try.func10, Try.ntmps10
    go_wp2_with (go_at_call 29; go_must (go_fit (begun2_any w)); rintro e w1 ⟨rfl, hb1⟩)
    go_ret
    exact ⟨rfl, hb1⟩

def fixes (l : List Int) : List Int := l.map cpFix
theorem fixes_len (l : List Int) : (fixes l).length = l.length := List.length_map ..
theorem map_snoc {l : List Int} {j : Nat} {x : Int} (h : l[j]? = some x) (f : Int → Int) : (l.take (j + 1)).map f = (l.take j).map f ++ [f x] := by
  obtain ⟨hj, hx⟩ := List.getElem?_eq_some_iff.1 h
  rw [take_snoc' l j hj, hx, List.map_append]; rfl

theorem uBack_fin (b : List UInt8) : (uVal b == ((str (uEnc (uDec b))).toList == (str b).toList)) = true := by
  rw [str_toList, str_toList, uVal_iff]; by_cases h : uEnc (uDec b) = b <;> simp [h]
theorem fixes_snoc {l : List Int} {j : Nat} {x : Int} (h : l[j]? = some x) : fixes (l.take (j + 1)) = fixes (l.take j) ++ [cpFix x] := map_snoc h cpFix

set_option maxRecDepth 100000 in
set_option maxHeartbeats 8000000 in
theorem utfBack_walk (A B : Option Addr) (c d : Nat) (l : List Int) (b : List UInt8) (w : World) (hrl : Rd w w.heap.size A (runes l)) (hrb : Rd w w.heap.size B (bytes b)) (hcl : l.length ≤ c) (hcm : c ≤ maxLen) (hcb : b.length ≤ d) (hdm : d ≤ maxLen) :
    Calls Try.prog 9 #[.slice A l.length c, .slice B b.length d] w fun e w' => e = .returned (.bool true) ∧ Below w.heap.size w w' := by
  have hbm : b.length ≤ 9223372036854775807 := by unfold maxLen at hdm; omega
  have hlm : l.length ≤ 9223372036854775807 := by unfold maxLen at hcm; omega
  by_cases hl30 : (l.length : Int) ≤ 30
  · by_cases hb60 : (b.length : Int) ≤ 60
    · have hdb := uDec_len_le b
      have heb := uEnc_le (uDec b)
      have hel := uEnc_le l
      go_enter Try.func9, Try.ntmps9
      go_wp2_with (go_at_call 29; go_must (go_fit (begun2_any w)); rintro e w1 ⟨rfl, hb1⟩)
      have hrb1 := hrb.next hb1
      have hrl1 := hrl.next hb1
      go_loopg [5, 6] (l.length) (fun k v i wr => ∃ j : Nat, k = l.length - j ∧ j ≤ l.length ∧ i = .int .i64 j ∧ wr.ownsRow w1.heap.size 21 1 v (runes (fixes (l.take j))).length (runes (fixes (l.take j))) ∧ Below w1.heap.size w1 wr)
      case atStart => exact ⟨0, rfl, Nat.zero_le _, rfl, World.ownsRow_nil _ _ _ _, Below.refl _ _⟩
      case round =>
        obtain ⟨j, rfl, hj, rfl, hown, hbel⟩ := hrel
        by_cases hlt : j < l.length
        · obtain ⟨bk, off, x, rfl, hbk, hcx, hx⟩ := (hrl1.below hbel).rune_at hlt
          have hw := hbel.size
          have hty : (runes (fixes (l.take j))).length ≤ 30 := by rw [runes_len, fixes_len, List.length_take]; omega
          have e1 : (runes (fixes (l.take j))).length + 1 = (runes (fixes (l.take (j + 1)))).length := by rw [runes_len, runes_len, fixes_len, fixes_len, List.length_take, List.length_take]; omega
          by_cases hok : cpOk x = true
          · obtain ⟨o1, o2, o3⟩ := cpOk_iff.1 hok
            have e2 : runes (fixes (l.take j)) ++ [.int .i32 x] = runes (fixes (l.take (j + 1))) := by rw [fixes_snoc hx.out, runes_append, cpFix_of hok]; rfl
            have E1 := Lib.hid e1
            have E2 := Lib.hid e2
            clear e1 e2
            rcases o3 with o3 | o3
            all_goals
              go_wp2_with (at_builtin; refine wpList_append_lit rfl _ _ _ rfl w1.heap.size _ _ 1 4 Try.underlying26 info_i32u rfl (by decide) _ _ _ rfl hown _ 1 1 _ rfl rfl (by simp [Value.oneCell']) (by omega) (by decide) (by omega) ?_; intro A1 c1 w2 hc1 hm1 hown1 hb2 hg2)
              go_roundg (l.length - (j + 1))
              case measure => omega
              case rel => exact ⟨j + 1, rfl, by omega, by go_num, own_eq hown1 E1.out E2.out, hbel.trans hb2⟩
          · have hno := Bool.eq_false_iff.2 hok
            have e2 : runes (fixes (l.take j)) ++ [.int .i32 65533] = runes (fixes (l.take (j + 1))) := by rw [fixes_snoc hx.out, runes_append, cpFix_no hno]; rfl
            have E1 := Lib.hid e1
            have E2 := Lib.hid e2
            clear e1 e2
            have hcase : x < 0 ∨ (¬ x < 0 ∧ 1114111 < x) ∨ (¬ x < 0 ∧ ¬ 1114111 < x ∧ 55296 ≤ x ∧ x ≤ 57343) := by
              rw [cpOk_iff] at hok; omega
            rcases hcase with h | ⟨h, h2⟩ | ⟨h, h2, h3, h4⟩
            all_goals
              go_wp2_with (at_builtin; refine wpList_append_lit rfl _ _ _ rfl w1.heap.size _ _ 1 4 Try.underlying26 info_i32u rfl (by decide) _ _ _ rfl hown _ 1 1 _ rfl rfl (by simp [Value.oneCell']) (by omega) (by decide) (by omega) ?_; intro A1 c1 w2 hc1 hm1 hown1 hb2 hg2)
              go_roundg (l.length - (j + 1))
              case measure => omega
              case rel => exact ⟨j + 1, rfl, by omega, by go_num, own_eq hown1 E1.out E2.out, hbel.trans hb2⟩
        · obtain rfl : j = l.length := by omega
          rw [List.take_length, runes_len] at hown
          obtain ⟨A2, c2, rfl, hc2, hm2, hx2⟩ := own_rd hown
          have hrlr := hrl1.next hbel
          have hrbr := hrb1.next hbel
          have hlm2 : (fixes l).length = l.length := fixes_len l
          have hv1 : uVal (uEnc l) = true := by have := uVal_enc l []; rwa [List.append_nil] at this
          have hd1 : uDec (uEnc l) = fixes l := by have := uDec_enc l []; rwa [List.append_nil, uDec_nil, List.append_nil] at this
          have hs1 : sameB (fixes l) (fixes l) = true := sameB_self _
          have HM := Lib.hid hlm2
          clear hlm2
          go_wp2_with (go_at_call 32; go_must (go_fit (encode_any A c l wr hrlr hcl hcm (by omega))); rintro e w2 ⟨v2, rfl, hown2, hb2⟩; rw [bytes_len] at hown2; obtain ⟨A3, c3, rfl, hc3, hm3, hx3⟩ := own_rd hown2)
          have hrb2 := hrbr.next hb2
          have hw2 := hx2.next hb2
          have CV := Lib.hid (valid_any A3 c3 (uEnc l) w2.drew hx3 hc3 hm3)
          have CD := Lib.hid fun w3 (h : Rd w3 w3.heap.size A3 (bytes (uEnc l))) => decode_any A3 c3 (uEnc l) w3 h hc3 hm3 (by omega)
          rw [hv1] at CV
          rw [hd1] at CD
          clear hv1 hd1
          go_region_with (first
            | (go_at_call 34; go_fit CV.out; rintro e w3 ⟨rfl, hb3⟩; have hrb3 := Rd.next (w := w2.drew) hrb2 hb3; have hx3' := Rd.next (w := w2.drew) hx3 hb3; have hw3 := Rd.next (w := w2.drew) hw2 hb3)
            | (go_at_call 30; go_fit (CD.out w3 hx3'); rintro e w4 ⟨v4, rfl, hown4, hb4⟩; rw [runes_len] at hown4; obtain ⟨A4, c4, rfl, hc4, hm4, hx4⟩ := own_rd hown4; have hrb4 := hrb3.next hb4; have hw4 := hw3.next hb4)
            | (go_at_call 26; go_fit (same_any A4 A2 c4 c2 (fixes l) (fixes l) w4 hx4 hw4 (by have := HM.out; omega) (by have := HM.out; omega)); rintro e w5 ⟨rfl, hb5⟩; have hrb5 := hrb4.next hb5; have hsb5 := str_at (c := d) hrb5 rfl)
            | (go_at_call 34; go_fit (valid_any B d b w5 hrb5 hcb hdm); rintro e w6 ⟨rfl, hb6⟩; have hrb6 := hrb5.next hb6; have hsb6 := str_at (c := d) hrb6 rfl)
            | (go_at_call 30; go_fit (decode_any B d b w6 hrb6 hcb hdm (by omega)); rintro e w7 ⟨v7, rfl, hown7, hb7⟩; rw [runes_len] at hown7; obtain ⟨A7, c7, rfl, hc7, hm7, hx7⟩ := own_rd hown7; have hrb7 := hrb6.next hb7; have hsb7 := str_at (c := d) hrb7 rfl)
            | (go_at_call 32; go_fit (encode_any A7 c7 (uDec b) w7 hx7 hc7 hm7 (by omega)); rintro e w8 ⟨v8, rfl, hown8, hb8⟩; rw [bytes_len] at hown8; obtain ⟨A8, c8, rfl, hc8, hm8, hx8⟩ := own_rd hown8; have hrb8 := hrb7.next hb8; have hsb8 := str_at (c := d) hrb8 rfl; have hsc8 := str_at (c := c8) hx8 rfl))
          all_goals
            go_wp2
            go_ret
            exact ⟨ret_bool (uBack_fin b), bnext (bnext (bnext (bnext (bnext (bnext (Below.drew (bnext (hb1.trans (hbel.mono hb1.size)) hb2)) hb3) hb4) hb5) hb6) hb7) hb8⟩
    · have hb60' : 60 < (b.length : Int) := by omega
      clear hb60
      go_enter Try.func9, Try.ntmps9
      go_wp2_with (go_at_call 29; go_must (go_fit (begun2_any w)); rintro e w1 ⟨rfl, hb1⟩)
      go_ret
      exact ⟨rfl, hb1⟩
  · have hl30' : 30 < (l.length : Int) := by omega
    clear hl30
    go_enter Try.func9, Try.ntmps9
    go_wp2_with (go_at_call 29; go_must (go_fit (begun2_any w)); rintro e w1 ⟨rfl, hb1⟩)
    go_ret
    exact ⟨rfl, hb1⟩
end Go.Proofs.Ytalpkjdbennicaa
