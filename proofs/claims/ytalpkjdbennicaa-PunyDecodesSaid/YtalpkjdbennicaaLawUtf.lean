/- The walks of the statements of layer 2, utf: each returns true and turns nothing that was there. -/
import Derived.Test.YtalpkjdbennicaaRefC
import Derived.Lib.SlBytesConst
namespace Go.Proofs.Ytalpkjdbennicaa
set_option linter.all false
open Go.RowKit

theorem str_toList (l : List UInt8) : (str l).toList = l := by rw [ByteArray.toList_eq, str_data]

set_option maxRecDepth 100000 in
set_option maxHeartbeats 2000000 in
theorem begun2_any (w : World) : Calls Try.prog 29 #[] w fun e w' => e = .returned (.bool true) ∧ Below w.heap.size w w' := by
  have d1 : uDec [195, 164, 97] = [228, 97] := by decide +kernel
  have C1 := Lib.hid (decode_any _ 3 [195, 164, 97] (w.alloc (.cells #[.int .u8 195, .int .u8 164, .int .u8 97] 5 (3, 4))) Rd.lit (by decide) (by decide) (by decide))
  rw [d1] at C1
  have e1 : uEnc [228, 97] = [195, 164, 97] := by decide +kernel
  have t1 : (str [195, 164, 97]).toList = [195, 164, 97] := str_toList _
  have v1 : uVal [97] = true := by decide +kernel
  have v2 : uVal [255] = false := by decide +kernel
  have kc := fun (w : World) (C : Array Value) (n c : Nat) => Lib.run_convert_bytes_const (P := Try.prog) w 30 5 C n c Try.underlying30 Try.underlying5
  go_enter Try.func29, Try.ntmps29
  go_wp2_with (first
    | (go_at_call 30; go_must (go_fit C1.out); rintro e w1 ⟨x1, rfl, hown1, hb1⟩; rw [runes_len] at hown1; obtain ⟨A1, c1, rfl, hc1, hm1, hr1⟩ := own_rd hown1; obtain ⟨g1, o1, rfl, hg1, hce1⟩ := hr1 (by decide); have hcell : w1.cell? ⟨g1, o1, none⟩ = some (.int .i32 228) := hce1 0 _ rfl; clear hce1)
    | (go_at_call 32; go_fit (encode_any _ 2 [228, 97] (w1.alloc (.cells #[.int .i32 228, .int .i32 97] 21)) Rd.lit (by decide) (by decide) (by decide)); rintro e w2 ⟨x2, rfl, hown2, hb2⟩; rw [e1] at hown2; obtain ⟨A2, c2, rfl, hc2, hm2, hr2⟩ := own_rd hown2; have hs2 := run_strN (P := Try.prog) (src := 30) (dst := 9) (e := 5) (c := c2) Try.underlying30 Try.underlying5 Try.underlying9 hr2 (bytes_len _))
    | (go_at_call 34; go_fit (valid_any _ 1 [97] (w2.alloc (.cells #[.int .u8 97] 5 (1, 2))) Rd.lit (by decide) (by decide)); rintro e w3 ⟨rfl, hb3⟩)
    | (go_at_call 34; go_fit (valid_any _ 1 [255] (w3.alloc (.cells #[.int .u8 255] 5)) Rd.lit (by decide) (by decide)); rintro e w4 ⟨rfl, hb4⟩))
  go_ret
  exact ⟨rfl, bnext (bnew (bnext (bnew (bnext (bnew (bnext (bnew (Below.refl _ _) _) hb1) _) hb2) _) hb3) _) hb4⟩

theorem str_at {w : World} {B n : Nat} {A : Option Addr} {c : Nat} {l : List UInt8} (hr : Rd w B A (bytes l)) (hn : n = l.length) : (convert 30 9 (.slice A n c)).run Try.prog w = .ok (.string (str l)) w :=
  run_strN Try.underlying30 Try.underlying5 Try.underlying9 hr hn

set_option maxRecDepth 100000 in
set_option maxHeartbeats 4000000 in
theorem utfAll_walk (A B : Option Addr) (c d : Nat) (b : List UInt8) (l : List Int) (w : World) (hrb : Rd w w.heap.size A (bytes b)) (hrl : Rd w w.heap.size B (runes l)) (hcb : b.length ≤ c) (hcm : c ≤ maxLen) (hcl : l.length ≤ d) (hdm : d ≤ maxLen) :
    Calls Try.prog 8 #[.slice A b.length c, .slice B l.length d] w fun e w' => e = .returned (.bool true) ∧ Below w.heap.size w w' := by
  have hbm : b.length ≤ 9223372036854775807 := by unfold maxLen at hcm; omega
  have hlm : l.length ≤ 9223372036854775807 := by unfold maxLen at hdm; omega
  by_cases hb60 : (b.length : Int) ≤ 60
  · by_cases hl30 : (l.length : Int) ≤ 30
    · have hs1 : sameB (uDec b) (uDec b) = true := sameB_self _
      have hdl := uDec_len_le b
      have ht1 : (str (uEnc l)).toList = uEnc l := str_toList _
      go_enter Try.func8, Try.ntmps8
      go_wp2_with (go_at_call 29; go_must (go_fit (begun2_any w)); rintro e w1 ⟨rfl, hb1⟩)
      have hrb1 := hrb.next hb1
      have hrl1 := hrl.next hb1
      go_region_with (first
        | (go_at_call 30; refine (decode_any A c b w1.drew hrb1 hcb hcm (by omega)).mono ?_; rintro e w2 ⟨v2, rfl, hown2, hb2⟩; rw [runes_len] at hown2; obtain ⟨A2, c2, rfl, hc2, hm2, hx2⟩ := own_rd hown2; have hrb2 := Rd.next (w := w1.drew) hrb1 hb2; have hrl2 := Rd.next (w := w1.drew) hrl1 hb2)
        | (go_at_call 31; refine (rdecode_any A c b w2 hrb2 hcb hcm (by omega)).mono ?_; rintro e w3 ⟨v3, rfl, hown3, hb3⟩; rw [runes_len] at hown3; obtain ⟨A3, c3, rfl, hc3, hm3, hy3⟩ := own_rd hown3; have hrb3 := hrb2.next hb3; have hrl3 := hrl2.next hb3; have hx3 := hx2.next hb3)
        | (go_at_call 26; refine (same_any A2 A3 c2 c3 (uDec b) (uDec b) w3 hx3 hy3 (by omega) (by omega)).mono ?_; rintro e w4 ⟨rfl, hb4⟩; have hrb4 := hrb3.next hb4; have hrl4 := hrl3.next hb4)
        | (go_at_call 32; refine (encode_any B d l w4 hrl4 hcl hdm (by omega)).mono ?_; rintro e w5 ⟨v5, rfl, hown5, hb5⟩; rw [bytes_len] at hown5; obtain ⟨A5, c5, rfl, hc5, hm5, hx5⟩ := own_rd hown5; have hrb5 := hrb4.next hb5; have hrl5 := hrl4.next hb5; have hs5 := str_at (c := c5) hx5 rfl)
        | (go_at_call 33; refine (rencode_any B d l w5 hrl5 (by omega)).mono ?_; rintro e w6 ⟨v6, rfl, hown6, hb6⟩; rw [bytes_len] at hown6; obtain ⟨A6, c6, rfl, hc6, hm6, hx6⟩ := own_rd hown6; have hrb6 := hrb5.next hb6; have hs6 := str_at (c := c6) hx6 rfl; have hs56 := str_at (c := c5) (hx5.next hb6) rfl)
        | (go_at_call 34; refine (valid_any A c b w6 hrb6 hcb hcm).mono ?_; rintro e w7 ⟨rfl, hb7⟩; have hrb7 := hrb6.next hb7)
        | (go_at_call 35; refine (rvalid_any A c b w7 hrb7 hcb hcm).mono ?_; rintro e w8 ⟨rfl, hb8⟩))
      all_goals
        go_wp2
        go_ret
        exact ⟨ret_bool (by simp), bnext (bnext (bnext (bnext (bnext (bnext (bnext (Below.drew hb1) hb2) hb3) hb4) hb5) hb6) hb7) hb8⟩
    · have hl30' : 30 < (l.length : Int) := by omega
      clear hl30
      go_enter Try.func8, Try.ntmps8
      go_wp2_with (go_at_call 29; go_must (go_fit (begun2_any w)); rintro e w1 ⟨rfl, hb1⟩)
      go_ret
      exact ⟨rfl, hb1⟩
  · have hb60' : 60 < (b.length : Int) := by omega
    clear hb60
    go_enter Try.func8, Try.ntmps8
    go_wp2_with (go_at_call 29; go_must (go_fit (begun2_any w)); rintro e w1 ⟨rfl, hb1⟩)
    go_ret
    exact ⟨rfl, hb1⟩

set_option maxRecDepth 100000 in
set_option maxHeartbeats 4000000 in
theorem utfParts_walk (A B : Option Addr) (c d : Nat) (a b : List UInt8) (w : World) (hra : Rd w w.heap.size A (bytes a)) (hrb : Rd w w.heap.size B (bytes b)) (hca : a.length ≤ c) (hcm : c ≤ maxLen) (hcb : b.length ≤ d) (hdm : d ≤ maxLen) :
    Calls Try.prog 11 #[.slice A a.length c, .slice B b.length d] w fun e w' => e = .returned (.bool true) ∧ Below w.heap.size w w' := by
  have hbm : b.length ≤ 9223372036854775807 := by unfold maxLen at hdm; omega
  have ham : a.length ≤ 9223372036854775807 := by unfold maxLen at hcm; omega
  by_cases hla : (a.length : Int) ≤ 30
  · by_cases hlb : (b.length : Int) ≤ 30
    · by_cases hv : uVal a = true
      · have lz : (uDec (a ++ b)).length ≤ 60 ∧ (uDec a ++ uDec b).length ≤ 60 ∧ (uDec a).length ≤ 30 ∧ (uDec b).length ≤ 30 := by
          have l1 := uDec_len_le a
          have l2 := uDec_len_le b
          have l3 := uDec_len_le (a ++ b)
          have l4 : (a ++ b).length = a.length + b.length := List.length_append
          have l5 : (uDec a ++ uDec b).length = (uDec a).length + (uDec b).length := List.length_append
          omega
        obtain ⟨lz1, lz2, lz3, lz4⟩ := lz
        have e1 : sameB (uDec (a ++ b)) (uDec a ++ uDec b) = true := by rw [uDec_append hv]; exact sameB_self _
        go_enter Try.func11, Try.ntmps11
        go_wp2_with (first
          | (go_at_call 29; go_must (go_fit (begun2_any w)); rintro e w1 ⟨rfl, hb1⟩; have ha1 := hra.next hb1; have hB1 := hrb.next hb1)
          | (go_at_call 34; go_must (go_fit (valid_any A c a w1 ha1 hca hcm)); rintro e w2 ⟨rfl, hb2⟩; have ha2 := ha1.next hb2; have hB2 := hB1.next hb2)
          | (go_at_call 30; go_fit (decode_any A c a w2 ha2 hca hcm (by omega)); rintro e w3 ⟨v3, rfl, hown3, hb3⟩; rw [runes_len] at hown3; obtain ⟨A3, c3, rfl, hc3, hm3, hx3⟩ := own_rd hown3; have ha3 := ha2.next hb3; have hB3 := hB2.next hb3)
          | (go_at_call 30; go_fit (decode_any B d b w3 hB3 hcb hdm (by omega)); rintro e w4 ⟨v4, rfl, hown4, hb4⟩; rw [runes_len] at hown4; obtain ⟨A4, c4, rfl, hc4, hm4, hy4⟩ := own_rd hown4; have ha4 := ha3.next hb4; have hB4 := hB3.next hb4; have hx4 := hx3.next hb4)
          | (at_builtin; refine wpList_append_rd rfl _ _ _ rfl w4.heap.size _ _ 1 Try.underlying30 info_u8 rfl _ _ _ rfl (empty_own w4 _) _ _ _ _ _ rfl (bytes_len a).symm (ha4.new _) (bytes_one _) (by omega) (by decide) (by first | (simp; done) | omega) ?_; intro A5 c5 w5 hc5 hm5 hown5 hb5 hg5; simp only [Nat.zero_add, List.nil_append, ← runes_append, ← bytes_append] at hc5 hown5; have hb5' : Below w4.heap.size w4 w5 := (bnew (Below.refl _ _) _).trans hb5; have hs5 := hb5'.size)
          | (at_builtin; refine wpList_append_rd rfl _ _ _ rfl w4.heap.size _ _ 1 Try.underlying30 info_u8 rfl _ _ _ rfl hown5 _ _ _ _ _ rfl (bytes_len b).symm (hB4.next hb5') (bytes_one _) (by omega) (by decide) (by first | (simp; done) | omega) ?_; intro A6 c6 w6 hc6 hm6 hown6 hb6 hg6; simp only [Nat.zero_add, List.nil_append, ← runes_append, ← bytes_append] at hc6 hown6; have hb6' : Below w4.heap.size w4 w6 := hb5'.trans hb6; have hs6 := hb6'.size; have hx6 := hx4.next hb6'; have hy6 := hy4.next hb6')
          | (go_at_call 30; have hT := Lib.hid (decode_any A6 c6 (a ++ b) w6 (Rd.own hown6) (by rw [List.length_append]; omega) hm6 (by rw [List.length_append]; omega)); rw [List.length_append] at hT; go_fit hT.out; rintro e w7 ⟨v7, rfl, hown7, hb7⟩; rw [runes_len] at hown7; obtain ⟨A7, c7, rfl, hc7, hm7, hz7⟩ := own_rd hown7; have hx7 := hx6.next hb7; have hy7 := hy6.next hb7; have hs7 := hb7.size)
          | (at_builtin; refine wpList_append_rd rfl _ _ _ rfl w7.heap.size _ _ 4 Try.underlying26 info_i32u rfl _ _ _ rfl (empty_own w7 _) _ _ _ _ _ rfl (runes_len (uDec a)).symm (hx7.new _) (runes_one _) (by omega) (by decide) (by first | (simp; done) | omega) ?_; intro A8 c8 w8 hc8 hm8 hown8 hb8 hg8; simp only [Nat.zero_add, List.nil_append, ← runes_append, ← bytes_append] at hc8 hown8; have hb8' : Below w7.heap.size w7 w8 := (bnew (Below.refl _ _) _).trans hb8; have hs8 := hb8'.size)
          | (at_builtin; refine wpList_append_rd rfl _ _ _ rfl w7.heap.size _ _ 4 Try.underlying26 info_i32u rfl _ _ _ rfl hown8 _ _ _ _ _ rfl (runes_len (uDec b)).symm (hy7.next hb8') (runes_one _) (by omega) (by decide) (by first | (simp; done) | omega) ?_; intro A9 c9 w9 hc9 hm9 hown9 hb9 hg9; simp only [Nat.zero_add, List.nil_append, ← runes_append, ← bytes_append] at hc9 hown9; have hb9' : Below w7.heap.size w7 w9 := hb8'.trans hb9; have hs9 := hb9'.size; have hz9 := hz7.next hb9')
          | (go_at_call 26; have hT2 := Lib.hid (same_any A7 A9 c7 c9 (uDec (a ++ b)) (uDec a ++ uDec b) w9 hz9 (Rd.own hown9) (by omega) (by omega)); rw [List.length_append] at hT2; go_fit hT2.out; rintro e w10 ⟨rfl, hb10⟩))
        go_ret
        exact ⟨ret_bool (by simp), bnext (bnext (bnext (bnext (bnext (bnext (bnext hb1 hb2) hb3) hb4) hb6') hb7) hb9') hb10⟩
      · have hv : uVal a = false := Bool.eq_false_iff.2 hv
        go_enter Try.func11, Try.ntmps11
        go_wp2_with (first
          | (go_at_call 29; go_must (go_fit (begun2_any w)); rintro e w1 ⟨rfl, hb1⟩; have ha1 := hra.next hb1)
          | (go_at_call 34; go_must (go_fit (valid_any A c a w1 ha1 hca hcm)); rintro e w2 ⟨rfl, hb2⟩))
        go_ret
        exact ⟨rfl, bnext hb1 hb2⟩
    · have hlb' : 30 < (b.length : Int) := by omega
      clear hlb
      go_enter Try.func11, Try.ntmps11
      go_wp2_with (go_at_call 29; go_must (go_fit (begun2_any w)); rintro e w1 ⟨rfl, hb1⟩)
      go_ret
      exact ⟨rfl, hb1⟩
  · have hla' : 30 < (a.length : Int) := by omega
    clear hla
    go_enter Try.func11, Try.ntmps11
    go_wp2_with (go_at_call 29; go_must (go_fit (begun2_any w)); rintro e w1 ⟨rfl, hb1⟩)
    go_ret
    exact ⟨rfl, hb1⟩
end Go.Proofs.Ytalpkjdbennicaa
