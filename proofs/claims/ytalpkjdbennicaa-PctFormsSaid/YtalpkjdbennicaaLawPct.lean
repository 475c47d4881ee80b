/- The walks of the statements of layer 3, pct: begun, PctAll, PctStays. -/
import Derived.Test.YtalpkjdbennicaaPctS
import Derived.Lib.SlBytesConst
namespace Go.Proofs.Ytalpkjdbennicaa
set_option linter.all false
open Go.RowKit

theorem str_atM {w : World} {B n : Nat} {A : Option Addr} {c : Nat} {l : List UInt8} (hr : Rd w B A (bytes l)) (hn : n = l.length) : (convert 30 9 (.slice A n c)).run Try.prog w = .ok (.string (str l)) w :=
  run_strM Try.underlying30 Try.underlying5 Try.underlying9 hr hn

set_option maxRecDepth 100000 in
set_option maxHeartbeats 2000000 in
theorem begun3_any (w : World) : Calls Try.prog 36 #[] w fun e w' => e = .returned (.bool true) ∧ Below w.heap.size w w' := by
  have p1 : pIn 4 63 = true := by decide
  have p2 : pIn 2 63 = false := by decide
  have p3 : pEnc 4 [97, 32, 98] = [97, 37, 50, 48, 98] := by decide
  have p4 : pDec [37, 52, 49] = [65] := by decide
  have n63 : ((63 : UInt8).toNat : Int) = 63 := rfl
  have C1 := Lib.hid fun w => in_any 4 63 w
  have C2 := Lib.hid fun w => in_any 2 63 w
  have C4 := Lib.hid fun w => decode_pct [37, 52, 49] w (by decide)
  rw [n63, p1] at C1
  rw [n63, p2] at C2
  rw [p4] at C4
  clear p1 p2 p4 n63
  have t1 : (str [97, 37, 50, 48, 98]).toList = [97, 37, 50, 48, 98] := str_toL _
  have t2 : (str [65]).toList = [65] := str_toL _
  have kc := fun (w : World) (C : Array Value) (n c : Nat) => Lib.run_convert_bytes_const (P := Try.prog) w 30 5 C n c Try.underlying30 Try.underlying5
  go_enter Try.func36, Try.ntmps36
  go_wp2_with (first
    | (go_at_call 37; go_fit (C1.out w); rintro e w1 ⟨rfl, hb1⟩)
    | (go_at_call 37; go_fit (C2.out w1); rintro e w2 ⟨rfl, hb2⟩)
    | (go_at_call 39; go_must (go_fit (encode_pct 4 _ 3 [97, 32, 98] (w2.alloc (.cells #[.int .u8 97, .int .u8 32, .int .u8 98] 5 (3, 4))) Rd.lit (by decide))); rintro e w3 ⟨rfl, hb3⟩; rw [p3])
    | (go_at_call 41; go_must (go_fit (C4.out w3)); rintro e w4 ⟨v4, rfl, hown4, hb4⟩; obtain ⟨A4, c4, rfl, hc4, hm4, hr4⟩ := own_rd hown4; have hs4 := str_atM (c := c4) hr4 (bytes_len _)))
  go_ret
  exact ⟨rfl, bnext (bnext (bnew (bnext hb1 hb2) _) hb3) hb4⟩

set_option maxRecDepth 100000 in
set_option maxHeartbeats 4000000 in
theorem pctAll_walk (s : Int) (A : Option Addr) (k : Nat) (b : List UInt8) (c : UInt8) (t : List UInt8) (w : World) (hr : Rd w w.heap.size A (bytes b)) (hbm : b.length ≤ 9223372036854775807) (htm : t.length ≤ 9223372036854775807) :
    Calls Try.prog 13 #[.int .i64 s, .slice A b.length k, .int .u8 (c.toNat : Int), .string (str t)] w fun e w' => e = .returned (.bool true) ∧ Below w.heap.size w w' := by
  have hst := str_size t
  by_cases hb60 : (b.length : Int) ≤ 60
  · by_cases ht60 : (t.length : Int) ≤ 60
    · have he1 : (pIn s c == pIn s c) = true := by simp
      have he2 : ((str (pEnc s b)).toList == (str (pEnc s b)).toList) = true := by simp
      go_enter Try.func13, Try.ntmps13
      go_wp2_with (go_at_call 36; go_must (go_fit (begun3_any w)); rintro e w1 ⟨rfl, hb1⟩)
      have hr1 := hr.next hb1
      go_region_with (first
        | (go_at_call 37; refine (in_any s c w1.drew).mono ?_; rintro e w2 ⟨rfl, hb2⟩; have hr2 := Rd.next (w := w1.drew) hr1 hb2)
        | (go_at_call 38; refine (rin_any s c w2).mono ?_; rintro e w2' ⟨rfl, rfl⟩)
        | (go_at_call 39; refine (encode_pct s A k b w2 hr2 (by omega)).mono ?_; rintro e w3 ⟨rfl, hb3⟩; have hr3 := hr2.next hb3)
        | (go_at_call 40; refine (percent_any s A k b w3 hr3 (by omega)).mono ?_; rintro e w4 ⟨rfl, hb4⟩; have hr4 := hr3.next hb4)
        | (go_at_call 41; refine (decode_pct t w4 (by omega)).mono ?_; rintro e w5 ⟨v5, rfl, hown5, hb5⟩; rw [bytes_len] at hown5; obtain ⟨A5, c5, rfl, hc5, hm5, hx5⟩ := own_rd hown5; have hs5 := str_atM (c := c5) hx5 rfl)
        | (go_at_call 42; refine (plain_any t w5 (by omega)).mono ?_; rintro e w6 ⟨v6, rfl, hown6, hb6⟩; rw [bytes_len] at hown6; obtain ⟨A6, c6, rfl, hc6, hm6, hx6⟩ := own_rd hown6; have hs6 := str_atM (c := c6) hx6 rfl; have hs56 := str_atM (c := c5) (hx5.next hb6) rfl))
      all_goals
        go_wp2
        go_ret
        exact ⟨ret_bool (by simp), bnext (bnext (bnext (bnext (bnext (Below.drew hb1) hb2) hb3) hb4) hb5) hb6⟩
    · have ht60' : 60 < (t.length : Int) := by omega
      clear ht60
      go_enter Try.func13, Try.ntmps13
      go_wp2_with (go_at_call 36; go_must (go_fit (begun3_any w)); rintro e w1 ⟨rfl, hb1⟩)
      go_ret
      exact ⟨rfl, hb1⟩
  · have hb60' : 60 < (b.length : Int) := by omega
    clear hb60
    go_enter Try.func13, Try.ntmps13
    go_wp2_with (go_at_call 36; go_must (go_fit (begun3_any w)); rintro e w1 ⟨rfl, hb1⟩)
    go_ret
    exact ⟨rfl, hb1⟩

set_option maxRecDepth 100000 in
set_option maxHeartbeats 4000000 in
theorem pctStays_walk (s : UInt8) (A : Option Addr) (k : Nat) (b : List UInt8) (w : World) (hr : Rd w w.heap.size A (bytes b)) (hbm : b.length ≤ 9223372036854775807) :
    Calls Try.prog 16 #[.int .u8 (s.toNat : Int), .slice A b.length k] w fun e w' => e = .returned (.bool true) ∧ Below w.heap.size w w' := by
  by_cases hb60 : (b.length : Int) ≤ 60
  · have hlen := pEnc_le ((s.toNat : Int) % 6) b
    obtain ⟨m, hm6, hm⟩ : ∃ m : Nat, m < 6 ∧ (s.toNat : Int) % 6 = (m : Int) := ⟨s.toNat % 6, by omega, by omega⟩
    rw [hm] at hlen
    obtain ⟨T, hT⟩ : ∃ T, T = pEnc m b := ⟨_, rfl⟩
    have hout : ∀ c ∈ T, pIn m c = false := by rw [hT]; exact pEnc_out hm6 b
    have hid : pEnc m T = T := pEnc_id hm6 T hout
    rw [← hT] at hlen
    have CE := Lib.hid fun w (h : Rd w w.heap.size A (bytes b)) => encode_pct m A k b w h (by omega)
    rw [← hT] at CE
    have HO := Lib.hid hout
    have CD := Lib.hid fun (A2 : Option Addr) (c2 : Nat) w (h : Rd w w.heap.size A2 (bytes T)) => encode_pct m A2 c2 T w h (by omega)
    rw [hid] at CD
    clear hT hid hout
    have hsz := str_size T
    have hg := str_get T
    have hfin : ((str T).toList == (str T).toList) = true := by simp
    go_enter Try.func16, Try.ntmps16
    go_wp2_with (first
      | (go_at_call 36; go_must (go_fit (begun3_any w)); rintro e w1 ⟨rfl, hb1⟩; have hr1 := hr.next hb1)
      | (go_at_call 39; go_must (go_fit (CE.out w1 hr1)); rintro e w2 ⟨rfl, hb2⟩))
    go_loopg [7] (T.length) (fun k i wr => ∃ j : Nat, k = T.length - j ∧ j ≤ T.length ∧ i = .int .i64 j ∧ Below w2.heap.size w2 wr)
    case atStart => exact ⟨0, rfl, Nat.zero_le _, rfl, Below.refl _ _⟩
    case round =>
      obtain ⟨j, rfl, hj, rfl, hbel⟩ := hrel
      by_cases hlt : j < T.length
      · have hlt1 : (j : Int) < (T.length : Int) := by omega
        have hj0 : (0 : Int) ≤ (j : Int) := by omega
        have CI := Lib.hid fun w => in_any m (gb T j) w
        have hn : pIn m (gb T j) = false := HO.out _ (List.mem_of_getElem? (gb_some hlt))
        rw [hn] at CI
        clear hn
        go_wp2_with (go_at_call 37; go_must (go_fit (CI.out _)); rintro e w3 ⟨rfl, hb3⟩)
        go_roundg (T.length - (j + 1))
        case measure => omega
        case rel => exact ⟨j + 1, rfl, by omega, by go_num, bnext hbel hb3⟩
      · obtain rfl : j = T.length := by omega
        go_wp2_with (first
          | (refine wpList_bytesL rfl _ _ _ _ rfl Try.underlying9 Try.underlying30 Try.underlying5 T rfl (by omega) ?_; intro c3 w3 hc3 hm3 hrow3 hr3 hb3 hz3)
          | (go_at_call 39; go_must (go_fit (CD.out _ _ _ hr3)); rintro e w4 ⟨rfl, hb4⟩))
        go_ret
        exact ⟨ret_bool rfl, bnext (bnext (bnext (bnext hb1 hb2) hbel) hb3) hb4⟩
  · have hb60' : 60 < (b.length : Int) := by omega
    clear hb60
    go_enter Try.func16, Try.ntmps16
    go_wp2_with (go_at_call 36; go_must (go_fit (begun3_any w)); rintro e w1 ⟨rfl, hb1⟩)
    go_ret
    exact ⟨rfl, hb1⟩
end Go.Proofs.Ytalpkjdbennicaa
