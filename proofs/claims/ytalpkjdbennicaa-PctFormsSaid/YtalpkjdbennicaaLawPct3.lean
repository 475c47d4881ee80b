/- The walks of the statements PctNest, PctForms. -/
import Derived.Test.YtalpkjdbennicaaLawPct
import Derived.StillTailTactics
namespace Go.Proofs.Ytalpkjdbennicaa
set_option linter.all false
open Go.RowKit

theorem nest_all : ∀ k : Fin 256, (pIn 0 (UInt8.ofNat k.val) = true → pIn 1 (UInt8.ofNat k.val) = true ∧ pIn 2 (UInt8.ofNat k.val) = true) ∧ (pIn 2 (UInt8.ofNat k.val) = true → pIn 3 (UInt8.ofNat k.val) = true ∧ pIn 4 (UInt8.ofNat k.val) = true) ∧ (pIn 4 (UInt8.ofNat k.val) = true → pIn 5 (UInt8.ofNat k.val) = true) ∧ (128 ≤ k.val → pIn 0 (UInt8.ofNat k.val) = true ∧ pIn 6 (UInt8.ofNat k.val) = true) := by decide +kernel
def nestP : List (Int × Int) := [(0, 1), (0, 2), (2, 3), (2, 4), (4, 5)]
theorem nest_at {j : Nat} (hj : j < 5) (c : UInt8) : ∃ a b : Int, nestP[j]? = some (a, b) ∧ (pIn a c = true → pIn b c = true) := by
  have h := nest_all ⟨c.toNat, byte_lt c⟩
  simp only [UInt8.ofNat_toNat] at h
  obtain ⟨h1, h2, h3, _⟩ := h
  match j, hj with
  | 0, _ => exact ⟨0, 1, rfl, fun h => (h1 h).1⟩
  | 1, _ => exact ⟨0, 2, rfl, fun h => (h1 h).2⟩
  | 2, _ => exact ⟨2, 3, rfl, fun h => (h2 h).1⟩
  | 3, _ => exact ⟨2, 4, rfl, fun h => (h2 h).2⟩
  | 4, _ => exact ⟨4, 5, rfl, h3⟩
theorem nest_high {c : UInt8} (h : 128 ≤ c.toNat) : pIn 0 c = true ∧ pIn 6 c = true := by
  have h' := (nest_all ⟨c.toNat, byte_lt c⟩).2.2.2
  simp only [UInt8.ofNat_toNat] at h'
  exact h' h

def nestC : Array Value := #[.int .i64 0, .int .i64 1, .int .i64 0, .int .i64 2, .int .i64 2, .int .i64 3, .int .i64 2, .int .i64 4, .int .i64 4, .int .i64 5]
theorem nest_cells (w : World) {e : TypeId} {j : Nat} {a b : Int} (h : nestP[j]? = some (a, b)) :
    (w.alloc (.cells nestC e)).cell? ⟨w.heap.size, j * 2, none⟩ = some (.int .i64 a) ∧ (w.alloc (.cells nestC e)).cell? ⟨w.heap.size, j * 2 + 1, none⟩ = some (.int .i64 b) := by
  rw [cell_of_row _ _ (j * 2) _ _ _ (heap_alloc_new w _), cell_of_row _ _ (j * 2 + 1) _ _ _ (heap_alloc_new w _)]
  match j, h with
  | 0, h => injection h with h; injection h with h1 h2; subst h1; subst h2; exact ⟨rfl, rfl⟩
  | 1, h => injection h with h; injection h with h1 h2; subst h1; subst h2; exact ⟨rfl, rfl⟩
  | 2, h => injection h with h; injection h with h1 h2; subst h1; subst h2; exact ⟨rfl, rfl⟩
  | 3, h => injection h with h; injection h with h1 h2; subst h1; subst h2; exact ⟨rfl, rfl⟩
  | 4, h => injection h with h; injection h with h1 h2; subst h1; subst h2; exact ⟨rfl, rfl⟩
  | k + 5, h => simp [nestP] at h

set_option maxRecDepth 100000 in
set_option maxHeartbeats 8000000 in
theorem pctNest_walk (c : UInt8) (w : World) : Calls Try.prog 15 #[.int .u8 (c.toNat : Int)] w fun e w' => e = .returned (.bool true) ∧ Below w.heap.size w w' := by
  go_enter Try.func15, Try.ntmps15
  go_wp2_with (go_at_call 36; go_must (go_fit (begun3_any w)); rintro e w1 ⟨rfl, hb1⟩)
  obtain ⟨w2, hw2⟩ : ∃ w2, w2 = w1.alloc (.cells #[.int .i64 0, .int .i64 1, .int .i64 0, .int .i64 2, .int .i64 3, .int .i64 2, .int .i64 4, .int .i64 5] 3) := ⟨_, rfl⟩
  have hz : w2.drew.heap.size = w1.heap.size + 1 := by rw [hw2]; simp
  have c0 : w2.drew.cell? ⟨w1.heap.size, 0, none⟩ = some (.int .i64 0) := by rw [hw2]; exact cell_of_row _ _ 0 _ _ _ (heap_alloc_new w1 _)
  have c1 : w2.drew.cell? ⟨w1.heap.size, 1, none⟩ = some (.int .i64 1) := by rw [hw2]; exact cell_of_row _ _ 1 _ _ _ (heap_alloc_new w1 _)
  have c2 : w2.drew.cell? ⟨w1.heap.size, 2, none⟩ = some (.int .i64 0) := by rw [hw2]; exact cell_of_row _ _ 2 _ _ _ (heap_alloc_new w1 _)
  have c3 : w2.drew.cell? ⟨w1.heap.size, 3, none⟩ = some (.int .i64 2) := by rw [hw2]; exact cell_of_row _ _ 3 _ _ _ (heap_alloc_new w1 _)
  have c4 : w2.drew.cell? ⟨w1.heap.size, 4, none⟩ = some (.int .i64 3) := by rw [hw2]; exact cell_of_row _ _ 4 _ _ _ (heap_alloc_new w1 _)
  have c5 : w2.drew.cell? ⟨w1.heap.size, 5, none⟩ = some (.int .i64 2) := by rw [hw2]; exact cell_of_row _ _ 5 _ _ _ (heap_alloc_new w1 _)
  have c6 : w2.drew.cell? ⟨w1.heap.size, 6, none⟩ = some (.int .i64 4) := by rw [hw2]; exact cell_of_row _ _ 6 _ _ _ (heap_alloc_new w1 _)
  have c7 : w2.drew.cell? ⟨w1.heap.size, 7, none⟩ = some (.int .i64 5) := by rw [hw2]; exact cell_of_row _ _ 7 _ _ _ (heap_alloc_new w1 _)
  rw [← hw2]
  refine wp_region_still_tail 35 (by kernel_rfl) (by kernel_rfl) ?_
  change wpStill _ _ w2.drew _ _ _
  simp only [List.take_succ_cons, List.take_zero, List.drop_succ_cons, List.drop_zero]
  repeat still_step
  refine wpStill_nil ?_
  change wpList _ _ _ _ _ w2.drew
  have hb2 : Below w.heap.size w w2.drew := by rw [hw2]; exact (bnew hb1 _).drew
  generalize w2.drew = w3 at *
  have HZ := Lib.hid hz
  clear hz c0 c1 c2 c3 c4 c5 c6 c7 hw2
  go_wp2
  obtain ⟨w4, hw4⟩ : ∃ w4, w4 = w3.alloc (.cells nestC 44) := ⟨_, rfl⟩
  have HW := Lib.hid hw4
  have hz4 : w3.heap.size < w4.heap.size := by rw [hw4]; simp
  have hb4 : Below w.heap.size w w4 := by rw [hw4]; exact bnew hb2 _
  clear hw4
  go_loopg [5] 5 (fun k i wr => ∃ j : Nat, k = 5 - j ∧ j ≤ 5 ∧ i = .int .i64 j ∧ Below w4.heap.size w4 wr)
  case atStart => exact ⟨0, rfl, Nat.zero_le _, rfl, by rw [HW.out]; exact Below.refl _ _⟩
  case round =>
    obtain ⟨j, rfl, hj, rfl, hbel⟩ := hrel
    have hq := hbel.size
    by_cases hlt : j < 5
    · obtain ⟨a, b, ha, himp⟩ := nest_at hlt c
      have hcs := nest_cells w3 (e := 44) ha
      rw [← HW.out] at hcs
      obtain ⟨k0, k1⟩ := hcs
      have k0 := cell_on hbel k0 hz4
      have k1 := cell_on hbel k1 hz4
      have hlt1 : (j : Int) < 5 := by omega
      have hj0 : (0 : Int) ≤ (j : Int) := by omega
      have CA := Lib.hid fun w => in_any a c w
      have CB := Lib.hid fun w => in_any b c w
      by_cases hp : pIn a c = true
      · rw [hp] at CA
        rw [himp hp] at CB
        clear hp himp ha
        go_wp2_with (first
          | (go_at_call 37; go_fit (CA.out wr); rintro e w5 ⟨rfl, hb5⟩; have q5 := hb5.size; have k15 := cell_on hb5 k1 (by omega))
          | (go_at_call 37; go_fit (CB.out w5); rintro e w6 ⟨rfl, hb6⟩))
        go_roundg (5 - (j + 1))
        case measure => omega
        case rel => exact ⟨j + 1, rfl, by omega, by go_num, bnext (bnext hbel hb5) hb6⟩
      · have hp := Bool.eq_false_iff.2 hp
        rw [hp] at CA
        clear hp himp ha
        go_wp2_with (go_at_call 37; go_fit (CA.out wr); rintro e w5 ⟨rfl, hb5⟩)
        go_roundg (5 - (j + 1))
        case measure => omega
        case rel => exact ⟨j + 1, rfl, by omega, by go_num, bnext hbel hb5⟩
    · obtain rfl : j = 5 := by omega
      have p1 : pIn 99 c = false := rfl
      have p2 : pIn (-1) c = false := rfl
      have C1 := Lib.hid fun w => in_any 99 c w
      have C2 := Lib.hid fun w => in_any (-1) c w
      rw [p1] at C1
      rw [p2] at C2
      clear p1 p2
      have hbw := bnext hb4 hbel
      by_cases h128 : 128 ≤ c.toNat
      · obtain ⟨g1, g2⟩ := nest_high h128
        have C3 := Lib.hid fun w => in_any 0 c w
        have C4 := Lib.hid fun w => in_any 6 c w
        rw [g1] at C3
        rw [g2] at C4
        clear g1 g2
        have hi : (128 : Int) ≤ (c.toNat : Int) := by omega
        go_wp2_with (first
          | (go_at_call 37; go_fit (C1.out wr); rintro e w5 ⟨rfl, hb5⟩)
          | (go_at_call 37; go_fit (C2.out w5); rintro e w6 ⟨rfl, hb6⟩)
          | (go_at_call 37; go_fit (C3.out w6); rintro e w7 ⟨rfl, hb7⟩)
          | (go_at_call 37; go_fit (C4.out w7); rintro e w8 ⟨rfl, hb8⟩))
        go_ret
        exact ⟨rfl, bnext (bnext (bnext (bnext hbw hb5) hb6) hb7) hb8⟩
      · have hi : (c.toNat : Int) < 128 := by omega
        go_wp2_with (first
          | (go_at_call 37; go_fit (C1.out wr); rintro e w5 ⟨rfl, hb5⟩)
          | (go_at_call 37; go_fit (C2.out w5); rintro e w6 ⟨rfl, hb6⟩))
        go_ret
        exact ⟨rfl, bnext (bnext hbw hb5) hb6⟩

def formB : List UInt8 := [32, 33, 34, 35, 36, 37, 38, 39, 40, 41, 42, 43, 44, 45, 46, 47, 48, 57, 58, 59, 60, 61, 62, 63, 64, 65, 90, 91, 92, 93, 94, 95, 96, 97, 122, 123, 124, 125, 126, 127, 128, 0]
def formW : List (List UInt8) := [[32, 33, 34, 35, 36, 37, 38, 39, 40, 41, 42, 43, 44, 45, 46, 47, 48, 57, 58, 59, 60, 61, 62, 63, 64, 65, 90, 91, 92, 93, 94, 95, 96, 97, 122, 123, 124, 125, 126, 37, 55, 70, 37, 56, 48, 37, 48, 48], [37, 50, 48, 33, 37, 50, 50, 35, 36, 37, 38, 39, 40, 41, 42, 43, 44, 45, 46, 47, 48, 57, 58, 59, 37, 51, 67, 61, 37, 51, 69, 63, 64, 65, 90, 91, 92, 93, 94, 95, 37, 54, 48, 97, 122, 123, 124, 125, 126, 37, 55, 70, 37, 56, 48, 37, 48, 48], [37, 50, 48, 33, 37, 50, 50, 37, 50, 51, 36, 37, 38, 39, 40, 41, 42, 43, 44, 45, 46, 47, 48, 57, 58, 59, 37, 51, 67, 61, 37, 51, 69, 63, 64, 65, 90, 91, 92, 93, 94, 95, 96, 97, 122, 123, 124, 125, 126, 37, 55, 70, 37, 56, 48, 37, 48, 48], [37, 50, 48, 33, 37, 50, 50, 37, 50, 51, 36, 37, 38, 37, 50, 55, 40, 41, 42, 43, 44, 45, 46, 47, 48, 57, 58, 59, 37, 51, 67, 61, 37, 51, 69, 63, 64, 65, 90, 91, 92, 93, 94, 95, 96, 97, 122, 123, 124, 125, 126, 37, 55, 70, 37, 56, 48, 37, 48, 48], [37, 50, 48, 33, 37, 50, 50, 37, 50, 51, 36, 37, 38, 39, 40, 41, 42, 43, 44, 45, 46, 47, 48, 57, 58, 59, 37, 51, 67, 61, 37, 51, 69, 37, 51, 70, 64, 65, 90, 91, 92, 93, 37, 53, 69, 95, 37, 54, 48, 97, 122, 37, 55, 66, 124, 37, 55, 68, 126, 37, 55, 70, 37, 56, 48, 37, 48, 48], [37, 50, 48, 33, 37, 50, 50, 37, 50, 51, 36, 37, 38, 39, 40, 41, 42, 43, 44, 45, 46, 37, 50, 70, 48, 57, 37, 51, 65, 37, 51, 66, 37, 51, 67, 37, 51, 68, 37, 51, 69, 37, 51, 70, 37, 52, 48, 65, 90, 37, 53, 66, 37, 53, 67, 37, 53, 68, 37, 53, 69, 95, 37, 54, 48, 97, 122, 37, 55, 66, 37, 55, 67, 37, 55, 68, 126, 37, 55, 70, 37, 56, 48, 37, 48, 48], [43, 37, 50, 49, 37, 50, 50, 37, 50, 51, 37, 50, 52, 37, 50, 53, 37, 50, 54, 37, 50, 55, 37, 50, 56, 37, 50, 57, 42, 37, 50, 66, 37, 50, 67, 45, 46, 37, 50, 70, 48, 57, 37, 51, 65, 37, 51, 66, 37, 51, 67, 37, 51, 68, 37, 51, 69, 37, 51, 70, 37, 52, 48, 65, 90, 37, 53, 66, 37, 53, 67, 37, 53, 68, 37, 53, 69, 95, 37, 54, 48, 97, 122, 37, 55, 66, 37, 55, 67, 37, 55, 68, 37, 55, 69, 37, 55, 70, 37, 56, 48, 37, 48, 48]]
theorem formW_all : ∀ j : Fin 7, formW[j.val]? = some (pEnc (j.val : Int) formB) := by decide +kernel
theorem formW_at {j : Nat} (hj : j < 7) {x : List UInt8} (h : formW[j]? = some x) : x = pEnc (j : Int) formB := by
  have := formW_all ⟨j, hj⟩
  rw [h] at this
  exact Option.some.inj this

set_option maxRecDepth 100000 in
set_option maxHeartbeats 8000000 in
theorem pctForms_walk (w : World) : Calls Try.prog 17 #[] w fun e w' => e = .returned (.bool true) ∧ Below w.heap.size w w' := by
  have kc := fun (w : World) (C : Array Value) (n c : Nat) => Lib.run_convert_bytes_const (P := Try.prog) w 30 5 C n c Try.underlying30 Try.underlying5
  go_enter Try.func17, Try.ntmps17
  go_wp2_with (go_at_call 36; go_must (go_fit (begun3_any w)); rintro e w1 ⟨rfl, hb1⟩)
  clear kc
  obtain ⟨w2, hw2⟩ : ∃ w2, w2 = (w1.alloc (.cells (bytes formB).toArray 5 (42, 43))).alloc (.cells (strs formW).toArray 9) := ⟨_, rfl⟩
  have hsz : w2.heap.size = w1.heap.size + 2 := by rw [hw2]; simp
  have hF : Rd w2 w2.heap.size (some ⟨w1.heap.size, 0, none⟩) (bytes formB) := by
    have := (@Rd.lit w1 (bytes formB).toArray 5 (42, 43)).alloc (Nat.le_refl _) (.cells (strs formW).toArray 9)
    rw [← hw2] at this
    exact Rd.mono (by simpa using this) (by rw [hsz]; simp)
  have hT : Rd w2 w2.heap.size (some ⟨w1.heap.size + 1, 0, none⟩) (strs formW) := by
    have := @Rd.lit (w1.alloc (.cells (bytes formB).toArray 5 (42, 43))) (strs formW).toArray 9 (0, 0)
    rw [← hw2] at this
    simpa using this
  have hb2 : Below w.heap.size w w2 := by rw [hw2]; exact bnew (bnew hb1 _) _
  have HW := Lib.hid hw2
  have HS := Lib.hid hsz
  clear hw2 hsz
  go_loopg [3] 7 (fun k i wr => ∃ j : Nat, k = 7 - j ∧ j ≤ 7 ∧ i = .int .i64 j ∧ Below w2.heap.size w2 wr)
  case atStart => exact ⟨0, rfl, Nat.zero_le _, rfl, by rw [HW.out]; exact Below.refl _ _⟩
  case round =>
    obtain ⟨j, rfl, hj, rfl, hbel⟩ := hrel
    have hq := hbel.size
    by_cases hlt : j < 7
    · obtain ⟨b, off, x, hA, hb, hc, hx⟩ := (hT.below hbel).str_at (k := j) (by rw [show formW.length = 7 from rfl]; exact hlt)
      injection hA with hA; injection hA with hA1 hA2; subst hA1; subst hA2
      have hxe := formW_at hlt hx.out
      subst hxe
      rw [Nat.zero_add] at hc
      have hlt1 : (j : Int) < 7 := by omega
      have hj0 : (0 : Int) ≤ (j : Int) := by omega
      have hFr := hF.next hbel
      have hne : ((str (pEnc (j : Int) formB)).toList != (str (pEnc (j : Int) formB)).toList) = false := by simp
      go_wp2
      go_region_with (go_at_call 39; refine (encode_pct j _ 42 formB wr.drew hFr (by decide)).mono ?_; rintro e w5 ⟨rfl, hb5⟩; have hc5 := cell_on (w := wr.drew) hb5 hc (by show _ < wr.heap.size; omega))
      all_goals (try go_wp2)
      all_goals go_roundg (7 - (j + 1))
      all_goals
        first
        | (case measure => omega)
        | (case rel => exact ⟨j + 1, rfl, by omega, by go_num, bnext (Below.drew hbel) hb5⟩)
    · obtain rfl : j = 7 := by omega
      have p1 : pDec [37, 52, 49, 37, 52, 97, 37, 52, 65, 37, 122, 122, 37, 52, 37] = [65, 74, 74, 37, 122, 122, 37, 52, 37] := by decide
      have p2 : pDec [37, 37, 52, 49, 43] = [37, 65, 43] := by decide
      have t1 : (str [65, 74, 74, 37, 122, 122, 37, 52, 37]).toList = [65, 74, 74, 37, 122, 122, 37, 52, 37] := str_toL _
      have t2 : (str [37, 65, 43]).toList = [37, 65, 43] := str_toL _
      have t3 : (str []).toList = [] := str_toL _
      have C1 := Lib.hid fun w => decode_pct [37, 52, 49, 37, 52, 97, 37, 52, 65, 37, 122, 122, 37, 52, 37] w (by decide)
      have C2 := Lib.hid fun w => decode_pct [37, 37, 52, 49, 43] w (by decide)
      have C3 := Lib.hid fun w => encode_pct 6 none 0 [] w Rd.nil (by decide)
      rw [p1] at C1
      rw [p2] at C2
      rw [show pEnc 6 [] = [] from rfl] at C3
      clear p1 p2
      go_wp2_with (first
        | (go_at_call 41; go_fit (C1.out wr); rintro e w5 ⟨v5, rfl, hown5, hb5⟩; obtain ⟨A5, c5, rfl, hc5, hm5, hr5⟩ := own_rd hown5; have hs5 := str_atM (c := c5) hr5 (bytes_len _))
        | (go_at_call 41; go_fit (C2.out w5); rintro e w6 ⟨v6, rfl, hown6, hb6⟩; obtain ⟨A6, c6, rfl, hc6, hm6, hr6⟩ := own_rd hown6; have hs6 := str_atM (c := c6) hr6 (bytes_len _))
        | (go_at_call 39; go_must (go_fit (C3.out w6)); rintro e w7 ⟨rfl, hb7⟩))
      go_ret
      exact ⟨rfl, bnext (bnext (bnext (bnext hb2 hbel) hb5) hb6) hb7⟩
end Go.Proofs.Ytalpkjdbennicaa
