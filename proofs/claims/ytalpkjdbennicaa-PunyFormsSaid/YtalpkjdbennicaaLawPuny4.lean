/- The walk of the statement PunyForms. -/
import Derived.Test.YtalpkjdbennicaaLawPuny2
namespace Go.Proofs.Ytalpkjdbennicaa
set_option linter.all false
open Go.RowKit

def pWords : List (List Int) := [[], [97], [252], [228, 246], [109, 252, 110, 99, 104, 101, 110], [51, 98]]
def pTexts : List (List UInt8) := [[], [97, 45], [116, 100, 97], [52, 99, 97, 54, 98], [109, 110, 99, 104, 101, 110, 45, 51, 121, 97], [51, 98, 45]]
def pBad : List (List UInt8) := [[33], [97, 45, 33], [116, 100, 97, 33], [57, 57, 57, 57, 57, 57, 57, 57], [195, 164], [97, 45, 98, 45, 128]]
theorem pBad_all : ∀ x ∈ pBad, x.length ≤ 10 ∧ unpuny x = none := by decide +kernel
theorem pWords_all : ∀ j, j < 6 → (puny (pWords.getD j [])).isSome = true ∧ (j = 3 ∨ puny (pWords.getD j []) = some (pTexts.getD j [])) := by
  intro j hj
  obtain rfl | rfl | rfl | rfl | rfl | rfl : j = 0 ∨ j = 1 ∨ j = 2 ∨ j = 3 ∨ j = 4 ∨ j = 5 := by omega
  all_goals decide +kernel

theorem Rd.row {w : World} {g : Nat} {us : Array Value} {e : TypeId} {m : Nat × Nat} (h : w.heap[g]? = some (.cells us e m)) : Rd w w.heap.size (some ⟨g, 0, none⟩) us.toList := fun _ =>
  ⟨g, 0, rfl, (Array.getElem?_eq_some_iff.1 h).1, fun j u hu => by
    rw [Nat.zero_add, cell_of_row w g j us e m h, ← hu]; simp⟩

theorem heap_alloc' (w : World) (o : Obj) : (w.alloc o).heap = w.heap.push o := rfl
theorem made_zero (n : Nat) : (madeCells (Value.int .i32 0).cells (n * 1)).toList = List.replicate n (.int .i32 0) := by
  have e : (Value.int .i32 0).cells = #[.int .i32 0] := by simp [Value.cells]
  rw [e, Nat.mul_one]; unfold madeCells
  rw [Array.toList_map]
  refine List.eq_replicate_iff.2 ⟨by simp, fun b hb => ?_⟩
  obtain ⟨i, _, rfl⟩ := List.mem_map.1 hb
  simp [Nat.mod_one]
/-- The world in which the words and their texts lie. -/
def formsW (w1 : World) : World := ((((((((w1.alloc (.cells #[] 21)).alloc (.cells #[.int .i32 97] 21)).alloc (.cells #[.int .i32 252] 21)).alloc (.cells #[.int .i32 228, .int .i32 246] 21)).alloc (.cells #[.int .i32 109, .int .i32 252, .int .i32 110, .int .i32 99, .int .i32 104, .int .i32 101, .int .i32 110] 21)).alloc (.cells #[.int .i32 51, .int .i32 98] 21)).alloc (.cells #[.slice (some ⟨w1.heap.size, 0, none⟩) 0 0, .slice (some ⟨w1.heap.size + 1, 0, none⟩) 1 1, .slice (some ⟨w1.heap.size + 1 + 1, 0, none⟩) 1 1, .slice (some ⟨w1.heap.size + 1 + 1 + 1, 0, none⟩) 2 2, .slice (some ⟨w1.heap.size + 1 + 1 + 1 + 1, 0, none⟩) 7 7, .slice (some ⟨w1.heap.size + 1 + 1 + 1 + 1 + 1, 0, none⟩) 2 2] 26)).alloc (.cells (strs pTexts).toArray 9))
theorem formsW_heap (w1 : World) (k : Nat) : (formsW w1).heap[w1.heap.size + k]? = (#[.cells #[] 21, .cells #[.int .i32 97] 21, .cells #[.int .i32 252] 21, .cells #[.int .i32 228, .int .i32 246] 21, .cells #[.int .i32 109, .int .i32 252, .int .i32 110, .int .i32 99, .int .i32 104, .int .i32 101, .int .i32 110] 21, .cells #[.int .i32 51, .int .i32 98] 21, .cells #[.slice (some ⟨w1.heap.size, 0, none⟩) 0 0, .slice (some ⟨w1.heap.size + 1, 0, none⟩) 1 1, .slice (some ⟨w1.heap.size + 1 + 1, 0, none⟩) 1 1, .slice (some ⟨w1.heap.size + 1 + 1 + 1, 0, none⟩) 2 2, .slice (some ⟨w1.heap.size + 1 + 1 + 1 + 1, 0, none⟩) 7 7, .slice (some ⟨w1.heap.size + 1 + 1 + 1 + 1 + 1, 0, none⟩) 2 2] 26, .cells (strs pTexts).toArray 9] : Array Obj)[k]? := by
  have e : (formsW w1).heap = w1.heap ++ #[.cells #[] 21, .cells #[.int .i32 97] 21, .cells #[.int .i32 252] 21, .cells #[.int .i32 228, .int .i32 246] 21, .cells #[.int .i32 109, .int .i32 252, .int .i32 110, .int .i32 99, .int .i32 104, .int .i32 101, .int .i32 110] 21, .cells #[.int .i32 51, .int .i32 98] 21, .cells #[.slice (some ⟨w1.heap.size, 0, none⟩) 0 0, .slice (some ⟨w1.heap.size + 1, 0, none⟩) 1 1, .slice (some ⟨w1.heap.size + 1 + 1, 0, none⟩) 1 1, .slice (some ⟨w1.heap.size + 1 + 1 + 1, 0, none⟩) 2 2, .slice (some ⟨w1.heap.size + 1 + 1 + 1 + 1, 0, none⟩) 7 7, .slice (some ⟨w1.heap.size + 1 + 1 + 1 + 1 + 1, 0, none⟩) 2 2] 26, .cells (strs pTexts).toArray 9] := by
    unfold formsW; simp only [heap_alloc', ← Array.toList_inj]; simp
  rw [e, Array.getElem?_append_right (by omega)]
  congr 1; omega
theorem formsW_size (w1 : World) : (formsW w1).heap.size = w1.heap.size + 8 := by unfold formsW; simp
theorem formsW_word (w1 : World) : ∀ j, j < 6 → ∃ (g : Nat) (l : List Int) (u t : List UInt8), (formsW w1).cell? ⟨w1.heap.size + 1 + 1 + 1 + 1 + 1 + 1, j, none⟩ = some (.slice (some ⟨g, 0, none⟩) l.length l.length) ∧ Rd (formsW w1) (formsW w1).heap.size (some ⟨g, 0, none⟩) (runes l) ∧ g < (formsW w1).heap.size ∧
    (formsW w1).cell? ⟨w1.heap.size + 1 + 1 + 1 + 1 + 1 + 1 + 1, j, none⟩ = some (.string (str t)) ∧ l.length ≤ 10 ∧ Hid (puny l = some u) ∧ Hid (j = 3 ∨ u = t) := by
  intro j hj
  have h6 := formsW_heap w1 6
  have h7 := formsW_heap w1 7
  have hh := formsW_heap w1 j
  have hp := pWords_all j hj
  have hs := formsW_size w1
  obtain ⟨u, hu⟩ := Option.isSome_iff_exists.1 hp.1
  refine ⟨w1.heap.size + j, pWords.getD j [], u, pTexts.getD j [], ?_, ?_, by omega, ?_, ?_, hu, ?_⟩
  · rw [show w1.heap.size + 1 + 1 + 1 + 1 + 1 + 1 = w1.heap.size + 6 from rfl, cell_of_row _ _ j _ _ _ h6]
    obtain rfl | rfl | rfl | rfl | rfl | rfl : j = 0 ∨ j = 1 ∨ j = 2 ∨ j = 3 ∨ j = 4 ∨ j = 5 := by omega
    all_goals rfl
  · obtain rfl | rfl | rfl | rfl | rfl | rfl : j = 0 ∨ j = 1 ∨ j = 2 ∨ j = 3 ∨ j = 4 ∨ j = 5 := by omega
    all_goals exact Rd.row hh
  · rw [show w1.heap.size + 1 + 1 + 1 + 1 + 1 + 1 + 1 = w1.heap.size + 7 from rfl, cell_of_row _ _ j _ _ _ h7]
    obtain rfl | rfl | rfl | rfl | rfl | rfl : j = 0 ∨ j = 1 ∨ j = 2 ∨ j = 3 ∨ j = 4 ∨ j = 5 := by omega
    all_goals rfl
  · obtain rfl | rfl | rfl | rfl | rfl | rfl : j = 0 ∨ j = 1 ∨ j = 2 ∨ j = 3 ∨ j = 4 ∨ j = 5 := by omega
    all_goals decide
  · rcases hp.2 with h | h
    · exact .inl h
    · rw [hu] at h; injection h with h; exact .inr h
theorem formsW_below (w1 : World) {B : Nat} {w : World} (hB : B ≤ w1.heap.size) (h : Below B w w1) : Below B w (formsW w1) := by
  unfold formsW
  refine Below.alloc (Below.alloc (Below.alloc (Below.alloc (Below.alloc (Below.alloc (Below.alloc (Below.alloc h ?_ _) ?_ _) ?_ _) ?_ _) ?_ _) ?_ _) ?_ _) ?_ _
  all_goals first | exact hB | (simp; try omega)

set_option maxRecDepth 100000 in
set_option maxHeartbeats 8000000 in
theorem punyForms_walk (w : World) : Calls Try.prog 22 #[] w fun e w' => e = .returned (.bool true) ∧ Below w.heap.size w w' := by
  go_enter Try.func22, Try.ntmps22
  go_wp2_with (go_at_call 43; go_must (go_fit (begun5_any w)); rintro e w1 ⟨rfl, hb1⟩)
  have hW := formsW_word w1
  have hb2 := formsW_below w1 hb1.size hb1
  have hsz := formsW_size w1
  obtain ⟨w2, hw2⟩ : ∃ w2, w2 = formsW w1 := ⟨_, rfl⟩
  rw [← hw2] at hW hb2 hsz
  have HW := Lib.hid hw2
  have HF := Lib.hid hW
  have HS := Lib.hid hsz
  clear hw2 hW hsz
  go_loopg [3] 6 (fun k i wr => ∃ j : Nat, k = 6 - j ∧ j ≤ 6 ∧ i = .int .i64 j ∧ Below w2.heap.size w2 wr)
  case atStart => exact ⟨0, rfl, Nat.zero_le _, rfl, by rw [HW.out]; exact Below.refl _ _⟩
  case round =>
    obtain ⟨j, rfl, hj, rfl, hbel⟩ := hrel
    by_cases hlt : j < 6
    · obtain ⟨g, l, u, t, hc6, hrl, hgs, hc7, hl, hpu, h3⟩ := HF.out j hlt
      have hsz := HS.out
      have hd6 := cell_on hbel hc6 (by omega)
      have hd7 := cell_on hbel hc7 (by omega)
      have hrl' := (hrl.below hbel).mono hbel.size
      clear hc6 hc7 hrl
      have hlt1 : (j : Int) < 6 := by omega
      have hj0 : (0 : Int) ≤ (j : Int) := by omega
      have C1 := Lib.hid fun w (h : Rd w w.heap.size (some ⟨g, 0, none⟩) (runes l)) => pencode_any (some ⟨g, 0, none⟩) l.length l w h (by omega)
      rw [hpu.out] at C1
      dsimp only [punyV] at C1
      by_cases hj3 : j = 3
      · subst hj3
        go_wp2_with (go_at_call 44; go_must (go_fit (C1.out _ hrl')); rintro e w4 ⟨rfl, hb4⟩)
        go_roundg 2
        case measure => omega
        case rel => exact ⟨4, rfl, by omega, by go_num, hbel.trans (hb4.mono hbel.size)⟩
      · have hj3' : ((j : Int) != 3) = true := by rw [bne_iff_ne]; omega
        have hut : u = t := by rcases h3.out with h | h; exact absurd h hj3; exact h
        subst hut
        have hq := hbel.size
        have hd7' : ∀ w', Below wr.heap.size wr w' → w'.cell? ⟨w1.heap.size + 1 + 1 + 1 + 1 + 1 + 1 + 1, j, none⟩ = some (.string (str u)) := fun w' h => cell_on h hd7 (by omega)
        have HD := Lib.hid hd7'
        clear hj3 hd7' hd7
        go_wp2_with (go_at_call 44; go_must (go_fit (C1.out _ hrl')); rintro e w4 ⟨rfl, hb4⟩; have hd7 := HD.out _ hb4)
        go_roundg (6 - (j + 1))
        case measure => omega
        case rel => exact ⟨j + 1, rfl, by omega, by go_num, hbel.trans (hb4.mono hbel.size)⟩
    · obtain rfl : j = 6 := by omega
      clear hlt
      go_wp2
      have hT : Rd (wr.alloc (.cells (strs pBad).toArray 9)) (wr.alloc (.cells (strs pBad).toArray 9)).heap.size (some ⟨wr.heap.size, 0, none⟩) (strs pBad) := by
        have := @Rd.lit wr (strs pBad).toArray 9 (0, 0)
        simpa using this
      have hb3 := bnew (hb2.trans (hbel.mono hb2.size)) (.cells (strs pBad).toArray 9)
      obtain ⟨w3, hw3⟩ : ∃ w3, w3 = wr.alloc (.cells (strs pBad).toArray 9) := ⟨_, rfl⟩
      rw [← hw3] at hT hb3
      have HW3 := Lib.hid hw3
      have hsz3 : w3.heap.size = wr.heap.size + 1 := by rw [hw3]; simp
      clear hw3
      obtain ⟨wo, hwo⟩ : ∃ wo : World, wo = wr := ⟨_, rfl⟩
      subst hwo
      go_loopg [7] 6 (fun k i wr => ∃ j : Nat, k = 6 - j ∧ j ≤ 6 ∧ i = .int .i64 j ∧ Below w3.heap.size w3 wr)
      case atStart => exact ⟨0, rfl, Nat.zero_le _, rfl, by rw [HW3.out]; exact Below.refl _ _⟩
      case round =>
        clear hbel
        obtain ⟨j, rfl, hj, rfl, hbel⟩ := hrel
        by_cases hlt : j < 6
        · obtain ⟨b, off, x, hA, hb, hc, hx⟩ := (hT.below hbel).str_at (k := j) (by rw [show pBad.length = 6 from rfl]; exact hlt)
          injection hA with hA; injection hA with hA1 hA2'; subst hA1; subst hA2'
          obtain ⟨f1, f2⟩ := pBad_all x (List.mem_of_getElem? hx.out)
          rw [Nat.zero_add] at hc
          have hlt1 : (j : Int) < 6 := by omega
          have hj0 : (0 : Int) ≤ (j : Int) := by omega
          have C2 := Lib.hid fun w => pdecode_any x w (by omega)
          rw [f2] at C2
          clear f2
          go_wp2_with (go_at_call 46; go_must (go_fit (C2.out _)); rintro e w5 ⟨hb5, rfl⟩)
          go_roundg (6 - (j + 1))
          case measure => omega
          case rel => exact ⟨j + 1, rfl, by omega, by go_num, hbel.trans (hb5.mono hbel.size)⟩
        · obtain rfl : j = 6 := by omega
          clear hlt
          have q1 : puny [55296] = none := by decide +kernel
          have q2 : puny (List.replicate 64 0) = none := by decide +kernel
          have q3 : unpuny [] = some [] := by decide +kernel
          have C1 := Lib.hid fun A c w (h : Rd w w.heap.size A (runes [55296])) => pencode_any A c [55296] w h (by decide)
          have C2 := Lib.hid fun A c w (h : Rd w w.heap.size A (runes (List.replicate 64 0))) => pencode_any A c (List.replicate 64 0) w h (by decide)
          have C3 := Lib.hid fun w => pdecode_any [] w (by decide)
          rw [q1] at C1
          rw [q2] at C2
          rw [q3] at C3
          dsimp only [punyV] at C1 C2
          clear q1 q2 q3
          have hfin := hb3.trans (hbel.mono hb3.size)
          obtain ⟨ti, HI⟩ : ∃ ti, Hid (Try.prog.info? 21 = some ti ∧ ti.zero = some (.int .i32 0) ∧ ti.size = 1 ∧ ti.bytes = 4) := by
            obtain ⟨i, h1, h2, h3, h4⟩ := info_parts info_i32u
            exact ⟨i, h1, h2, h3, h4⟩
          have hmade : (madeCells (Value.int .i32 0).cells (64 * 1)).toList = runes (List.replicate 64 0) := (made_zero 64).trans (by unfold runes; rw [List.map_replicate])
          have HMD := Lib.hid hmade
          clear hmade
          go_wp2_with (first
            | (go_at_call 44; go_fit (C1.out (some ⟨wr.heap.size, 0, none⟩) 1 (wr.alloc (.cells #[.int .i32 55296] 21)) Rd.lit); rintro e w5 ⟨rfl, hb5⟩)
            | (at_make; go_loud (refine wpList_make_full _ rfl _ _ _ rfl w5.heap.size 21 ti (.int .i32 0) 1 Try.underlying26 HI.out.1 HI.out.2.1 HI.out.2.2.1 .i64 .i64 64 64 64 rfl rfl rfl rfl (by rw [HI.out.2.2.2]; decide) (by decide) (Nat.le_refl _) ?_; intro w6 hown6 hg6; rw [HMD.out] at hown6; have hx6 := Rd.own hown6; have hb6 := Below.grown (Below.refl w5.heap.size w5) hg6 (Nat.le_refl _) (fun k h => by cases h)))
            | (go_at_call 44; go_fit (C2.out (some ⟨w5.heap.size, 0, none⟩) 64 w6 hx6); rintro e w7 ⟨rfl, hb7⟩)
            | (go_at_call 46; go_must (go_fit (C3.out w7)); rintro e w8 ⟨hb8, v8, rfl, hown8⟩; obtain ⟨A8, c8, rfl, hc8, hm8, hx8⟩ := own_rd hown8))
          go_ret
          exact ⟨rfl, bnext (bnext (bnext (bnext (bnew hfin _) hb5) hb6) hb7) hb8⟩
end Go.Proofs.Ytalpkjdbennicaa
