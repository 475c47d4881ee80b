/- A part of the proof. -/
import Derived.Test.YtoapelcofjjdnaaGreatDoorR23
namespace Go.Proofs.YtoapelcofjjdnaaGreatDoor
set_option linter.all false
open Go.RowKit
def PQ (w : World) (o : Option (List Nat)) (b : Bool) (e : Ending) (w' : World) : Prop :=
 ∃ A n c, e = .returned (.tuple #[.slice A n c, .bool b]) ∧ Below w.heap.size w w' ∧ Hid (∀ l, o = some l → n = l.length ∧ Rd w' w'.heap.size A (u16s l) ∧ n ≤ c ∧ c ≤ maxLen ∧ ∀ k, (Value.slice A n c).ownBlock = some k → w.heap.size ≤ k)
theorem pieces_pq (s : List UInt8) (tl : Bool) (w : World) (hs : s.length ≤ 1000) {b : Bool} (hb : (rPieces tl s).isSome = b) :
  Calls Tryz.prog 105 #[.string (str s), .bool tl] w (PQ w (rPieces tl s) b) := by
 refine (pieces6r_any s tl w hs).mono fun e w' h => ?_
 cases ho : rPieces tl s with
 | none =>
  rw [ho] at h hb
  obtain ⟨A, n, c, he, hbl⟩ := h
  subst hb
  exact ⟨A, n, c, he, hbl, fun l h => by cases h⟩
 | some m =>
  rw [ho] at h hb
  obtain ⟨A, c, he, hr, h1, h2, h3, hbl⟩ := h
  subst hb
  exact ⟨A, _, c, he, hbl, fun l h => by injection h with h; subst h; exact ⟨rfl, hr, h1, h2, h3⟩⟩
theorem rd_on {w w' : World} {A : Option Addr} {xs : List Value} (h : Rd w w.heap.size A xs) (hb : Below w.heap.size w w') : Rd w' w'.heap.size A xs := (h.below hb).mono hb.size
theorem rd_row {w w' : World} {A : Option Addr} {n c : Nat} {xs : List Value} {row : Option Nat} (h : Rd w w.heap.size A xs) (hg : w.grownBy w' row) (hne : ∀ k, (Value.slice A n c).ownBlock = some k → row ≠ some k) : Rd w' w'.heap.size A xs := fun hn => by
 obtain ⟨b, o, rfl, hb, hc⟩ := h hn
 exact ⟨b, o, rfl, Nat.lt_of_lt_of_le hb hg.size, fun j u hu => hg.cell (hc j u hu) (fun e => hne b rfl e.symm)⟩
theorem oFacts {n o : Nat} (h : n ≤ 8) (h0 : n ≠ 0) (e : o = 8 - n) : o + n = 8 ∧ (8 : Int) - (n : Int) = (o : Int) ∧ wrap64 ((8 : Int) - (n : Int)) = (o : Int) ∧ IntKind.i64.wrap ((8 : Int) - (n : Int)) = (o : Int) ∧ wrap64 (o : Int) = (o : Int) ∧ IntKind.i64.wrap (o : Int) = (o : Int) ∧ (o : Int) ≤ 8 ∧ (0 : Int) ≤ (o : Int) ∧ (o = 8) = False ∧ (8 = o) = False := by
 have h1 : (8 : Int) - (n : Int) = (o : Int) := by omega
 have h2 : wrap64 (o : Int) = (o : Int) := IntWalk.wrap64_in _ (by omega)
 have h3 : IntKind.i64.wrap (o : Int) = (o : Int) := IntWalk.i64_in _ (by omega)
 exact ⟨by omega, h1, by rw [h1]; exact h2, by rw [h1]; exact h3, h2, h3, by clear h2 h3; omega, by clear h2 h3; omega, eq_false (by clear h2 h3; omega), eq_false (by clear h2 h3; omega)⟩
theorem sum_big {l m : List Nat} {n k : Nat} (h1 : n = l.length) (h2 : k = m.length) (h : ¬ l.length + m.length ≤ 7) : (7 : Int) < (n : Int) + (k : Int) := by omega
theorem sum_small {l m : List Nat} {n k : Nat} (h1 : n = l.length) (h2 : k = m.length) (h : l.length + m.length ≤ 7) : ¬ (7 : Int) < (n : Int) + (k : Int) := by omega
theorem rBytes_len : ∀ (l : List (List UInt8)) (r : List Nat), rBytes l = some r → r.length = l.length := by
 intro l
 induction l with
 | nil => intro r h; injection h with h; rw [← h]; rfl
 | cons a l ih =>
  intro r h
  rw [rBytes] at h
  cases e1 : rByte a with
  | none => rw [e1] at h; cases h
  | some n =>
   rw [e1] at h
   cases e2 : rBytes l with
   | none => rw [e2] at h; cases h
   | some r2 =>
    rw [e2] at h
    injection h with h
    rw [← h, List.length_cons, ih r2 e2, List.length_cons]
theorem rFour_len {p : List UInt8} {m : List Nat} (hF : rFour p = some m) : m.length = 2 := by
 unfold rFour at hF
 split at hF
 ·
  rename_i h4
  cases e : rBytes (cuts 46 p) with
  | none => rw [e] at hF; cases hF
  | some r =>
   rw [e] at hF
   injection hF with hF
   have hr4 : r.length = 4 := by rw [rBytes_len _ _ e]; exact h4
   match r, hr4 with
   | [a, b, c, d], _ => rw [← hF]; rfl
 · cases hF
theorem rGo_len (tl : Bool) : ∀ (L : List (List UInt8)) (l : List Nat), rGo tl L = some l → l.length ≤ L.length + 1 := by
 intro L
 induction L with
 | nil => intro l h; injection h with h; subst h; simp
 | cons p r ih =>
  intro l h
  rw [rGo] at h
  split at h
  ·
   have := rFour_len h
   simp only [List.length_cons]; omega
  ·
   cases e1 : rPiece p with
   | none => rw [e1] at h; cases h
   | some n =>
    rw [e1] at h
    cases e2 : rGo tl r with
    | none => rw [e2] at h; cases h
    | some r2 =>
     rw [e2] at h
     injection h with h
     have := ih r2 e2
     rw [← h]
     simp only [List.length_cons]; omega
theorem rPieces_len {tl : Bool} {s : List UInt8} {l : List Nat} (h : rPieces tl s = some l) : l.length ≤ s.length + 2 := by
 unfold rPieces at h
 split at h
 · injection h with h; subst h; simp
 ·
  have h1 := rGo_len _ _ _ h
  have h2 := cuts_le 58 s
  omega
theorem sum_wrap {l m : List Nat} {n k : Nat} (h1 : n = l.length) (h2 : k = m.length) (h3 : l.length ≤ 2000 ∧ m.length ≤ 2000) : IntKind.i64.wrap ((n : Int) + (k : Int)) = (n : Int) + (k : Int) := IntWalk.i64_in _ (by omega)
theorem gap_no {s : List UInt8} {i : Nat} (h : gap2 s = (gap2 (s.drop i)).map fun q => (s.take i ++ q.1, q.2)) (hi : i < s.length) (hn : ¬ (gb s i = 58 ∧ i + 1 < s.length ∧ gb s (i + 1) = 58)) :
  gap2 s = (gap2 (s.drop (i + 1))).map fun q => (s.take (i + 1) ++ q.1, q.2) := by
 obtain ⟨hj, e⟩ := List.getElem?_eq_some_iff.1 (gb_some hi)
 rw [List.drop_eq_getElem_cons hi, e, gap2, if_neg] at h
 ·
  rw [h, take_snoc' s i hi, e]
  cases gap2 (s.drop (i + 1)) with
  | none => rfl
  | some q => simp
 ·
  rintro ⟨h1, h2⟩
  rw [List.head?_drop] at h2
  by_cases h3 : i + 1 < s.length
  ·
   rw [gb_some h3] at h2
   injection h2 with h2
   exact hn ⟨h1, h3, h2⟩
  · rw [List.getElem?_eq_none (by omega)] at h2; cases h2
theorem gap_yes {s : List UInt8} {i : Nat} (h : gap2 s = (gap2 (s.drop i)).map fun q => (s.take i ++ q.1, q.2)) (hi : i + 1 < s.length) (h1 : gb s i = 58) (h2 : gb s (i + 1) = 58) : gap2 s = some (tk s i, dr s (i + 2)) := by
 obtain ⟨hj, e⟩ := List.getElem?_eq_some_iff.1 (gb_some (show i < s.length by omega))
 obtain ⟨hj2, e2⟩ := List.getElem?_eq_some_iff.1 (gb_some hi)
 rw [List.drop_eq_getElem_cons (by omega), e, List.drop_eq_getElem_cons hi, e2, h1, h2, gap2_at] at h
 rw [h]
 simp [tk, dr]
theorem gap_end {s : List UInt8} {i : Nat} (h : gap2 s = (gap2 (s.drop i)).map fun q => (s.take i ++ q.1, q.2)) (hi : ¬ i + 1 < s.length) : gap2 s = none := by
 rw [h]
 have hl : (s.drop i).length ≤ 1 := by rw [List.length_drop]; omega
 match s.drop i, hl with
 | [], _ => rfl
 | [c], _ => rw [gap2, if_neg (fun e => by cases e.2)]; rfl
theorem lay_full {l : List Nat} (h : l.length = 8) : lay (noughts 8) 0 l = l := by
 unfold lay noughts
 rw [List.take_zero, List.nil_append, List.drop_of_length_le (by rw [List.length_replicate]; omega), List.append_nil]
theorem lay0_len {l : List Nat} (h : l.length ≤ 8) : (lay (noughts 8) 0 l).length = 8 := by rw [lay_len (by simp [noughts]; omega)]; rfl
theorem lay_gap {l m : List Nat} (h : l.length + m.length ≤ 7) : lay (lay (noughts 8) 0 l) (8 - m.length) m = l ++ noughts (8 - l.length - m.length) ++ m := by
 have e1 : lay (noughts 8) 0 l = l ++ noughts (8 - l.length) := by
  unfold lay noughts
  rw [List.take_zero, List.nil_append, List.drop_replicate]; congr 2; omega
 rw [e1]
 unfold lay noughts
 rw [List.take_append, List.take_of_length_le (by omega), List.take_replicate, List.drop_of_length_le (by simp; omega), List.append_nil]
 congr 3; omega
set_option maxRecDepth 100000 in
set_option maxHeartbeats 16000000 in
theorem rparse6_none (s : List UInt8) (w : World) (hs : s.length ≤ 1000) (hG : gap2 s = none) :
  Calls Tryz.prog 67 #[.string (str s)] w fun e w' => e = ret6 (rParse6 s) ∧ Below w.heap.size w w' := by
 have hsz := str_size s
 have hgt := str_get s
 have HP := Lib.hid (show rParse6 s = match gap2 s with
  | some (x, y) => match rPieces false x, rPieces true y with
   | some l, some m => if l.length + m.length ≤ 7 then some (l ++ noughts (8 - l.length - m.length) ++ m) else none
   | _, _ => none
  | none => match rPieces true s with
   | some l => if l.length = 8 then some l else none
   | none => none from rfl)
 have hA0 : Row (w.alloc (.cells #[.int .u16 0, .int .u16 0, .int .u16 0, .int .u16 0, .int .u16 0, .int .u16 0, .int .u16 0, .int .u16 0] 24)) w.heap.size (u16s (noughts 8)) := Row.made w #[.int .u16 0, .int .u16 0, .int .u16 0, .int .u16 0, .int .u16 0, .int .u16 0, .int .u16 0, .int .u16 0] 24
 have hB1 : Below w.heap.size w (w.alloc (.cells #[.int .u16 0, .int .u16 0, .int .u16 0, .int .u16 0, .int .u16 0, .int .u16 0, .int .u16 0, .int .u16 0] 24)) := (Below.refl _ _).alloc (Nat.le_refl _) _
 have hz1 : (w.alloc (.cells #[.int .u16 0, .int .u16 0, .int .u16 0, .int .u16 0, .int .u16 0, .int .u16 0, .int .u16 0, .int .u16 0] 24)).heap.size = w.heap.size + 1 := by simp
 obtain ⟨wA, hwA⟩ : ∃ wA, wA = w.alloc (.cells #[.int .u16 0, .int .u16 0, .int .u16 0, .int .u16 0, .int .u16 0, .int .u16 0, .int .u16 0, .int .u16 0] 24) := ⟨_, rfl⟩
 rw [← hwA] at hA0 hB1 hz1
 have hX0 : Row (wA.alloc (.cells #[.int .u16 0, .int .u16 0, .int .u16 0, .int .u16 0, .int .u16 0, .int .u16 0, .int .u16 0, .int .u16 0] 24)) (w.heap.size + 1) (u16s (noughts 8)) := by rw [← hz1]; exact Row.made wA #[.int .u16 0, .int .u16 0, .int .u16 0, .int .u16 0, .int .u16 0, .int .u16 0, .int .u16 0, .int .u16 0] 24
 have hR0 : Row (wA.alloc (.cells #[.int .u16 0, .int .u16 0, .int .u16 0, .int .u16 0, .int .u16 0, .int .u16 0, .int .u16 0, .int .u16 0] 24)) w.heap.size (u16s (noughts 8)) := hA0.far _
 have hB0 : Below w.heap.size w (wA.alloc (.cells #[.int .u16 0, .int .u16 0, .int .u16 0, .int .u16 0, .int .u16 0, .int .u16 0, .int .u16 0, .int .u16 0] 24)) := bnew hB1 _
 have hz0 : (wA.alloc (.cells #[.int .u16 0, .int .u16 0, .int .u16 0, .int .u16 0, .int .u16 0, .int .u16 0, .int .u16 0, .int .u16 0] 24)).heap.size = w.heap.size + 2 := by simp [hz1]
 rw [hwA] at hX0 hR0 hB0 hz0
 obtain ⟨w0, hw0⟩ : ∃ w0, w0 = (w.alloc (.cells #[.int .u16 0, .int .u16 0, .int .u16 0, .int .u16 0, .int .u16 0, .int .u16 0, .int .u16 0, .int .u16 0] 24)).alloc (.cells #[.int .u16 0, .int .u16 0, .int .u16 0, .int .u16 0, .int .u16 0, .int .u16 0, .int .u16 0, .int .u16 0] 24) := ⟨_, rfl⟩
 rw [← hw0] at hX0 hR0 hB0 hz0
 have HW := Lib.hid hw0
 clear hwA hA0 hB1 hz1 hw0
 have HGG := Lib.hid hG
 clear hG
 go_enter Tryz.func67, Tryz.ntmps67
 go_wp2
 rw [← HW.out]
 go_loopg [5] s.length (fun k s5 wr => ∃ i : Nat, k = s.length - i ∧ i ≤ s.length ∧ s5 = .int .i64 (i : Int) ∧ Hid (gap2 s = (gap2 (s.drop i)).map fun q => (s.take i ++ q.1, q.2)) ∧ w0 = wr)
 case atStart => exact ⟨0, rfl, Nat.zero_le _, rfl, by show gap2 s = (gap2 s).map fun q => ([] ++ q.1, q.2); cases gap2 s <;> rfl, rfl⟩
 case round =>
  obtain ⟨i, rfl, hi, rfl, hinv, rfl⟩ := hrel
  have hw1 : IntKind.i64.wrap ((i : Int) + 1) = (i : Int) + 1 := IntWalk.i64_in _ (by omega)
  have hw2 : IntKind.i64.wrap ((i : Int) + 2) = (i : Int) + 2 := IntWalk.i64_in _ (by omega)
  have hi0 : (0 : Int) ≤ (i : Int) := by omega
  by_cases hlt : i + 1 < s.length
  ·
   have hltI : (i : Int) + 1 < (s.length : Int) := by omega
   have hltJ : (i : Int) < (s.length : Int) := by omega
   by_cases h1 : gb s i = 58
   ·
    by_cases h2 : gb s (i + 1) = 58
    ·
     have HG := Lib.hid (gap_yes hinv.out hlt h1 h2)
     exfalso
     have h := HG.out
     rw [HGG.out] at h
     cases h
    ·
     have hnb : ((((gb s (i + 1)).toNat : Int)) != 58) = true := by simp; exact fun e => h2 (byte_ext (by show _ = 58; omega))
     have HI := Lib.hid (gap_no hinv.out (by omega) (fun e => h2 e.2.2))
     have hnb1 : ((((gb s i).toNat : Int)) != 58) = false := by rw [h1]; rfl
     clear h2 h1
     go_wp2
     go_roundg (s.length - (i + 1))
     case measure => omega
     case rel => exact ⟨i + 1, rfl, by omega, by go_num, HI.out, rfl⟩
   ·
    have hnb : ((((gb s i).toNat : Int)) != 58) = true := by simp; exact fun e => h1 (byte_ext (by show _ = 58; omega))
    have HI := Lib.hid (gap_no hinv.out (by omega) (fun e => h1 e.1))
    clear h1
    go_wp2
    go_roundg (s.length - (i + 1))
    case measure => omega
    case rel => exact ⟨i + 1, rfl, by omega, by go_num, HI.out, rfl⟩
  ·
   have hltI : ¬ (i : Int) + 1 < (s.length : Int) := by omega
   have HG := Lib.hid (gap_end hinv.out hlt)
   have HP2 := Lib.hid (show rParse6 s = match rPieces true s with
    | some l => if l.length = 8 then some l else none
    | none => none by rw [HP.out, HG.out])
   cases ho : rPieces true s with
   | none =>
    have HN := Lib.hid (show rParse6 s = none by rw [HP2.out, ho])
    have C := Lib.hid (pieces_pq s true w0 hs (b := false) (by simp [ho]))
    clear ho HP HP2
    go_wp2_with (go_at_call 105; go_must (go_fit C.out); rintro e w1 ⟨A, n, c, rfl, hb1, hq⟩; have hR1 := hR0.below hb1 hR0.2.2; have hB1 := bnext hB0 hb1; have z0 : w1.cell? ⟨w.heap.size, 0, none⟩ = some (.int .u16 0) := hR1.1 0 _ rfl; have y0 : w1.frozen? ⟨w.heap.size, 0, none⟩ = false := hR1.2.1 0 (by decide); have z1 : w1.cell? ⟨w.heap.size, 1, none⟩ = some (.int .u16 0) := hR1.1 1 _ rfl; have y1 : w1.frozen? ⟨w.heap.size, 1, none⟩ = false := hR1.2.1 1 (by decide); have z2 : w1.cell? ⟨w.heap.size, 2, none⟩ = some (.int .u16 0) := hR1.1 2 _ rfl; have y2 : w1.frozen? ⟨w.heap.size, 2, none⟩ = false := hR1.2.1 2 (by decide); have z3 : w1.cell? ⟨w.heap.size, 3, none⟩ = some (.int .u16 0) := hR1.1 3 _ rfl; have y3 : w1.frozen? ⟨w.heap.size, 3, none⟩ = false := hR1.2.1 3 (by decide); have z4 : w1.cell? ⟨w.heap.size, 4, none⟩ = some (.int .u16 0) := hR1.1 4 _ rfl; have y4 : w1.frozen? ⟨w.heap.size, 4, none⟩ = false := hR1.2.1 4 (by decide); have z5 : w1.cell? ⟨w.heap.size, 5, none⟩ = some (.int .u16 0) := hR1.1 5 _ rfl; have y5 : w1.frozen? ⟨w.heap.size, 5, none⟩ = false := hR1.2.1 5 (by decide); have z6 : w1.cell? ⟨w.heap.size, 6, none⟩ = some (.int .u16 0) := hR1.1 6 _ rfl; have y6 : w1.frozen? ⟨w.heap.size, 6, none⟩ = false := hR1.2.1 6 (by decide); have z7 : w1.cell? ⟨w.heap.size, 7, none⟩ = some (.int .u16 0) := hR1.1 7 _ rfl; have y7 : w1.frozen? ⟨w.heap.size, 7, none⟩ = false := hR1.2.1 7 (by decide))
    (try simp only [Exit.inBlock, Exit.then])
    refine bodyPost_ret (results_row (R := w.heap.size) (us := #[.int .u16 0, .int .u16 0, .int .u16 0, .int .u16 0, .int .u16 0, .int .u16 0, .int .u16 0, .int .u16 0].toList) (d := .array 8 23) rfl rfl (by exact (Row.set (Row.set (Row.set (Row.set (Row.set (Row.set (Row.set (Row.set hR1 (j := 0) (by simp [u16s, noughts]) (.int .u16 0)) (j := 1) (by simp [u16s, noughts]) (.int .u16 0)) (j := 2) (by simp [u16s, noughts]) (.int .u16 0)) (j := 3) (by simp [u16s, noughts]) (.int .u16 0)) (j := 4) (by simp [u16s, noughts]) (.int .u16 0)) (j := 5) (by simp [u16s, noughts]) (.int .u16 0)) (j := 6) (by simp [u16s, noughts]) (.int .u16 0)) (j := 7) (by simp [u16s, noughts]) (.int .u16 0))) Tryz.underlying24 rfl info_arr8) rfl ?_
    rw [HN.out, ret6_none]
    exact ⟨rfl, (Below.setCell (Below.setCell (Below.setCell (Below.setCell (Below.setCell (Below.setCell (Below.setCell (Below.setCell hB1 (p := ⟨w.heap.size, 0, none⟩) (Nat.le_refl _) (.int .u16 0)) (p := ⟨w.heap.size, 1, none⟩) (Nat.le_refl _) (.int .u16 0)) (p := ⟨w.heap.size, 2, none⟩) (Nat.le_refl _) (.int .u16 0)) (p := ⟨w.heap.size, 3, none⟩) (Nat.le_refl _) (.int .u16 0)) (p := ⟨w.heap.size, 4, none⟩) (Nat.le_refl _) (.int .u16 0)) (p := ⟨w.heap.size, 5, none⟩) (Nat.le_refl _) (.int .u16 0)) (p := ⟨w.heap.size, 6, none⟩) (Nat.le_refl _) (.int .u16 0)) (p := ⟨w.heap.size, 7, none⟩) (Nat.le_refl _) (.int .u16 0))⟩
   | some l =>
    have C := Lib.hid (pieces_pq s true w0 hs (b := true) (by simp [ho]))
    rw [ho] at C
    by_cases h8 : l.length = 8
    ·
     have HN := Lib.hid (show rParse6 s = some l by rw [HP2.out, ho]; exact if_pos h8)
     have HM8 := Lib.hid h8
     have HLF := Lib.hid (lay_full h8)
     clear ho HP HP2
     go_wp2_with (first
      | (go_at_call 105; go_must (go_fit C.out); rintro e w1 ⟨A, n, c, rfl, hb1, hq⟩; have hR1 := hR0.below hb1 hR0.2.2; have hX1 := hX0.below hb1 hX0.2.2; have hB1 := bnext hB0 hb1; obtain ⟨hn8, hr1, hnc, hcm, _⟩ := hq.out l rfl; rw [HM8.out] at hn8; subst hn8)
      | ((with_reducible show wpList _ _ _ ((Oper.mk _ (Op.call { callee := Callee.builtin Builtin.copy, args := _, argTypes := _ }) _ _ _ _) :: _) _ _); refine wpList_copy_row rfl _ _ 72 72 rfl 23 Tryz.underlying72 info_u16s _ 8 8 rfl _ _ _ rfl (w.heap.size + 1) 0 (u16s (noughts 8)) hX1 _ (u16s l) hr1 (by rw [u16s_len, HM8.out]) (fun _ => rfl) (by omega) (by rw [u16s_len]; simp [noughts]) (u16s_one _) ?_; intro w5 hX5 hg5; have hR5 := Row.grown hR1 hg5 (fun e => by injection e with e; omega); have hB5 := hB1.grown hg5 (by have := hR1.2.2; omega) (fun j e => by injection e with e; omega); rw [u16s_lay, HLF.out] at hX5; obtain ⟨a0, a1, a2, a3, a4, a5, a6, a7, hM⟩ := eight HM8.out; rw [hM] at hX5 HN; have z0 : w5.cell? ⟨w.heap.size, 0, none⟩ = some (.int .u16 0) := hR5.1 0 _ rfl; have y0 : w5.frozen? ⟨w.heap.size, 0, none⟩ = false := hR5.2.1 0 (by decide); have z1 : w5.cell? ⟨w.heap.size, 1, none⟩ = some (.int .u16 0) := hR5.1 1 _ rfl; have y1 : w5.frozen? ⟨w.heap.size, 1, none⟩ = false := hR5.2.1 1 (by decide); have z2 : w5.cell? ⟨w.heap.size, 2, none⟩ = some (.int .u16 0) := hR5.1 2 _ rfl; have y2 : w5.frozen? ⟨w.heap.size, 2, none⟩ = false := hR5.2.1 2 (by decide); have z3 : w5.cell? ⟨w.heap.size, 3, none⟩ = some (.int .u16 0) := hR5.1 3 _ rfl; have y3 : w5.frozen? ⟨w.heap.size, 3, none⟩ = false := hR5.2.1 3 (by decide); have z4 : w5.cell? ⟨w.heap.size, 4, none⟩ = some (.int .u16 0) := hR5.1 4 _ rfl; have y4 : w5.frozen? ⟨w.heap.size, 4, none⟩ = false := hR5.2.1 4 (by decide); have z5 : w5.cell? ⟨w.heap.size, 5, none⟩ = some (.int .u16 0) := hR5.1 5 _ rfl; have y5 : w5.frozen? ⟨w.heap.size, 5, none⟩ = false := hR5.2.1 5 (by decide); have z6 : w5.cell? ⟨w.heap.size, 6, none⟩ = some (.int .u16 0) := hR5.1 6 _ rfl; have y6 : w5.frozen? ⟨w.heap.size, 6, none⟩ = false := hR5.2.1 6 (by decide); have z7 : w5.cell? ⟨w.heap.size, 7, none⟩ = some (.int .u16 0) := hR5.1 7 _ rfl; have y7 : w5.frozen? ⟨w.heap.size, 7, none⟩ = false := hR5.2.1 7 (by decide); have x0 : w5.cell? ⟨w.heap.size + 1, 0, none⟩ = some (.int .u16 (a0 : Int)) := hX5.1 0 _ rfl; have x1 : w5.cell? ⟨w.heap.size + 1, 1, none⟩ = some (.int .u16 (a1 : Int)) := hX5.1 1 _ rfl; have x2 : w5.cell? ⟨w.heap.size + 1, 2, none⟩ = some (.int .u16 (a2 : Int)) := hX5.1 2 _ rfl; have x3 : w5.cell? ⟨w.heap.size + 1, 3, none⟩ = some (.int .u16 (a3 : Int)) := hX5.1 3 _ rfl; have x4 : w5.cell? ⟨w.heap.size + 1, 4, none⟩ = some (.int .u16 (a4 : Int)) := hX5.1 4 _ rfl; have x5 : w5.cell? ⟨w.heap.size + 1, 5, none⟩ = some (.int .u16 (a5 : Int)) := hX5.1 5 _ rfl; have x6 : w5.cell? ⟨w.heap.size + 1, 6, none⟩ = some (.int .u16 (a6 : Int)) := hX5.1 6 _ rfl; have x7 : w5.cell? ⟨w.heap.size + 1, 7, none⟩ = some (.int .u16 (a7 : Int)) := hX5.1 7 _ rfl; clear hM hX1 hX0 hR1 hR0 hB1 hB0 hr1 hg5 hX5 hq))
     (try simp only [Exit.inBlock, Exit.then])
     refine bodyPost_ret (results_row (R := w.heap.size) (us := #[.int .u16 (a0 : Int), .int .u16 (a1 : Int), .int .u16 (a2 : Int), .int .u16 (a3 : Int), .int .u16 (a4 : Int), .int .u16 (a5 : Int), .int .u16 (a6 : Int), .int .u16 (a7 : Int)].toList) (d := .array 8 23) rfl rfl (by exact (Row.set (Row.set (Row.set (Row.set (Row.set (Row.set (Row.set (Row.set hR5 (j := 0) (by simp [u16s, noughts]) (.int .u16 (a0 : Int))) (j := 1) (by simp [u16s, noughts]) (.int .u16 (a1 : Int))) (j := 2) (by simp [u16s, noughts]) (.int .u16 (a2 : Int))) (j := 3) (by simp [u16s, noughts]) (.int .u16 (a3 : Int))) (j := 4) (by simp [u16s, noughts]) (.int .u16 (a4 : Int))) (j := 5) (by simp [u16s, noughts]) (.int .u16 (a5 : Int))) (j := 6) (by simp [u16s, noughts]) (.int .u16 (a6 : Int))) (j := 7) (by simp [u16s, noughts]) (.int .u16 (a7 : Int)))) Tryz.underlying24 rfl info_arr8) rfl ?_
     rw [HN.out]
     exact ⟨rfl, (Below.setCell (Below.setCell (Below.setCell (Below.setCell (Below.setCell (Below.setCell (Below.setCell (Below.setCell hB5 (p := ⟨w.heap.size, 0, none⟩) (Nat.le_refl _) (.int .u16 (a0 : Int))) (p := ⟨w.heap.size, 1, none⟩) (Nat.le_refl _) (.int .u16 (a1 : Int))) (p := ⟨w.heap.size, 2, none⟩) (Nat.le_refl _) (.int .u16 (a2 : Int))) (p := ⟨w.heap.size, 3, none⟩) (Nat.le_refl _) (.int .u16 (a3 : Int))) (p := ⟨w.heap.size, 4, none⟩) (Nat.le_refl _) (.int .u16 (a4 : Int))) (p := ⟨w.heap.size, 5, none⟩) (Nat.le_refl _) (.int .u16 (a5 : Int))) (p := ⟨w.heap.size, 6, none⟩) (Nat.le_refl _) (.int .u16 (a6 : Int))) (p := ⟨w.heap.size, 7, none⟩) (Nat.le_refl _) (.int .u16 (a7 : Int)))⟩
    ·
     have HN := Lib.hid (show rParse6 s = none by rw [HP2.out, ho]; exact if_neg h8)
     clear ho HP HP2
     have H8 := Lib.hid h8
     go_wp2_with (go_at_call 105; go_must (go_fit C.out); rintro e w1 ⟨A, n, c, rfl, hb1, hq⟩; have hR1 := hR0.below hb1 hR0.2.2; have hB1 := bnext hB0 hb1; have z0 : w1.cell? ⟨w.heap.size, 0, none⟩ = some (.int .u16 0) := hR1.1 0 _ rfl; have y0 : w1.frozen? ⟨w.heap.size, 0, none⟩ = false := hR1.2.1 0 (by decide); have z1 : w1.cell? ⟨w.heap.size, 1, none⟩ = some (.int .u16 0) := hR1.1 1 _ rfl; have y1 : w1.frozen? ⟨w.heap.size, 1, none⟩ = false := hR1.2.1 1 (by decide); have z2 : w1.cell? ⟨w.heap.size, 2, none⟩ = some (.int .u16 0) := hR1.1 2 _ rfl; have y2 : w1.frozen? ⟨w.heap.size, 2, none⟩ = false := hR1.2.1 2 (by decide); have z3 : w1.cell? ⟨w.heap.size, 3, none⟩ = some (.int .u16 0) := hR1.1 3 _ rfl; have y3 : w1.frozen? ⟨w.heap.size, 3, none⟩ = false := hR1.2.1 3 (by decide); have z4 : w1.cell? ⟨w.heap.size, 4, none⟩ = some (.int .u16 0) := hR1.1 4 _ rfl; have y4 : w1.frozen? ⟨w.heap.size, 4, none⟩ = false := hR1.2.1 4 (by decide); have z5 : w1.cell? ⟨w.heap.size, 5, none⟩ = some (.int .u16 0) := hR1.1 5 _ rfl; have y5 : w1.frozen? ⟨w.heap.size, 5, none⟩ = false := hR1.2.1 5 (by decide); have z6 : w1.cell? ⟨w.heap.size, 6, none⟩ = some (.int .u16 0) := hR1.1 6 _ rfl; have y6 : w1.frozen? ⟨w.heap.size, 6, none⟩ = false := hR1.2.1 6 (by decide); have z7 : w1.cell? ⟨w.heap.size, 7, none⟩ = some (.int .u16 0) := hR1.1 7 _ rfl; have y7 : w1.frozen? ⟨w.heap.size, 7, none⟩ = false := hR1.2.1 7 (by decide); have hn8 : ((n : Int) != 8) = true := by (have := (hq.out l rfl).1; have := H8.out; simp; omega))
     (try simp only [Exit.inBlock, Exit.then])
     refine bodyPost_ret (results_row (R := w.heap.size) (us := #[.int .u16 0, .int .u16 0, .int .u16 0, .int .u16 0, .int .u16 0, .int .u16 0, .int .u16 0, .int .u16 0].toList) (d := .array 8 23) rfl rfl (by exact (Row.set (Row.set (Row.set (Row.set (Row.set (Row.set (Row.set (Row.set hR1 (j := 0) (by simp [u16s, noughts]) (.int .u16 0)) (j := 1) (by simp [u16s, noughts]) (.int .u16 0)) (j := 2) (by simp [u16s, noughts]) (.int .u16 0)) (j := 3) (by simp [u16s, noughts]) (.int .u16 0)) (j := 4) (by simp [u16s, noughts]) (.int .u16 0)) (j := 5) (by simp [u16s, noughts]) (.int .u16 0)) (j := 6) (by simp [u16s, noughts]) (.int .u16 0)) (j := 7) (by simp [u16s, noughts]) (.int .u16 0))) Tryz.underlying24 rfl info_arr8) rfl ?_
     rw [HN.out, ret6_none]
     exact ⟨rfl, (Below.setCell (Below.setCell (Below.setCell (Below.setCell (Below.setCell (Below.setCell (Below.setCell (Below.setCell hB1 (p := ⟨w.heap.size, 0, none⟩) (Nat.le_refl _) (.int .u16 0)) (p := ⟨w.heap.size, 1, none⟩) (Nat.le_refl _) (.int .u16 0)) (p := ⟨w.heap.size, 2, none⟩) (Nat.le_refl _) (.int .u16 0)) (p := ⟨w.heap.size, 3, none⟩) (Nat.le_refl _) (.int .u16 0)) (p := ⟨w.heap.size, 4, none⟩) (Nat.le_refl _) (.int .u16 0)) (p := ⟨w.heap.size, 5, none⟩) (Nat.le_refl _) (.int .u16 0)) (p := ⟨w.heap.size, 6, none⟩) (Nat.le_refl _) (.int .u16 0)) (p := ⟨w.heap.size, 7, none⟩) (Nat.le_refl _) (.int .u16 0))⟩
set_option maxRecDepth 100000 in
set_option maxHeartbeats 16000000 in
theorem rparse6_bad (s : List UInt8) (w : World) (hs : s.length ≤ 1000) {x y : List UInt8} (hG : gap2 s = some (x, y)) (hbad : ∀ l m, rPieces false x = some l → rPieces true y = some m → ¬ l.length + m.length ≤ 7) :
  Calls Tryz.prog 67 #[.string (str s)] w fun e w' => e = ret6 (rParse6 s) ∧ Below w.heap.size w w' := by
 have hsz := str_size s
 have hgt := str_get s
 have HP := Lib.hid (show rParse6 s = match gap2 s with
  | some (x, y) => match rPieces false x, rPieces true y with
   | some l, some m => if l.length + m.length ≤ 7 then some (l ++ noughts (8 - l.length - m.length) ++ m) else none
   | _, _ => none
  | none => match rPieces true s with
   | some l => if l.length = 8 then some l else none
   | none => none from rfl)
 have hA0 : Row (w.alloc (.cells #[.int .u16 0, .int .u16 0, .int .u16 0, .int .u16 0, .int .u16 0, .int .u16 0, .int .u16 0, .int .u16 0] 24)) w.heap.size (u16s (noughts 8)) := Row.made w #[.int .u16 0, .int .u16 0, .int .u16 0, .int .u16 0, .int .u16 0, .int .u16 0, .int .u16 0, .int .u16 0] 24
 have hB1 : Below w.heap.size w (w.alloc (.cells #[.int .u16 0, .int .u16 0, .int .u16 0, .int .u16 0, .int .u16 0, .int .u16 0, .int .u16 0, .int .u16 0] 24)) := (Below.refl _ _).alloc (Nat.le_refl _) _
 have hz1 : (w.alloc (.cells #[.int .u16 0, .int .u16 0, .int .u16 0, .int .u16 0, .int .u16 0, .int .u16 0, .int .u16 0, .int .u16 0] 24)).heap.size = w.heap.size + 1 := by simp
 obtain ⟨wA, hwA⟩ : ∃ wA, wA = w.alloc (.cells #[.int .u16 0, .int .u16 0, .int .u16 0, .int .u16 0, .int .u16 0, .int .u16 0, .int .u16 0, .int .u16 0] 24) := ⟨_, rfl⟩
 rw [← hwA] at hA0 hB1 hz1
 have hX0 : Row (wA.alloc (.cells #[.int .u16 0, .int .u16 0, .int .u16 0, .int .u16 0, .int .u16 0, .int .u16 0, .int .u16 0, .int .u16 0] 24)) (w.heap.size + 1) (u16s (noughts 8)) := by rw [← hz1]; exact Row.made wA #[.int .u16 0, .int .u16 0, .int .u16 0, .int .u16 0, .int .u16 0, .int .u16 0, .int .u16 0, .int .u16 0] 24
 have hR0 : Row (wA.alloc (.cells #[.int .u16 0, .int .u16 0, .int .u16 0, .int .u16 0, .int .u16 0, .int .u16 0, .int .u16 0, .int .u16 0] 24)) w.heap.size (u16s (noughts 8)) := hA0.far _
 have hB0 : Below w.heap.size w (wA.alloc (.cells #[.int .u16 0, .int .u16 0, .int .u16 0, .int .u16 0, .int .u16 0, .int .u16 0, .int .u16 0, .int .u16 0] 24)) := bnew hB1 _
 have hz0 : (wA.alloc (.cells #[.int .u16 0, .int .u16 0, .int .u16 0, .int .u16 0, .int .u16 0, .int .u16 0, .int .u16 0, .int .u16 0] 24)).heap.size = w.heap.size + 2 := by simp [hz1]
 rw [hwA] at hX0 hR0 hB0 hz0
 obtain ⟨w0, hw0⟩ : ∃ w0, w0 = (w.alloc (.cells #[.int .u16 0, .int .u16 0, .int .u16 0, .int .u16 0, .int .u16 0, .int .u16 0, .int .u16 0, .int .u16 0] 24)).alloc (.cells #[.int .u16 0, .int .u16 0, .int .u16 0, .int .u16 0, .int .u16 0, .int .u16 0, .int .u16 0, .int .u16 0] 24) := ⟨_, rfl⟩
 rw [← hw0] at hX0 hR0 hB0 hz0
 have HW := Lib.hid hw0
 clear hwA hA0 hB1 hz1 hw0
 have HGG := Lib.hid hG
 clear hG
 go_enter Tryz.func67, Tryz.ntmps67
 go_wp2
 rw [← HW.out]
 go_loopg [5] s.length (fun k s5 wr => ∃ i : Nat, k = s.length - i ∧ i ≤ s.length ∧ s5 = .int .i64 (i : Int) ∧ Hid (gap2 s = (gap2 (s.drop i)).map fun q => (s.take i ++ q.1, q.2)) ∧ w0 = wr)
 case atStart => exact ⟨0, rfl, Nat.zero_le _, rfl, by show gap2 s = (gap2 s).map fun q => ([] ++ q.1, q.2); cases gap2 s <;> rfl, rfl⟩
 case round =>
  obtain ⟨i, rfl, hi, rfl, hinv, rfl⟩ := hrel
  have hw1 : IntKind.i64.wrap ((i : Int) + 1) = (i : Int) + 1 := IntWalk.i64_in _ (by omega)
  have hw2 : IntKind.i64.wrap ((i : Int) + 2) = (i : Int) + 2 := IntWalk.i64_in _ (by omega)
  have hi0 : (0 : Int) ≤ (i : Int) := by omega
  by_cases hlt : i + 1 < s.length
  ·
   have hltI : (i : Int) + 1 < (s.length : Int) := by omega
   have hltJ : (i : Int) < (s.length : Int) := by omega
   by_cases h1 : gb s i = 58
   ·
    by_cases h2 : gb s (i + 1) = 58
    ·
     have HG := Lib.hid (gap_yes hinv.out hlt h1 h2)
     have e1 : (str s).extract 0 i = str (tk s i) := str_front s i
     have e2 : (str s).extract (i + 2) s.length = str (dr s (i + 2)) := str_end s (i + 2)
     have hltK : (i : Int) + 2 ≤ (s.length : Int) := by omega
     have lx : (tk s i).length ≤ 1000 := by rw [tk_len]; omega
     have ly : (dr s (i + 2)).length ≤ 1000 := by rw [dr_len]; omega
     have hxy := HG.out
     rw [HGG.out] at hxy
     injection hxy with hxy
     injection hxy with hx hy
     rw [← hx] at e1 lx
     rw [← hy] at e2 ly
     clear hx hy hinv
     cases ho : rPieces false x with
     | none =>
      have HN := Lib.hid (show rParse6 s = none by rw [HP.out, HGG.out]; show (match rPieces false x, rPieces true y with | some l, some m => _ | _, _ => none) = none; rw [ho])
      have CX := Lib.hid (pieces_pq x false w0 lx (b := false) (by simp [ho]))
      have CY := Lib.hid fun w => pieces_pq y true w ly rfl
      obtain ⟨by', hby⟩ : ∃ b, b = (rPieces true y).isSome := ⟨_, rfl⟩
      rw [← hby] at CY
      clear ho hby HP HG hbad
      go_wp2_with (first
       | (go_at_call 105; go_fit CX.out; rintro e w1 ⟨A, n, c, rfl, hb1, hq⟩; have hR1 := hR0.below hb1 hR0.2.2; have hB1 := bnext hB0 hb1)
       | (go_at_call 105; go_must (go_fit (CY.out w1)); rintro e w2 ⟨A2, n2, c2, rfl, hb2, hq2⟩; have hR2 := hR1.below hb2 hR1.2.2; have hB2 := bnext hB1 hb2; have z0 : w2.cell? ⟨w.heap.size, 0, none⟩ = some (.int .u16 0) := hR2.1 0 _ rfl; have y0 : w2.frozen? ⟨w.heap.size, 0, none⟩ = false := hR2.2.1 0 (by decide); have z1 : w2.cell? ⟨w.heap.size, 1, none⟩ = some (.int .u16 0) := hR2.1 1 _ rfl; have y1 : w2.frozen? ⟨w.heap.size, 1, none⟩ = false := hR2.2.1 1 (by decide); have z2 : w2.cell? ⟨w.heap.size, 2, none⟩ = some (.int .u16 0) := hR2.1 2 _ rfl; have y2 : w2.frozen? ⟨w.heap.size, 2, none⟩ = false := hR2.2.1 2 (by decide); have z3 : w2.cell? ⟨w.heap.size, 3, none⟩ = some (.int .u16 0) := hR2.1 3 _ rfl; have y3 : w2.frozen? ⟨w.heap.size, 3, none⟩ = false := hR2.2.1 3 (by decide); have z4 : w2.cell? ⟨w.heap.size, 4, none⟩ = some (.int .u16 0) := hR2.1 4 _ rfl; have y4 : w2.frozen? ⟨w.heap.size, 4, none⟩ = false := hR2.2.1 4 (by decide); have z5 : w2.cell? ⟨w.heap.size, 5, none⟩ = some (.int .u16 0) := hR2.1 5 _ rfl; have y5 : w2.frozen? ⟨w.heap.size, 5, none⟩ = false := hR2.2.1 5 (by decide); have z6 : w2.cell? ⟨w.heap.size, 6, none⟩ = some (.int .u16 0) := hR2.1 6 _ rfl; have y6 : w2.frozen? ⟨w.heap.size, 6, none⟩ = false := hR2.2.1 6 (by decide); have z7 : w2.cell? ⟨w.heap.size, 7, none⟩ = some (.int .u16 0) := hR2.1 7 _ rfl; have y7 : w2.frozen? ⟨w.heap.size, 7, none⟩ = false := hR2.2.1 7 (by decide)))
      (try simp only [Exit.inBlock, Exit.then])
      refine bodyPost_ret (results_row (R := w.heap.size) (us := #[.int .u16 0, .int .u16 0, .int .u16 0, .int .u16 0, .int .u16 0, .int .u16 0, .int .u16 0, .int .u16 0].toList) (d := .array 8 23) rfl rfl (by exact (Row.set (Row.set (Row.set (Row.set (Row.set (Row.set (Row.set (Row.set hR2 (j := 0) (by simp [u16s, noughts]) (.int .u16 0)) (j := 1) (by simp [u16s, noughts]) (.int .u16 0)) (j := 2) (by simp [u16s, noughts]) (.int .u16 0)) (j := 3) (by simp [u16s, noughts]) (.int .u16 0)) (j := 4) (by simp [u16s, noughts]) (.int .u16 0)) (j := 5) (by simp [u16s, noughts]) (.int .u16 0)) (j := 6) (by simp [u16s, noughts]) (.int .u16 0)) (j := 7) (by simp [u16s, noughts]) (.int .u16 0))) Tryz.underlying24 rfl info_arr8) rfl ?_
      rw [HN.out, ret6_none]
      exact ⟨rfl, (Below.setCell (Below.setCell (Below.setCell (Below.setCell (Below.setCell (Below.setCell (Below.setCell (Below.setCell hB2 (p := ⟨w.heap.size, 0, none⟩) (Nat.le_refl _) (.int .u16 0)) (p := ⟨w.heap.size, 1, none⟩) (Nat.le_refl _) (.int .u16 0)) (p := ⟨w.heap.size, 2, none⟩) (Nat.le_refl _) (.int .u16 0)) (p := ⟨w.heap.size, 3, none⟩) (Nat.le_refl _) (.int .u16 0)) (p := ⟨w.heap.size, 4, none⟩) (Nat.le_refl _) (.int .u16 0)) (p := ⟨w.heap.size, 5, none⟩) (Nat.le_refl _) (.int .u16 0)) (p := ⟨w.heap.size, 6, none⟩) (Nat.le_refl _) (.int .u16 0)) (p := ⟨w.heap.size, 7, none⟩) (Nat.le_refl _) (.int .u16 0))⟩
     | some l =>
      have CX := Lib.hid (pieces_pq x false w0 lx (b := true) (by simp [ho]))
      cases ho2 : rPieces true y with
      | none =>
       have HN := Lib.hid (show rParse6 s = none by rw [HP.out, HGG.out]; show (match rPieces false x, rPieces true y with | some l, some m => _ | _, _ => none) = none; rw [ho, ho2])
       have CY := Lib.hid fun w => pieces_pq y true w ly (b := false) (by simp [ho2])
       clear ho ho2 HP HG hbad
       go_wp2_with (first
        | (go_at_call 105; go_fit CX.out; rintro e w1 ⟨A, n, c, rfl, hb1, hq⟩; have hR1 := hR0.below hb1 hR0.2.2; have hB1 := bnext hB0 hb1)
        | (go_at_call 105; go_must (go_fit (CY.out w1)); rintro e w2 ⟨A2, n2, c2, rfl, hb2, hq2⟩; have hR2 := hR1.below hb2 hR1.2.2; have hB2 := bnext hB1 hb2; have z0 : w2.cell? ⟨w.heap.size, 0, none⟩ = some (.int .u16 0) := hR2.1 0 _ rfl; have y0 : w2.frozen? ⟨w.heap.size, 0, none⟩ = false := hR2.2.1 0 (by decide); have z1 : w2.cell? ⟨w.heap.size, 1, none⟩ = some (.int .u16 0) := hR2.1 1 _ rfl; have y1 : w2.frozen? ⟨w.heap.size, 1, none⟩ = false := hR2.2.1 1 (by decide); have z2 : w2.cell? ⟨w.heap.size, 2, none⟩ = some (.int .u16 0) := hR2.1 2 _ rfl; have y2 : w2.frozen? ⟨w.heap.size, 2, none⟩ = false := hR2.2.1 2 (by decide); have z3 : w2.cell? ⟨w.heap.size, 3, none⟩ = some (.int .u16 0) := hR2.1 3 _ rfl; have y3 : w2.frozen? ⟨w.heap.size, 3, none⟩ = false := hR2.2.1 3 (by decide); have z4 : w2.cell? ⟨w.heap.size, 4, none⟩ = some (.int .u16 0) := hR2.1 4 _ rfl; have y4 : w2.frozen? ⟨w.heap.size, 4, none⟩ = false := hR2.2.1 4 (by decide); have z5 : w2.cell? ⟨w.heap.size, 5, none⟩ = some (.int .u16 0) := hR2.1 5 _ rfl; have y5 : w2.frozen? ⟨w.heap.size, 5, none⟩ = false := hR2.2.1 5 (by decide); have z6 : w2.cell? ⟨w.heap.size, 6, none⟩ = some (.int .u16 0) := hR2.1 6 _ rfl; have y6 : w2.frozen? ⟨w.heap.size, 6, none⟩ = false := hR2.2.1 6 (by decide); have z7 : w2.cell? ⟨w.heap.size, 7, none⟩ = some (.int .u16 0) := hR2.1 7 _ rfl; have y7 : w2.frozen? ⟨w.heap.size, 7, none⟩ = false := hR2.2.1 7 (by decide)))
       (try simp only [Exit.inBlock, Exit.then])
       refine bodyPost_ret (results_row (R := w.heap.size) (us := #[.int .u16 0, .int .u16 0, .int .u16 0, .int .u16 0, .int .u16 0, .int .u16 0, .int .u16 0, .int .u16 0].toList) (d := .array 8 23) rfl rfl (by exact (Row.set (Row.set (Row.set (Row.set (Row.set (Row.set (Row.set (Row.set hR2 (j := 0) (by simp [u16s, noughts]) (.int .u16 0)) (j := 1) (by simp [u16s, noughts]) (.int .u16 0)) (j := 2) (by simp [u16s, noughts]) (.int .u16 0)) (j := 3) (by simp [u16s, noughts]) (.int .u16 0)) (j := 4) (by simp [u16s, noughts]) (.int .u16 0)) (j := 5) (by simp [u16s, noughts]) (.int .u16 0)) (j := 6) (by simp [u16s, noughts]) (.int .u16 0)) (j := 7) (by simp [u16s, noughts]) (.int .u16 0))) Tryz.underlying24 rfl info_arr8) rfl ?_
       rw [HN.out, ret6_none]
       exact ⟨rfl, (Below.setCell (Below.setCell (Below.setCell (Below.setCell (Below.setCell (Below.setCell (Below.setCell (Below.setCell hB2 (p := ⟨w.heap.size, 0, none⟩) (Nat.le_refl _) (.int .u16 0)) (p := ⟨w.heap.size, 1, none⟩) (Nat.le_refl _) (.int .u16 0)) (p := ⟨w.heap.size, 2, none⟩) (Nat.le_refl _) (.int .u16 0)) (p := ⟨w.heap.size, 3, none⟩) (Nat.le_refl _) (.int .u16 0)) (p := ⟨w.heap.size, 4, none⟩) (Nat.le_refl _) (.int .u16 0)) (p := ⟨w.heap.size, 5, none⟩) (Nat.le_refl _) (.int .u16 0)) (p := ⟨w.heap.size, 6, none⟩) (Nat.le_refl _) (.int .u16 0)) (p := ⟨w.heap.size, 7, none⟩) (Nat.le_refl _) (.int .u16 0))⟩
      | some m =>
       have h7 := hbad l m ho ho2
       have CY := Lib.hid fun w => pieces_pq y true w ly (b := true) (by simp [ho2])
       have HLN := Lib.hid (show l.length ≤ 2000 ∧ m.length ≤ 2000 from ⟨by have := rPieces_len ho; omega, by have := rPieces_len ho2; omega⟩)
       have HN := Lib.hid (show rParse6 s = none by
        rw [HP.out, HGG.out]
        show (match rPieces false x, rPieces true y with | some l, some m => if l.length + m.length ≤ 7 then some (l ++ noughts (8 - l.length - m.length) ++ m) else none | _, _ => none) = none
        rw [ho, ho2]; exact if_neg h7)
       rw [ho] at CX
       rw [ho2] at CY
       clear ho ho2 HP HG hbad
       have H7 := Lib.hid h7
       go_wp2_with (first
        | (go_at_call 105; go_fit CX.out; rintro e w1 ⟨A, n, c, rfl, hb1, hq⟩; have hR1 := hR0.below hb1 hR0.2.2; have hB1 := bnext hB0 hb1)
        | (go_at_call 105; go_must (go_fit (CY.out w1)); rintro e w2 ⟨A2, n2, c2, rfl, hb2, hq2⟩; have hR2 := hR1.below hb2 hR1.2.2; have hB2 := bnext hB1 hb2; have z0 : w2.cell? ⟨w.heap.size, 0, none⟩ = some (.int .u16 0) := hR2.1 0 _ rfl; have y0 : w2.frozen? ⟨w.heap.size, 0, none⟩ = false := hR2.2.1 0 (by decide); have z1 : w2.cell? ⟨w.heap.size, 1, none⟩ = some (.int .u16 0) := hR2.1 1 _ rfl; have y1 : w2.frozen? ⟨w.heap.size, 1, none⟩ = false := hR2.2.1 1 (by decide); have z2 : w2.cell? ⟨w.heap.size, 2, none⟩ = some (.int .u16 0) := hR2.1 2 _ rfl; have y2 : w2.frozen? ⟨w.heap.size, 2, none⟩ = false := hR2.2.1 2 (by decide); have z3 : w2.cell? ⟨w.heap.size, 3, none⟩ = some (.int .u16 0) := hR2.1 3 _ rfl; have y3 : w2.frozen? ⟨w.heap.size, 3, none⟩ = false := hR2.2.1 3 (by decide); have z4 : w2.cell? ⟨w.heap.size, 4, none⟩ = some (.int .u16 0) := hR2.1 4 _ rfl; have y4 : w2.frozen? ⟨w.heap.size, 4, none⟩ = false := hR2.2.1 4 (by decide); have z5 : w2.cell? ⟨w.heap.size, 5, none⟩ = some (.int .u16 0) := hR2.1 5 _ rfl; have y5 : w2.frozen? ⟨w.heap.size, 5, none⟩ = false := hR2.2.1 5 (by decide); have z6 : w2.cell? ⟨w.heap.size, 6, none⟩ = some (.int .u16 0) := hR2.1 6 _ rfl; have y6 : w2.frozen? ⟨w.heap.size, 6, none⟩ = false := hR2.2.1 6 (by decide); have z7 : w2.cell? ⟨w.heap.size, 7, none⟩ = some (.int .u16 0) := hR2.1 7 _ rfl; have y7 : w2.frozen? ⟨w.heap.size, 7, none⟩ = false := hR2.2.1 7 (by decide); have hs7 := sum_big (hq.out l rfl).1 (hq2.out m rfl).1 H7.out; have hws := sum_wrap (hq.out l rfl).1 (hq2.out m rfl).1 HLN.out))
       (try simp only [Exit.inBlock, Exit.then])
       refine bodyPost_ret (results_row (R := w.heap.size) (us := #[.int .u16 0, .int .u16 0, .int .u16 0, .int .u16 0, .int .u16 0, .int .u16 0, .int .u16 0, .int .u16 0].toList) (d := .array 8 23) rfl rfl (by exact (Row.set (Row.set (Row.set (Row.set (Row.set (Row.set (Row.set (Row.set hR2 (j := 0) (by simp [u16s, noughts]) (.int .u16 0)) (j := 1) (by simp [u16s, noughts]) (.int .u16 0)) (j := 2) (by simp [u16s, noughts]) (.int .u16 0)) (j := 3) (by simp [u16s, noughts]) (.int .u16 0)) (j := 4) (by simp [u16s, noughts]) (.int .u16 0)) (j := 5) (by simp [u16s, noughts]) (.int .u16 0)) (j := 6) (by simp [u16s, noughts]) (.int .u16 0)) (j := 7) (by simp [u16s, noughts]) (.int .u16 0))) Tryz.underlying24 rfl info_arr8) rfl ?_
       rw [HN.out, ret6_none]
       exact ⟨rfl, (Below.setCell (Below.setCell (Below.setCell (Below.setCell (Below.setCell (Below.setCell (Below.setCell (Below.setCell hB2 (p := ⟨w.heap.size, 0, none⟩) (Nat.le_refl _) (.int .u16 0)) (p := ⟨w.heap.size, 1, none⟩) (Nat.le_refl _) (.int .u16 0)) (p := ⟨w.heap.size, 2, none⟩) (Nat.le_refl _) (.int .u16 0)) (p := ⟨w.heap.size, 3, none⟩) (Nat.le_refl _) (.int .u16 0)) (p := ⟨w.heap.size, 4, none⟩) (Nat.le_refl _) (.int .u16 0)) (p := ⟨w.heap.size, 5, none⟩) (Nat.le_refl _) (.int .u16 0)) (p := ⟨w.heap.size, 6, none⟩) (Nat.le_refl _) (.int .u16 0)) (p := ⟨w.heap.size, 7, none⟩) (Nat.le_refl _) (.int .u16 0))⟩
    ·
     have hnb : ((((gb s (i + 1)).toNat : Int)) != 58) = true := by simp; exact fun e => h2 (byte_ext (by show _ = 58; omega))
     have HI := Lib.hid (gap_no hinv.out (by omega) (fun e => h2 e.2.2))
     have hnb1 : ((((gb s i).toNat : Int)) != 58) = false := by rw [h1]; rfl
     clear h2 h1
     go_wp2
     go_roundg (s.length - (i + 1))
     case measure => omega
     case rel => exact ⟨i + 1, rfl, by omega, by go_num, HI.out, rfl⟩
   ·
    have hnb : ((((gb s i).toNat : Int)) != 58) = true := by simp; exact fun e => h1 (byte_ext (by show _ = 58; omega))
    have HI := Lib.hid (gap_no hinv.out (by omega) (fun e => h1 e.1))
    clear h1
    go_wp2
    go_roundg (s.length - (i + 1))
    case measure => omega
    case rel => exact ⟨i + 1, rfl, by omega, by go_num, HI.out, rfl⟩
  ·
   have hltI : ¬ (i : Int) + 1 < (s.length : Int) := by omega
   have HG := Lib.hid (gap_end hinv.out hlt)
   exfalso
   have h := HG.out
   rw [HGG.out] at h
   cases h
set_option maxRecDepth 100000 in
set_option maxHeartbeats 16000000 in
theorem rparse6_nil (s : List UInt8) (w : World) (hs : s.length ≤ 1000) {x y : List UInt8} (hG : gap2 s = some (x, y)) {l m : List Nat} (ho : rPieces false x = some l) (ho2 : rPieces true y = some m) (h7 : l.length + m.length ≤ 7) (hm0 : m.length = 0) :
  Calls Tryz.prog 67 #[.string (str s)] w fun e w' => e = ret6 (rParse6 s) ∧ Below w.heap.size w w' := by
 have hsz := str_size s
 have hgt := str_get s
 have HP := Lib.hid (show rParse6 s = match gap2 s with
  | some (x, y) => match rPieces false x, rPieces true y with
   | some l, some m => if l.length + m.length ≤ 7 then some (l ++ noughts (8 - l.length - m.length) ++ m) else none
   | _, _ => none
  | none => match rPieces true s with
   | some l => if l.length = 8 then some l else none
   | none => none from rfl)
 have hA0 : Row (w.alloc (.cells #[.int .u16 0, .int .u16 0, .int .u16 0, .int .u16 0, .int .u16 0, .int .u16 0, .int .u16 0, .int .u16 0] 24)) w.heap.size (u16s (noughts 8)) := Row.made w #[.int .u16 0, .int .u16 0, .int .u16 0, .int .u16 0, .int .u16 0, .int .u16 0, .int .u16 0, .int .u16 0] 24
 have hB1 : Below w.heap.size w (w.alloc (.cells #[.int .u16 0, .int .u16 0, .int .u16 0, .int .u16 0, .int .u16 0, .int .u16 0, .int .u16 0, .int .u16 0] 24)) := (Below.refl _ _).alloc (Nat.le_refl _) _
 have hz1 : (w.alloc (.cells #[.int .u16 0, .int .u16 0, .int .u16 0, .int .u16 0, .int .u16 0, .int .u16 0, .int .u16 0, .int .u16 0] 24)).heap.size = w.heap.size + 1 := by simp
 obtain ⟨wA, hwA⟩ : ∃ wA, wA = w.alloc (.cells #[.int .u16 0, .int .u16 0, .int .u16 0, .int .u16 0, .int .u16 0, .int .u16 0, .int .u16 0, .int .u16 0] 24) := ⟨_, rfl⟩
 rw [← hwA] at hA0 hB1 hz1
 have hX0 : Row (wA.alloc (.cells #[.int .u16 0, .int .u16 0, .int .u16 0, .int .u16 0, .int .u16 0, .int .u16 0, .int .u16 0, .int .u16 0] 24)) (w.heap.size + 1) (u16s (noughts 8)) := by rw [← hz1]; exact Row.made wA #[.int .u16 0, .int .u16 0, .int .u16 0, .int .u16 0, .int .u16 0, .int .u16 0, .int .u16 0, .int .u16 0] 24
 have hR0 : Row (wA.alloc (.cells #[.int .u16 0, .int .u16 0, .int .u16 0, .int .u16 0, .int .u16 0, .int .u16 0, .int .u16 0, .int .u16 0] 24)) w.heap.size (u16s (noughts 8)) := hA0.far _
 have hB0 : Below w.heap.size w (wA.alloc (.cells #[.int .u16 0, .int .u16 0, .int .u16 0, .int .u16 0, .int .u16 0, .int .u16 0, .int .u16 0, .int .u16 0] 24)) := bnew hB1 _
 have hz0 : (wA.alloc (.cells #[.int .u16 0, .int .u16 0, .int .u16 0, .int .u16 0, .int .u16 0, .int .u16 0, .int .u16 0, .int .u16 0] 24)).heap.size = w.heap.size + 2 := by simp [hz1]
 rw [hwA] at hX0 hR0 hB0 hz0
 obtain ⟨w0, hw0⟩ : ∃ w0, w0 = (w.alloc (.cells #[.int .u16 0, .int .u16 0, .int .u16 0, .int .u16 0, .int .u16 0, .int .u16 0, .int .u16 0, .int .u16 0] 24)).alloc (.cells #[.int .u16 0, .int .u16 0, .int .u16 0, .int .u16 0, .int .u16 0, .int .u16 0, .int .u16 0, .int .u16 0] 24) := ⟨_, rfl⟩
 rw [← hw0] at hX0 hR0 hB0 hz0
 have HW := Lib.hid hw0
 clear hwA hA0 hB1 hz1 hw0
 have HGG := Lib.hid hG
 clear hG
 go_enter Tryz.func67, Tryz.ntmps67
 go_wp2
 rw [← HW.out]
 go_loopg [5] s.length (fun k s5 wr => ∃ i : Nat, k = s.length - i ∧ i ≤ s.length ∧ s5 = .int .i64 (i : Int) ∧ Hid (gap2 s = (gap2 (s.drop i)).map fun q => (s.take i ++ q.1, q.2)) ∧ w0 = wr)
 case atStart => exact ⟨0, rfl, Nat.zero_le _, rfl, by show gap2 s = (gap2 s).map fun q => ([] ++ q.1, q.2); cases gap2 s <;> rfl, rfl⟩
 case round =>
  obtain ⟨i, rfl, hi, rfl, hinv, rfl⟩ := hrel
  have hw1 : IntKind.i64.wrap ((i : Int) + 1) = (i : Int) + 1 := IntWalk.i64_in _ (by omega)
  have hw2 : IntKind.i64.wrap ((i : Int) + 2) = (i : Int) + 2 := IntWalk.i64_in _ (by omega)
  have hi0 : (0 : Int) ≤ (i : Int) := by omega
  by_cases hlt : i + 1 < s.length
  ·
   have hltI : (i : Int) + 1 < (s.length : Int) := by omega
   have hltJ : (i : Int) < (s.length : Int) := by omega
   by_cases h1 : gb s i = 58
   ·
    by_cases h2 : gb s (i + 1) = 58
    ·
     have HG := Lib.hid (gap_yes hinv.out hlt h1 h2)
     have e1 : (str s).extract 0 i = str (tk s i) := str_front s i
     have e2 : (str s).extract (i + 2) s.length = str (dr s (i + 2)) := str_end s (i + 2)
     have hltK : (i : Int) + 2 ≤ (s.length : Int) := by omega
     have lx : (tk s i).length ≤ 1000 := by rw [tk_len]; omega
     have ly : (dr s (i + 2)).length ≤ 1000 := by rw [dr_len]; omega
     have hxy := HG.out
     rw [HGG.out] at hxy
     injection hxy with hxy
     injection hxy with hx hy
     rw [← hx] at e1 lx
     rw [← hy] at e2 ly
     clear hx hy hinv
     have CX := Lib.hid (pieces_pq x false w0 lx (b := true) (by simp [ho]))
     have CY := Lib.hid fun w => pieces_pq y true w ly (b := true) (by simp [ho2])
     have HLN := Lib.hid (show l.length ≤ 2000 ∧ m.length ≤ 2000 from ⟨by have := rPieces_len ho; omega, by have := rPieces_len ho2; omega⟩)
     have HN := Lib.hid (show rParse6 s = some (l ++ noughts (8 - l.length - m.length) ++ m) by
      rw [HP.out, HGG.out]
      show (match rPieces false x, rPieces true y with | some l, some m => if l.length + m.length ≤ 7 then some (l ++ noughts (8 - l.length - m.length) ++ m) else none | _, _ => none) = _
      rw [ho, ho2]; exact if_pos h7)
     rw [ho] at CX
     rw [ho2] at CY
     have HM8 := Lib.hid (show (l ++ noughts (8 - l.length - m.length) ++ m).length = 8 by simp [noughts]; omega)
     have HLG := Lib.hid (lay_gap h7)
     have H7 := Lib.hid h7
     have HL8 := Lib.hid (lay0_len (l := l) (by omega))
     clear ho ho2 HP HG
     obtain rfl : m = [] := List.eq_nil_of_length_eq_zero hm0
     have hw8 : wrap64 8 = 8 := IntWalk.wrap64_in _ (by omega)
     have hw88 : IntKind.i64.wrap 8 = 8 := by decide
     have HLG := Lib.hid (show lay (lay (noughts 8) 0 l) 8 [] = l ++ noughts (8 - l.length - ([] : List Nat).length) ++ [] from HLG.out)
     clear hm0 h7
     go_wp2_with (first
      | (go_at_call 105; go_fit CX.out; rintro e w1 ⟨A, n, c, rfl, hb1, hq⟩; have hR1 := hR0.below hb1 hR0.2.2; have hX1 := hX0.below hb1 hX0.2.2; have hB1 := bnext hB0 hb1)
      | (go_at_call 105; go_must (go_fit (CY.out w1)); rintro e w2 ⟨A2, n2, c2, rfl, hb2, hq2⟩; have hR2 := hR1.below hb2 hR1.2.2; have hX2 := hX1.below hb2 hX1.2.2; have hB2 := bnext hB1 hb2; have hs7 := sum_small (hq.out l rfl).1 (hq2.out [] rfl).1 H7.out; have hws := sum_wrap (hq.out l rfl).1 (hq2.out [] rfl).1 HLN.out; obtain ⟨hn, hr1, hnc, hcm, _⟩ := hq.out l rfl; obtain ⟨hn2, hr2, hnc2, hcm2, hbk2⟩ := hq2.out [] rfl; have hr1' := rd_on hr1 hb2; subst hn; subst hn2)
      | ((with_reducible show wpList _ _ _ ((Oper.mk _ (Op.call { callee := Callee.builtin Builtin.copy, args := _, argTypes := _ }) _ _ _ _) :: _) _ _); refine wpList_copy_row rfl _ _ 72 72 rfl 23 Tryz.underlying72 info_u16s _ 8 8 rfl _ _ _ rfl (w.heap.size + 1) 0 (u16s (noughts 8)) hX2 _ (u16s l) hr1' (by rw [u16s_len]) (fun _ => rfl) (by have := H7.out; ((try clear hwo); (try clear hwo2); (try clear hwo3); (try clear hwo4); (try clear hws); (try clear hs7); (try clear hw1); (try clear hw2); omega)) (by rw [u16s_len]; have := H7.out; simp [noughts]; ((try clear hwo); (try clear hwo2); (try clear hwo3); (try clear hwo4); (try clear hws); (try clear hs7); (try clear hw1); (try clear hw2); omega)) (u16s_one _) ?_; intro w5 hX5 hg5; have hR5 := Row.grown hR2 hg5 (fun e => by injection e with e; ((try clear hwo); (try clear hwo2); (try clear hwo3); (try clear hwo4); (try clear hws); (try clear hs7); (try clear hw1); (try clear hw2); omega)); have hB5 := hB2.grown hg5 (by have := hR2.2.2; ((try clear hwo); (try clear hwo2); (try clear hwo3); (try clear hwo4); (try clear hws); (try clear hs7); (try clear hw1); (try clear hw2); omega)) (fun j e => by injection e with e; ((try clear hwo); (try clear hwo2); (try clear hwo3); (try clear hwo4); (try clear hws); (try clear hs7); (try clear hw1); (try clear hw2); omega)); have hr25 := rd_row (n := ([] : List Nat).length) (c := c2) hr2 hg5 (fun k h e => by have := hbk2 k h; have := hX1.2.2; injection e with e; ((try clear hwo); (try clear hwo2); (try clear hwo3); (try clear hwo4); (try clear hws); (try clear hs7); (try clear hw1); (try clear hw2); omega)); rw [u16s_lay] at hX5; try obtain ⟨hom, hoI, hwo, hwo2, hwo3, hwo4, ho8I, ho0I, hc1, hc2⟩ := HO.out)
      | ((with_reducible show wpList _ _ _ ((Oper.mk _ (Op.call { callee := Callee.builtin Builtin.copy, args := _, argTypes := _ }) _ _ _ _) :: _) _ _); refine wpList_copy_row rfl _ _ 72 72 rfl 23 Tryz.underlying72 info_u16s _ _ _ rfl _ _ _ rfl (w.heap.size + 1) 8 (u16s (lay (noughts 8) 0 l)) hX5 _ (u16s []) hr25 (by rw [u16s_len]; first | rfl | skip) (fun h => absurd h (by decide)) (by first | ((try clear hwo); (try clear hwo2); (try clear hwo3); (try clear hwo4); (try clear hws); (try clear hs7); (try clear hw1); (try clear hw2); omega) | simp) (by rw [u16s_len, HL8.out]; first | ((try clear hwo); (try clear hwo2); (try clear hwo3); (try clear hwo4); (try clear hws); (try clear hs7); (try clear hw1); (try clear hw2); omega) | simp) (u16s_one _) ?_; intro w6 hX6 hg6; have hR6 := Row.grown hR5 hg6 (fun e => by injection e with e; ((try clear hwo); (try clear hwo2); (try clear hwo3); (try clear hwo4); (try clear hws); (try clear hs7); (try clear hw1); (try clear hw2); omega)); have hB6 := hB5.grown hg6 (by have := hR5.2.2; ((try clear hwo); (try clear hwo2); (try clear hwo3); (try clear hwo4); (try clear hws); (try clear hs7); (try clear hw1); (try clear hw2); omega)) (fun j e => by injection e with e; ((try clear hwo); (try clear hwo2); (try clear hwo3); (try clear hwo4); (try clear hws); (try clear hs7); (try clear hw1); (try clear hw2); omega)); rw [u16s_lay, HLG.out] at hX6; obtain ⟨a0, a1, a2, a3, a4, a5, a6, a7, hM⟩ := eight HM8.out; rw [hM] at hX6 HN; have z0 : w6.cell? ⟨w.heap.size, 0, none⟩ = some (.int .u16 0) := hR6.1 0 _ rfl; have y0 : w6.frozen? ⟨w.heap.size, 0, none⟩ = false := hR6.2.1 0 (by decide); have z1 : w6.cell? ⟨w.heap.size, 1, none⟩ = some (.int .u16 0) := hR6.1 1 _ rfl; have y1 : w6.frozen? ⟨w.heap.size, 1, none⟩ = false := hR6.2.1 1 (by decide); have z2 : w6.cell? ⟨w.heap.size, 2, none⟩ = some (.int .u16 0) := hR6.1 2 _ rfl; have y2 : w6.frozen? ⟨w.heap.size, 2, none⟩ = false := hR6.2.1 2 (by decide); have z3 : w6.cell? ⟨w.heap.size, 3, none⟩ = some (.int .u16 0) := hR6.1 3 _ rfl; have y3 : w6.frozen? ⟨w.heap.size, 3, none⟩ = false := hR6.2.1 3 (by decide); have z4 : w6.cell? ⟨w.heap.size, 4, none⟩ = some (.int .u16 0) := hR6.1 4 _ rfl; have y4 : w6.frozen? ⟨w.heap.size, 4, none⟩ = false := hR6.2.1 4 (by decide); have z5 : w6.cell? ⟨w.heap.size, 5, none⟩ = some (.int .u16 0) := hR6.1 5 _ rfl; have y5 : w6.frozen? ⟨w.heap.size, 5, none⟩ = false := hR6.2.1 5 (by decide); have z6 : w6.cell? ⟨w.heap.size, 6, none⟩ = some (.int .u16 0) := hR6.1 6 _ rfl; have y6 : w6.frozen? ⟨w.heap.size, 6, none⟩ = false := hR6.2.1 6 (by decide); have z7 : w6.cell? ⟨w.heap.size, 7, none⟩ = some (.int .u16 0) := hR6.1 7 _ rfl; have y7 : w6.frozen? ⟨w.heap.size, 7, none⟩ = false := hR6.2.1 7 (by decide); have x0 : w6.cell? ⟨w.heap.size + 1, 0, none⟩ = some (.int .u16 (a0 : Int)) := hX6.1 0 _ rfl; have x1 : w6.cell? ⟨w.heap.size + 1, 1, none⟩ = some (.int .u16 (a1 : Int)) := hX6.1 1 _ rfl; have x2 : w6.cell? ⟨w.heap.size + 1, 2, none⟩ = some (.int .u16 (a2 : Int)) := hX6.1 2 _ rfl; have x3 : w6.cell? ⟨w.heap.size + 1, 3, none⟩ = some (.int .u16 (a3 : Int)) := hX6.1 3 _ rfl; have x4 : w6.cell? ⟨w.heap.size + 1, 4, none⟩ = some (.int .u16 (a4 : Int)) := hX6.1 4 _ rfl; have x5 : w6.cell? ⟨w.heap.size + 1, 5, none⟩ = some (.int .u16 (a5 : Int)) := hX6.1 5 _ rfl; have x6 : w6.cell? ⟨w.heap.size + 1, 6, none⟩ = some (.int .u16 (a6 : Int)) := hX6.1 6 _ rfl; have x7 : w6.cell? ⟨w.heap.size + 1, 7, none⟩ = some (.int .u16 (a7 : Int)) := hX6.1 7 _ rfl; clear hM hX5 hX2 hX1 hX0 hR5 hR2 hR1 hR0 hB5 hB2 hB1 hB0 hr25 hr2 hr1' hr1 hg5 hg6 hX6 hq hq2 hbk2))
     (try simp only [Exit.inBlock, Exit.then])
     refine bodyPost_ret (results_row (R := w.heap.size) (us := #[.int .u16 (a0 : Int), .int .u16 (a1 : Int), .int .u16 (a2 : Int), .int .u16 (a3 : Int), .int .u16 (a4 : Int), .int .u16 (a5 : Int), .int .u16 (a6 : Int), .int .u16 (a7 : Int)].toList) (d := .array 8 23) rfl rfl (by exact (Row.set (Row.set (Row.set (Row.set (Row.set (Row.set (Row.set (Row.set hR6 (j := 0) (by simp [u16s, noughts]) (.int .u16 (a0 : Int))) (j := 1) (by simp [u16s, noughts]) (.int .u16 (a1 : Int))) (j := 2) (by simp [u16s, noughts]) (.int .u16 (a2 : Int))) (j := 3) (by simp [u16s, noughts]) (.int .u16 (a3 : Int))) (j := 4) (by simp [u16s, noughts]) (.int .u16 (a4 : Int))) (j := 5) (by simp [u16s, noughts]) (.int .u16 (a5 : Int))) (j := 6) (by simp [u16s, noughts]) (.int .u16 (a6 : Int))) (j := 7) (by simp [u16s, noughts]) (.int .u16 (a7 : Int)))) Tryz.underlying24 rfl info_arr8) rfl ?_
     rw [HN.out]
     exact ⟨rfl, (Below.setCell (Below.setCell (Below.setCell (Below.setCell (Below.setCell (Below.setCell (Below.setCell (Below.setCell hB6 (p := ⟨w.heap.size, 0, none⟩) (Nat.le_refl _) (.int .u16 (a0 : Int))) (p := ⟨w.heap.size, 1, none⟩) (Nat.le_refl _) (.int .u16 (a1 : Int))) (p := ⟨w.heap.size, 2, none⟩) (Nat.le_refl _) (.int .u16 (a2 : Int))) (p := ⟨w.heap.size, 3, none⟩) (Nat.le_refl _) (.int .u16 (a3 : Int))) (p := ⟨w.heap.size, 4, none⟩) (Nat.le_refl _) (.int .u16 (a4 : Int))) (p := ⟨w.heap.size, 5, none⟩) (Nat.le_refl _) (.int .u16 (a5 : Int))) (p := ⟨w.heap.size, 6, none⟩) (Nat.le_refl _) (.int .u16 (a6 : Int))) (p := ⟨w.heap.size, 7, none⟩) (Nat.le_refl _) (.int .u16 (a7 : Int)))⟩
    ·
     have hnb : ((((gb s (i + 1)).toNat : Int)) != 58) = true := by simp; exact fun e => h2 (byte_ext (by show _ = 58; omega))
     have HI := Lib.hid (gap_no hinv.out (by omega) (fun e => h2 e.2.2))
     have hnb1 : ((((gb s i).toNat : Int)) != 58) = false := by rw [h1]; rfl
     clear h2 h1
     go_wp2
     go_roundg (s.length - (i + 1))
     case measure => omega
     case rel => exact ⟨i + 1, rfl, by omega, by go_num, HI.out, rfl⟩
   ·
    have hnb : ((((gb s i).toNat : Int)) != 58) = true := by simp; exact fun e => h1 (byte_ext (by show _ = 58; omega))
    have HI := Lib.hid (gap_no hinv.out (by omega) (fun e => h1 e.1))
    clear h1
    go_wp2
    go_roundg (s.length - (i + 1))
    case measure => omega
    case rel => exact ⟨i + 1, rfl, by omega, by go_num, HI.out, rfl⟩
  ·
   have hltI : ¬ (i : Int) + 1 < (s.length : Int) := by omega
   have HG := Lib.hid (gap_end hinv.out hlt)
   exfalso
   have h := HG.out
   rw [HGG.out] at h
   cases h
set_option maxRecDepth 100000 in
set_option maxHeartbeats 16000000 in
theorem rparse6_two (s : List UInt8) (w : World) (hs : s.length ≤ 1000) {x y : List UInt8} (hG : gap2 s = some (x, y)) {l m : List Nat} (ho : rPieces false x = some l) (ho2 : rPieces true y = some m) (h7 : l.length + m.length ≤ 7) (hm0 : m.length ≠ 0) :
  Calls Tryz.prog 67 #[.string (str s)] w fun e w' => e = ret6 (rParse6 s) ∧ Below w.heap.size w w' := by
 have hsz := str_size s
 have hgt := str_get s
 have HP := Lib.hid (show rParse6 s = match gap2 s with
  | some (x, y) => match rPieces false x, rPieces true y with
   | some l, some m => if l.length + m.length ≤ 7 then some (l ++ noughts (8 - l.length - m.length) ++ m) else none
   | _, _ => none
  | none => match rPieces true s with
   | some l => if l.length = 8 then some l else none
   | none => none from rfl)
 have hA0 : Row (w.alloc (.cells #[.int .u16 0, .int .u16 0, .int .u16 0, .int .u16 0, .int .u16 0, .int .u16 0, .int .u16 0, .int .u16 0] 24)) w.heap.size (u16s (noughts 8)) := Row.made w #[.int .u16 0, .int .u16 0, .int .u16 0, .int .u16 0, .int .u16 0, .int .u16 0, .int .u16 0, .int .u16 0] 24
 have hB1 : Below w.heap.size w (w.alloc (.cells #[.int .u16 0, .int .u16 0, .int .u16 0, .int .u16 0, .int .u16 0, .int .u16 0, .int .u16 0, .int .u16 0] 24)) := (Below.refl _ _).alloc (Nat.le_refl _) _
 have hz1 : (w.alloc (.cells #[.int .u16 0, .int .u16 0, .int .u16 0, .int .u16 0, .int .u16 0, .int .u16 0, .int .u16 0, .int .u16 0] 24)).heap.size = w.heap.size + 1 := by simp
 obtain ⟨wA, hwA⟩ : ∃ wA, wA = w.alloc (.cells #[.int .u16 0, .int .u16 0, .int .u16 0, .int .u16 0, .int .u16 0, .int .u16 0, .int .u16 0, .int .u16 0] 24) := ⟨_, rfl⟩
 rw [← hwA] at hA0 hB1 hz1
 have hX0 : Row (wA.alloc (.cells #[.int .u16 0, .int .u16 0, .int .u16 0, .int .u16 0, .int .u16 0, .int .u16 0, .int .u16 0, .int .u16 0] 24)) (w.heap.size + 1) (u16s (noughts 8)) := by rw [← hz1]; exact Row.made wA #[.int .u16 0, .int .u16 0, .int .u16 0, .int .u16 0, .int .u16 0, .int .u16 0, .int .u16 0, .int .u16 0] 24
 have hR0 : Row (wA.alloc (.cells #[.int .u16 0, .int .u16 0, .int .u16 0, .int .u16 0, .int .u16 0, .int .u16 0, .int .u16 0, .int .u16 0] 24)) w.heap.size (u16s (noughts 8)) := hA0.far _
 have hB0 : Below w.heap.size w (wA.alloc (.cells #[.int .u16 0, .int .u16 0, .int .u16 0, .int .u16 0, .int .u16 0, .int .u16 0, .int .u16 0, .int .u16 0] 24)) := bnew hB1 _
 have hz0 : (wA.alloc (.cells #[.int .u16 0, .int .u16 0, .int .u16 0, .int .u16 0, .int .u16 0, .int .u16 0, .int .u16 0, .int .u16 0] 24)).heap.size = w.heap.size + 2 := by simp [hz1]
 rw [hwA] at hX0 hR0 hB0 hz0
 obtain ⟨w0, hw0⟩ : ∃ w0, w0 = (w.alloc (.cells #[.int .u16 0, .int .u16 0, .int .u16 0, .int .u16 0, .int .u16 0, .int .u16 0, .int .u16 0, .int .u16 0] 24)).alloc (.cells #[.int .u16 0, .int .u16 0, .int .u16 0, .int .u16 0, .int .u16 0, .int .u16 0, .int .u16 0, .int .u16 0] 24) := ⟨_, rfl⟩
 rw [← hw0] at hX0 hR0 hB0 hz0
 have HW := Lib.hid hw0
 clear hwA hA0 hB1 hz1 hw0
 have HGG := Lib.hid hG
 clear hG
 go_enter Tryz.func67, Tryz.ntmps67
 go_wp2
 rw [← HW.out]
 go_loopg [5] s.length (fun k s5 wr => ∃ i : Nat, k = s.length - i ∧ i ≤ s.length ∧ s5 = .int .i64 (i : Int) ∧ Hid (gap2 s = (gap2 (s.drop i)).map fun q => (s.take i ++ q.1, q.2)) ∧ w0 = wr)
 case atStart => exact ⟨0, rfl, Nat.zero_le _, rfl, by show gap2 s = (gap2 s).map fun q => ([] ++ q.1, q.2); cases gap2 s <;> rfl, rfl⟩
 case round =>
  obtain ⟨i, rfl, hi, rfl, hinv, rfl⟩ := hrel
  have hw1 : IntKind.i64.wrap ((i : Int) + 1) = (i : Int) + 1 := IntWalk.i64_in _ (by omega)
  have hw2 : IntKind.i64.wrap ((i : Int) + 2) = (i : Int) + 2 := IntWalk.i64_in _ (by omega)
  have hi0 : (0 : Int) ≤ (i : Int) := by omega
  by_cases hlt : i + 1 < s.length
  ·
   have hltI : (i : Int) + 1 < (s.length : Int) := by omega
   have hltJ : (i : Int) < (s.length : Int) := by omega
   by_cases h1 : gb s i = 58
   ·
    by_cases h2 : gb s (i + 1) = 58
    ·
     have HG := Lib.hid (gap_yes hinv.out hlt h1 h2)
     have e1 : (str s).extract 0 i = str (tk s i) := str_front s i
     have e2 : (str s).extract (i + 2) s.length = str (dr s (i + 2)) := str_end s (i + 2)
     have hltK : (i : Int) + 2 ≤ (s.length : Int) := by omega
     have lx : (tk s i).length ≤ 1000 := by rw [tk_len]; omega
     have ly : (dr s (i + 2)).length ≤ 1000 := by rw [dr_len]; omega
     have hxy := HG.out
     rw [HGG.out] at hxy
     injection hxy with hxy
     injection hxy with hx hy
     rw [← hx] at e1 lx
     rw [← hy] at e2 ly
     clear hx hy hinv
     have CX := Lib.hid (pieces_pq x false w0 lx (b := true) (by simp [ho]))
     have CY := Lib.hid fun w => pieces_pq y true w ly (b := true) (by simp [ho2])
     have HLN := Lib.hid (show l.length ≤ 2000 ∧ m.length ≤ 2000 from ⟨by have := rPieces_len ho; omega, by have := rPieces_len ho2; omega⟩)
     have HN := Lib.hid (show rParse6 s = some (l ++ noughts (8 - l.length - m.length) ++ m) by
      rw [HP.out, HGG.out]
      show (match rPieces false x, rPieces true y with | some l, some m => if l.length + m.length ≤ 7 then some (l ++ noughts (8 - l.length - m.length) ++ m) else none | _, _ => none) = _
      rw [ho, ho2]; exact if_pos h7)
     rw [ho] at CX
     rw [ho2] at CY
     have HM8 := Lib.hid (show (l ++ noughts (8 - l.length - m.length) ++ m).length = 8 by simp [noughts]; omega)
     have HLG := Lib.hid (lay_gap h7)
     have H7 := Lib.hid h7
     have HL8 := Lib.hid (lay0_len (l := l) (by omega))
     clear ho ho2 HP HG
     obtain ⟨o, ho⟩ : ∃ o, o = 8 - m.length := ⟨_, rfl⟩
     have hm7 : m.length ≤ 8 := by omega
     have HO := Lib.hid (oFacts hm7 hm0 ho)
     rw [← ho] at HLG
     clear hm0 hm7 ho
     go_wp2_with (first
      | (go_at_call 105; go_fit CX.out; rintro e w1 ⟨A, n, c, rfl, hb1, hq⟩; have hR1 := hR0.below hb1 hR0.2.2; have hX1 := hX0.below hb1 hX0.2.2; have hB1 := bnext hB0 hb1)
      | (go_at_call 105; go_must (go_fit (CY.out w1)); rintro e w2 ⟨A2, n2, c2, rfl, hb2, hq2⟩; have hR2 := hR1.below hb2 hR1.2.2; have hX2 := hX1.below hb2 hX1.2.2; have hB2 := bnext hB1 hb2; have hs7 := sum_small (hq.out l rfl).1 (hq2.out m rfl).1 H7.out; have hws := sum_wrap (hq.out l rfl).1 (hq2.out m rfl).1 HLN.out; obtain ⟨hn, hr1, hnc, hcm, _⟩ := hq.out l rfl; obtain ⟨hn2, hr2, hnc2, hcm2, hbk2⟩ := hq2.out m rfl; have hr1' := rd_on hr1 hb2; subst hn; subst hn2)
      | ((with_reducible show wpList _ _ _ ((Oper.mk _ (Op.call { callee := Callee.builtin Builtin.copy, args := _, argTypes := _ }) _ _ _ _) :: _) _ _); refine wpList_copy_row rfl _ _ 72 72 rfl 23 Tryz.underlying72 info_u16s _ 8 8 rfl _ _ _ rfl (w.heap.size + 1) 0 (u16s (noughts 8)) hX2 _ (u16s l) hr1' (by rw [u16s_len]) (fun _ => rfl) (by have := H7.out; ((try clear hwo); (try clear hwo2); (try clear hwo3); (try clear hwo4); (try clear hws); (try clear hs7); (try clear hw1); (try clear hw2); omega)) (by rw [u16s_len]; have := H7.out; simp [noughts]; ((try clear hwo); (try clear hwo2); (try clear hwo3); (try clear hwo4); (try clear hws); (try clear hs7); (try clear hw1); (try clear hw2); omega)) (u16s_one _) ?_; intro w5 hX5 hg5; have hR5 := Row.grown hR2 hg5 (fun e => by injection e with e; ((try clear hwo); (try clear hwo2); (try clear hwo3); (try clear hwo4); (try clear hws); (try clear hs7); (try clear hw1); (try clear hw2); omega)); have hB5 := hB2.grown hg5 (by have := hR2.2.2; ((try clear hwo); (try clear hwo2); (try clear hwo3); (try clear hwo4); (try clear hws); (try clear hs7); (try clear hw1); (try clear hw2); omega)) (fun j e => by injection e with e; ((try clear hwo); (try clear hwo2); (try clear hwo3); (try clear hwo4); (try clear hws); (try clear hs7); (try clear hw1); (try clear hw2); omega)); have hr25 := rd_row (n := (m : List Nat).length) (c := c2) hr2 hg5 (fun k h e => by have := hbk2 k h; have := hX1.2.2; injection e with e; ((try clear hwo); (try clear hwo2); (try clear hwo3); (try clear hwo4); (try clear hws); (try clear hs7); (try clear hw1); (try clear hw2); omega)); rw [u16s_lay] at hX5; try obtain ⟨hom, hoI, hwo, hwo2, hwo3, hwo4, ho8I, ho0I, hc1, hc2⟩ := HO.out)
      | ((with_reducible show wpList _ _ _ ((Oper.mk _ (Op.call { callee := Callee.builtin Builtin.copy, args := _, argTypes := _ }) _ _ _ _) :: _) _ _); refine wpList_copy_row rfl _ _ 72 72 rfl 23 Tryz.underlying72 info_u16s _ _ _ rfl _ _ _ rfl (w.heap.size + 1) o (u16s (lay (noughts 8) 0 l)) hX5 _ (u16s m) hr25 (by rw [u16s_len]; first | rfl | skip) (fun _ => rfl) (by first | ((try clear hwo); (try clear hwo2); (try clear hwo3); (try clear hwo4); (try clear hws); (try clear hs7); (try clear hw1); (try clear hw2); omega) | simp) (by rw [u16s_len, HL8.out]; first | ((try clear hwo); (try clear hwo2); (try clear hwo3); (try clear hwo4); (try clear hws); (try clear hs7); (try clear hw1); (try clear hw2); omega) | simp) (u16s_one _) ?_; intro w6 hX6 hg6; have hR6 := Row.grown hR5 hg6 (fun e => by injection e with e; ((try clear hwo); (try clear hwo2); (try clear hwo3); (try clear hwo4); (try clear hws); (try clear hs7); (try clear hw1); (try clear hw2); omega)); have hB6 := hB5.grown hg6 (by have := hR5.2.2; ((try clear hwo); (try clear hwo2); (try clear hwo3); (try clear hwo4); (try clear hws); (try clear hs7); (try clear hw1); (try clear hw2); omega)) (fun j e => by injection e with e; ((try clear hwo); (try clear hwo2); (try clear hwo3); (try clear hwo4); (try clear hws); (try clear hs7); (try clear hw1); (try clear hw2); omega)); rw [u16s_lay, HLG.out] at hX6; obtain ⟨a0, a1, a2, a3, a4, a5, a6, a7, hM⟩ := eight HM8.out; rw [hM] at hX6 HN; have z0 : w6.cell? ⟨w.heap.size, 0, none⟩ = some (.int .u16 0) := hR6.1 0 _ rfl; have y0 : w6.frozen? ⟨w.heap.size, 0, none⟩ = false := hR6.2.1 0 (by decide); have z1 : w6.cell? ⟨w.heap.size, 1, none⟩ = some (.int .u16 0) := hR6.1 1 _ rfl; have y1 : w6.frozen? ⟨w.heap.size, 1, none⟩ = false := hR6.2.1 1 (by decide); have z2 : w6.cell? ⟨w.heap.size, 2, none⟩ = some (.int .u16 0) := hR6.1 2 _ rfl; have y2 : w6.frozen? ⟨w.heap.size, 2, none⟩ = false := hR6.2.1 2 (by decide); have z3 : w6.cell? ⟨w.heap.size, 3, none⟩ = some (.int .u16 0) := hR6.1 3 _ rfl; have y3 : w6.frozen? ⟨w.heap.size, 3, none⟩ = false := hR6.2.1 3 (by decide); have z4 : w6.cell? ⟨w.heap.size, 4, none⟩ = some (.int .u16 0) := hR6.1 4 _ rfl; have y4 : w6.frozen? ⟨w.heap.size, 4, none⟩ = false := hR6.2.1 4 (by decide); have z5 : w6.cell? ⟨w.heap.size, 5, none⟩ = some (.int .u16 0) := hR6.1 5 _ rfl; have y5 : w6.frozen? ⟨w.heap.size, 5, none⟩ = false := hR6.2.1 5 (by decide); have z6 : w6.cell? ⟨w.heap.size, 6, none⟩ = some (.int .u16 0) := hR6.1 6 _ rfl; have y6 : w6.frozen? ⟨w.heap.size, 6, none⟩ = false := hR6.2.1 6 (by decide); have z7 : w6.cell? ⟨w.heap.size, 7, none⟩ = some (.int .u16 0) := hR6.1 7 _ rfl; have y7 : w6.frozen? ⟨w.heap.size, 7, none⟩ = false := hR6.2.1 7 (by decide); have x0 : w6.cell? ⟨w.heap.size + 1, 0, none⟩ = some (.int .u16 (a0 : Int)) := hX6.1 0 _ rfl; have x1 : w6.cell? ⟨w.heap.size + 1, 1, none⟩ = some (.int .u16 (a1 : Int)) := hX6.1 1 _ rfl; have x2 : w6.cell? ⟨w.heap.size + 1, 2, none⟩ = some (.int .u16 (a2 : Int)) := hX6.1 2 _ rfl; have x3 : w6.cell? ⟨w.heap.size + 1, 3, none⟩ = some (.int .u16 (a3 : Int)) := hX6.1 3 _ rfl; have x4 : w6.cell? ⟨w.heap.size + 1, 4, none⟩ = some (.int .u16 (a4 : Int)) := hX6.1 4 _ rfl; have x5 : w6.cell? ⟨w.heap.size + 1, 5, none⟩ = some (.int .u16 (a5 : Int)) := hX6.1 5 _ rfl; have x6 : w6.cell? ⟨w.heap.size + 1, 6, none⟩ = some (.int .u16 (a6 : Int)) := hX6.1 6 _ rfl; have x7 : w6.cell? ⟨w.heap.size + 1, 7, none⟩ = some (.int .u16 (a7 : Int)) := hX6.1 7 _ rfl; clear hM hX5 hX2 hX1 hX0 hR5 hR2 hR1 hR0 hB5 hB2 hB1 hB0 hr25 hr2 hr1' hr1 hg5 hg6 hX6 hq hq2 hbk2))
     (try simp only [Exit.inBlock, Exit.then])
     refine bodyPost_ret (results_row (R := w.heap.size) (us := #[.int .u16 (a0 : Int), .int .u16 (a1 : Int), .int .u16 (a2 : Int), .int .u16 (a3 : Int), .int .u16 (a4 : Int), .int .u16 (a5 : Int), .int .u16 (a6 : Int), .int .u16 (a7 : Int)].toList) (d := .array 8 23) rfl rfl (by exact (Row.set (Row.set (Row.set (Row.set (Row.set (Row.set (Row.set (Row.set hR6 (j := 0) (by simp [u16s, noughts]) (.int .u16 (a0 : Int))) (j := 1) (by simp [u16s, noughts]) (.int .u16 (a1 : Int))) (j := 2) (by simp [u16s, noughts]) (.int .u16 (a2 : Int))) (j := 3) (by simp [u16s, noughts]) (.int .u16 (a3 : Int))) (j := 4) (by simp [u16s, noughts]) (.int .u16 (a4 : Int))) (j := 5) (by simp [u16s, noughts]) (.int .u16 (a5 : Int))) (j := 6) (by simp [u16s, noughts]) (.int .u16 (a6 : Int))) (j := 7) (by simp [u16s, noughts]) (.int .u16 (a7 : Int)))) Tryz.underlying24 rfl info_arr8) rfl ?_
     rw [HN.out]
     exact ⟨rfl, (Below.setCell (Below.setCell (Below.setCell (Below.setCell (Below.setCell (Below.setCell (Below.setCell (Below.setCell hB6 (p := ⟨w.heap.size, 0, none⟩) (Nat.le_refl _) (.int .u16 (a0 : Int))) (p := ⟨w.heap.size, 1, none⟩) (Nat.le_refl _) (.int .u16 (a1 : Int))) (p := ⟨w.heap.size, 2, none⟩) (Nat.le_refl _) (.int .u16 (a2 : Int))) (p := ⟨w.heap.size, 3, none⟩) (Nat.le_refl _) (.int .u16 (a3 : Int))) (p := ⟨w.heap.size, 4, none⟩) (Nat.le_refl _) (.int .u16 (a4 : Int))) (p := ⟨w.heap.size, 5, none⟩) (Nat.le_refl _) (.int .u16 (a5 : Int))) (p := ⟨w.heap.size, 6, none⟩) (Nat.le_refl _) (.int .u16 (a6 : Int))) (p := ⟨w.heap.size, 7, none⟩) (Nat.le_refl _) (.int .u16 (a7 : Int)))⟩
    ·
     have hnb : ((((gb s (i + 1)).toNat : Int)) != 58) = true := by simp; exact fun e => h2 (byte_ext (by show _ = 58; omega))
     have HI := Lib.hid (gap_no hinv.out (by omega) (fun e => h2 e.2.2))
     have hnb1 : ((((gb s i).toNat : Int)) != 58) = false := by rw [h1]; rfl
     clear h2 h1
     go_wp2
     go_roundg (s.length - (i + 1))
     case measure => omega
     case rel => exact ⟨i + 1, rfl, by omega, by go_num, HI.out, rfl⟩
   ·
    have hnb : ((((gb s i).toNat : Int)) != 58) = true := by simp; exact fun e => h1 (byte_ext (by show _ = 58; omega))
    have HI := Lib.hid (gap_no hinv.out (by omega) (fun e => h1 e.1))
    clear h1
    go_wp2
    go_roundg (s.length - (i + 1))
    case measure => omega
    case rel => exact ⟨i + 1, rfl, by omega, by go_num, HI.out, rfl⟩
  ·
   have hltI : ¬ (i : Int) + 1 < (s.length : Int) := by omega
   have HG := Lib.hid (gap_end hinv.out hlt)
   exfalso
   have h := HG.out
   rw [HGG.out] at h
   cases h
theorem rparse6_any (s : List UInt8) (w : World) (hs : s.length ≤ 1000) :
  Calls Tryz.prog 67 #[.string (str s)] w fun e w' => e = ret6 (rParse6 s) ∧ Below w.heap.size w w' := by
 cases hG : gap2 s with
 | none => exact rparse6_none s w hs hG
 | some q =>
  obtain ⟨x, y⟩ := q
  cases ho : rPieces false x with
  | none => exact rparse6_bad s w hs hG fun l m h1 _ => by rw [ho] at h1; cases h1
  | some l =>
   cases ho2 : rPieces true y with
   | none => exact rparse6_bad s w hs hG fun l m _ h2 => by rw [ho2] at h2; cases h2
   | some m =>
    by_cases h7 : l.length + m.length ≤ 7
    ·
     by_cases hm0 : m.length = 0
     · exact rparse6_nil s w hs hG ho ho2 h7 hm0
     · exact rparse6_two s w hs hG ho ho2 h7 hm0
    ·
     refine rparse6_bad s w hs hG fun l' m' h1 h2 => ?_
     rw [ho] at h1
     rw [ho2] at h2
     injection h1 with h1
     injection h2 with h2
     subst h1
     subst h2
     exact h7
end Go.Proofs.YtoapelcofjjdnaaGreatDoor
