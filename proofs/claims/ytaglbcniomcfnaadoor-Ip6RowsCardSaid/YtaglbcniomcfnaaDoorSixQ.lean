/- Long addresses: how they are shown, and that what is shown is read as it was: plain laws. -/
import Derived.Test.YtaglbcniomcfnaaDoorSixP
namespace Go.Proofs.YtaglbcniomcfnaaDoor
set_option linter.all false
open Go.RowKit

/-- A way to write a piece. -/
def Spell (D : Nat → List UInt8) : Prop := ∀ x, x < 65536 → okPiece (D x) = true ∧ (D x).all hexOk = true ∧ hexN (D x) = x
def hexs (D : Nat → List UInt8) (l : List Nat) : List UInt8 := Lib.join (l.map D) [58]
theorem hexs_nil (D : Nat → List UInt8) : hexs D [] = [] := rfl
theorem hexs_one (D : Nat → List UInt8) (x : Nat) : hexs D [x] = D x := Lib.join_one _ _
theorem hexs_more (D : Nat → List UInt8) (x y : Nat) (r : List Nat) : hexs D (x :: y :: r) = D x ++ 58 :: hexs D (y :: r) := by
  unfold hexs; simp [Lib.join, List.intercalate]
theorem hexs_snoc (D : Nat → List UInt8) (x : Nat) : ∀ (l : List Nat), l ≠ [] → hexs D (l ++ [x]) = hexs D l ++ 58 :: D x := by
  intro l
  induction l with
  | nil => intro h; exact absurd rfl h
  | cons y r ih =>
    intro _
    cases r with
    | nil => rw [List.singleton_append, hexs_more, hexs_one, hexs_one]
    | cons z r => rw [List.cons_append, List.cons_append, hexs_more, ← List.cons_append, ih (by simp), hexs_more, List.append_assoc]; rfl
section
variable {D : Nat → List UInt8} (hD : Spell D)
include hD
theorem spell_ne {x : Nat} (h : x < 65536) : D x ≠ [] := fun e => by
  have := (hD x h).1
  rw [e] at this; cases this
theorem spell_dot {x : Nat} (h : x < 65536) : (46 : UInt8) ∉ D x := all_no (hD x h).2.1 hex_dot
theorem spell_colon {x : Nat} (h : x < 65536) : (58 : UInt8) ∉ D x := all_no (hD x h).2.1 hexOk_colon
theorem rPiece_spell {x : Nat} (h : x < 65536) : rPiece (D x) = some x := by
  obtain ⟨h1, h2, h3⟩ := hD x h
  unfold rPiece; rw [if_pos ⟨h1, h2⟩, h3]
theorem rGo_spell (tail : Bool) (q : List (List UInt8)) : ∀ (l : List Nat), (∀ x ∈ l, x < 65536) → rGo tail (l.map D ++ q) = (rGo tail q).map (l ++ ·) := by
  intro l
  induction l with
  | nil => intro _; show rGo tail q = _; cases rGo tail q <;> rfl
  | cons x l ih =>
    intro h
    have hx := h x (by simp)
    rw [List.map_cons, List.cons_append, rGo, if_neg (fun e => spell_dot hD hx e.2.2), rPiece_spell hD hx, ih (fun y hy => h y (by simp [hy]))]
    cases rGo tail q <;> rfl
theorem hexs_ne {l : List Nat} (hl : l ≠ []) (h : ∀ x ∈ l, x < 65536) : hexs D l ≠ [] := by
  cases l with
  | nil => exact absurd rfl hl
  | cons x r =>
    unfold hexs
    rw [List.map_cons, Lib.join_cons]
    intro e
    exact spell_ne hD (h x (by simp)) (List.append_eq_nil_iff.1 e).1
theorem hexs_head {l : List Nat} (hl : l ≠ []) (h : ∀ x ∈ l, x < 65536) (t : List UInt8) : (hexs D l ++ t).head? ≠ some 58 := by
  cases l with
  | nil => exact absurd rfl hl
  | cons x r =>
    have hx := h x (by simp)
    unfold hexs
    rw [List.map_cons, Lib.join_cons]
    have h1 := spell_ne hD hx
    have h2 := spell_colon hD hx
    cases e : D x with
    | nil => exact absurd e h1
    | cons a u =>
      rw [e] at h2
      intro e2
      injection e2 with e2
      exact h2 (by rw [e2]; simp)
theorem hexs_cuts {l : List Nat} (hl : l ≠ []) (h : ∀ x ∈ l, x < 65536) : cuts 58 (hexs D l) = l.map D := by
  refine cuts_join (by simpa using hl) fun p hp => ?_
  obtain ⟨x, hx, rfl⟩ := List.mem_map.1 hp
  exact spell_colon hD (h x hx)
theorem rPieces_spell (tail : Bool) {l : List Nat} (h : ∀ x ∈ l, x < 65536) : rPieces tail (hexs D l) = some l := by
  unfold rPieces
  by_cases hl : l = []
  · subst hl; rfl
  · rw [if_neg (hexs_ne hD hl h), hexs_cuts hD hl h]
    have := rGo_spell hD tail [] l h
    rw [List.append_nil] at this
    rw [this]
    show some (l ++ []) = some l
    rw [List.append_nil]
end
theorem gap2_free {p : List UInt8} (h : (58 : UInt8) ∉ p) (t : List UInt8) : gap2 (p ++ t) = (gap2 t).map fun q => (p ++ q.1, q.2) := by
  induction p with
  | nil => rw [List.nil_append]; cases gap2 t <;> rfl
  | cons c p ih =>
    have hc : c ≠ 58 := fun e => h (by rw [e]; simp)
    rw [List.cons_append, gap2, if_neg (fun e => hc e.1), ih (fun e => h (by simp [e]))]
    cases gap2 t <;> rfl
theorem gap2_colon {t : List UInt8} (h : t.head? ≠ some 58) : gap2 (58 :: t) = (gap2 t).map fun q => (58 :: q.1, q.2) := by
  rw [gap2, if_neg (fun e => h e.2)]
theorem gap2_hexs {D : Nat → List UInt8} (hD : Spell D) (t : List UInt8) : ∀ (l : List Nat), (∀ x ∈ l, x < 65536) → gap2 (hexs D l ++ t) = (gap2 t).map fun q => (hexs D l ++ q.1, q.2) := by
  intro l
  induction l with
  | nil => intro _; rw [hexs_nil, List.nil_append]; cases gap2 t <;> rfl
  | cons x l ih =>
    intro h
    have hx := spell_colon hD (h x (by simp))
    have hl : ∀ y ∈ l, y < 65536 := fun y hy => h y (by simp [hy])
    cases l with
    | nil => rw [hexs_one]; exact gap2_free hx t
    | cons y r =>
      rw [hexs_more, List.append_assoc, List.cons_append, gap2_free hx, gap2_colon (hexs_head hD (by simp) hl t), ih hl]
      cases gap2 t with
      | none => rfl
      | some q => simp
theorem gap2_at (u : List UInt8) : gap2 (58 :: 58 :: u) = some ([], u) := by rw [gap2, if_pos ⟨rfl, rfl⟩]; rfl
theorem parse_full {D : Nat → List UInt8} (hD : Spell D) {l : List Nat} (h : ∀ x ∈ l, x < 65536) (h8 : l.length = 8) : rParse6 (hexs D l) = some l := by
  have hg := gap2_hexs hD [] l h
  rw [List.append_nil] at hg
  have hg' : gap2 (hexs D l) = none := hg
  unfold rParse6
  rw [hg']
  show (match rPieces true (hexs D l) with | some l => if l.length = 8 then some l else none | none => none) = _
  rw [rPieces_spell hD true h]
  exact if_pos h8
theorem parse_gap {D : Nat → List UInt8} (hD : Spell D) {x y : List Nat} (hx : ∀ a ∈ x, a < 65536) (hy : ∀ a ∈ y, a < 65536) (h7 : x.length + y.length ≤ 7) :
    rParse6 (hexs D x ++ 58 :: 58 :: hexs D y) = some (x ++ noughts (8 - x.length - y.length) ++ y) := by
  have hg := gap2_hexs hD (58 :: 58 :: hexs D y) x hx
  rw [gap2_at] at hg
  have hg' : gap2 (hexs D x ++ 58 :: 58 :: hexs D y) = some (hexs D x, hexs D y) := by rw [hg]; simp
  unfold rParse6
  rw [hg']
  show (match rPieces false (hexs D x), rPieces true (hexs D y) with | some l, some m => (if l.length + m.length ≤ 7 then some (l ++ noughts (8 - l.length - m.length) ++ m) else none) | _, _ => none) = _
  rw [rPieces_spell hD false hx, rPieces_spell hD true hy]
  exact if_pos h7
theorem rGo_snoc_nil (tail : Bool) : ∀ (L : List (List UInt8)), rGo tail (L ++ [[]]) = none := by
  intro L
  induction L with
  | nil => rw [List.nil_append, rGo, if_neg (fun h => by cases h.2.2)]; rfl
  | cons p L ih =>
    rw [List.cons_append, rGo, if_neg (fun h => by have := h.2.1; simp at this), ih]
    cases rPiece p <;> rfl
theorem rPieces_colon (tail : Bool) (s : List UInt8) : rPieces tail (s ++ [58]) = none := by
  unfold rPieces
  rw [if_neg (by simp), cuts_snoc_hit]
  exact rGo_snoc_nil tail _
theorem parse_behind {D : Nat → List UInt8} (hD : Spell D) {x : List Nat} (hx : ∀ a ∈ x, a < 65536) (s : List UInt8) : rParse6 (hexs D x ++ 58 :: 58 :: (s ++ [58])) = none := by
  have hg := gap2_hexs hD (58 :: 58 :: (s ++ [58])) x hx
  rw [gap2_at] at hg
  unfold rParse6
  rw [hg]
  show (match rPieces false (hexs D x ++ []), rPieces true (s ++ [58]) with | some l, some m => (if l.length + m.length ≤ 7 then some (l ++ noughts (8 - l.length - m.length) ++ m) else none) | _, _ => none) = _
  rw [rPieces_colon]
  cases rPieces false (hexs D x ++ []) <;> rfl

/-- How many noughts stand in front. -/
def zrun : List Nat → Nat
  | 0 :: t => zrun t + 1
  | _ => 0
theorem zrun_take : ∀ (l : List Nat), l.take (zrun l) = noughts (zrun l) := by
  intro l
  induction l with
  | nil => rfl
  | cons x l ih =>
    cases x with
    | zero => show (0 :: l).take (zrun l + 1) = List.replicate (zrun l + 1) 0; rw [List.take_succ_cons, ih, List.replicate_succ]; rfl
    | succ n => rfl
theorem zrun_le (l : List Nat) : zrun l ≤ l.length := by
  have := congrArg List.length (zrun_take l)
  rw [List.length_take, noughts, List.length_replicate] at this
  omega
theorem zrun_hit {a : List Nat} {k : Nat} (h : a[k]? = some 0) : zrun (a.drop k) = zrun (a.drop (k + 1)) + 1 := by
  obtain ⟨hk, e⟩ := List.getElem?_eq_some_iff.1 h
  rw [List.drop_eq_getElem_cons hk, e]; rfl
theorem zrun_miss {a : List Nat} {k x : Nat} (h : a[k]? = some x) (hx : x ≠ 0) : zrun (a.drop k) = 0 := by
  obtain ⟨hk, e⟩ := List.getElem?_eq_some_iff.1 h
  rw [List.drop_eq_getElem_cons hk, e]
  cases x with
  | zero => exact absurd rfl hx
  | succ n => rfl
theorem zrun_end {a : List Nat} {k : Nat} (h : a.length ≤ k) : zrun (a.drop k) = 0 := by rw [List.drop_eq_nil_of_le h]; rfl
/-- The longest row of noughts up to a place, the first of such. -/
def rowI (a : List Nat) : Nat → Nat × Nat
  | 0 => (0, 0)
  | i + 1 => if (rowI a i).2 < zrun (a.drop i) then (i, zrun (a.drop i)) else rowI a i
theorem rowI_ok (a : List Nat) : ∀ i, (a.drop (rowI a i).1).take (rowI a i).2 = noughts (rowI a i).2 ∧ (rowI a i).1 ≤ i := by
  intro i
  induction i with
  | zero => exact ⟨rfl, Nat.le_refl _⟩
  | succ i ih =>
    rw [rowI]
    split
    · exact ⟨zrun_take _, by simp⟩
    · exact ⟨ih.1, by omega⟩
theorem rowI_parts (a : List Nat) (i : Nat) (h2 : 2 ≤ (rowI a i).2) : a = a.take (rowI a i).1 ++ noughts (rowI a i).2 ++ a.drop ((rowI a i).1 + (rowI a i).2) ∧ (rowI a i).1 + (rowI a i).2 ≤ a.length := by
  obtain ⟨h, _⟩ := rowI_ok a i
  generalize (rowI a i).1 = f at *
  generalize (rowI a i).2 = n at *
  have hl := congrArg List.length h
  rw [List.length_take, List.length_drop, noughts, List.length_replicate] at hl
  refine ⟨?_, by omega⟩
  rw [← h, List.append_assoc, ← List.drop_drop, List.take_append_drop, List.take_append_drop]
def pShowD (D : Nat → List UInt8) (a : List Nat) : List UInt8 :=
  if (rowI a 8).2 < 2 then hexs D a else hexs D (a.take (rowI a 8).1) ++ 58 :: 58 :: hexs D (a.drop ((rowI a 8).1 + (rowI a 8).2))
def pShow6 (a : List Nat) : List UInt8 := pShowD (digs 16) a
theorem show6_back {D : Nat → List UInt8} (hD : Spell D) {a : List Nat} (h : ∀ x ∈ a, x < 65536) (h8 : a.length = 8) : rParse6 (pShowD D a) = some a := by
  unfold pShowD
  by_cases h2 : (rowI a 8).2 < 2
  · rw [if_pos h2]; exact parse_full hD h h8
  · rw [if_neg h2]
    obtain ⟨e, hl⟩ := rowI_parts a 8 (by omega)
    generalize (rowI a 8).1 = f at *
    generalize (rowI a 8).2 = n at *
    have l1 : (a.take f).length = f := by rw [List.length_take]; omega
    have l2 : (a.drop (f + n)).length = 8 - (f + n) := by rw [List.length_drop, h8]
    rw [parse_gap hD (fun x hx => h x (List.mem_of_mem_take hx)) (fun x hx => h x (List.mem_of_mem_drop hx)) (by omega), l1, l2, show 8 - f - (8 - (f + n)) = n by omega, ← e]

/-- The reference's place and length. -/
def rAt (s : Nat × Nat) : Int := if 2 ≤ s.2 then (s.1 : Int) else -1
def rLong (s : Nat × Nat) : Nat := max s.2 1
theorem rAt_hit {a : List Nat} {i : Nat} (h : rLong (rowI a i) < zrun (a.drop i)) : rAt (rowI a (i + 1)) = (i : Int) ∧ rLong (rowI a (i + 1)) = zrun (a.drop i) := by
  unfold rLong at h
  rw [rowI, if_pos (by omega)]
  unfold rAt rLong
  simp only []
  exact ⟨if_pos (by omega), by omega⟩
theorem rAt_miss {a : List Nat} {i : Nat} (h : ¬ rLong (rowI a i) < zrun (a.drop i)) : rAt (rowI a (i + 1)) = rAt (rowI a i) ∧ rLong (rowI a (i + 1)) = rLong (rowI a i) := by
  unfold rLong at h
  rw [rowI]
  split
  · unfold rAt rLong
    simp only []
    exact ⟨by rw [if_neg (by omega), if_neg (by omega)], by omega⟩
  · exact ⟨rfl, rfl⟩

/-- The spellings. -/
theorem hexN_snoc (l : List UInt8) (c : UInt8) : hexN (l ++ [c]) = hexN l * 16 + (hexV c).toNat := by unfold hexN; rw [List.foldl_append]; rfl
theorem hexN_digs (u : Nat) : hexN (digs 16 u) = u := by
  induction u using Nat.strongRecOn with
  | _ u ih =>
    by_cases h : u < 16
    · rw [digs_small h]
      show 0 * 16 + (hexV (dch u)).toNat = u
      rw [hexV_dch u h]; omega
    · rw [digs_big (by decide) (by omega), hexN_snoc, ih _ (by omega), hexV_dch _ (by omega)]; omega
theorem hexOk_dch {n : Nat} (h : n < 16) : hexOk (dch n) = true := by unfold hexOk; rw [hexV_dch n h]; exact decide_eq_true (by omega)
theorem digs_hexOk (u : Nat) : (digs 16 u).all hexOk = true := List.all_eq_true.2 fun x hx => by
  obtain ⟨m, hm, rfl⟩ := digs_mem (by decide) u hx
  exact hexOk_dch hm
theorem spell_digs : Spell (digs 16) := by
  intro x hx
  refine ⟨decide_eq_true ⟨List.length_pos_iff.2 (digs_ne (by decide) x), ?_⟩, digs_hexOk x, hexN_digs x⟩
  have := digs_len (b := 16) (by decide) 4 x (by omega)
  omega
def upB (c : UInt8) : UInt8 := if 97 ≤ c.toNat ∧ c.toNat ≤ 102 then c - 32 else c
theorem upB_dch : ∀ n, n < 16 → hexV (upB (dch n)) = (n : Int) := by decide
theorem hexN_map {f : UInt8 → UInt8} : ∀ (l : List UInt8) (n : Nat), (∀ c ∈ l, hexV (f c) = hexV c) → (l.map f).foldl (fun n c => n * 16 + (hexV c).toNat) n = l.foldl (fun n c => n * 16 + (hexV c).toNat) n := by
  intro l
  induction l with
  | nil => intro n _; rfl
  | cons c l ih =>
    intro n h
    rw [List.map_cons, List.foldl_cons, List.foldl_cons, h c (by simp), ih _ (fun d hd => h d (by simp [hd]))]
theorem spell_up : Spell (fun x => (digs 16 x).map upB) := by
  intro x hx
  obtain ⟨h1, h2, h3⟩ := spell_digs x hx
  have hv : ∀ c ∈ digs 16 x, hexV (upB c) = hexV c := fun c hc => by
    obtain ⟨m, hm, rfl⟩ := digs_mem (by decide) x hc
    rw [upB_dch m hm, hexV_dch m hm]
  refine ⟨?_, ?_, ?_⟩
  · unfold okPiece at h1 ⊢
    simp only [List.length_map]
    exact h1
  · refine List.all_eq_true.2 fun y hy => ?_
    obtain ⟨c, hc, rfl⟩ := List.mem_map.1 hy
    unfold hexOk
    rw [hv c hc]
    exact List.all_eq_true.1 h2 c hc
  · show ((digs 16 x).map upB).foldl _ 0 = x
    rw [hexN_map _ _ hv]
    exact h3
theorem hexs_map (f : UInt8 → UInt8) (hf : f 58 = 58) (D : Nat → List UInt8) : ∀ (l : List Nat), (hexs D l).map f = hexs (fun x => (D x).map f) l := by
  intro l
  induction l with
  | nil => rfl
  | cons x l ih =>
    cases l with
    | nil => rw [hexs_one, hexs_one]
    | cons y r => rw [hexs_more, List.map_append, List.map_cons, ih, hexs_more, hf]
theorem show6_up (a : List Nat) : (pShow6 a).map upB = pShowD (fun x => (digs 16 x).map upB) a := by
  have hc : upB 58 = 58 := by decide
  unfold pShow6 pShowD
  split
  · exact hexs_map _ hc _ _
  · rw [List.map_append, List.map_cons, List.map_cons, hexs_map _ hc, hexs_map _ hc, hc]
/-- Four digits. -/
def dig4 (x : Nat) : List UInt8 := [dch (x / 4096), dch (x / 256 % 16), dch (x / 16 % 16), dch (x % 16)]
theorem spell_four : Spell dig4 := by
  intro x hx
  have a1 : x / 4096 < 16 := by omega
  have a2 : x / 256 % 16 < 16 := by omega
  have a3 : x / 16 % 16 < 16 := by omega
  have a4 : x % 16 < 16 := by omega
  refine ⟨rfl, ?_, ?_⟩
  · simp only [dig4, List.all_cons, List.all_nil, hexOk_dch a1, hexOk_dch a2, hexOk_dch a3, hexOk_dch a4, Bool.and_true]
  · simp only [hexN, dig4, List.foldl_cons, List.foldl_nil, hexV_dch _ a1, hexV_dch _ a2, hexV_dch _ a3, hexV_dch _ a4]
    omega

/-- The last two as four numbers. -/
theorem decOk_dch : ∀ n, n < 10 → decOk (dch n) = true := by decide
theorem dec_dch : ∀ n, n < 10 → (dch n).toNat - 48 = n := by decide
theorem decN_snoc (l : List UInt8) (c : UInt8) : decN (l ++ [c]) = decN l * 10 + (c.toNat - 48) := by unfold decN; rw [List.foldl_append]; rfl
theorem decN_digs (u : Nat) : decN (digs 10 u) = u := by
  induction u using Nat.strongRecOn with
  | _ u ih =>
    by_cases h : u < 10
    · rw [digs_small h]
      show 0 * 10 + ((dch u).toNat - 48) = u
      rw [dec_dch u h]; omega
    · rw [digs_big (by decide) (by omega), decN_snoc, ih _ (by omega), dec_dch _ (by omega)]; omega
theorem digs_decOk (u : Nat) : (digs 10 u).all decOk = true := List.all_eq_true.2 fun x hx => by
  obtain ⟨m, hm, rfl⟩ := digs_mem (by decide) u hx
  exact decOk_dch m hm
theorem rByte_digs {u : Nat} (h : u < 256) : rByte (digs 10 u) = some u := by
  have hk : okByte (digs 10 u) = true := by
    refine decide_eq_true ⟨digs_ne (by decide) u, by rw [decN_digs]; exact h, ?_⟩
    obtain ⟨d, t, e, h1, h2, h3, _⟩ := digs_head (b := 10) (by decide) u
    by_cases hd : dch d = 48
    · have hu := h2 ((dch_plain d (by omega)).2.2.2.1 hd)
      subst hu
      exact .inl (by rw [digs_small (by decide)]; rfl)
    · refine .inr ?_
      rw [e]
      intro e2
      injection e2 with e2
      exact hd e2
  unfold rByte
  rw [if_pos ⟨digs_decOk u, hk⟩, decN_digs]
theorem rFour_show {a : Nat} (h : a < 2 ^ 32) : rFour (pShow4 a) = some [a / 65536, a % 65536] := by
  unfold rFour
  have hc : cuts 46 (pShow4 a) = fours a := by
    rw [show4_fours]
    exact cuts_join (fours_ne a) fun p hp => (fours_ok a p hp).1
  rw [hc, if_pos (show (fours a).length = 4 from rfl)]
  unfold fours
  rw [rBytes, rByte_digs (by omega), rBytes, rByte_digs (by omega), rBytes, rByte_digs (by omega), rBytes, rByte_digs (by omega), rBytes]
  show some [_, _] = some [_, _]
  congr 1
  rw [List.cons.injEq, List.cons.injEq]
  exact ⟨by omega, by omega, rfl⟩
theorem digs_hexOk10 (u : Nat) : (digs 10 u).all hexOk = true := List.all_eq_true.2 fun x hx => by
  obtain ⟨m, hm, rfl⟩ := digs_mem (by decide) u hx
  exact hexOk_dch (by omega)
theorem show4_colon (a : Nat) : (58 : UInt8) ∉ pShow4 a := by
  rw [show4_fours]
  unfold fours
  intro h
  rw [Lib.join_cons] at h
  have hd : ∀ u, (58 : UInt8) ∉ digs 10 u := fun u => all_no (digs_hexOk10 u) hexOk_colon
  simp [Lib.joinTail, hd] at h
theorem show4_dot (a : Nat) : (46 : UInt8) ∈ pShow4 a := by
  rw [show4_fours]
  unfold fours
  rw [Lib.join_cons]
  simp [Lib.joinTail]
theorem parse_long {D : Nat → List UInt8} (hD : Spell D) {l : List Nat} (h : ∀ x ∈ l, x < 65536) (h6 : l.length = 6) {a : Nat} (ha : a < 2 ^ 32) : rParse6 (hexs D l ++ 58 :: pShow4 a) = some (l ++ [a / 65536, a % 65536]) := by
  have hl : l ≠ [] := fun e => by rw [e] at h6; cases h6
  have hc := show4_colon a
  have hne : pShow4 a ≠ [] := fun e => by have := show4_dot a; rw [e] at this; cases this
  have hh : (pShow4 a).head? ≠ some 58 := by
    cases e : pShow4 a with
    | nil => exact absurd e hne
    | cons b t => intro e2; injection e2 with e2; exact hc (by rw [e, e2]; simp)
  have h0 : gap2 (pShow4 a) = none := by have := gap2_free hc []; rw [List.append_nil] at this; rw [this]; rfl
  have hg : gap2 (hexs D l ++ 58 :: pShow4 a) = none := by rw [gap2_hexs hD _ l h, gap2_colon hh, h0]; rfl
  unfold rParse6
  rw [hg]
  show (match rPieces true (hexs D l ++ 58 :: pShow4 a) with | some l => if l.length = 8 then some l else none | none => none) = _
  have hp : rPieces true (hexs D l ++ 58 :: pShow4 a) = some (l ++ [a / 65536, a % 65536]) := by
    unfold rPieces
    rw [if_neg (by simp), cuts_append, hexs_cuts hD hl h, cuts_whole hc, rGo_spell hD true _ l h, rGo, if_pos ⟨rfl, rfl, show4_dot a⟩, rFour_show ha]
    rfl
  rw [hp]
  exact if_pos (by rw [List.length_append, h6]; rfl)
end Go.Proofs.YtaglbcniomcfnaaDoor

