/- A part of the proof. -/
import Derived.Test.YtoapelcofjjdnaaGreatDoorR00
import Derived.Lib.SplitLaws
import Derived.Lib.ReplaceLaws
import Derived.Lib.Join
namespace Go.Proofs.YtoapelcofjjdnaaGreatDoor
set_option linter.all false
def cuts (c : UInt8) : List UInt8 → List (List UInt8)
 | [] => [[]]
 | x :: t => if x = c then [] :: cuts c t else match cuts c t with
  | [] => [[x]]
  | p :: r => (x :: p) :: r
theorem cuts_ne (c : UInt8) (s : List UInt8) : cuts c s ≠ [] := by
 cases s with
 | nil => simp [cuts]
 | cons x t =>
  unfold cuts
  split
  · simp
  · split <;> simp
theorem cuts_pos (c : UInt8) (s : List UInt8) : 0 < (cuts c s).length := List.length_pos_iff.2 (cuts_ne c s)
theorem cuts_hit (c : UInt8) (t : List UInt8) : cuts c (c :: t) = [] :: cuts c t := by rw [cuts, if_pos rfl]
theorem cuts_miss {c x : UInt8} (h : x ≠ c) {t p : List UInt8} {r : List (List UInt8)} (e : cuts c t = p :: r) : cuts c (x :: t) = (x :: p) :: r := by
 rw [cuts, if_neg h, e]
theorem cuts_whole {c : UInt8} : ∀ {s : List UInt8}, c ∉ s → cuts c s = [s] := by
 intro s
 induction s with
 | nil => intro _; rfl
 | cons x t ih =>
  intro h
  rw [List.mem_cons, not_or] at h
  exact cuts_miss (fun e => h.1 e.symm) (ih h.2)
theorem cuts_at {c : UInt8} (t : List UInt8) : ∀ {a : List UInt8}, c ∉ a → cuts c (a ++ c :: t) = a :: cuts c t := by
 intro a
 induction a with
 | nil => intro _; exact cuts_hit c t
 | cons x a ih =>
  intro h
  rw [List.mem_cons, not_or] at h
  exact cuts_miss (fun e => h.1 e.symm) (ih h.2)
theorem cuts_append (c : UInt8) (t : List UInt8) : ∀ (a : List UInt8), cuts c (a ++ c :: t) = cuts c a ++ cuts c t := by
 intro a
 induction a with
 | nil => exact cuts_hit c t
 | cons x a ih =>
  by_cases h : x = c
  ·
   subst h
   rw [List.cons_append, cuts_hit, cuts_hit, ih]; rfl
  ·
   obtain ⟨p, r, e⟩ : ∃ p r, cuts c a = p :: r := List.exists_cons_of_ne_nil (cuts_ne c a)
   rw [e] at ih
   rw [List.cons_append, cuts_miss h ih, cuts_miss h e]; rfl
theorem cuts_snoc_hit (c : UInt8) (s : List UInt8) : cuts c (s ++ [c]) = cuts c s ++ [[]] := cuts_append c [] s
theorem cuts_snoc {c x : UInt8} (h : x ≠ c) : ∀ (s : List UInt8), ∃ q l, cuts c s = q ++ [l] ∧ cuts c (s ++ [x]) = q ++ [l ++ [x]] := by
 intro s
 induction s with
 | nil => exact ⟨[], [], rfl, cuts_miss h rfl⟩
 | cons y s ih =>
  obtain ⟨q, l, e1, e2⟩ := ih
  by_cases hy : y = c
  ·
   subst hy
   exact ⟨[] :: q, l, by rw [cuts_hit, e1]; rfl, by rw [List.cons_append, cuts_hit, e2]; rfl⟩
  ·
   cases q with
   | nil => exact ⟨[], y :: l, cuts_miss hy e1, cuts_miss hy e2⟩
   | cons p q => exact ⟨(y :: p) :: q, l, cuts_miss hy e1, cuts_miss hy e2⟩
theorem cuts_len (c : UInt8) (s : List UInt8) : (cuts c s).length = s.count c + 1 := by
 induction s with
 | nil => rfl
 | cons x t ih =>
  by_cases h : x = c
  · subst h; rw [cuts_hit, List.length_cons, ih, List.count_cons_self]
  ·
   obtain ⟨p, r, e⟩ : ∃ p r, cuts c t = p :: r := List.exists_cons_of_ne_nil (cuts_ne c t)
   rw [e] at ih
   rw [cuts_miss h e, List.length_cons, List.count_cons_of_ne (by simpa using h)]
   simpa using ih
theorem cuts_le (c : UInt8) (s : List UInt8) : (cuts c s).length ≤ s.length + 1 := by
 rw [cuts_len]; have := List.count_le_length (a := c) (l := s); omega
theorem cuts_sum (c : UInt8) : ∀ (s p : List UInt8), p ∈ cuts c s → p.length ≤ s.length := by
 intro s
 induction s with
 | nil => intro p hp; rw [show cuts c [] = [[]] from rfl, List.mem_singleton] at hp; subst hp; simp
 | cons y s ih =>
  intro p hp
  by_cases hy : y = c
  ·
   subst hy
   rw [cuts_hit] at hp
   rcases List.mem_cons.1 hp with rfl | hp
   · simp
   · have := ih p hp; simp; omega
  ·
   obtain ⟨p0, r, e⟩ : ∃ p r, cuts c s = p :: r := List.exists_cons_of_ne_nil (cuts_ne c s)
   rw [cuts_miss hy e] at hp
   rw [e] at ih
   rcases List.mem_cons.1 hp with rfl | hp
   · have h0 := ih p0 (by simp); simp; omega
   · have h0 := ih p (by simp [hp]); simp; omega
theorem cuts_join {c : UInt8} : ∀ {l : List (List UInt8)}, l ≠ [] → (∀ p ∈ l, c ∉ p) → cuts c (Lib.join l [c]) = l := by
 intro l
 induction l with
 | nil => intro h; exact absurd rfl h
 | cons p r ih =>
  intro _ hp
  have h0 := hp p (by simp)
  cases r with
  | nil => rw [Lib.join_one, cuts_whole h0]
  | cons q r =>
   have e : Lib.join (p :: q :: r) [c] = p ++ c :: Lib.join (q :: r) [c] := by
    rw [Lib.join_cons, Lib.join_cons]
    unfold Lib.joinTail
    simp
   rw [e, cuts_at _ h0, ih (by simp) (fun x hx => hp x (by simp [hx]))]
theorem first_parts {c : UInt8} {s : List UInt8} (h : c ∈ s) : ∃ a t, s = a ++ c :: t ∧ c ∉ a := by
 induction s with
 | nil => cases h
 | cons x s ih =>
  by_cases hx : x = c
  · subst hx; exact ⟨[], s, rfl, by simp⟩
  ·
   have h' : c ∈ s := by rcases List.mem_cons.1 h with e | h; exact absurd e.symm hx; exact h
   obtain ⟨a, t, e, hn⟩ := ih h'
   refine ⟨x :: a, t, by rw [e]; rfl, ?_⟩
   rw [List.mem_cons, not_or]; exact ⟨fun e => hx e.symm, hn⟩
theorem index_cons (b c : UInt8) (l : List UInt8) : Lib.index (b :: l) [c] = if c = b then 0 else if Lib.index l [c] == -1 then -1 else Lib.index l [c] + 1 := by
 unfold Lib.index
 rw [show ([c] : List UInt8).isPrefixOf (b :: l) = (c == b) from by simp [List.isPrefixOf]]
 by_cases h : c = b
 · rw [if_pos (by simpa using h), if_pos h]
 · rw [if_neg (by simpa using h), if_neg h]; cases l <;> rfl
theorem index_none {c : UInt8} : ∀ {s : List UInt8}, c ∉ s → Lib.index s [c] = -1 := by
 intro s
 induction s with
 | nil => intro _; rfl
 | cons x t ih =>
  intro h
  rw [List.mem_cons, not_or] at h
  rw [index_cons, if_neg h.1, ih h.2]; rfl
theorem index_some {c : UInt8} (t : List UInt8) : ∀ {a : List UInt8}, c ∉ a → Lib.index (a ++ c :: t) [c] = a.length := by
 intro a
 induction a with
 | nil => intro _; rw [List.nil_append, index_cons, if_pos rfl]; rfl
 | cons x a ih =>
  intro h
  rw [List.mem_cons, not_or] at h
  rw [List.cons_append, index_cons, if_neg h.1, ih h.2, if_neg (by simp; try omega)]
  simp
theorem splitK_cuts (c : UInt8) : ∀ (k : Nat) (s : List UInt8), s.count c = k → Lib.splitK [c] 0 k s = cuts c s := by
 intro k
 induction k with
 | zero =>
  intro s h
  rw [cuts_whole (List.count_eq_zero.1 h)]; rfl
 | succ k ih =>
  intro s h
  have hm : c ∈ s := by rw [← List.count_pos_iff]; omega
  obtain ⟨a, t, rfl, hn⟩ := first_parts hm
  rw [List.count_append, List.count_eq_zero_of_not_mem hn, List.count_cons_self] at h
  rw [cuts_at _ hn, ← ih t (by omega)]
  rw [Lib.splitK, index_some t hn, if_neg (by simp)]
  simp
def ahead (c : UInt8) (s : List UInt8) : List UInt8 := s.takeWhile (· ≠ c)
def behind (c : UInt8) (s : List UInt8) : List UInt8 := (s.dropWhile (· ≠ c)).drop 1
theorem ahead_whole {c : UInt8} {s : List UInt8} (h : c ∉ s) : ahead c s = s ∧ behind c s = [] := by
 have h1 : s.takeWhile (· ≠ c) = s := by
  induction s with
  | nil => rfl
  | cons x s ih =>
   rw [List.mem_cons, not_or] at h
   rw [List.takeWhile_cons_of_pos (by simpa using fun e => h.1 e.symm), ih h.2]
 refine ⟨h1, ?_⟩
 unfold behind
 have h2 := List.takeWhile_append_dropWhile (p := (· ≠ c)) (l := s)
 rw [h1] at h2
 have : s.dropWhile (· ≠ c) = [] := by simpa using h2
 rw [this]; rfl
theorem ahead_at {c : UInt8} (t : List UInt8) {a : List UInt8} (h : c ∉ a) : ahead c (a ++ c :: t) = a ∧ behind c (a ++ c :: t) = t := by
 unfold ahead behind
 have ha : ∀ x ∈ a, (decide (x ≠ c)) = true := fun x hx => decide_eq_true (fun e => h (by rw [← e]; exact hx))
 rw [List.takeWhile_append_of_pos ha, List.dropWhile_append_of_pos ha]
 simp
theorem cut_one (c : UInt8) (s : List UInt8) : (Lib.cut s [c]).1 = ahead c s ∧ (Lib.cut s [c]).2.1 = behind c s := by
 by_cases h : c ∈ s
 ·
  obtain ⟨a, t, rfl, hn⟩ := first_parts h
  unfold Lib.cut
  rw [index_some t hn, if_pos (by omega), (ahead_at t hn).1, (ahead_at t hn).2]
  simp
 ·
  unfold Lib.cut
  rw [index_none h, if_neg (by decide), (ahead_whole h).1, (ahead_whole h).2]
  exact ⟨rfl, rfl⟩
end Go.Proofs.YtoapelcofjjdnaaGreatDoor
namespace Go.Proofs.YtoapelcofjjdnaaGreatDoor
set_option linter.all false
end Go.Proofs.YtoapelcofjjdnaaGreatDoor
namespace Go.Proofs.YtoapelcofjjdnaaGreatDoor
set_option linter.all false
def cutZ : List Int → List (List Int)
 | [] => [[]]
 | x :: t => if x = 46 then [] :: cutZ t else match cutZ t with
  | [] => [[x]]
  | p :: r => (x :: p) :: r
theorem cutZ_ne (l : List Int) : cutZ l ≠ [] := by
 cases l with
 | nil => simp [cutZ]
 | cons x t =>
  rw [cutZ]
  split
  · simp
  · cases cutZ t <;> simp
theorem cutZ_hit (t : List Int) : cutZ (46 :: t) = [] :: cutZ t := by rw [cutZ, if_pos rfl]
theorem cutZ_miss {x : Int} (h : x ≠ 46) {t p : List Int} {r : List (List Int)} (e : cutZ t = p :: r) : cutZ (x :: t) = (x :: p) :: r := by rw [cutZ, if_neg h, e]
theorem cutZ_whole : ∀ {s : List Int}, (46 : Int) ∉ s → cutZ s = [s] := by
 intro s
 induction s with
 | nil => intro _; rfl
 | cons x t ih =>
  intro h
  have h1 : x ≠ 46 := fun e => h (by rw [e]; simp)
  exact cutZ_miss h1 (ih fun hm => h (by simp [hm]))
theorem cutZ_at (t : List Int) : ∀ {a : List Int}, (46 : Int) ∉ a → cutZ (a ++ 46 :: t) = a :: cutZ t := by
 intro a
 induction a with
 | nil => intro _; exact cutZ_hit t
 | cons x a ih =>
  intro h
  have h1 : x ≠ 46 := fun e => h (by rw [e]; simp)
  exact cutZ_miss h1 (ih fun hm => h (by simp [hm]))
theorem cutZ_append (t : List Int) : ∀ (a : List Int), cutZ (a ++ 46 :: t) = cutZ a ++ cutZ t := by
 intro a
 induction a with
 | nil => exact cutZ_hit t
 | cons x a ih =>
  by_cases h : x = 46
  · subst h; rw [List.cons_append, cutZ_hit, cutZ_hit, ih]; rfl
  ·
   obtain ⟨p, r, e⟩ : ∃ p r, cutZ a = p :: r := by
    cases e : cutZ a with
    | nil => exact absurd e (cutZ_ne a)
    | cons p r => exact ⟨p, r, rfl⟩
   rw [List.cons_append, cutZ_miss h (by rw [ih, e]; rfl), cutZ_miss h e]; rfl
theorem cutZ_snoc_hit (s : List Int) : cutZ (s ++ [46]) = cutZ s ++ [[]] := cutZ_append [] s
theorem cutZ_snoc {x : Int} (h : x ≠ 46) : ∀ (s : List Int), ∃ q l, cutZ s = q ++ [l] ∧ cutZ (s ++ [x]) = q ++ [l ++ [x]] := by
 intro s
 induction s with
 | nil => exact ⟨[], [], rfl, by rw [List.nil_append, cutZ_miss h (rfl : cutZ [] = [[]])]; rfl⟩
 | cons y t ih =>
  obtain ⟨q, l, e1, e2⟩ := ih
  by_cases hy : y = 46
  · subst hy; exact ⟨[] :: q, l, by rw [cutZ_hit, e1]; rfl, by rw [List.cons_append, cutZ_hit, e2]; rfl⟩
  ·
   cases q with
   | nil => exact ⟨[], y :: l, by rw [cutZ_miss hy e1]; rfl, by rw [List.cons_append, cutZ_miss hy e2]; rfl⟩
   | cons p q => exact ⟨(y :: p) :: q, l, by rw [cutZ_miss hy e1]; rfl, by rw [List.cons_append, cutZ_miss hy e2]; rfl⟩
theorem cutZ_mem : ∀ (s p : List Int), p ∈ cutZ s → (46 : Int) ∉ p ∧ ∀ x ∈ p, x ∈ s := by
 intro s
 induction s with
 | nil => intro p hp; rw [cutZ, List.mem_singleton] at hp; subst hp; simp
 | cons x t ih =>
  intro p hp
  by_cases h : x = 46
  ·
   subst h
   rw [cutZ_hit] at hp
   rcases List.mem_cons.1 hp with rfl | hp
   · simp
   · exact ⟨(ih p hp).1, fun y hy => by simp [(ih p hp).2 y hy]⟩
  ·
   obtain ⟨q, r, e⟩ : ∃ q r, cutZ t = q :: r := by
    cases e : cutZ t with
    | nil => exact absurd e (cutZ_ne t)
    | cons q r => exact ⟨q, r, rfl⟩
   rw [cutZ_miss h e] at hp
   rcases List.mem_cons.1 hp with rfl | hp
   ·
    obtain ⟨h1, h2⟩ := ih q (by rw [e]; simp)
    refine ⟨fun hm => ?_, fun y hy => ?_⟩
    ·
     rcases List.mem_cons.1 hm with e | hm
     · exact h e.symm
     · exact h1 hm
    ·
     rcases List.mem_cons.1 hy with rfl | hy
     · simp
     · simp [h2 y hy]
   ·
    obtain ⟨h1, h2⟩ := ih p (by rw [e]; simp [hp])
    exact ⟨h1, fun y hy => by simp [h2 y hy]⟩
theorem cutZ_part_len : ∀ (s p : List Int), p ∈ cutZ s → p.length ≤ s.length := by
 intro s
 induction s with
 | nil => intro p hp; rw [cutZ, List.mem_singleton] at hp; subst hp; simp
 | cons x t ih =>
  intro p hp
  by_cases h : x = 46
  ·
   subst h
   rw [cutZ_hit] at hp
   rcases List.mem_cons.1 hp with rfl | hp
   · simp
   · have := ih p hp; simp; omega
  ·
   obtain ⟨q, r, e⟩ : ∃ q r, cutZ t = q :: r := by
    cases e : cutZ t with
    | nil => exact absurd e (cutZ_ne t)
    | cons q r => exact ⟨q, r, rfl⟩
   rw [cutZ_miss h e] at hp
   rcases List.mem_cons.1 hp with rfl | hp
   · have := ih q (by rw [e]; simp); simp; omega
   · have := ih p (by rw [e]; simp [hp]); simp; omega
def dWide (l : List Int) : Bool := l.any fun x => decide (128 ≤ x)
def dMark : List UInt8 := [120, 110, 45, 45]
def dKnown (rest : List UInt8) : Bool := match unpuny rest with
 | none => false
 | some l => dWide l && (decide (fText l = l) && decide (puny l = some rest))
def dMarked (s : List UInt8) : Bool := decide (dMark <+: s)
def dLow (s : List UInt8) : Bool := if dMarked s = true then dKnown (s.drop 4) else true
def dLab (p : List Int) : Option (List UInt8) := if dWide p = true then (puny p).map (dMark ++ ·) else if dLow (p.map byteOf) = true then some (p.map byteOf) else none
def dMake (p : List Int) : Option (List UInt8) := if dWide p = true then (puny p).map (dMark ++ ·) else some (uEnc p)
def dRight (s : List UInt8) : Bool := decide (s.length ≤ 63) && dLow s
def dGo : Bool → List (List Int) → Option (List (List UInt8))
 | _, [] => some []
 | f, p :: r => match dLab p with
  | none => none
  | some s => if 63 < s.length ∨ (s = [] ∧ (r ≠ [] ∨ f = true)) then none else (dGo false r).map (s :: ·)
def dNames (l : List Int) : Option (List (List UInt8)) := dGo true (cutZ l)
def dNo (b : UInt8) : Bool := decide (b.toNat ≤ 32 ∨ b.toNat = 127) || [35, 47, 58, 60, 62, 63, 64, 91, 92, 93, 94, 124, 37].contains b
def dTrim (s : List UInt8) : List UInt8 := if s.getLast? = some 46 then s.dropLast else s
def dEnd (s : List UInt8) : Option (List UInt8) := if s.any dNo = true ∨ 253 < (dTrim s).length then none else some s
def dText (b : List UInt8) : List Int := fText (uDec b)
def dASCII (b : List UInt8) : Option (List UInt8) :=
 if 400 < b.length then none
 else if (65533 : Int) ∈ dText b then none
 else (dNames (dText b)).bind fun L => dEnd (Lib.join L [46])
theorem fText_iff {l : List Int} : fText l = l ↔ ∀ x ∈ l, mKeep x = true ∧ mOut x = x := by
 constructor
 ·
  intro h
  have hl : (l.filter mKeep).length = l.length := by
   have := congrArg List.length h
   unfold fText at this
   rwa [List.length_map] at this
  have hf : l.filter mKeep = l := filter_all_of_len hl
  intro x hx
  have hk : mKeep x = true := by rw [← hf] at hx; exact (List.mem_filter.1 hx).2
  refine ⟨hk, ?_⟩
  unfold fText at h
  rw [hf] at h
  obtain ⟨i, hi, rfl⟩ := List.getElem_of_mem hx
  have := congrArg (fun z => z[i]?) h
  rw [List.getElem?_map, List.getElem?_eq_getElem hi] at this
  simpa using this
 ·
  intro h
  unfold fText
  rw [List.filter_eq_self.2 fun x hx => (h x hx).1]
  calc l.map mOut = l.map id := List.map_congr_left fun x hx => (h x hx).2
   _ = l := List.map_id l
theorem fText_mem {l : List Int} {x : Int} (h : x ∈ fText l) : mKeep x = true ∧ mOut x = x := fText_iff.1 (fText_fix l) x h
theorem fText_part {l p : List Int} (hp : p ∈ cutZ (fText l)) : fText p = p := fText_iff.2 fun x hx => fText_mem ((cutZ_mem _ p hp).2 x hx)
theorem enc_low {p : List Int} (h : dWide p = false) (h0 : ∀ x ∈ p, 0 ≤ x) : uEnc p = p.map byteOf := by
 induction p with
 | nil => rfl
 | cons x t ih =>
  unfold dWide at h
  rw [List.any_cons, Bool.or_eq_false_iff] at h
  have hx : ¬ 128 ≤ x := by simpa using h.1
  have hx0 := h0 x (by simp)
  have e1 : enc1 x = [byteOf x] := by
   unfold enc1
   rw [cpFix_of (cpOk_iff.2 (by omega))]
   unfold enc0
   rw [if_pos (by omega)]
  show enc1 x ++ uEnc t = byteOf x :: t.map byteOf
  rw [e1, ih h.2 fun y hy => h0 y (by simp [hy])]; rfl
theorem known_puny {p : List Int} {s : List UInt8} (hw : dWide p = true) (hf : fText p = p) (h : puny p = some s) (hs : s.length ≤ 200) : dKnown s = true := by
 unfold dKnown
 rw [unpuny_puny h hs]
 simp [hw, hf, h]
theorem marked_own (s : List UInt8) : dMarked (dMark ++ s) = true := decide_eq_true ⟨s, rfl⟩
theorem make_right {p : List Int} (hf : fText p = p) (h0 : ∀ x ∈ p, 0 ≤ x) :
  (dMake p).bind (fun s => if dRight s = true then some s else none) = (dLab p).bind (fun s => if 63 < s.length then none else some s) := by
 unfold dMake dLab
 by_cases hw : dWide p = true
 ·
  rw [if_pos hw, if_pos hw]
  cases e : puny p with
  | none => rfl
  | some s =>
   show (if dRight (dMark ++ s) = true then some (dMark ++ s) else none) = if 63 < (dMark ++ s).length then none else some (dMark ++ s)
   unfold dRight
   by_cases h63 : (dMark ++ s).length ≤ 63
   ·
    have hk := known_puny hw hf e (by rw [List.length_append] at h63; omega)
    rw [if_neg (by omega : ¬ 63 < (dMark ++ s).length), if_pos]
    rw [decide_eq_true h63]
    unfold dLow
    rw [if_pos (marked_own s)]
    exact hk
   · rw [if_pos (by omega : 63 < (dMark ++ s).length), decide_eq_false h63, Bool.false_and, if_neg (by decide)]
 ·
  have hw' : dWide p = false := by simpa using hw
  rw [if_neg hw, if_neg hw, enc_low hw' h0]
  show (if dRight (p.map byteOf) = true then some (p.map byteOf) else none) = _
  unfold dRight
  by_cases hl : dLow (p.map byteOf) = true
  ·
   rw [if_pos hl, hl, Bool.and_true]
   show _ = if 63 < (p.map byteOf).length then none else some (p.map byteOf)
   by_cases h63 : (p.map byteOf).length ≤ 63
   · rw [if_pos (decide_eq_true h63), if_neg (by omega)]
   · rw [if_neg (by simpa using h63), if_pos (by omega)]
  ·
   have hl' : dLow (p.map byteOf) = false := by simpa using hl
   rw [if_neg hl, hl', Bool.and_false]; rfl
end Go.Proofs.YtoapelcofjjdnaaGreatDoor
namespace Go.Proofs.YtoapelcofjjdnaaGreatDoor
set_option linter.all false
def plainC (c : UInt8) : Bool := decide (c.toNat < 128 ∧ ¬ (65 ≤ c.toNat ∧ c.toNat ≤ 90))
theorem plainC_map {c : UInt8} (h : plainC c = true) : mKeep (c.toNat : Int) = true ∧ mOut (c.toNat : Int) = (c.toNat : Int) := by
 have h := of_decide_eq_true h
 refine mOut_stay (by omega) (by omega) (by omega) ?_
 unfold mBase
 rw [if_neg (by omega), if_neg (by omega), if_neg (by omega)]
theorem plainC_of {x : Int} (h0 : 0 ≤ x) (h1 : x < 128) (h2 : mOut x = x) : plainC (byteOf x) = true := by
 refine decide_eq_true ?_
 rw [byteOf_toNat h0 (by omega)]
 refine ⟨by omega, fun h => ?_⟩
 have e : mOut x = x + 32 := by
  unfold mOut
  rw [if_neg (by omega), if_neg (by omega), if_neg (by omega)]
  unfold mBase
  rw [if_pos (by omega)]
 omega
theorem ints_wide {s : List UInt8} (h : ∀ c ∈ s, c.toNat < 128) : dWide (ints s) = false := by
 unfold dWide ints
 rw [List.any_map, List.any_eq_false]
 intro c hc
 have := h c hc
 simp; omega
theorem ints_bytes (s : List UInt8) : (ints s).map byteOf = s := by
 unfold ints
 rw [List.map_map]
 calc s.map (byteOf ∘ fun c : UInt8 => (c.toNat : Int)) = s.map id := List.map_congr_left fun c _ => byteOf_self c
  _ = s := List.map_id s
theorem uDec_low {s : List UInt8} (h : ∀ c ∈ s, c.toNat < 128) : uDec s = ints s := by
 have e : uEnc (ints s) = s := by
  rw [enc_low (ints_wide h) (fun x hx => by obtain ⟨c, _, rfl⟩ := List.mem_map.1 hx; omega), ints_bytes]
 have := uDec_enc (ints s) []
 rw [List.append_nil, e, uDec_nil, List.append_nil] at this
 rw [this]
 refine map_cpFix fun r hr => ?_
 obtain ⟨c, hc, rfl⟩ := List.mem_map.1 hr
 have := h c hc
 exact cpOk_iff.2 (by omega)
theorem fText_plain {s : List UInt8} (h : ∀ c ∈ s, plainC c = true) : fText (ints s) = ints s := fText_iff.2 fun x hx => by
 obtain ⟨c, hc, rfl⟩ := List.mem_map.1 hx
 exact plainC_map (h c hc)
theorem plainC_low {s : List UInt8} (h : ∀ c ∈ s, plainC c = true) : ∀ c ∈ s, c.toNat < 128 := fun c hc => (of_decide_eq_true (h c hc)).1
theorem dText_plain {s : List UInt8} (h : ∀ c ∈ s, plainC c = true) : dText s = ints s := by
 unfold dText; rw [uDec_low (plainC_low h), fText_plain h]
theorem cutZ_ints : ∀ (s : List UInt8), cutZ (ints s) = (cuts 46 s).map ints := by
 intro s
 induction s with
 | nil => rfl
 | cons c t ih =>
  show cutZ ((c.toNat : Int) :: ints t) = _
  by_cases h : c = 46
  ·
   subst h
   rw [cuts_hit, List.map_cons, ← ih]; exact cutZ_hit _
  ·
   have hne : (c.toNat : Int) ≠ 46 := fun e => h (byte_ext (by show c.toNat = 46; omega))
   obtain ⟨p, r, e⟩ : ∃ p r, cuts 46 t = p :: r := by
    cases e : cuts 46 t with
    | nil => exact absurd e (cuts_ne 46 t)
    | cons p r => exact ⟨p, r, rfl⟩
   rw [cuts_miss h e, List.map_cons]
   rw [e, List.map_cons] at ih
   exact cutZ_miss hne ih
structure Fine (p : List Int) : Prop where
 map : fText p = p
 low : ∀ x ∈ p, 0 ≤ x
 dot : (46 : Int) ∉ p
theorem mOut_low {x : Int} (h : 0 ≤ x) : 0 ≤ mOut x := by
 unfold mOut mBase
 repeat' split
 all_goals omega
theorem dText_low {b : List UInt8} {x : Int} (h : x ∈ dText b) : 0 ≤ x := by
 unfold dText fText at h
 obtain ⟨y, hy, rfl⟩ := List.mem_map.1 h
 exact mOut_low (cpOk_iff.1 (uDec_ok b y (List.mem_filter.1 hy).1)).1
theorem fine_part {b : List UInt8} {p : List Int} (hp : p ∈ cutZ (dText b)) : Fine p :=
 ⟨fText_part hp, fun x hx => dText_low ((cutZ_mem _ p hp).2 x hx), (cutZ_mem _ p hp).1⟩
theorem fine_plain {p : List Int} (h : Fine p) {x : Int} (hx : x ∈ p) (h1 : x < 128) : plainC (byteOf x) = true ∧ byteOf x ≠ 46 := by
 have h0 := h.low x hx
 refine ⟨plainC_of h0 h1 (fText_iff.1 h.map x hx).2, fun e => h.dot ?_⟩
 have := byteOf_nat h0 (by omega : x < 256)
 rw [e] at this
 have : x = 46 := this.symm
 rwa [← this]
theorem isLet_plain {c : UInt8} (h : isLet c = true) : plainC c = true ∧ c ≠ 46 := by
 have h := of_decide_eq_true h
 exact ⟨decide_eq_true (by omega), fun e => by rw [e] at h; revert h; decide⟩
theorem puny_plain {p : List Int} {s : List UInt8} (h : Fine p) (e : puny p = some s) : ∀ c ∈ s, plainC c = true ∧ c ≠ 46 := by
 obtain ⟨D, rfl, hlet, _⟩ := puny_led e
 intro c hc
 rcases List.mem_append.1 hc with hc | hc
 ·
  have hb : c ∈ basics p ∨ c = 45 := by
   split at hc
   ·
    rcases List.mem_append.1 hc with h | h
    · exact .inl h
    · exact .inr (by simpa using h)
   · cases hc
  rcases hb with hb | rfl
  ·
   unfold basics at hb
   obtain ⟨r, hr, rfl⟩ := List.mem_map.1 hb
   have hm := List.mem_filter.1 hr
   exact fine_plain h hm.1 (by simpa using hm.2)
  · exact ⟨by decide, by decide⟩
 · exact isLet_plain (hlet c hc)
theorem mark_plain : ∀ c ∈ dMark, plainC c = true ∧ c ≠ 46 := by decide
theorem not_wide {p : List Int} (h : ¬ dWide p = true) {x : Int} (hx : x ∈ p) : x < 128 := by
 have h' : dWide p = false := by simpa using h
 unfold dWide at h'
 have := List.any_eq_false.1 h' x hx
 simp at this
 omega
theorem lab_plain {p : List Int} {s : List UInt8} (h : Fine p) (e : dLab p = some s) : ∀ c ∈ s, plainC c = true ∧ c ≠ 46 := by
 unfold dLab at e
 split at e
 ·
  cases e2 : puny p with
  | none => rw [e2] at e; cases e
  | some t =>
   rw [e2] at e
   injection e with e
   subst e
   intro c hc
   rcases List.mem_append.1 hc with hc | hc
   · exact mark_plain c hc
   · exact puny_plain h e2 c hc
 ·
  next hw =>
  split at e
  ·
   injection e with e
   subst e
   intro c hc
   obtain ⟨x, hx, rfl⟩ := List.mem_map.1 hc
   exact fine_plain h hx (not_wide hw hx)
  · cases e
theorem lab_again {p : List Int} {s : List UInt8} (h : Fine p) (e : dLab p = some s) (h63 : s.length ≤ 63) : dLab (ints s) = some s := by
 have hp := lab_plain h e
 have hw := ints_wide (plainC_low fun c hc => (hp c hc).1)
 have key : dLow s = true := by
  unfold dLab at e
  split at e
  ·
   next hwp =>
   cases e2 : puny p with
   | none => rw [e2] at e; cases e
   | some t =>
    rw [e2] at e
    injection e with e
    have e : dMark ++ t = s := e
    subst e
    unfold dLow
    rw [if_pos (marked_own t)]
    have h2 : t.length ≤ 200 := by rw [List.length_append] at h63; omega
    exact known_puny hwp h.map e2 h2
  ·
   split at e
   ·
    next hl =>
    injection e with e
    rwa [e] at hl
   · cases e
 unfold dLab
 rw [if_neg (by rw [hw]; decide), ints_bytes, if_pos key]
theorem dGo_len : ∀ (P : List (List Int)) (f : Bool) (L : List (List UInt8)), dGo f P = some L → L.length = P.length := by
 intro P
 induction P with
 | nil => intro f L h; injection h with h; rw [← h]; rfl
 | cons p r ih =>
  intro f L h
  rw [dGo] at h
  cases e : dLab p with
  | none => rw [e] at h; cases h
  | some s =>
   rw [e] at h
   simp only at h
   split at h
   · cases h
   ·
    cases e2 : dGo false r with
    | none => rw [e2] at h; cases h
    | some M =>
     rw [e2] at h
     injection h with h
     rw [← h, List.length_cons, ih false M e2, List.length_cons]
theorem dGo_parts {f : Bool} {p : List Int} {r : List (List Int)} {L : List (List UInt8)} (h : dGo f (p :: r) = some L) :
  ∃ s M, L = s :: M ∧ dLab p = some s ∧ s.length ≤ 63 ∧ (s = [] → r = [] ∧ f = false) ∧ dGo false r = some M := by
 rw [dGo] at h
 cases e : dLab p with
 | none => rw [e] at h; cases h
 | some s =>
  rw [e] at h
  simp only at h
  split at h
  · cases h
  ·
   next hn =>
   cases e2 : dGo false r with
   | none => rw [e2] at h; cases h
   | some M =>
    rw [e2] at h
    injection h with h
    refine ⟨s, M, h.symm, rfl, by omega, fun h0 => ?_, rfl⟩
    constructor
    ·
     cases r with
     | nil => rfl
     | cons x y => exact absurd (.inr ⟨h0, .inl (by simp)⟩) hn
    ·
     cases f with
     | false => rfl
     | true => exact absurd (.inr ⟨h0, .inr rfl⟩) hn
theorem dGo_make {f : Bool} {p : List Int} {r : List (List Int)} {s : List UInt8} {M : List (List UInt8)} (h1 : dLab p = some s) (h2 : s.length ≤ 63) (h3 : s = [] → r = [] ∧ f = false) (h4 : dGo false r = some M) : dGo f (p :: r) = some (s :: M) := by
 rw [dGo, h1]
 simp only
 rw [if_neg, h4]
 · rfl
 ·
  rintro (h | ⟨h0, h⟩)
  · omega
  ·
   obtain ⟨e1, e2⟩ := h3 h0
   rcases h with h | h
   · exact h e1
   · rw [e2] at h; cases h
theorem dGo_all : ∀ (P : List (List Int)) (f : Bool) (L : List (List UInt8)), dGo f P = some L → (∀ p ∈ P, Fine p) →
  (∀ s ∈ L, s.length ≤ 63 ∧ (∀ c ∈ s, plainC c = true ∧ c ≠ 46) ∧ dLab (ints s) = some s) ∧ dGo f (L.map ints) = some L := by
 intro P
 induction P with
 | nil => intro f L h _; injection h with h; subst h; exact ⟨by simp, rfl⟩
 | cons p r ih =>
  intro f L h hf
  obtain ⟨s, M, rfl, h1, h2, h3, h4⟩ := dGo_parts h
  obtain ⟨g1, g2⟩ := ih false M h4 fun q hq => hf q (by simp [hq])
  have hp := hf p (by simp)
  have ha := lab_again hp h1 h2
  refine ⟨fun t ht => ?_, ?_⟩
  ·
   rcases List.mem_cons.1 ht with rfl | ht
   · exact ⟨h2, lab_plain hp h1, ha⟩
   · exact g1 t ht
  ·
   rw [List.map_cons]
   refine dGo_make ha h2 (fun h0 => ?_) g2
   obtain ⟨e1, e2⟩ := h3 h0
   subst e1
   injection h4 with h4
   exact ⟨by rw [← h4]; rfl, e2⟩
theorem dEnd_some {s t : List UInt8} (h : dEnd s = some t) : t = s ∧ s.any dNo = false ∧ s.length ≤ 254 := by
 unfold dEnd at h
 split at h
 · cases h
 ·
  next hn =>
  injection h with h
  refine ⟨h.symm, by simpa using fun e => hn (.inl e), ?_⟩
  have : ¬ 253 < (dTrim s).length := fun e => hn (.inr e)
  unfold dTrim at this
  split at this
  · rw [List.length_dropLast] at this; omega
  · omega
theorem dASCII_some {b s : List UInt8} (h : dASCII b = some s) : b.length ≤ 400 ∧ (65533 : Int) ∉ dText b ∧ ∃ L, dNames (dText b) = some L ∧ s = Lib.join L [46] ∧ dEnd s = some s := by
 unfold dASCII at h
 split at h
 · cases h
 ·
  next h1 =>
  split at h
  · cases h
  ·
   next h2 =>
   refine ⟨by omega, h2, ?_⟩
   cases e : dNames (dText b) with
   | none => rw [e] at h; cases h
   | some L =>
    rw [e] at h
    have h : dEnd (Lib.join L [46]) = some s := h
    have e2 := (dEnd_some h).1
    exact ⟨L, rfl, e2, by rw [e2] at h ⊢; exact h⟩
theorem dASCII_of {b s : List UInt8} {L : List (List UInt8)} (h1 : b.length ≤ 400) (h2 : (65533 : Int) ∉ dText b) (h3 : dNames (dText b) = some L) (h4 : s = Lib.join L [46]) (h5 : dEnd s = some s) : dASCII b = some s := by
 unfold dASCII
 rw [if_neg (by omega), if_neg h2, h3, h4]
 rw [h4] at h5
 exact h5
theorem dNames_ne {l : List Int} {L : List (List UInt8)} (h : dNames l = some L) : L ≠ [] := by
 have := dGo_len _ _ _ h
 have h0 := List.length_pos_iff.2 (cutZ_ne l)
 exact fun e => by rw [e] at this; simp at this; omega
theorem join_bytes {L : List (List UInt8)} (h : ∀ s ∈ L, ∀ c ∈ s, plainC c = true) : ∀ c ∈ Lib.join L [46], plainC c = true := by
 induction L with
 | nil => intro c hc; cases hc
 | cons s L ih =>
  intro c hc
  cases L with
  | nil => rw [Lib.join_one] at hc; exact h s (by simp) c hc
  | cons t r =>
   have e : Lib.join (s :: t :: r) [46] = s ++ 46 :: Lib.join (t :: r) [46] := by simp [Lib.join, List.intercalate]
   rw [e] at hc
   rcases List.mem_append.1 hc with hc | hc
   · exact h s (by simp) c hc
   ·
    rcases List.mem_cons.1 hc with rfl | hc
    · decide
    · exact ih (fun u hu => h u (by simp [hu])) c hc
theorem no_lost {s : List UInt8} : (65533 : Int) ∉ ints s := fun h => by
 obtain ⟨c, _, e⟩ := List.mem_map.1 h
 have := byte_lt c
 omega
structure Name (s : List UInt8) (L : List (List UInt8)) : Prop where
 join : s = Lib.join L [46]
 ne : L ≠ []
 all : ∀ l ∈ L, l.length ≤ 63 ∧ (∀ c ∈ l, plainC c = true ∧ c ≠ 46) ∧ dLab (ints l) = some l
 go : dGo true (L.map ints) = some L
 fin : dEnd s = some s
theorem name_of {b s : List UInt8} (h : dASCII b = some s) : ∃ L, Name s L ∧ dGo true (cutZ (dText b)) = some L := by
 obtain ⟨_, _, L, hL, hs, he⟩ := dASCII_some h
 obtain ⟨h1, h2⟩ := dGo_all _ _ _ hL fun p hp => fine_part hp
 exact ⟨L, ⟨hs, dNames_ne hL, h1, h2, he⟩, hL⟩
theorem Name.plain {s : List UInt8} {L : List (List UInt8)} (h : Name s L) : ∀ c ∈ s, plainC c = true := by
 rw [h.join]
 exact join_bytes fun l hl c hc => ((h.all l hl).2.1 c hc).1
theorem Name.cuts {s : List UInt8} {L : List (List UInt8)} (h : Name s L) : cuts 46 s = L := by
 rw [h.join]
 exact cuts_join h.ne fun l hl hm => ((h.all l hl).2.1 46 hm).2 rfl
theorem Name.again {s : List UInt8} {L : List (List UInt8)} (h : Name s L) : dASCII s = some s := by
 have hp := h.plain
 have hl := (dEnd_some h.fin).2.2
 refine dASCII_of (L := L) (by omega) (by rw [dText_plain hp]; exact no_lost) ?_ h.join h.fin
 unfold dNames
 rw [dText_plain hp, cutZ_ints, h.cuts]
 exact h.go
theorem join_append {L M : List (List UInt8)} (hL : L ≠ []) (hM : M ≠ []) : Lib.join (L ++ M) [46] = Lib.join L [46] ++ 46 :: Lib.join M [46] := by
 induction L with
 | nil => exact absurd rfl hL
 | cons s L ih =>
  cases L with
  | nil =>
   cases M with
   | nil => exact absurd rfl hM
   | cons m r => rw [Lib.join_one]; simp [Lib.join, List.intercalate]
  | cons t r =>
   have e : ∀ (x : List (List UInt8)), x ≠ [] → Lib.join (s :: x) [46] = s ++ 46 :: Lib.join x [46] := by
    intro x hx
    cases x with
    | nil => exact absurd rfl hx
    | cons y z => simp [Lib.join, List.intercalate]
   rw [List.cons_append, e _ (by simp), e _ (by simp), ih (by simp), List.append_assoc]; rfl
theorem dTrim_le (s : List UInt8) : (dTrim s).length ≤ s.length := by
 unfold dTrim; split
 · rw [List.length_dropLast]; omega
 · exact Nat.le_refl _
end Go.Proofs.YtoapelcofjjdnaaGreatDoor
namespace Go.Proofs.YtoapelcofjjdnaaGreatDoor
set_option linter.all false
def lowB (c : UInt8) : UInt8 := if 65 ≤ c.toNat ∧ c.toNat ≤ 90 then c + 32 else c
def lows (s : List UInt8) : List UInt8 := s.map lowB
theorem lows_len (s : List UInt8) : (lows s).length = s.length := List.length_map ..
end Go.Proofs.YtoapelcofjjdnaaGreatDoor
namespace Go.Proofs.YtoapelcofjjdnaaGreatDoor
set_option linter.all false
def dot3 (s : List UInt8) : Bool := decide (lows (s.take 3) = [37, 50, 101])
theorem dot3_len {s : List UInt8} (h : dot3 s = true) : 3 ≤ s.length := by
 have h := of_decide_eq_true h
 have e : (lows (s.take 3)).length = 3 := by rw [h]; rfl
 rw [lows_len, List.length_take] at e
 omega
def dotF : Nat → List UInt8 → Option Nat
 | _, [] => some 0
 | 0, _ => none
 | f + 1, c :: t => if c = 46 then (dotF f t).map (· + 1) else if dot3 (c :: t) = true then (dotF f ((c :: t).drop 3)).map (· + 1) else none
theorem dotF_more : ∀ (f g : Nat) (s : List UInt8), s.length ≤ f → s.length ≤ g → dotF f s = dotF g s := by
 intro f
 induction f with
 | zero =>
  intro g s hf hg
  have : s = [] := List.eq_nil_of_length_eq_zero (by omega)
  subst this
  cases g <;> rfl
 | succ f ih =>
  intro g s hf hg
  cases s with
  | nil => cases g <;> rfl
  | cons c t =>
   cases g with
   | zero => simp at hg
   | succ g =>
    simp only [List.length_cons] at hf hg
    unfold dotF
    rw [ih g t (by omega) (by omega), ih g ((c :: t).drop 3) (by simp; omega) (by simp; omega)]
def dotN (s : List UInt8) : Option Nat := dotF s.length s
theorem dotN_nil : dotN [] = some 0 := rfl
theorem dotN_dot (t : List UInt8) : dotN (46 :: t) = (dotN t).map (· + 1) := by
 unfold dotN
 rw [List.length_cons, dotF, if_pos rfl]
theorem dotN_esc {s : List UInt8} (h : dot3 s = true) : dotN s = (dotN (s.drop 3)).map (· + 1) := by
 have hl := dot3_len h
 cases s with
 | nil => simp at hl
 | cons c t =>
  have hc : c ≠ 46 := by
   intro e
   subst e
   have := of_decide_eq_true h
   cases t with
   | nil => simp at hl
   | cons a t => simp [lows, lowB] at this
  unfold dotN
  rw [List.length_cons, dotF, if_neg hc, if_pos h, dotF_more t.length ((c :: t).drop 3).length _ (by simp) (Nat.le_refl _)]
theorem dotN_none {c : UInt8} {t : List UInt8} (hc : c ≠ 46) (h : dot3 (c :: t) = false) : dotN (c :: t) = none := by
 unfold dotN
 rw [List.length_cons, dotF, if_neg hc, if_neg (by rw [h]; decide)]
def pSingle (s : List UInt8) : Bool := decide (dotN s = some 1)
def pDouble (s : List UInt8) : Bool := decide (dotN s = some 2)
theorem dotN_zero {s : List UInt8} (h : dotN s = some 0) : s = [] := by
 cases s with
 | nil => rfl
 | cons c t =>
  exfalso
  by_cases hc : c = 46
  · subst hc; rw [dotN_dot] at h; cases hd : dotN t <;> rw [hd] at h <;> simp at h
  ·
   cases h3 : dot3 (c :: t) with
   | true => rw [dotN_esc h3] at h; cases hd : dotN ((c :: t).drop 3) <;> rw [hd] at h <;> simp at h
   | false => rw [dotN_none hc h3] at h; cases h
theorem dotN_succ {s : List UInt8} {n : Nat} (h : dotN s = some (n + 1)) : (∃ t, s = 46 :: t ∧ dotN t = some n) ∨ (dot3 s = true ∧ dotN (s.drop 3) = some n) := by
 cases s with
 | nil => rw [dotN_nil] at h; simp at h
 | cons c t =>
  by_cases hc : c = 46
  ·
   subst hc
   rw [dotN_dot] at h
   left
   cases hd : dotN t with
   | none => rw [hd] at h; cases h
   | some m => rw [hd] at h; simp at h; exact ⟨t, rfl, by rw [hd, h]⟩
  ·
   cases h3 : dot3 (c :: t) with
   | true =>
    rw [dotN_esc h3] at h
    right
    cases hd : dotN ((c :: t).drop 3) with
    | none => rw [hd] at h; cases h
    | some m => rw [hd] at h; simp at h; exact ⟨rfl, by rw [← h]⟩
   | false => rw [dotN_none hc h3] at h; cases h
theorem lows_dot {c : UInt8} : lowB c = 46 ↔ c = 46 := by
 have h : ∀ n, n < 256 → (lowB (UInt8.ofNat n) = 46 ↔ UInt8.ofNat n = 46) := by decide +kernel
 have := h c.toNat (byte_lt c)
 rwa [UInt8.ofNat_toNat] at this
theorem three {s : List UInt8} (h : dot3 s = true) : ∃ a b c t, s = a :: b :: c :: t ∧ lowB a = 37 ∧ lowB b = 50 ∧ lowB c = 101 := by
 have hl := dot3_len h
 obtain ⟨a, b, c, t, rfl⟩ := ex3 hl
 have e := of_decide_eq_true h
 simp [lows] at e
 exact ⟨a, b, c, t, rfl, e.1, e.2.1, e.2.2⟩
theorem single_iff (s : List UInt8) : pSingle s = (decide (s = [46]) || decide (lows s = [37, 50, 101])) := by
 rw [Bool.eq_iff_iff]
 unfold pSingle
 simp only [Bool.or_eq_true, decide_eq_true_eq]
 constructor
 ·
  intro h
  rcases dotN_succ h with ⟨t, rfl, ht⟩ | ⟨h3, ht⟩
  · left; rw [dotN_zero ht]
  ·
   right
   obtain ⟨a, b, c, t, rfl, ha, hb, hc⟩ := three h3
   have := dotN_zero ht
   simp at this
   subst this
   simp [lows, ha, hb, hc]
 ·
  rintro (rfl | h)
  · rfl
  ·
   have h3 : dot3 s = true := decide_eq_true (by rw [List.take_of_length_le (by have := lows_len s; rw [h] at this; simp at this; omega)]; exact h)
   rw [dotN_esc h3, List.drop_eq_nil_of_le (by have := lows_len s; rw [h] at this; simp at this; omega)]; rfl
theorem double_iff (s : List UInt8) : pDouble s = (decide (lows s = [46, 46]) || (decide (lows s = [46, 37, 50, 101]) || (decide (lows s = [37, 50, 101, 46]) || decide (lows s = [37, 50, 101, 37, 50, 101])))) := by
 rw [Bool.eq_iff_iff]
 unfold pDouble
 simp only [Bool.or_eq_true, decide_eq_true_eq]
 have one : ∀ t, dotN t = some 1 ↔ (t = [46] ∨ lows t = [37, 50, 101]) := by
  intro t
  have := single_iff t
  unfold pSingle at this
  rw [Bool.eq_iff_iff] at this
  simpa only [Bool.or_eq_true, decide_eq_true_eq] using this
 constructor
 ·
  intro h
  rcases dotN_succ h with ⟨t, rfl, ht⟩ | ⟨h3, ht⟩
  ·
   rcases (one t).1 ht with rfl | e
   · left; rfl
   ·
    right; left
    show lowB 46 :: lows t = _
    rw [e]; rfl
  ·
   obtain ⟨a, b, c, t, rfl, ha, hb, hc⟩ := three h3
   have ht : dotN t = some 1 := ht
   rcases (one t).1 ht with rfl | e
   ·
    right; right; left
    simp [lows, ha, hb, hc]; rfl
   ·
    right; right; right
    show lowB a :: lowB b :: lowB c :: lows t = _
    rw [e, ha, hb, hc]
 ·
  intro h
  have dots : ∀ {t : List UInt8}, lows t = [46] → t = [46] := by
   intro t e
   cases t with
   | nil => cases e
   | cons c t =>
    simp [lows] at e
    rw [lows_dot.1 e.1, e.2]
  rcases h with h | h | h | h
  ·
   cases s with
   | nil => cases h
   | cons c t =>
    have h1 : lowB c = 46 := by have := h; simp [lows] at this; exact this.1
    have h2 : lows t = [46] := by have := h; unfold lows at this ⊢; rw [List.map_cons] at this; injection this
    rw [lows_dot.1 h1, dotN_dot, (one t).2 (.inl (dots h2))]; rfl
  ·
   cases s with
   | nil => cases h
   | cons c t =>
    have h1 : lowB c = 46 := by have := h; unfold lows at this; rw [List.map_cons] at this; injection this
    have h2 : lows t = [37, 50, 101] := by have := h; unfold lows at this ⊢; rw [List.map_cons] at this; injection this
    rw [lows_dot.1 h1, dotN_dot, (one t).2 (.inr h2)]; rfl
  ·
   have hl : s.length = 4 := by rw [← lows_len s, h]; rfl
   obtain ⟨a, b, c, t, rfl⟩ := ex3 (l := s) (by omega)
   have e := h
   unfold lows at e
   simp only [List.map_cons] at e
   injection e with e1 e; injection e with e2 e; injection e with e3 e
   have h3 : dot3 (a :: b :: c :: t) = true := decide_eq_true (by simp [lows, e1, e2, e3])
   rw [dotN_esc h3, show (a :: b :: c :: t).drop 3 = t from rfl, (one t).2 (.inl (dots e))]; rfl
  ·
   have hl : s.length = 6 := by rw [← lows_len s, h]; rfl
   obtain ⟨a, b, c, t, rfl⟩ := ex3 (l := s) (by omega)
   have e := h
   unfold lows at e
   simp only [List.map_cons] at e
   injection e with e1 e; injection e with e2 e; injection e with e3 e
   have h3 : dot3 (a :: b :: c :: t) = true := decide_eq_true (by simp [lows, e1, e2, e3])
   rw [dotN_esc h3, show (a :: b :: c :: t).drop 3 = t from rfl, (one t).2 (.inr e)]; rfl
def slash (special : Bool) (s : List UInt8) : List UInt8 := if special = true then s.map (fun c => if c = 92 then 47 else c) else s
def pCut (special : Bool) (s : List UInt8) : List (List UInt8) := cuts 47 (slash special s)
def pNext (out : List (List UInt8)) (x : List UInt8) : List (List UInt8) :=
 if pDouble x = true then out.dropLast else if pSingle x = true then out else out ++ [pEnc 4 x]
def pLastP (out : List (List UInt8)) (x : List UInt8) : List (List UInt8) :=
 if pDouble x = true then out.dropLast ++ [[]] else if pSingle x = true then out ++ [[]] else out ++ [pEnc 4 x]
def pGo : List (List UInt8) → List (List UInt8) → List (List UInt8)
 | out, [] => out
 | out, [x] => pLastP out x
 | out, x :: y :: r => pGo (pNext out x) (y :: r)
def pParseP (s : List UInt8) (special : Bool) (base : List (List UInt8)) : List (List UInt8) := pGo base (pCut special s)
def pShowP (l : List (List UInt8)) : List UInt8 := l.flatMap fun x => 47 :: x
end Go.Proofs.YtoapelcofjjdnaaGreatDoor
namespace Go.Proofs.YtoapelcofjjdnaaGreatDoor
set_option linter.all false
structure Seg (special : Bool) (y : List UInt8) : Prop where
 single : pSingle y = false
 double : pDouble y = false
 stroke : (47 : UInt8) ∉ y
 back : special = true → (92 : UInt8) ∉ y
 enc : pEnc 4 y = y
theorem Seg.nil (sp : Bool) : Seg sp [] := ⟨rfl, rfl, by simp, fun _ => by simp, rfl⟩
end Go.Proofs.YtoapelcofjjdnaaGreatDoor
