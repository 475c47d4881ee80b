/- Texts cut at a byte, and what the library's Split, Cut and Replace say of one byte: plain. -/
import Derived.Test.YtfandijagdiggaaGreatDoorK00
import Derived.Lib.SplitLaws
import Derived.Lib.ReplaceLaws
import Derived.Lib.Join
namespace Go.Proofs.YtfandijagdiggaaGreatDoor
set_option linter.all false

/-- The pieces of a text between the bytes c. -/
def cuts (c : UInt8) : List UInt8 → List (List UInt8)
  | [] => [[]]
  | x :: t => if x = c then [] :: cuts c t else match cuts c t with
    | [] => [[x]]
    | p :: r => (x :: p) :: r
theorem cuts_ne (c : UInt8) (s : List UInt8) : cuts c s ≠ [] := by
  cases s with
  | nil => simp [cuts]
  | cons x t =>
    unfold cuts
    split
    · simp
    · split <;> simp
theorem cuts_pos (c : UInt8) (s : List UInt8) : 0 < (cuts c s).length := List.length_pos_iff.2 (cuts_ne c s)
theorem cuts_hit (c : UInt8) (t : List UInt8) : cuts c (c :: t) = [] :: cuts c t := by rw [cuts, if_pos rfl]
theorem cuts_miss {c x : UInt8} (h : x ≠ c) {t p : List UInt8} {r : List (List UInt8)} (e : cuts c t = p :: r) : cuts c (x :: t) = (x :: p) :: r := by
  rw [cuts, if_neg h, e]
theorem cuts_whole {c : UInt8} : ∀ {s : List UInt8}, c ∉ s → cuts c s = [s] := by
  intro s
  induction s with
  | nil => intro _; rfl
  | cons x t ih =>
    intro h
    rw [List.mem_cons, not_or] at h
    exact cuts_miss (fun e => h.1 e.symm) (ih h.2)
theorem cuts_at {c : UInt8} (t : List UInt8) : ∀ {a : List UInt8}, c ∉ a → cuts c (a ++ c :: t) = a :: cuts c t := by
  intro a
  induction a with
  | nil => intro _; exact cuts_hit c t
  | cons x a ih =>
    intro h
    rw [List.mem_cons, not_or] at h
    exact cuts_miss (fun e => h.1 e.symm) (ih h.2)
theorem cuts_append (c : UInt8) (t : List UInt8) : ∀ (a : List UInt8), cuts c (a ++ c :: t) = cuts c a ++ cuts c t := by
  intro a
  induction a with
  | nil => exact cuts_hit c t
  | cons x a ih =>
    by_cases h : x = c
    · subst h
      rw [List.cons_append, cuts_hit, cuts_hit, ih]; rfl
    · obtain ⟨p, r, e⟩ : ∃ p r, cuts c a = p :: r := List.exists_cons_of_ne_nil (cuts_ne c a)
      rw [e] at ih
      rw [List.cons_append, cuts_miss h ih, cuts_miss h e]; rfl
/-- One byte more: a piece more, or the last piece grows. -/
theorem cuts_snoc_hit (c : UInt8) (s : List UInt8) : cuts c (s ++ [c]) = cuts c s ++ [[]] := cuts_append c [] s
theorem cuts_snoc {c x : UInt8} (h : x ≠ c) : ∀ (s : List UInt8), ∃ q l, cuts c s = q ++ [l] ∧ cuts c (s ++ [x]) = q ++ [l ++ [x]] := by
  intro s
  induction s with
  | nil => exact ⟨[], [], rfl, cuts_miss h rfl⟩
  | cons y s ih =>
    obtain ⟨q, l, e1, e2⟩ := ih
    by_cases hy : y = c
    · subst hy
      exact ⟨[] :: q, l, by rw [cuts_hit, e1]; rfl, by rw [List.cons_append, cuts_hit, e2]; rfl⟩
    · cases q with
      | nil => exact ⟨[], y :: l, cuts_miss hy e1, cuts_miss hy e2⟩
      | cons p q => exact ⟨(y :: p) :: q, l, cuts_miss hy e1, cuts_miss hy e2⟩
theorem cuts_len (c : UInt8) (s : List UInt8) : (cuts c s).length = s.count c + 1 := by
  induction s with
  | nil => rfl
  | cons x t ih =>
    by_cases h : x = c
    · subst h; rw [cuts_hit, List.length_cons, ih, List.count_cons_self]
    · obtain ⟨p, r, e⟩ : ∃ p r, cuts c t = p :: r := List.exists_cons_of_ne_nil (cuts_ne c t)
      rw [e] at ih
      rw [cuts_miss h e, List.length_cons, List.count_cons_of_ne (by simpa using h)]
      simpa using ih
theorem cuts_le (c : UInt8) (s : List UInt8) : (cuts c s).length ≤ s.length + 1 := by
  rw [cuts_len]; have := List.count_le_length (a := c) (l := s); omega
theorem cuts_mem (c : UInt8) : ∀ (s p : List UInt8), p ∈ cuts c s → c ∉ p ∧ ∀ x ∈ p, x ∈ s := by
  intro s
  induction s with
  | nil => intro p hp; rw [show cuts c [] = [[]] from rfl, List.mem_singleton] at hp; subst hp; simp
  | cons y s ih =>
    intro p hp
    by_cases hy : y = c
    · subst hy
      rw [cuts_hit] at hp
      rcases List.mem_cons.1 hp with rfl | hp
      · simp
      · exact ⟨(ih p hp).1, fun x hx => List.mem_cons_of_mem _ ((ih p hp).2 x hx)⟩
    · obtain ⟨p0, r, e⟩ : ∃ p r, cuts c s = p :: r := List.exists_cons_of_ne_nil (cuts_ne c s)
      rw [cuts_miss hy e] at hp
      rw [e] at ih
      rcases List.mem_cons.1 hp with rfl | hp
      · have h0 := ih p0 (by simp)
        refine ⟨?_, ?_⟩
        · rw [List.mem_cons, not_or]; exact ⟨fun e => hy e.symm, h0.1⟩
        · intro x hx
          rcases List.mem_cons.1 hx with rfl | hx
          · simp
          · exact List.mem_cons_of_mem _ (h0.2 x hx)
      · have h0 := ih p (by simp [hp])
        exact ⟨h0.1, fun x hx => List.mem_cons_of_mem _ (h0.2 x hx)⟩
theorem cuts_sum (c : UInt8) : ∀ (s p : List UInt8), p ∈ cuts c s → p.length ≤ s.length := by
  intro s
  induction s with
  | nil => intro p hp; rw [show cuts c [] = [[]] from rfl, List.mem_singleton] at hp; subst hp; simp
  | cons y s ih =>
    intro p hp
    by_cases hy : y = c
    · subst hy
      rw [cuts_hit] at hp
      rcases List.mem_cons.1 hp with rfl | hp
      · simp
      · have := ih p hp; simp; omega
    · obtain ⟨p0, r, e⟩ : ∃ p r, cuts c s = p :: r := List.exists_cons_of_ne_nil (cuts_ne c s)
      rw [cuts_miss hy e] at hp
      rw [e] at ih
      rcases List.mem_cons.1 hp with rfl | hp
      · have h0 := ih p0 (by simp); simp; omega
      · have h0 := ih p (by simp [hp]); simp; omega
theorem cuts_parts (c : UInt8) (s : List UInt8) : (cuts c s).flatten.length ≤ s.length := by
  induction s with
  | nil => simp [cuts]
  | cons y s ih =>
    by_cases hy : y = c
    · subst hy; rw [cuts_hit]; simp at ih ⊢; omega
    · obtain ⟨p0, r, e⟩ : ∃ p r, cuts c s = p :: r := List.exists_cons_of_ne_nil (cuts_ne c s)
      rw [e] at ih
      rw [cuts_miss hy e]
      simp at ih ⊢; omega
/-- The pieces, joined, are the text. -/
theorem join_cuts (c : UInt8) : ∀ (s : List UInt8), Lib.join (cuts c s) [c] = s := by
  intro s
  induction s with
  | nil => rfl
  | cons y s ih =>
    obtain ⟨p0, r, e⟩ : ∃ p r, cuts c s = p :: r := List.exists_cons_of_ne_nil (cuts_ne c s)
    rw [e, Lib.join_cons] at ih
    by_cases hy : y = c
    · subst hy
      rw [cuts_hit, Lib.join_cons, e]
      unfold Lib.joinTail at ih ⊢
      rw [List.map_cons, List.flatten_cons, List.nil_append, List.append_assoc, ih]; rfl
    · rw [cuts_miss hy e, Lib.join_cons, List.cons_append, ih]
/-- Pieces without c, joined, are cut as they were. -/
theorem cuts_join {c : UInt8} : ∀ {l : List (List UInt8)}, l ≠ [] → (∀ p ∈ l, c ∉ p) → cuts c (Lib.join l [c]) = l := by
  intro l
  induction l with
  | nil => intro h; exact absurd rfl h
  | cons p r ih =>
    intro _ hp
    have h0 := hp p (by simp)
    cases r with
    | nil => rw [Lib.join_one, cuts_whole h0]
    | cons q r =>
      have e : Lib.join (p :: q :: r) [c] = p ++ c :: Lib.join (q :: r) [c] := by
        rw [Lib.join_cons, Lib.join_cons]
        unfold Lib.joinTail
        simp
      rw [e, cuts_at _ h0, ih (by simp) (fun x hx => hp x (by simp [hx]))]

/-- Where a byte stands first. -/
theorem first_parts {c : UInt8} {s : List UInt8} (h : c ∈ s) : ∃ a t, s = a ++ c :: t ∧ c ∉ a := by
  induction s with
  | nil => cases h
  | cons x s ih =>
    by_cases hx : x = c
    · subst hx; exact ⟨[], s, rfl, by simp⟩
    · have h' : c ∈ s := by rcases List.mem_cons.1 h with e | h; exact absurd e.symm hx; exact h
      obtain ⟨a, t, e, hn⟩ := ih h'
      refine ⟨x :: a, t, by rw [e]; rfl, ?_⟩
      rw [List.mem_cons, not_or]; exact ⟨fun e => hx e.symm, hn⟩
theorem index_cons (b c : UInt8) (l : List UInt8) : Lib.index (b :: l) [c] = if c = b then 0 else if Lib.index l [c] == -1 then -1 else Lib.index l [c] + 1 := by
  unfold Lib.index
  rw [show ([c] : List UInt8).isPrefixOf (b :: l) = (c == b) from by simp [List.isPrefixOf]]
  by_cases h : c = b
  · rw [if_pos (by simpa using h), if_pos h]
  · rw [if_neg (by simpa using h), if_neg h]; cases l <;> rfl
theorem index_none {c : UInt8} : ∀ {s : List UInt8}, c ∉ s → Lib.index s [c] = -1 := by
  intro s
  induction s with
  | nil => intro _; rfl
  | cons x t ih =>
    intro h
    rw [List.mem_cons, not_or] at h
    rw [index_cons, if_neg h.1, ih h.2]; rfl
theorem index_some {c : UInt8} (t : List UInt8) : ∀ {a : List UInt8}, c ∉ a → Lib.index (a ++ c :: t) [c] = a.length := by
  intro a
  induction a with
  | nil => intro _; rw [List.nil_append, index_cons, if_pos rfl]; rfl
  | cons x a ih =>
    intro h
    rw [List.mem_cons, not_or] at h
    rw [List.cons_append, index_cons, if_neg h.1, ih h.2, if_neg (by simp; try omega)]
    simp
theorem splitK_cuts (c : UInt8) : ∀ (k : Nat) (s : List UInt8), s.count c = k → Lib.splitK [c] 0 k s = cuts c s := by
  intro k
  induction k with
  | zero =>
    intro s h
    rw [cuts_whole (List.count_eq_zero.1 h)]; rfl
  | succ k ih =>
    intro s h
    have hm : c ∈ s := by rw [← List.count_pos_iff]; omega
    obtain ⟨a, t, rfl, hn⟩ := first_parts hm
    rw [List.count_append, List.count_eq_zero_of_not_mem hn, List.count_cons_self] at h
    rw [cuts_at _ hn, ← ih t (by omega)]
    rw [Lib.splitK, index_some t hn, if_neg (by simp)]
    simp
theorem split_cuts (c : UInt8) (s : List UInt8) : Lib.split s [c] = cuts c s := by
  unfold Lib.split
  exact splitK_cuts c _ s (Lib.count_one c s).symm
theorem replaceK_map (o n : UInt8) : ∀ (k : Nat) (s : List UInt8), s.count o = k → Lib.replaceK [o] [n] k s = s.map fun c => if c = o then n else c := by
  intro k
  induction k with
  | zero =>
    intro s h
    have hm : o ∉ s := List.count_eq_zero.1 h
    show s = _
    conv => lhs; rw [← List.map_id s]
    exact List.map_congr_left fun c hc => by rw [if_neg (fun e => hm (by rw [← e]; exact hc))]; rfl
  | succ k ih =>
    intro s h
    have hm : o ∈ s := by rw [← List.count_pos_iff]; omega
    obtain ⟨a, t, rfl, hn⟩ := first_parts hm
    rw [List.count_append, List.count_eq_zero_of_not_mem hn, List.count_cons_self] at h
    rw [Lib.replaceK_hit _ _ _ _ a.length (index_some t hn)]
    have e : (a ++ o :: t).drop (a.length + [o].length) = t := by
      rw [List.length_singleton, ← List.drop_drop, List.drop_left]; rfl
    rw [e, ih t (by omega), List.take_left, List.map_append, List.map_cons, if_pos rfl]
    have ha : (a.map fun c => if c = o then n else c) = a := by
      conv => rhs; rw [← List.map_id a]
      exact List.map_congr_left fun c hc => by rw [if_neg (fun e => hn (by rw [← e]; exact hc))]; rfl
    rw [ha]; simp
theorem replaceAll_map {o n : UInt8} (h : o ≠ n) (s : List UInt8) : Lib.replaceAll s [o] [n] = s.map fun c => if c = o then n else c := by
  unfold Lib.replaceAll Lib.replace
  rw [if_neg (by simpa using h)]
  exact replaceK_map o n _ s (by unfold Lib.replaceNum; rw [if_pos (by omega), Lib.count_one])
/-- Ahead of the first c, and behind it. -/
def ahead (c : UInt8) (s : List UInt8) : List UInt8 := s.takeWhile (· ≠ c)
def behind (c : UInt8) (s : List UInt8) : List UInt8 := (s.dropWhile (· ≠ c)).drop 1
theorem ahead_whole {c : UInt8} {s : List UInt8} (h : c ∉ s) : ahead c s = s ∧ behind c s = [] := by
  have h1 : s.takeWhile (· ≠ c) = s := by
    induction s with
    | nil => rfl
    | cons x s ih =>
      rw [List.mem_cons, not_or] at h
      rw [List.takeWhile_cons_of_pos (by simpa using fun e => h.1 e.symm), ih h.2]
  refine ⟨h1, ?_⟩
  unfold behind
  have h2 := List.takeWhile_append_dropWhile (p := (· ≠ c)) (l := s)
  rw [h1] at h2
  have : s.dropWhile (· ≠ c) = [] := by simpa using h2
  rw [this]; rfl
theorem ahead_at {c : UInt8} (t : List UInt8) {a : List UInt8} (h : c ∉ a) : ahead c (a ++ c :: t) = a ∧ behind c (a ++ c :: t) = t := by
  unfold ahead behind
  have ha : ∀ x ∈ a, (decide (x ≠ c)) = true := fun x hx => decide_eq_true (fun e => h (by rw [← e]; exact hx))
  rw [List.takeWhile_append_of_pos ha, List.dropWhile_append_of_pos ha]
  simp
theorem cut_one (c : UInt8) (s : List UInt8) : (Lib.cut s [c]).1 = ahead c s ∧ (Lib.cut s [c]).2.1 = behind c s := by
  by_cases h : c ∈ s
  · obtain ⟨a, t, rfl, hn⟩ := first_parts h
    unfold Lib.cut
    rw [index_some t hn, if_pos (by omega), (ahead_at t hn).1, (ahead_at t hn).2]
    simp
  · unfold Lib.cut
    rw [index_none h, if_neg (by decide), (ahead_whole h).1, (ahead_whole h).2]
    exact ⟨rfl, rfl⟩
end Go.Proofs.YtfandijagdiggaaGreatDoor

namespace Go.Proofs.YtfandijagdiggaaGreatDoor
set_option linter.all false

abbrev Pr := List UInt8 × List UInt8
def qText (s : List UInt8) : List UInt8 := uEnc (uDec (pDec (s.map plus)))
def qPair (p : List UInt8) : Pr := (qText (ahead 61 p), qText (behind 61 p))
def full (p : List UInt8) : Bool := !p.isEmpty
def qPieces (s : List UInt8) : List (List UInt8) := (cuts 38 s).filter full
def qPairs (s : List UInt8) : List Pr := ((qPieces s).take 40).map qPair
def qOne (p : Pr) : List UInt8 := pEnc 6 p.1 ++ 61 :: pEnc 6 p.2
def qShow (l : List Pr) : List UInt8 := Lib.join (l.map qOne) [38]
def qRight (s : List UInt8) : List UInt8 := uEnc (uDec s)
def qRight2 (p : Pr) : Pr := (qRight p.1, qRight p.2)

theorem form_one : ∀ n, n < 256 → ∀ x ∈ pEnc1 6 (UInt8.ofNat n), x ≠ 38 ∧ x ≠ 61 := by decide +kernel
theorem form_out (l : List UInt8) : ∀ x ∈ pEnc 6 l, x ≠ 38 ∧ x ≠ 61 := by
  intro x hx
  obtain ⟨c, hc, hx⟩ := List.mem_flatMap.1 hx
  have h := form_one c.toNat (byte_lt c)
  rw [UInt8.ofNat_toNat] at h
  exact h x hx
theorem qOne_out (p : Pr) : (38 : UInt8) ∉ qOne p := by
  intro h
  unfold qOne at h
  rcases List.mem_append.1 h with h | h
  · exact (form_out _ _ h).1 rfl
  · rcases List.mem_cons.1 h with h | h
    · exact absurd h (by decide)
    · exact (form_out _ _ h).1 rfl
theorem qOne_full (p : Pr) : full (qOne p) = true := by unfold full qOne; simp
theorem qText_form (s : List UInt8) : qText (pEnc 6 s) = qRight s := by unfold qText qRight; rw [pDec_form]
theorem qPair_one (p : Pr) : qPair (qOne p) = qRight2 p := by
  have h : (61 : UInt8) ∉ pEnc 6 p.1 := fun h => (form_out _ _ h).2 rfl
  unfold qPair qOne
  rw [(ahead_at _ h).1, (ahead_at _ h).2, qText_form, qText_form]; rfl
theorem qPieces_show (l : List Pr) : qPieces (qShow l) = l.map qOne := by
  unfold qPieces qShow
  by_cases h : l = []
  · subst h; rfl
  · rw [cuts_join (by simpa using h) (by intro p hp; obtain ⟨q, _, rfl⟩ := List.mem_map.1 hp; exact qOne_out q)]
    exact List.filter_eq_self.2 (by intro p hp; obtain ⟨q, _, rfl⟩ := List.mem_map.1 hp; exact qOne_full q)
theorem qPairs_show {l : List Pr} (h : l.length ≤ 40) : qPairs (qShow l) = l.map qRight2 := by
  unfold qPairs
  rw [qPieces_show, List.take_of_length_le (by simpa using h), List.map_map]
  exact List.map_congr_left fun p _ => qPair_one p
theorem uDec_uEnc {l : List Int} (h : ∀ r ∈ l, cpOk r = true) : uDec (uEnc l) = l := by
  have e := uDec_enc l []
  rw [List.append_nil, uDec_nil, List.append_nil, map_cpFix h] at e
  exact e
theorem qRight_twice (s : List UInt8) : qRight (qRight s) = qRight s := by
  unfold qRight; rw [uDec_uEnc (uDec_ok s)]
theorem qRight2_twice (p : Pr) : qRight2 (qRight2 p) = qRight2 p := by unfold qRight2; rw [qRight_twice, qRight_twice]
theorem qPairs_right {l : List Pr} (h : l.length ≤ 40) : qPairs (qShow (l.map qRight2)) = l.map qRight2 := by
  rw [qPairs_show (by simpa using h), List.map_map]
  exact List.map_congr_left fun p _ => qRight2_twice p
theorem qPieces_side (a b : List UInt8) : qPieces (a ++ 38 :: b) = qPieces a ++ qPieces b := by
  unfold qPieces; rw [cuts_append, List.filter_append]
theorem qPairs_len (s : List UInt8) : (qPairs s).length = min 40 (qPieces s).length := by unfold qPairs; rw [List.length_map, List.length_take]
theorem qPairs_side {a b : List UInt8} (h : (qPairs a).length + (qPairs b).length ≤ 40) : qPairs (a ++ 38 :: b) = qPairs a ++ qPairs b := by
  rw [qPairs_len, qPairs_len] at h
  unfold qPairs
  rw [qPieces_side, ← List.map_append, List.take_append]
  congr 1
  by_cases h0 : (qPieces a).length = 0
  · rw [List.eq_nil_of_length_eq_zero h0]; simp
  by_cases h1 : (qPieces a).length ≤ 40
  · rw [List.take_of_length_le h1, List.take_of_length_le (by omega), List.take_of_length_le (by omega)]
  · have hb : (qPieces b).length = 0 := by omega
    rw [List.eq_nil_of_length_eq_zero hb]; simp
/-- The k-th question of QueryMost. -/
def qMost : Nat → List UInt8
  | 0 => []
  | k + 1 => qMost k ++ 38 :: UInt8.ofNat (97 + k % 26) :: [61, 49, 38]
theorem qMost_pieces : ∀ k, (qPieces (qMost k)).length = k := by
  intro k
  induction k with
  | zero => rfl
  | succ k ih =>
    have h0 : UInt8.ofNat (97 + k % 26) ≠ 38 := by
      intro e
      have e2 : (UInt8.ofNat (97 + k % 26)).toNat = 38 := by rw [e]; rfl
      rw [UInt8.toNat_ofNat', Nat.mod_eq_of_lt (by omega)] at e2
      omega
    have e : qMost (k + 1) = qMost k ++ 38 :: ([UInt8.ofNat (97 + k % 26), 61, 49] ++ 38 :: []) := rfl
    have hn : (38 : UInt8) ∉ [UInt8.ofNat (97 + k % 26), 61, 49] := by
      intro hm
      rcases List.mem_cons.1 hm with hm | hm
      · exact h0 hm.symm
      · exact absurd hm (by decide)
    rw [e, qPieces_side, List.length_append, ih]
    congr 1
    unfold qPieces
    rw [cuts_at _ hn]
    rfl
theorem qMost_len (k : Nat) : (qMost k).length = 5 * k := by
  induction k with
  | zero => rfl
  | succ k ih => unfold qMost; simp [ih]; omega
theorem qMost_pairs (k : Nat) : (qPairs (qMost k)).length = min k 40 := by rw [qPairs_len, qMost_pieces, Nat.min_comm]
theorem qText_len (s : List UInt8) : (qText s).length ≤ 4 * s.length := by
  unfold qText
  have h1 := uEnc_le (uDec (pDec (s.map plus)))
  have h2 := uDec_len_le (pDec (s.map plus))
  have h3 := pDec_len_le (s.map plus)
  rw [List.length_map] at h3
  omega
end Go.Proofs.YtfandijagdiggaaGreatDoor

namespace Go.Proofs.YtfandijagdiggaaGreatDoor
set_option linter.all false

/-- Code points at a full stop. -/
def cutZ : List Int → List (List Int)
  | [] => [[]]
  | x :: t => if x = 46 then [] :: cutZ t else match cutZ t with
    | [] => [[x]]
    | p :: r => (x :: p) :: r
theorem cutZ_ne (l : List Int) : cutZ l ≠ [] := by
  cases l with
  | nil => simp [cutZ]
  | cons x t =>
    rw [cutZ]
    split
    · simp
    · cases cutZ t <;> simp
theorem cutZ_hit (t : List Int) : cutZ (46 :: t) = [] :: cutZ t := by rw [cutZ, if_pos rfl]
theorem cutZ_miss {x : Int} (h : x ≠ 46) {t p : List Int} {r : List (List Int)} (e : cutZ t = p :: r) : cutZ (x :: t) = (x :: p) :: r := by rw [cutZ, if_neg h, e]
theorem cutZ_whole : ∀ {s : List Int}, (46 : Int) ∉ s → cutZ s = [s] := by
  intro s
  induction s with
  | nil => intro _; rfl
  | cons x t ih =>
    intro h
    have h1 : x ≠ 46 := fun e => h (by rw [e]; simp)
    exact cutZ_miss h1 (ih fun hm => h (by simp [hm]))
theorem cutZ_at (t : List Int) : ∀ {a : List Int}, (46 : Int) ∉ a → cutZ (a ++ 46 :: t) = a :: cutZ t := by
  intro a
  induction a with
  | nil => intro _; exact cutZ_hit t
  | cons x a ih =>
    intro h
    have h1 : x ≠ 46 := fun e => h (by rw [e]; simp)
    exact cutZ_miss h1 (ih fun hm => h (by simp [hm]))
theorem cutZ_append (t : List Int) : ∀ (a : List Int), cutZ (a ++ 46 :: t) = cutZ a ++ cutZ t := by
  intro a
  induction a with
  | nil => exact cutZ_hit t
  | cons x a ih =>
    by_cases h : x = 46
    · subst h; rw [List.cons_append, cutZ_hit, cutZ_hit, ih]; rfl
    · obtain ⟨p, r, e⟩ : ∃ p r, cutZ a = p :: r := by
        cases e : cutZ a with
        | nil => exact absurd e (cutZ_ne a)
        | cons p r => exact ⟨p, r, rfl⟩
      rw [List.cons_append, cutZ_miss h (by rw [ih, e]; rfl), cutZ_miss h e]; rfl
theorem cutZ_snoc_hit (s : List Int) : cutZ (s ++ [46]) = cutZ s ++ [[]] := cutZ_append [] s
theorem cutZ_snoc {x : Int} (h : x ≠ 46) : ∀ (s : List Int), ∃ q l, cutZ s = q ++ [l] ∧ cutZ (s ++ [x]) = q ++ [l ++ [x]] := by
  intro s
  induction s with
  | nil => exact ⟨[], [], rfl, by rw [List.nil_append, cutZ_miss h (rfl : cutZ [] = [[]])]; rfl⟩
  | cons y t ih =>
    obtain ⟨q, l, e1, e2⟩ := ih
    by_cases hy : y = 46
    · subst hy; exact ⟨[] :: q, l, by rw [cutZ_hit, e1]; rfl, by rw [List.cons_append, cutZ_hit, e2]; rfl⟩
    · cases q with
      | nil => exact ⟨[], y :: l, by rw [cutZ_miss hy e1]; rfl, by rw [List.cons_append, cutZ_miss hy e2]; rfl⟩
      | cons p q => exact ⟨(y :: p) :: q, l, by rw [cutZ_miss hy e1]; rfl, by rw [List.cons_append, cutZ_miss hy e2]; rfl⟩
theorem cutZ_parts {l : List Int} (h : (46 : Int) ∈ l) : ∃ a t, l = a ++ 46 :: t ∧ (46 : Int) ∉ a := by
  induction l with
  | nil => cases h
  | cons x t ih =>
    by_cases hx : x = 46
    · exact ⟨[], t, by rw [hx]; rfl, by simp⟩
    · obtain ⟨a, u, e, ha⟩ := ih (by rcases List.mem_cons.1 h with h | h; exact absurd h.symm hx; exact h)
      exact ⟨x :: a, u, by rw [e]; rfl, by simp [ha]; omega⟩
theorem cutZ_mem : ∀ (s p : List Int), p ∈ cutZ s → (46 : Int) ∉ p ∧ ∀ x ∈ p, x ∈ s := by
  intro s
  induction s with
  | nil => intro p hp; rw [cutZ, List.mem_singleton] at hp; subst hp; simp
  | cons x t ih =>
    intro p hp
    by_cases h : x = 46
    · subst h
      rw [cutZ_hit] at hp
      rcases List.mem_cons.1 hp with rfl | hp
      · simp
      · exact ⟨(ih p hp).1, fun y hy => by simp [(ih p hp).2 y hy]⟩
    · obtain ⟨q, r, e⟩ : ∃ q r, cutZ t = q :: r := by
        cases e : cutZ t with
        | nil => exact absurd e (cutZ_ne t)
        | cons q r => exact ⟨q, r, rfl⟩
      rw [cutZ_miss h e] at hp
      rcases List.mem_cons.1 hp with rfl | hp
      · obtain ⟨h1, h2⟩ := ih q (by rw [e]; simp)
        refine ⟨fun hm => ?_, fun y hy => ?_⟩
        · rcases List.mem_cons.1 hm with e | hm
          · exact h e.symm
          · exact h1 hm
        · rcases List.mem_cons.1 hy with rfl | hy
          · simp
          · simp [h2 y hy]
      · obtain ⟨h1, h2⟩ := ih p (by rw [e]; simp [hp])
        exact ⟨h1, fun y hy => by simp [h2 y hy]⟩
theorem cutZ_len_le (s : List Int) : (cutZ s).length ≤ s.length + 1 := by
  induction s with
  | nil => simp [cutZ]
  | cons x t ih =>
    by_cases h : x = 46
    · subst h; rw [cutZ_hit]; simp; omega
    · obtain ⟨q, r, e⟩ : ∃ q r, cutZ t = q :: r := by
        cases e : cutZ t with
        | nil => exact absurd e (cutZ_ne t)
        | cons q r => exact ⟨q, r, rfl⟩
      rw [cutZ_miss h e]; rw [e] at ih; simp at ih ⊢; omega
theorem cutZ_part_len : ∀ (s p : List Int), p ∈ cutZ s → p.length ≤ s.length := by
  intro s
  induction s with
  | nil => intro p hp; rw [cutZ, List.mem_singleton] at hp; subst hp; simp
  | cons x t ih =>
    intro p hp
    by_cases h : x = 46
    · subst h
      rw [cutZ_hit] at hp
      rcases List.mem_cons.1 hp with rfl | hp
      · simp
      · have := ih p hp; simp; omega
    · obtain ⟨q, r, e⟩ : ∃ q r, cutZ t = q :: r := by
        cases e : cutZ t with
        | nil => exact absurd e (cutZ_ne t)
        | cons q r => exact ⟨q, r, rfl⟩
      rw [cutZ_miss h e] at hp
      rcases List.mem_cons.1 hp with rfl | hp
      · have := ih q (by rw [e]; simp); simp; omega
      · have := ih p (by rw [e]; simp [hp]); simp; omega

def dWide (l : List Int) : Bool := l.any fun x => decide (128 ≤ x)
def dMark : List UInt8 := [120, 110, 45, 45]
/-- May what stands behind the mark be? -/
def dKnown (rest : List UInt8) : Bool := match unpuny rest with
  | none => false
  | some l => dWide l && (decide (fText l = l) && decide (puny l = some rest))
def dMarked (s : List UInt8) : Bool := decide (dMark <+: s)
def dLow (s : List UInt8) : Bool := if dMarked s = true then dKnown (s.drop 4) else true
/-- A label, as the document says. -/
def dLab (p : List Int) : Option (List UInt8) := if dWide p = true then (puny p).map (dMark ++ ·) else if dLow (p.map byteOf) = true then some (p.map byteOf) else none
/-- A label as the program makes and holds it. -/
def dMake (p : List Int) : Option (List UInt8) := if dWide p = true then (puny p).map (dMark ++ ·) else some (uEnc p)
def dRight (s : List UInt8) : Bool := decide (s.length ≤ 63) && dLow s
/-- All labels: the first one, or more behind: an empty one may only be the last, and not alone. -/
def dGo : Bool → List (List Int) → Option (List (List UInt8))
  | _, [] => some []
  | f, p :: r => match dLab p with
    | none => none
    | some s => if 63 < s.length ∨ (s = [] ∧ (r ≠ [] ∨ f = true)) then none else (dGo false r).map (s :: ·)
def dNames (l : List Int) : Option (List (List UInt8)) := dGo true (cutZ l)
def dNo (b : UInt8) : Bool := decide (b.toNat ≤ 32 ∨ b.toNat = 127) || [35, 47, 58, 60, 62, 63, 64, 91, 92, 93, 94, 124, 37].contains b
def dTrim (s : List UInt8) : List UInt8 := if s.getLast? = some 46 then s.dropLast else s
def dEnd (s : List UInt8) : Option (List UInt8) := if s.any dNo = true ∨ 253 < (dTrim s).length then none else some s
def dText (b : List UInt8) : List Int := fText (uDec b)
def dASCII (b : List UInt8) : Option (List UInt8) :=
  if 400 < b.length then none
  else if (65533 : Int) ∈ dText b then none
  else (dNames (dText b)).bind fun L => dEnd (Lib.join L [46])

/-- The program's label is the document's, where it was mapped. -/
theorem fText_iff {l : List Int} : fText l = l ↔ ∀ x ∈ l, mKeep x = true ∧ mOut x = x := by
  constructor
  · intro h
    have hl : (l.filter mKeep).length = l.length := by
      have := congrArg List.length h
      unfold fText at this
      rwa [List.length_map] at this
    have hf : l.filter mKeep = l := filter_all_of_len hl
    intro x hx
    have hk : mKeep x = true := by rw [← hf] at hx; exact (List.mem_filter.1 hx).2
    refine ⟨hk, ?_⟩
    unfold fText at h
    rw [hf] at h
    obtain ⟨i, hi, rfl⟩ := List.getElem_of_mem hx
    have := congrArg (fun z => z[i]?) h
    rw [List.getElem?_map, List.getElem?_eq_getElem hi] at this
    simpa using this
  · intro h
    unfold fText
    rw [List.filter_eq_self.2 fun x hx => (h x hx).1]
    calc l.map mOut = l.map id := List.map_congr_left fun x hx => (h x hx).2
      _ = l := List.map_id l
theorem fText_mem {l : List Int} {x : Int} (h : x ∈ fText l) : mKeep x = true ∧ mOut x = x := fText_iff.1 (fText_fix l) x h
theorem fText_part {l p : List Int} (hp : p ∈ cutZ (fText l)) : fText p = p := fText_iff.2 fun x hx => fText_mem ((cutZ_mem _ p hp).2 x hx)
theorem enc_low {p : List Int} (h : dWide p = false) (h0 : ∀ x ∈ p, 0 ≤ x) : uEnc p = p.map byteOf := by
  induction p with
  | nil => rfl
  | cons x t ih =>
    unfold dWide at h
    rw [List.any_cons, Bool.or_eq_false_iff] at h
    have hx : ¬ 128 ≤ x := by simpa using h.1
    have hx0 := h0 x (by simp)
    have e1 : enc1 x = [byteOf x] := by
      unfold enc1
      rw [cpFix_of (cpOk_iff.2 (by omega))]
      unfold enc0
      rw [if_pos (by omega)]
    show enc1 x ++ uEnc t = byteOf x :: t.map byteOf
    rw [e1, ih h.2 fun y hy => h0 y (by simp [hy])]; rfl
theorem known_puny {p : List Int} {s : List UInt8} (hw : dWide p = true) (hf : fText p = p) (h : puny p = some s) (hs : s.length ≤ 200) : dKnown s = true := by
  unfold dKnown
  rw [unpuny_puny h hs]
  simp [hw, hf, h]
theorem marked_own (s : List UInt8) : dMarked (dMark ++ s) = true := decide_eq_true ⟨s, rfl⟩
/-- What the program makes of a label and then holds, against the document's. -/
theorem make_right {p : List Int} (hf : fText p = p) (h0 : ∀ x ∈ p, 0 ≤ x) :
    (dMake p).bind (fun s => if dRight s = true then some s else none) = (dLab p).bind (fun s => if 63 < s.length then none else some s) := by
  unfold dMake dLab
  by_cases hw : dWide p = true
  · rw [if_pos hw, if_pos hw]
    cases e : puny p with
    | none => rfl
    | some s =>
      show (if dRight (dMark ++ s) = true then some (dMark ++ s) else none) = if 63 < (dMark ++ s).length then none else some (dMark ++ s)
      unfold dRight
      by_cases h63 : (dMark ++ s).length ≤ 63
      · have hk := known_puny hw hf e (by rw [List.length_append] at h63; omega)
        rw [if_neg (by omega : ¬ 63 < (dMark ++ s).length), if_pos]
        rw [decide_eq_true h63]
        unfold dLow
        rw [if_pos (marked_own s)]
        exact hk
      · rw [if_pos (by omega : 63 < (dMark ++ s).length), decide_eq_false h63, Bool.false_and, if_neg (by decide)]
  · have hw' : dWide p = false := by simpa using hw
    rw [if_neg hw, if_neg hw, enc_low hw' h0]
    show (if dRight (p.map byteOf) = true then some (p.map byteOf) else none) = _
    unfold dRight
    by_cases hl : dLow (p.map byteOf) = true
    · rw [if_pos hl, hl, Bool.and_true]
      show _ = if 63 < (p.map byteOf).length then none else some (p.map byteOf)
      by_cases h63 : (p.map byteOf).length ≤ 63
      · rw [if_pos (decide_eq_true h63), if_neg (by omega)]
      · rw [if_neg (by simpa using h63), if_pos (by omega)]
    · have hl' : dLow (p.map byteOf) = false := by simpa using hl
      rw [if_neg hl, hl', Bool.and_false]; rfl
end Go.Proofs.YtfandijagdiggaaGreatDoor

namespace Go.Proofs.YtfandijagdiggaaGreatDoor
set_option linter.all false

/-- A plain sign that is no large letter. -/
def plainC (c : UInt8) : Bool := decide (c.toNat < 128 ∧ ¬ (65 ≤ c.toNat ∧ c.toNat ≤ 90))
theorem plainC_map {c : UInt8} (h : plainC c = true) : mKeep (c.toNat : Int) = true ∧ mOut (c.toNat : Int) = (c.toNat : Int) := by
  have h := of_decide_eq_true h
  refine mOut_stay (by omega) (by omega) (by omega) ?_
  unfold mBase
  rw [if_neg (by omega), if_neg (by omega), if_neg (by omega)]
theorem plainC_of {x : Int} (h0 : 0 ≤ x) (h1 : x < 128) (h2 : mOut x = x) : plainC (byteOf x) = true := by
  refine decide_eq_true ?_
  rw [byteOf_toNat h0 (by omega)]
  refine ⟨by omega, fun h => ?_⟩
  have e : mOut x = x + 32 := by
    unfold mOut
    rw [if_neg (by omega), if_neg (by omega), if_neg (by omega)]
    unfold mBase
    rw [if_pos (by omega)]
  omega
theorem ints_wide {s : List UInt8} (h : ∀ c ∈ s, c.toNat < 128) : dWide (ints s) = false := by
  unfold dWide ints
  rw [List.any_map, List.any_eq_false]
  intro c hc
  have := h c hc
  simp; omega
theorem ints_bytes (s : List UInt8) : (ints s).map byteOf = s := by
  unfold ints
  rw [List.map_map]
  calc s.map (byteOf ∘ fun c : UInt8 => (c.toNat : Int)) = s.map id := List.map_congr_left fun c _ => byteOf_self c
    _ = s := List.map_id s
theorem ints_append (a b : List UInt8) : ints (a ++ b) = ints a ++ ints b := List.map_append ..
theorem uDec_low {s : List UInt8} (h : ∀ c ∈ s, c.toNat < 128) : uDec s = ints s := by
  have e : uEnc (ints s) = s := by
    rw [enc_low (ints_wide h) (fun x hx => by obtain ⟨c, _, rfl⟩ := List.mem_map.1 hx; omega), ints_bytes]
  have := uDec_enc (ints s) []
  rw [List.append_nil, e, uDec_nil, List.append_nil] at this
  rw [this]
  refine map_cpFix fun r hr => ?_
  obtain ⟨c, hc, rfl⟩ := List.mem_map.1 hr
  have := h c hc
  exact cpOk_iff.2 (by omega)
theorem fText_plain {s : List UInt8} (h : ∀ c ∈ s, plainC c = true) : fText (ints s) = ints s := fText_iff.2 fun x hx => by
  obtain ⟨c, hc, rfl⟩ := List.mem_map.1 hx
  exact plainC_map (h c hc)
theorem plainC_low {s : List UInt8} (h : ∀ c ∈ s, plainC c = true) : ∀ c ∈ s, c.toNat < 128 := fun c hc => (of_decide_eq_true (h c hc)).1
theorem dText_plain {s : List UInt8} (h : ∀ c ∈ s, plainC c = true) : dText s = ints s := by
  unfold dText; rw [uDec_low (plainC_low h), fText_plain h]
theorem cutZ_ints : ∀ (s : List UInt8), cutZ (ints s) = (cuts 46 s).map ints := by
  intro s
  induction s with
  | nil => rfl
  | cons c t ih =>
    show cutZ ((c.toNat : Int) :: ints t) = _
    by_cases h : c = 46
    · subst h
      rw [cuts_hit, List.map_cons, ← ih]; exact cutZ_hit _
    · have hne : (c.toNat : Int) ≠ 46 := fun e => h (byte_ext (by show c.toNat = 46; omega))
      obtain ⟨p, r, e⟩ : ∃ p r, cuts 46 t = p :: r := by
        cases e : cuts 46 t with
        | nil => exact absurd e (cuts_ne 46 t)
        | cons p r => exact ⟨p, r, rfl⟩
      rw [cuts_miss h e, List.map_cons]
      rw [e, List.map_cons] at ih
      exact cutZ_miss hne ih

/-- A part of a mapped text. -/
structure Fine (p : List Int) : Prop where
  map : fText p = p
  low : ∀ x ∈ p, 0 ≤ x
  dot : (46 : Int) ∉ p
theorem mOut_low {x : Int} (h : 0 ≤ x) : 0 ≤ mOut x := by
  unfold mOut mBase
  repeat' split
  all_goals omega
theorem dText_low {b : List UInt8} {x : Int} (h : x ∈ dText b) : 0 ≤ x := by
  unfold dText fText at h
  obtain ⟨y, hy, rfl⟩ := List.mem_map.1 h
  exact mOut_low (cpOk_iff.1 (uDec_ok b y (List.mem_filter.1 hy).1)).1
theorem fine_part {b : List UInt8} {p : List Int} (hp : p ∈ cutZ (dText b)) : Fine p :=
  ⟨fText_part hp, fun x hx => dText_low ((cutZ_mem _ p hp).2 x hx), (cutZ_mem _ p hp).1⟩
theorem fine_plain {p : List Int} (h : Fine p) {x : Int} (hx : x ∈ p) (h1 : x < 128) : plainC (byteOf x) = true ∧ byteOf x ≠ 46 := by
  have h0 := h.low x hx
  refine ⟨plainC_of h0 h1 (fText_iff.1 h.map x hx).2, fun e => h.dot ?_⟩
  have := byteOf_nat h0 (by omega : x < 256)
  rw [e] at this
  have : x = 46 := this.symm
  rwa [← this]
theorem isLet_plain {c : UInt8} (h : isLet c = true) : plainC c = true ∧ c ≠ 46 := by
  have h := of_decide_eq_true h
  exact ⟨decide_eq_true (by omega), fun e => by rw [e] at h; revert h; decide⟩
theorem puny_plain {p : List Int} {s : List UInt8} (h : Fine p) (e : puny p = some s) : ∀ c ∈ s, plainC c = true ∧ c ≠ 46 := by
  obtain ⟨D, rfl, hlet, _⟩ := puny_led e
  intro c hc
  rcases List.mem_append.1 hc with hc | hc
  · have hb : c ∈ basics p ∨ c = 45 := by
      split at hc
      · rcases List.mem_append.1 hc with h | h
        · exact .inl h
        · exact .inr (by simpa using h)
      · cases hc
    rcases hb with hb | rfl
    · unfold basics at hb
      obtain ⟨r, hr, rfl⟩ := List.mem_map.1 hb
      have hm := List.mem_filter.1 hr
      exact fine_plain h hm.1 (by simpa using hm.2)
    · exact ⟨by decide, by decide⟩
  · exact isLet_plain (hlet c hc)
theorem mark_plain : ∀ c ∈ dMark, plainC c = true ∧ c ≠ 46 := by decide
theorem not_wide {p : List Int} (h : ¬ dWide p = true) {x : Int} (hx : x ∈ p) : x < 128 := by
  have h' : dWide p = false := by simpa using h
  unfold dWide at h'
  have := List.any_eq_false.1 h' x hx
  simp at this
  omega
theorem lab_plain {p : List Int} {s : List UInt8} (h : Fine p) (e : dLab p = some s) : ∀ c ∈ s, plainC c = true ∧ c ≠ 46 := by
  unfold dLab at e
  split at e
  · cases e2 : puny p with
    | none => rw [e2] at e; cases e
    | some t =>
      rw [e2] at e
      injection e with e
      subst e
      intro c hc
      rcases List.mem_append.1 hc with hc | hc
      · exact mark_plain c hc
      · exact puny_plain h e2 c hc
  · next hw =>
    split at e
    · injection e with e
      subst e
      intro c hc
      obtain ⟨x, hx, rfl⟩ := List.mem_map.1 hc
      exact fine_plain h hx (not_wide hw hx)
    · cases e
/-- A label of plain signs is its own. -/
theorem lab_again {p : List Int} {s : List UInt8} (h : Fine p) (e : dLab p = some s) (h63 : s.length ≤ 63) : dLab (ints s) = some s := by
  have hp := lab_plain h e
  have hw := ints_wide (plainC_low fun c hc => (hp c hc).1)
  have key : dLow s = true := by
    unfold dLab at e
    split at e
    · next hwp =>
      cases e2 : puny p with
      | none => rw [e2] at e; cases e
      | some t =>
        rw [e2] at e
        injection e with e
        have e : dMark ++ t = s := e
        subst e
        unfold dLow
        rw [if_pos (marked_own t)]
        have h2 : t.length ≤ 200 := by rw [List.length_append] at h63; omega
        exact known_puny hwp h.map e2 h2
    · split at e
      · next hl =>
        injection e with e
        rwa [e] at hl
      · cases e
  unfold dLab
  rw [if_neg (by rw [hw]; decide), ints_bytes, if_pos key]
theorem dGo_len : ∀ (P : List (List Int)) (f : Bool) (L : List (List UInt8)), dGo f P = some L → L.length = P.length := by
  intro P
  induction P with
  | nil => intro f L h; injection h with h; rw [← h]; rfl
  | cons p r ih =>
    intro f L h
    rw [dGo] at h
    cases e : dLab p with
    | none => rw [e] at h; cases h
    | some s =>
      rw [e] at h
      simp only at h
      split at h
      · cases h
      · cases e2 : dGo false r with
        | none => rw [e2] at h; cases h
        | some M =>
          rw [e2] at h
          injection h with h
          rw [← h, List.length_cons, ih false M e2, List.length_cons]
theorem dGo_parts {f : Bool} {p : List Int} {r : List (List Int)} {L : List (List UInt8)} (h : dGo f (p :: r) = some L) :
    ∃ s M, L = s :: M ∧ dLab p = some s ∧ s.length ≤ 63 ∧ (s = [] → r = [] ∧ f = false) ∧ dGo false r = some M := by
  rw [dGo] at h
  cases e : dLab p with
  | none => rw [e] at h; cases h
  | some s =>
    rw [e] at h
    simp only at h
    split at h
    · cases h
    · next hn =>
      cases e2 : dGo false r with
      | none => rw [e2] at h; cases h
      | some M =>
        rw [e2] at h
        injection h with h
        refine ⟨s, M, h.symm, rfl, by omega, fun h0 => ?_, rfl⟩
        constructor
        · cases r with
          | nil => rfl
          | cons x y => exact absurd (.inr ⟨h0, .inl (by simp)⟩) hn
        · cases f with
          | false => rfl
          | true => exact absurd (.inr ⟨h0, .inr rfl⟩) hn
theorem dGo_make {f : Bool} {p : List Int} {r : List (List Int)} {s : List UInt8} {M : List (List UInt8)} (h1 : dLab p = some s) (h2 : s.length ≤ 63) (h3 : s = [] → r = [] ∧ f = false) (h4 : dGo false r = some M) : dGo f (p :: r) = some (s :: M) := by
  rw [dGo, h1]
  simp only
  rw [if_neg, h4]
  · rfl
  · rintro (h | ⟨h0, h⟩)
    · omega
    · obtain ⟨e1, e2⟩ := h3 h0
      rcases h with h | h
      · exact h e1
      · rw [e2] at h; cases h
theorem dGo_all : ∀ (P : List (List Int)) (f : Bool) (L : List (List UInt8)), dGo f P = some L → (∀ p ∈ P, Fine p) →
    (∀ s ∈ L, s.length ≤ 63 ∧ (∀ c ∈ s, plainC c = true ∧ c ≠ 46) ∧ dLab (ints s) = some s) ∧ dGo f (L.map ints) = some L := by
  intro P
  induction P with
  | nil => intro f L h _; injection h with h; subst h; exact ⟨by simp, rfl⟩
  | cons p r ih =>
    intro f L h hf
    obtain ⟨s, M, rfl, h1, h2, h3, h4⟩ := dGo_parts h
    obtain ⟨g1, g2⟩ := ih false M h4 fun q hq => hf q (by simp [hq])
    have hp := hf p (by simp)
    have ha := lab_again hp h1 h2
    refine ⟨fun t ht => ?_, ?_⟩
    · rcases List.mem_cons.1 ht with rfl | ht
      · exact ⟨h2, lab_plain hp h1, ha⟩
      · exact g1 t ht
    · rw [List.map_cons]
      refine dGo_make ha h2 (fun h0 => ?_) g2
      obtain ⟨e1, e2⟩ := h3 h0
      subst e1
      injection h4 with h4
      exact ⟨by rw [← h4]; rfl, e2⟩
theorem dEnd_some {s t : List UInt8} (h : dEnd s = some t) : t = s ∧ s.any dNo = false ∧ s.length ≤ 254 := by
  unfold dEnd at h
  split at h
  · cases h
  · next hn =>
    injection h with h
    refine ⟨h.symm, by simpa using fun e => hn (.inl e), ?_⟩
    have : ¬ 253 < (dTrim s).length := fun e => hn (.inr e)
    unfold dTrim at this
    split at this
    · rw [List.length_dropLast] at this; omega
    · omega
/-- What a name is made of. -/
theorem dASCII_some {b s : List UInt8} (h : dASCII b = some s) : b.length ≤ 400 ∧ (65533 : Int) ∉ dText b ∧ ∃ L, dNames (dText b) = some L ∧ s = Lib.join L [46] ∧ dEnd s = some s := by
  unfold dASCII at h
  split at h
  · cases h
  · next h1 =>
    split at h
    · cases h
    · next h2 =>
      refine ⟨by omega, h2, ?_⟩
      cases e : dNames (dText b) with
      | none => rw [e] at h; cases h
      | some L =>
        rw [e] at h
        have h : dEnd (Lib.join L [46]) = some s := h
        have e2 := (dEnd_some h).1
        exact ⟨L, rfl, e2, by rw [e2] at h ⊢; exact h⟩
theorem dASCII_of {b s : List UInt8} {L : List (List UInt8)} (h1 : b.length ≤ 400) (h2 : (65533 : Int) ∉ dText b) (h3 : dNames (dText b) = some L) (h4 : s = Lib.join L [46]) (h5 : dEnd s = some s) : dASCII b = some s := by
  unfold dASCII
  rw [if_neg (by omega), if_neg h2, h3, h4]
  rw [h4] at h5
  exact h5
theorem dNames_ne {l : List Int} {L : List (List UInt8)} (h : dNames l = some L) : L ≠ [] := by
  have := dGo_len _ _ _ h
  have h0 := List.length_pos_iff.2 (cutZ_ne l)
  exact fun e => by rw [e] at this; simp at this; omega
theorem join_bytes {L : List (List UInt8)} (h : ∀ s ∈ L, ∀ c ∈ s, plainC c = true) : ∀ c ∈ Lib.join L [46], plainC c = true := by
  induction L with
  | nil => intro c hc; cases hc
  | cons s L ih =>
    intro c hc
    cases L with
    | nil => rw [Lib.join_one] at hc; exact h s (by simp) c hc
    | cons t r =>
      have e : Lib.join (s :: t :: r) [46] = s ++ 46 :: Lib.join (t :: r) [46] := by simp [Lib.join, List.intercalate]
      rw [e] at hc
      rcases List.mem_append.1 hc with hc | hc
      · exact h s (by simp) c hc
      · rcases List.mem_cons.1 hc with rfl | hc
        · decide
        · exact ih (fun u hu => h u (by simp [hu])) c hc
theorem no_lost {s : List UInt8} : (65533 : Int) ∉ ints s := fun h => by
  obtain ⟨c, _, e⟩ := List.mem_map.1 h
  have := byte_lt c
  omega
/-- A name: its labels. -/
structure Name (s : List UInt8) (L : List (List UInt8)) : Prop where
  join : s = Lib.join L [46]
  ne : L ≠ []
  all : ∀ l ∈ L, l.length ≤ 63 ∧ (∀ c ∈ l, plainC c = true ∧ c ≠ 46) ∧ dLab (ints l) = some l
  go : dGo true (L.map ints) = some L
  fin : dEnd s = some s
theorem name_of {b s : List UInt8} (h : dASCII b = some s) : ∃ L, Name s L ∧ dGo true (cutZ (dText b)) = some L := by
  obtain ⟨_, _, L, hL, hs, he⟩ := dASCII_some h
  obtain ⟨h1, h2⟩ := dGo_all _ _ _ hL fun p hp => fine_part hp
  exact ⟨L, ⟨hs, dNames_ne hL, h1, h2, he⟩, hL⟩
theorem Name.plain {s : List UInt8} {L : List (List UInt8)} (h : Name s L) : ∀ c ∈ s, plainC c = true := by
  rw [h.join]
  exact join_bytes fun l hl c hc => ((h.all l hl).2.1 c hc).1
theorem Name.cuts {s : List UInt8} {L : List (List UInt8)} (h : Name s L) : cuts 46 s = L := by
  rw [h.join]
  exact cuts_join h.ne fun l hl hm => ((h.all l hl).2.1 46 hm).2 rfl
theorem Name.again {s : List UInt8} {L : List (List UInt8)} (h : Name s L) : dASCII s = some s := by
  have hp := h.plain
  have hl := (dEnd_some h.fin).2.2
  refine dASCII_of (L := L) (by omega) (by rw [dText_plain hp]; exact no_lost) ?_ h.join h.fin
  unfold dNames
  rw [dText_plain hp, cutZ_ints, h.cuts]
  exact h.go
theorem dASCII_again {b s : List UInt8} (h : dASCII b = some s) : dASCII s = some s := by
  obtain ⟨L, hN, _⟩ := name_of h
  exact hN.again
theorem Name.signs {s : List UInt8} {L : List (List UInt8)} (h : Name s L) : ∀ c ∈ s, 32 < c.toNat ∧ c.toNat < 127 ∧ ¬ (65 ≤ c.toNat ∧ c.toNat ≤ 90) := by
  intro c hc
  have h1 := of_decide_eq_true (h.plain c hc)
  have h2 := List.any_eq_false.1 (dEnd_some h.fin).2.1 c hc
  unfold dNo at h2
  rw [Bool.or_eq_true, decide_eq_true_iff] at h2
  exact ⟨by omega, by omega, h1.2⟩

/-- Large letters. -/
theorem dASCII_congr {a b : List UInt8} (hl : a.length = b.length) (h : dText a = dText b) : dASCII a = dASCII b := by unfold dASCII; rw [hl, h]
theorem large_text {a b : List UInt8} (ha : ∀ c ∈ a, c.toNat < 128) (hb : ∀ c ∈ b, c.toNat < 128) (hl : a.length = b.length)
    (h : ∀ (j : Nat) (x y : UInt8), a[j]? = some x → b[j]? = some y → y = x ∨ (97 ≤ x.toNat ∧ x.toNat ≤ 122 ∧ y.toNat = x.toNat - 32)) : dText a = dText b := by
  unfold dText
  rw [uDec_low ha, uDec_low hb]
  clear ha hb
  induction a generalizing b with
  | nil => cases b with
    | nil => rfl
    | cons y t => cases hl
  | cons x a ih =>
    cases b with
    | nil => cases hl
    | cons y b =>
      have e := ih (b := b) (by simpa using hl) fun j u v hu hv => h (j + 1) u v hu hv
      have h0 := h 0 x y rfl rfl
      have ex : ints (x :: a) = [(x.toNat : Int)] ++ ints a := rfl
      have ey : ints (y :: b) = [(y.toNat : Int)] ++ ints b := rfl
      rw [ex, ey, fText_append, fText_append, e]
      congr 1
      rcases h0 with rfl | ⟨h1, h2, h3⟩
      · rfl
      · have k1 : mKeep (x.toNat : Int) = true := decide_eq_true (by omega)
        have k2 : mKeep (y.toNat : Int) = true := decide_eq_true (by omega)
        have m1 : mOut (x.toNat : Int) = (x.toNat : Int) := by
          unfold mOut mBase
          rw [if_neg (by omega), if_neg (by omega), if_neg (by omega), if_neg (by omega), if_neg (by omega), if_neg (by omega)]
        have m2 : mOut (y.toNat : Int) = (x.toNat : Int) := by
          unfold mOut mBase
          rw [if_neg (by omega), if_neg (by omega), if_neg (by omega), if_pos (by omega)]; omega
        unfold fText
        simp only [List.filter_cons, k1, k2, if_true, List.filter_nil, List.map_cons, List.map_nil, m1, m2]

/-- Side by side. -/
theorem dGo_append : ∀ (P Q : List (List Int)) (f : Bool) (L M : List (List UInt8)), dGo f P = some L → dGo true Q = some M → Q ≠ [] → (∀ s, L.getLast? = some s → s ≠ []) → dGo f (P ++ Q) = some (L ++ M) := by
  intro P
  induction P with
  | nil =>
    intro Q f L M h1 h2 hQ _
    injection h1 with h1
    subst h1
    cases Q with
    | nil => exact absurd rfl hQ
    | cons q r =>
      obtain ⟨s, K, rfl, g1, g2, g3, g4⟩ := dGo_parts h2
      exact dGo_make g1 g2 (fun h0 => by cases (g3 h0).2) g4
  | cons p r ih =>
    intro Q f L M h1 h2 hQ hl
    obtain ⟨s, K, rfl, g1, g2, g3, g4⟩ := dGo_parts h1
    have hK := ih Q false K M g4 h2 hQ fun t ht => by
      refine hl t ?_
      cases K with
      | nil => cases ht
      | cons k K => rw [List.getLast?_cons_cons]; exact ht
    refine dGo_make g1 g2 (fun h0 => ?_) hK
    exfalso
    have hr := (g3 h0).1
    subst hr
    injection g4 with g4
    subst g4
    exact hl s rfl h0
theorem join_append {L M : List (List UInt8)} (hL : L ≠ []) (hM : M ≠ []) : Lib.join (L ++ M) [46] = Lib.join L [46] ++ 46 :: Lib.join M [46] := by
  induction L with
  | nil => exact absurd rfl hL
  | cons s L ih =>
    cases L with
    | nil =>
      cases M with
      | nil => exact absurd rfl hM
      | cons m r => rw [Lib.join_one]; simp [Lib.join, List.intercalate]
    | cons t r =>
      have e : ∀ (x : List (List UInt8)), x ≠ [] → Lib.join (s :: x) [46] = s ++ 46 :: Lib.join x [46] := by
        intro x hx
        cases x with
        | nil => exact absurd rfl hx
        | cons y z => simp [Lib.join, List.intercalate]
      rw [List.cons_append, e _ (by simp), e _ (by simp), ih (by simp), List.append_assoc]; rfl
theorem uVal_lost (m : Nat) : ∀ (b : List UInt8), b.length ≤ m → uVal b = false → (65533 : Int) ∈ uDec b := by
  induction m with
  | zero =>
    intro b hb h
    have : b = [] := List.eq_nil_of_length_eq_zero (by omega)
    subst this
    rw [uVal_nil] at h; cases h
  | succ m ih =>
    intro b hb h
    by_cases h0 : 0 < b.length
    · rw [uVal_step h0, Bool.and_eq_false_iff] at h
      rw [uDec_step h0]
      rcases h with h | h
      · have h := of_decide_eq_false h
        have e : (dec1 b).1 = 65533 := by
          revert h
          unfold dec1
          (repeat' split) <;> simp
        rw [e]; simp
      · refine List.mem_cons_of_mem _ (ih _ ?_ h)
        rw [List.length_drop]; omega
    · have : b = [] := List.eq_nil_of_length_eq_zero (by omega)
      subst this
      rw [uVal_nil] at h; cases h
theorem valid_of {b : List UInt8} (h : (65533 : Int) ∉ dText b) : uVal b = true := by
  cases e : uVal b with
  | true => rfl
  | false =>
    exfalso
    refine h ?_
    have hm := uVal_lost _ b (Nat.le_refl _) e
    unfold dText fText
    exact List.mem_map.2 ⟨65533, List.mem_filter.2 ⟨hm, by decide⟩, by decide⟩
theorem dText_dot {a : List UInt8} (h : uVal a = true) (b : List UInt8) : dText (a ++ 46 :: b) = dText a ++ 46 :: dText b := by
  unfold dText
  rw [uDec_append h]
  have e : uDec (46 :: b) = 46 :: uDec b := by
    have := uDec_enc [46] b
    exact this
  rw [e, fText_append]
  congr 1
theorem getLast_join {L : List (List UInt8)} {l : List UInt8} (h : L.getLast? = some l) (h0 : l = []) : Lib.join L [46] = [] ∨ (Lib.join L [46]).getLast? = some 46 := by
  subst h0
  induction L with
  | nil => cases h
  | cons s L ih =>
    cases L with
    | nil => injection h with h; subst h; exact .inl (Lib.join_one _ _)
    | cons t r =>
      have h' : (t :: r).getLast? = some [] := by rwa [List.getLast?_cons_cons] at h
      have e : Lib.join (s :: t :: r) [46] = s ++ 46 :: Lib.join (t :: r) [46] := by simp [Lib.join, List.intercalate]
      rw [e]
      right
      rcases ih h' with h | h
      · rw [h]; simp
      · rw [List.getLast?_append, List.getLast?_cons]
        simp [h]
theorem dTrim_le (s : List UInt8) : (dTrim s).length ≤ s.length := by
  unfold dTrim; split
  · rw [List.length_dropLast]; omega
  · exact Nat.le_refl _
theorem dASCII_side {a b x y : List UInt8} (ha : dASCII a = some x) (hb : dASCII b = some y) (hab : a.length + b.length ≤ 399) (hx0 : x ≠ []) (hx : x.getLast? ≠ some 46) (hxy : x.length + y.length ≤ 250) :
    dASCII (a ++ 46 :: b) = some (x ++ 46 :: y) := by
  obtain ⟨_, a2, L, a3, a4, a5⟩ := dASCII_some ha
  obtain ⟨_, b2, M, b3, b4, b5⟩ := dASCII_some hb
  have hd := dText_dot (valid_of a2) b
  have hl : ∀ s, L.getLast? = some s → s ≠ [] := fun s hs h0 => by
    rcases getLast_join hs h0 with h | h
    · exact hx0 (a4.trans h)
    · exact hx (by rw [a4]; exact h)
  have hg := dGo_append _ _ true L M a3 b3 (cutZ_ne _) hl
  refine dASCII_of (L := L ++ M) (by simp; omega) ?_ ?_ ?_ ?_
  · rw [hd]; simp [a2, b2]
  · unfold dNames; rw [hd, cutZ_append]; exact hg
  · rw [join_append (dNames_ne a3) (dNames_ne b3), ← a4, ← b4]
  · obtain ⟨_, ea, _⟩ := dEnd_some a5
    obtain ⟨_, eb, _⟩ := dEnd_some b5
    have hn : (x ++ 46 :: y).any dNo = false := by
      rw [List.any_append, List.any_cons, ea, eb]; decide
    have ht := dTrim_le (x ++ 46 :: y)
    unfold dEnd
    rw [if_neg]
    rintro (h | h)
    · rw [hn] at h; cases h
    · simp at ht; omega
/-- Each label by itself. -/
theorem Name.label {s : List UInt8} {L : List (List UInt8)} (h : Name s L) (hl : s.getLast? ≠ some 46) (h0 : s ≠ []) {l : List UInt8} (hm : l ∈ L) : dASCII l = some l := by
  obtain ⟨h63, hp, hlab⟩ := h.all l hm
  have hpl : ∀ c ∈ l, plainC c = true := fun c hc => (hp c hc).1
  have hsub : ∀ c ∈ l, c ∈ s := by
    rw [← h.cuts] at hm
    exact (cuts_mem 46 s l hm).2
  have hne : l ≠ [] := by
    intro e
    subst e
    have hgo : ∀ (P : List (List Int)) (K : List (List UInt8)) (f : Bool), dGo f P = some K → ([] : List UInt8) ∈ K → K.getLast? = some [] := by
      intro P
      induction P with
      | nil => intro K f hk hm; injection hk with hk; subst hk; cases hm
      | cons p r ih =>
        intro K f hk hm
        obtain ⟨t, J, rfl, g1, g2, g3, g4⟩ := dGo_parts hk
        rcases List.mem_cons.1 hm with e | hm
        · obtain ⟨e1, _⟩ := g3 e.symm
          subst e1
          injection g4 with g4
          subst g4
          rw [← e]; rfl
        · have := ih J false g4 hm
          cases J with
          | nil => cases hm
          | cons j J => rw [List.getLast?_cons_cons]; exact this
    rcases getLast_join (hgo _ _ _ h.go hm) rfl with e | e
    · exact h0 (h.join.trans e)
    · exact hl (by rw [h.join]; exact e)
  have hdot : (46 : UInt8) ∉ l := fun e => (hp 46 e).2 rfl
  refine dASCII_of (L := [l]) (by omega) (by rw [dText_plain hpl]; exact no_lost) ?_ (Lib.join_one _ _).symm ?_
  · unfold dNames
    rw [dText_plain hpl, cutZ_ints, cuts_whole hdot]
    exact dGo_make hlab h63 (fun e => absurd e hne) rfl
  · have ht := dTrim_le l
    have hn : l.any dNo = false := by
      have := (dEnd_some h.fin).2.1
      rw [List.any_eq_false] at this ⊢
      exact fun c hc => this c (hsub c hc)
    unfold dEnd
    rw [if_neg]
    rintro (e | e)
    · rw [hn] at e; cases e
    · omega
end Go.Proofs.YtfandijagdiggaaGreatDoor
