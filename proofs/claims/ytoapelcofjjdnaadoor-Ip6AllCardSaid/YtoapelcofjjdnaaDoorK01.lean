/- Texts cut at a byte, and what the library's Split, Cut and Replace say of one byte: plain. -/
import Derived.Test.YtoapelcofjjdnaaDoorK00
import Derived.Lib.SplitLaws
import Derived.Lib.ReplaceLaws
import Derived.Lib.Join
namespace Go.Proofs.YtoapelcofjjdnaaDoor
set_option linter.all false

/-- The pieces of a text between the bytes c. -/
def cuts (c : UInt8) : List UInt8 → List (List UInt8)
  | [] => [[]]
  | x :: t => if x = c then [] :: cuts c t else match cuts c t with
    | [] => [[x]]
    | p :: r => (x :: p) :: r
theorem cuts_ne (c : UInt8) (s : List UInt8) : cuts c s ≠ [] := by
  cases s with
  | nil => simp [cuts]
  | cons x t =>
    unfold cuts
    split
    · simp
    · split <;> simp
theorem cuts_pos (c : UInt8) (s : List UInt8) : 0 < (cuts c s).length := List.length_pos_iff.2 (cuts_ne c s)
theorem cuts_hit (c : UInt8) (t : List UInt8) : cuts c (c :: t) = [] :: cuts c t := by rw [cuts, if_pos rfl]
theorem cuts_miss {c x : UInt8} (h : x ≠ c) {t p : List UInt8} {r : List (List UInt8)} (e : cuts c t = p :: r) : cuts c (x :: t) = (x :: p) :: r := by
  rw [cuts, if_neg h, e]
theorem cuts_whole {c : UInt8} : ∀ {s : List UInt8}, c ∉ s → cuts c s = [s] := by
  intro s
  induction s with
  | nil => intro _; rfl
  | cons x t ih =>
    intro h
    rw [List.mem_cons, not_or] at h
    exact cuts_miss (fun e => h.1 e.symm) (ih h.2)
theorem cuts_at {c : UInt8} (t : List UInt8) : ∀ {a : List UInt8}, c ∉ a → cuts c (a ++ c :: t) = a :: cuts c t := by
  intro a
  induction a with
  | nil => intro _; exact cuts_hit c t
  | cons x a ih =>
    intro h
    rw [List.mem_cons, not_or] at h
    exact cuts_miss (fun e => h.1 e.symm) (ih h.2)
theorem cuts_append (c : UInt8) (t : List UInt8) : ∀ (a : List UInt8), cuts c (a ++ c :: t) = cuts c a ++ cuts c t := by
  intro a
  induction a with
  | nil => exact cuts_hit c t
  | cons x a ih =>
    by_cases h : x = c
    · subst h
      rw [List.cons_append, cuts_hit, cuts_hit, ih]; rfl
    · obtain ⟨p, r, e⟩ : ∃ p r, cuts c a = p :: r := List.exists_cons_of_ne_nil (cuts_ne c a)
      rw [e] at ih
      rw [List.cons_append, cuts_miss h ih, cuts_miss h e]; rfl
/-- One byte more: a piece more, or the last piece grows. -/
theorem cuts_snoc_hit (c : UInt8) (s : List UInt8) : cuts c (s ++ [c]) = cuts c s ++ [[]] := cuts_append c [] s
theorem cuts_snoc {c x : UInt8} (h : x ≠ c) : ∀ (s : List UInt8), ∃ q l, cuts c s = q ++ [l] ∧ cuts c (s ++ [x]) = q ++ [l ++ [x]] := by
  intro s
  induction s with
  | nil => exact ⟨[], [], rfl, cuts_miss h rfl⟩
  | cons y s ih =>
    obtain ⟨q, l, e1, e2⟩ := ih
    by_cases hy : y = c
    · subst hy
      exact ⟨[] :: q, l, by rw [cuts_hit, e1]; rfl, by rw [List.cons_append, cuts_hit, e2]; rfl⟩
    · cases q with
      | nil => exact ⟨[], y :: l, cuts_miss hy e1, cuts_miss hy e2⟩
      | cons p q => exact ⟨(y :: p) :: q, l, cuts_miss hy e1, cuts_miss hy e2⟩
theorem cuts_len (c : UInt8) (s : List UInt8) : (cuts c s).length = s.count c + 1 := by
  induction s with
  | nil => rfl
  | cons x t ih =>
    by_cases h : x = c
    · subst h; rw [cuts_hit, List.length_cons, ih, List.count_cons_self]
    · obtain ⟨p, r, e⟩ : ∃ p r, cuts c t = p :: r := List.exists_cons_of_ne_nil (cuts_ne c t)
      rw [e] at ih
      rw [cuts_miss h e, List.length_cons, List.count_cons_of_ne (by simpa using h)]
      simpa using ih
theorem cuts_le (c : UInt8) (s : List UInt8) : (cuts c s).length ≤ s.length + 1 := by
  rw [cuts_len]; have := List.count_le_length (a := c) (l := s); omega
theorem cuts_mem (c : UInt8) : ∀ (s p : List UInt8), p ∈ cuts c s → c ∉ p ∧ ∀ x ∈ p, x ∈ s := by
  intro s
  induction s with
  | nil => intro p hp; rw [show cuts c [] = [[]] from rfl, List.mem_singleton] at hp; subst hp; simp
  | cons y s ih =>
    intro p hp
    by_cases hy : y = c
    · subst hy
      rw [cuts_hit] at hp
      rcases List.mem_cons.1 hp with rfl | hp
      · simp
      · exact ⟨(ih p hp).1, fun x hx => List.mem_cons_of_mem _ ((ih p hp).2 x hx)⟩
    · obtain ⟨p0, r, e⟩ : ∃ p r, cuts c s = p :: r := List.exists_cons_of_ne_nil (cuts_ne c s)
      rw [cuts_miss hy e] at hp
      rw [e] at ih
      rcases List.mem_cons.1 hp with rfl | hp
      · have h0 := ih p0 (by simp)
        refine ⟨?_, ?_⟩
        · rw [List.mem_cons, not_or]; exact ⟨fun e => hy e.symm, h0.1⟩
        · intro x hx
          rcases List.mem_cons.1 hx with rfl | hx
          · simp
          · exact List.mem_cons_of_mem _ (h0.2 x hx)
      · have h0 := ih p (by simp [hp])
        exact ⟨h0.1, fun x hx => List.mem_cons_of_mem _ (h0.2 x hx)⟩
theorem cuts_sum (c : UInt8) : ∀ (s p : List UInt8), p ∈ cuts c s → p.length ≤ s.length := by
  intro s
  induction s with
  | nil => intro p hp; rw [show cuts c [] = [[]] from rfl, List.mem_singleton] at hp; subst hp; simp
  | cons y s ih =>
    intro p hp
    by_cases hy : y = c
    · subst hy
      rw [cuts_hit] at hp
      rcases List.mem_cons.1 hp with rfl | hp
      · simp
      · have := ih p hp; simp; omega
    · obtain ⟨p0, r, e⟩ : ∃ p r, cuts c s = p :: r := List.exists_cons_of_ne_nil (cuts_ne c s)
      rw [cuts_miss hy e] at hp
      rw [e] at ih
      rcases List.mem_cons.1 hp with rfl | hp
      · have h0 := ih p0 (by simp); simp; omega
      · have h0 := ih p (by simp [hp]); simp; omega
theorem cuts_parts (c : UInt8) (s : List UInt8) : (cuts c s).flatten.length ≤ s.length := by
  induction s with
  | nil => simp [cuts]
  | cons y s ih =>
    by_cases hy : y = c
    · subst hy; rw [cuts_hit]; simp at ih ⊢; omega
    · obtain ⟨p0, r, e⟩ : ∃ p r, cuts c s = p :: r := List.exists_cons_of_ne_nil (cuts_ne c s)
      rw [e] at ih
      rw [cuts_miss hy e]
      simp at ih ⊢; omega
/-- The pieces, joined, are the text. -/
theorem join_cuts (c : UInt8) : ∀ (s : List UInt8), Lib.join (cuts c s) [c] = s := by
  intro s
  induction s with
  | nil => rfl
  | cons y s ih =>
    obtain ⟨p0, r, e⟩ : ∃ p r, cuts c s = p :: r := List.exists_cons_of_ne_nil (cuts_ne c s)
    rw [e, Lib.join_cons] at ih
    by_cases hy : y = c
    · subst hy
      rw [cuts_hit, Lib.join_cons, e]
      unfold Lib.joinTail at ih ⊢
      rw [List.map_cons, List.flatten_cons, List.nil_append, List.append_assoc, ih]; rfl
    · rw [cuts_miss hy e, Lib.join_cons, List.cons_append, ih]
/-- Pieces without c, joined, are cut as they were. -/
theorem cuts_join {c : UInt8} : ∀ {l : List (List UInt8)}, l ≠ [] → (∀ p ∈ l, c ∉ p) → cuts c (Lib.join l [c]) = l := by
  intro l
  induction l with
  | nil => intro h; exact absurd rfl h
  | cons p r ih =>
    intro _ hp
    have h0 := hp p (by simp)
    cases r with
    | nil => rw [Lib.join_one, cuts_whole h0]
    | cons q r =>
      have e : Lib.join (p :: q :: r) [c] = p ++ c :: Lib.join (q :: r) [c] := by
        rw [Lib.join_cons, Lib.join_cons]
        unfold Lib.joinTail
        simp
      rw [e, cuts_at _ h0, ih (by simp) (fun x hx => hp x (by simp [hx]))]

/-- Where a byte stands first. -/
theorem first_parts {c : UInt8} {s : List UInt8} (h : c ∈ s) : ∃ a t, s = a ++ c :: t ∧ c ∉ a := by
  induction s with
  | nil => cases h
  | cons x s ih =>
    by_cases hx : x = c
    · subst hx; exact ⟨[], s, rfl, by simp⟩
    · have h' : c ∈ s := by rcases List.mem_cons.1 h with e | h; exact absurd e.symm hx; exact h
      obtain ⟨a, t, e, hn⟩ := ih h'
      refine ⟨x :: a, t, by rw [e]; rfl, ?_⟩
      rw [List.mem_cons, not_or]; exact ⟨fun e => hx e.symm, hn⟩
theorem index_cons (b c : UInt8) (l : List UInt8) : Lib.index (b :: l) [c] = if c = b then 0 else if Lib.index l [c] == -1 then -1 else Lib.index l [c] + 1 := by
  unfold Lib.index
  rw [show ([c] : List UInt8).isPrefixOf (b :: l) = (c == b) from by simp [List.isPrefixOf]]
  by_cases h : c = b
  · rw [if_pos (by simpa using h), if_pos h]
  · rw [if_neg (by simpa using h), if_neg h]; cases l <;> rfl
theorem index_none {c : UInt8} : ∀ {s : List UInt8}, c ∉ s → Lib.index s [c] = -1 := by
  intro s
  induction s with
  | nil => intro _; rfl
  | cons x t ih =>
    intro h
    rw [List.mem_cons, not_or] at h
    rw [index_cons, if_neg h.1, ih h.2]; rfl
theorem index_some {c : UInt8} (t : List UInt8) : ∀ {a : List UInt8}, c ∉ a → Lib.index (a ++ c :: t) [c] = a.length := by
  intro a
  induction a with
  | nil => intro _; rw [List.nil_append, index_cons, if_pos rfl]; rfl
  | cons x a ih =>
    intro h
    rw [List.mem_cons, not_or] at h
    rw [List.cons_append, index_cons, if_neg h.1, ih h.2, if_neg (by simp; try omega)]
    simp
theorem splitK_cuts (c : UInt8) : ∀ (k : Nat) (s : List UInt8), s.count c = k → Lib.splitK [c] 0 k s = cuts c s := by
  intro k
  induction k with
  | zero =>
    intro s h
    rw [cuts_whole (List.count_eq_zero.1 h)]; rfl
  | succ k ih =>
    intro s h
    have hm : c ∈ s := by rw [← List.count_pos_iff]; omega
    obtain ⟨a, t, rfl, hn⟩ := first_parts hm
    rw [List.count_append, List.count_eq_zero_of_not_mem hn, List.count_cons_self] at h
    rw [cuts_at _ hn, ← ih t (by omega)]
    rw [Lib.splitK, index_some t hn, if_neg (by simp)]
    simp
theorem split_cuts (c : UInt8) (s : List UInt8) : Lib.split s [c] = cuts c s := by
  unfold Lib.split
  exact splitK_cuts c _ s (Lib.count_one c s).symm
theorem replaceK_map (o n : UInt8) : ∀ (k : Nat) (s : List UInt8), s.count o = k → Lib.replaceK [o] [n] k s = s.map fun c => if c = o then n else c := by
  intro k
  induction k with
  | zero =>
    intro s h
    have hm : o ∉ s := List.count_eq_zero.1 h
    show s = _
    conv => lhs; rw [← List.map_id s]
    exact List.map_congr_left fun c hc => by rw [if_neg (fun e => hm (by rw [← e]; exact hc))]; rfl
  | succ k ih =>
    intro s h
    have hm : o ∈ s := by rw [← List.count_pos_iff]; omega
    obtain ⟨a, t, rfl, hn⟩ := first_parts hm
    rw [List.count_append, List.count_eq_zero_of_not_mem hn, List.count_cons_self] at h
    rw [Lib.replaceK_hit _ _ _ _ a.length (index_some t hn)]
    have e : (a ++ o :: t).drop (a.length + [o].length) = t := by
      rw [List.length_singleton, ← List.drop_drop, List.drop_left]; rfl
    rw [e, ih t (by omega), List.take_left, List.map_append, List.map_cons, if_pos rfl]
    have ha : (a.map fun c => if c = o then n else c) = a := by
      conv => rhs; rw [← List.map_id a]
      exact List.map_congr_left fun c hc => by rw [if_neg (fun e => hn (by rw [← e]; exact hc))]; rfl
    rw [ha]; simp
theorem replaceAll_map {o n : UInt8} (h : o ≠ n) (s : List UInt8) : Lib.replaceAll s [o] [n] = s.map fun c => if c = o then n else c := by
  unfold Lib.replaceAll Lib.replace
  rw [if_neg (by simpa using h)]
  exact replaceK_map o n _ s (by unfold Lib.replaceNum; rw [if_pos (by omega), Lib.count_one])
/-- Ahead of the first c, and behind it. -/
def ahead (c : UInt8) (s : List UInt8) : List UInt8 := s.takeWhile (· ≠ c)
def behind (c : UInt8) (s : List UInt8) : List UInt8 := (s.dropWhile (· ≠ c)).drop 1
theorem ahead_whole {c : UInt8} {s : List UInt8} (h : c ∉ s) : ahead c s = s ∧ behind c s = [] := by
  have h1 : s.takeWhile (· ≠ c) = s := by
    induction s with
    | nil => rfl
    | cons x s ih =>
      rw [List.mem_cons, not_or] at h
      rw [List.takeWhile_cons_of_pos (by simpa using fun e => h.1 e.symm), ih h.2]
  refine ⟨h1, ?_⟩
  unfold behind
  have h2 := List.takeWhile_append_dropWhile (p := (· ≠ c)) (l := s)
  rw [h1] at h2
  have : s.dropWhile (· ≠ c) = [] := by simpa using h2
  rw [this]; rfl
theorem ahead_at {c : UInt8} (t : List UInt8) {a : List UInt8} (h : c ∉ a) : ahead c (a ++ c :: t) = a ∧ behind c (a ++ c :: t) = t := by
  unfold ahead behind
  have ha : ∀ x ∈ a, (decide (x ≠ c)) = true := fun x hx => decide_eq_true (fun e => h (by rw [← e]; exact hx))
  rw [List.takeWhile_append_of_pos ha, List.dropWhile_append_of_pos ha]
  simp
theorem cut_one (c : UInt8) (s : List UInt8) : (Lib.cut s [c]).1 = ahead c s ∧ (Lib.cut s [c]).2.1 = behind c s := by
  by_cases h : c ∈ s
  · obtain ⟨a, t, rfl, hn⟩ := first_parts h
    unfold Lib.cut
    rw [index_some t hn, if_pos (by omega), (ahead_at t hn).1, (ahead_at t hn).2]
    simp
  · unfold Lib.cut
    rw [index_none h, if_neg (by decide), (ahead_whole h).1, (ahead_whole h).2]
    exact ⟨rfl, rfl⟩
end Go.Proofs.YtoapelcofjjdnaaDoor

namespace Go.Proofs.YtoapelcofjjdnaaDoor
set_option linter.all false

abbrev Pr := List UInt8 × List UInt8
def qText (s : List UInt8) : List UInt8 := uEnc (uDec (pDec (s.map plus)))
def qPair (p : List UInt8) : Pr := (qText (ahead 61 p), qText (behind 61 p))
def full (p : List UInt8) : Bool := !p.isEmpty
def qPieces (s : List UInt8) : List (List UInt8) := (cuts 38 s).filter full
def qPairs (s : List UInt8) : List Pr := ((qPieces s).take 40).map qPair
def qOne (p : Pr) : List UInt8 := pEnc 6 p.1 ++ 61 :: pEnc 6 p.2
def qShow (l : List Pr) : List UInt8 := Lib.join (l.map qOne) [38]
def qRight (s : List UInt8) : List UInt8 := uEnc (uDec s)
def qRight2 (p : Pr) : Pr := (qRight p.1, qRight p.2)

theorem form_one : ∀ n, n < 256 → ∀ x ∈ pEnc1 6 (UInt8.ofNat n), x ≠ 38 ∧ x ≠ 61 := by decide +kernel
theorem form_out (l : List UInt8) : ∀ x ∈ pEnc 6 l, x ≠ 38 ∧ x ≠ 61 := by
  intro x hx
  obtain ⟨c, hc, hx⟩ := List.mem_flatMap.1 hx
  have h := form_one c.toNat (byte_lt c)
  rw [UInt8.ofNat_toNat] at h
  exact h x hx
theorem qOne_out (p : Pr) : (38 : UInt8) ∉ qOne p := by
  intro h
  unfold qOne at h
  rcases List.mem_append.1 h with h | h
  · exact (form_out _ _ h).1 rfl
  · rcases List.mem_cons.1 h with h | h
    · exact absurd h (by decide)
    · exact (form_out _ _ h).1 rfl
theorem qOne_full (p : Pr) : full (qOne p) = true := by unfold full qOne; simp
theorem qText_form (s : List UInt8) : qText (pEnc 6 s) = qRight s := by unfold qText qRight; rw [pDec_form]
theorem qPair_one (p : Pr) : qPair (qOne p) = qRight2 p := by
  have h : (61 : UInt8) ∉ pEnc 6 p.1 := fun h => (form_out _ _ h).2 rfl
  unfold qPair qOne
  rw [(ahead_at _ h).1, (ahead_at _ h).2, qText_form, qText_form]; rfl
theorem qPieces_show (l : List Pr) : qPieces (qShow l) = l.map qOne := by
  unfold qPieces qShow
  by_cases h : l = []
  · subst h; rfl
  · rw [cuts_join (by simpa using h) (by intro p hp; obtain ⟨q, _, rfl⟩ := List.mem_map.1 hp; exact qOne_out q)]
    exact List.filter_eq_self.2 (by intro p hp; obtain ⟨q, _, rfl⟩ := List.mem_map.1 hp; exact qOne_full q)
theorem qPairs_show {l : List Pr} (h : l.length ≤ 40) : qPairs (qShow l) = l.map qRight2 := by
  unfold qPairs
  rw [qPieces_show, List.take_of_length_le (by simpa using h), List.map_map]
  exact List.map_congr_left fun p _ => qPair_one p
theorem uDec_uEnc {l : List Int} (h : ∀ r ∈ l, cpOk r = true) : uDec (uEnc l) = l := by
  have e := uDec_enc l []
  rw [List.append_nil, uDec_nil, List.append_nil, map_cpFix h] at e
  exact e
theorem qRight_twice (s : List UInt8) : qRight (qRight s) = qRight s := by
  unfold qRight; rw [uDec_uEnc (uDec_ok s)]
theorem qRight2_twice (p : Pr) : qRight2 (qRight2 p) = qRight2 p := by unfold qRight2; rw [qRight_twice, qRight_twice]
theorem qPairs_right {l : List Pr} (h : l.length ≤ 40) : qPairs (qShow (l.map qRight2)) = l.map qRight2 := by
  rw [qPairs_show (by simpa using h), List.map_map]
  exact List.map_congr_left fun p _ => qRight2_twice p
theorem qPieces_side (a b : List UInt8) : qPieces (a ++ 38 :: b) = qPieces a ++ qPieces b := by
  unfold qPieces; rw [cuts_append, List.filter_append]
theorem qPairs_len (s : List UInt8) : (qPairs s).length = min 40 (qPieces s).length := by unfold qPairs; rw [List.length_map, List.length_take]
theorem qPairs_side {a b : List UInt8} (h : (qPairs a).length + (qPairs b).length ≤ 40) : qPairs (a ++ 38 :: b) = qPairs a ++ qPairs b := by
  rw [qPairs_len, qPairs_len] at h
  unfold qPairs
  rw [qPieces_side, ← List.map_append, List.take_append]
  congr 1
  by_cases h0 : (qPieces a).length = 0
  · rw [List.eq_nil_of_length_eq_zero h0]; simp
  by_cases h1 : (qPieces a).length ≤ 40
  · rw [List.take_of_length_le h1, List.take_of_length_le (by omega), List.take_of_length_le (by omega)]
  · have hb : (qPieces b).length = 0 := by omega
    rw [List.eq_nil_of_length_eq_zero hb]; simp
/-- The k-th question of QueryMost. -/
def qMost : Nat → List UInt8
  | 0 => []
  | k + 1 => qMost k ++ 38 :: UInt8.ofNat (97 + k % 26) :: [61, 49, 38]
theorem qMost_pieces : ∀ k, (qPieces (qMost k)).length = k := by
  intro k
  induction k with
  | zero => rfl
  | succ k ih =>
    have h0 : UInt8.ofNat (97 + k % 26) ≠ 38 := by
      intro e
      have e2 : (UInt8.ofNat (97 + k % 26)).toNat = 38 := by rw [e]; rfl
      rw [UInt8.toNat_ofNat', Nat.mod_eq_of_lt (by omega)] at e2
      omega
    have e : qMost (k + 1) = qMost k ++ 38 :: ([UInt8.ofNat (97 + k % 26), 61, 49] ++ 38 :: []) := rfl
    have hn : (38 : UInt8) ∉ [UInt8.ofNat (97 + k % 26), 61, 49] := by
      intro hm
      rcases List.mem_cons.1 hm with hm | hm
      · exact h0 hm.symm
      · exact absurd hm (by decide)
    rw [e, qPieces_side, List.length_append, ih]
    congr 1
    unfold qPieces
    rw [cuts_at _ hn]
    rfl
theorem qMost_len (k : Nat) : (qMost k).length = 5 * k := by
  induction k with
  | zero => rfl
  | succ k ih => unfold qMost; simp [ih]; omega
theorem qMost_pairs (k : Nat) : (qPairs (qMost k)).length = min k 40 := by rw [qPairs_len, qMost_pieces, Nat.min_comm]
theorem qText_len (s : List UInt8) : (qText s).length ≤ 4 * s.length := by
  unfold qText
  have h1 := uEnc_le (uDec (pDec (s.map plus)))
  have h2 := uDec_len_le (pDec (s.map plus))
  have h3 := pDec_len_le (s.map plus)
  rw [List.length_map] at h3
  omega
end Go.Proofs.YtoapelcofjjdnaaDoor
