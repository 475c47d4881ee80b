/- Plain: the text and the numbers that Ip6Gaps builds up, round for round. -/
import Derived.Test.YtaglbcniomcfnaaDoorSixQ
namespace Go.Proofs.YtaglbcniomcfnaaDoor
set_option linter.all false

theorem taken_next {a : List Nat} {j x : Nat} (h : a[j]? = some x) : a.take (j + 1) = a.take j ++ [x] := by
  obtain ⟨hj, e⟩ := List.getElem?_eq_some_iff.1 h
  rw [List.take_succ, h]; rfl
theorem hexs4_next (l : List Nat) (x : Nat) : hexs dig4 (l ++ [x]) = if l = [] then dig4 x else hexs dig4 l ++ 58 :: dig4 x := by
  by_cases h : l = []
  · rw [if_pos h, h, List.nil_append, hexs_one]
  · rw [if_neg h, hexs_snoc _ _ _ h]
/-- The text ahead of round i. -/
def gapT (l : List Nat) (k i : Nat) : List UInt8 := if i ≤ k then hexs dig4 (l.take i) else hexs dig4 (l.take k) ++ 58 :: 58 :: hexs dig4 ((l.take i).drop k)
/-- The numbers ahead of round i. -/
def gapW (l : List Nat) (k i : Nat) : List Nat := if i ≤ k then l.take i ++ noughts (8 - i) else l.take k ++ noughts (8 - l.length) ++ (l.take i).drop k ++ noughts (l.length - i)
theorem gapT_at {l : List Nat} {k x : Nat} (h : l[k]? = some x) : gapT l k (k + 1) = gapT l k k ++ [58, 58] ++ dig4 x := by
  have hk := (List.getElem?_eq_some_iff.1 h).1
  unfold gapT
  rw [if_neg (by omega), if_pos (Nat.le_refl k), taken_next h, List.drop_append_of_le_length (by rw [List.length_take]; omega), List.drop_of_length_le (by rw [List.length_take]; omega), List.nil_append, hexs_one]
  simp
theorem gapT_first {l : List Nat} {k x : Nat} (h : l[0]? = some x) (hk : 0 ≠ k) : gapT l k 1 = gapT l k 0 ++ dig4 x := by
  unfold gapT
  rw [if_pos (by omega), if_pos (by omega), show 1 = 0 + 1 from rfl, taken_next h]
  simp [hexs_one, hexs_nil]
theorem gapT_next {l : List Nat} {k i x : Nat} (h : l[i]? = some x) (hk : i ≠ k) (h0 : 0 < i) : gapT l k (i + 1) = gapT l k i ++ [58] ++ dig4 x := by
  have hi := (List.getElem?_eq_some_iff.1 h).1
  unfold gapT
  by_cases hlt : i < k
  · rw [if_pos (by omega), if_pos (by omega), taken_next h, hexs4_next, if_neg (fun e => by have := congrArg List.length e; rw [List.length_take, List.length_nil] at this; omega)]
    simp
  · rw [if_neg (by omega), if_neg (by omega), taken_next h, List.drop_append_of_le_length (by rw [List.length_take]; omega), hexs4_next, if_neg (fun e => by have := congrArg List.length e; rw [List.length_drop, List.length_take, List.length_nil] at this; omega)]
    simp
theorem gapW_len {l : List Nat} {k i : Nat} (h7 : l.length ≤ 7) (hk : k ≤ l.length) (hi : i ≤ l.length) : (gapW l k i).length = 8 := by
  unfold gapW noughts
  split <;> simp <;> omega
theorem noughts_set {n x : Nat} (h : 0 < n) : (noughts n).set 0 x = x :: noughts (n - 1) := by
  cases n with
  | zero => omega
  | succ n => rfl
theorem gapW_lo {l : List Nat} {k i x : Nat} (h7 : l.length ≤ 7) (h : l[i]? = some x) (hk : i < k) : (gapW l k i).set i x = gapW l k (i + 1) := by
  have hi := (List.getElem?_eq_some_iff.1 h).1
  unfold gapW
  rw [if_pos (by omega), if_pos (by omega), taken_next h, List.set_append_right _ _ (by rw [List.length_take]; omega), show i - (l.take i).length = 0 by rw [List.length_take]; omega, noughts_set (by omega), show 8 - i - 1 = 8 - (i + 1) by omega]
  simp
theorem gapW_hi {l : List Nat} {k i x : Nat} (h7 : l.length ≤ 7) (h : l[i]? = some x) (hk : k ≤ i) : (gapW l k i).set (8 - l.length + i) x = gapW l k (i + 1) := by
  have hi := (List.getElem?_eq_some_iff.1 h).1
  have e : gapW l k i = l.take k ++ noughts (8 - l.length) ++ (l.take i).drop k ++ noughts (l.length - i) := by
    unfold gapW
    by_cases hik : i ≤ k
    · obtain rfl : i = k := by omega
      rw [if_pos hik, List.drop_of_length_le (by rw [List.length_take]; omega), List.append_nil, List.append_assoc]
      congr 1
      unfold noughts
      rw [List.replicate_append_replicate]
      congr 1; omega
    · rw [if_neg hik]
  have hl : (l.take k ++ noughts (8 - l.length) ++ (l.take i).drop k).length = 8 - l.length + i := by
    unfold noughts; simp; omega
  rw [e, List.set_append_right _ _ (by rw [hl]; omega), hl, Nat.sub_self, noughts_set (by omega)]
  unfold gapW
  rw [if_neg (by omega), taken_next h, List.drop_append_of_le_length (by rw [List.length_take]; omega), show l.length - i - 1 = l.length - (i + 1) by omega]
  simp
/-- The text behind the last round and the gap at the end. -/
def gapS (l : List Nat) (k : Nat) : List UInt8 := hexs dig4 (l.take k) ++ 58 :: 58 :: hexs dig4 (l.drop k)
theorem gapS_end {l : List Nat} : gapT l l.length l.length ++ [58, 58] = gapS l l.length := by
  unfold gapT gapS
  rw [if_pos (Nat.le_refl _), List.drop_length, hexs_nil]
theorem gapS_mid {l : List Nat} {k : Nat} (hk : k < l.length) : gapT l k l.length = gapS l k := by
  unfold gapT gapS
  rw [if_neg (by omega), List.take_length]
theorem gapW_end {l : List Nat} {k : Nat} (hk : k ≤ l.length) : gapW l k l.length = l.take k ++ noughts (8 - l.length) ++ l.drop k := by
  unfold gapW
  by_cases h : l.length ≤ k
  · obtain rfl : k = l.length := by omega
    rw [if_pos h, List.take_length, List.drop_length, List.append_nil]
  · rw [if_neg h, List.take_length, Nat.sub_self]
    simp [noughts]
theorem gapS_some {l : List Nat} {k : Nat} (h7 : l.length ≤ 7) (hk : k ≤ l.length) (h16 : ∀ x ∈ l, x < 65536) : pParse6 (gapS l k) = some (gapW l k l.length) := by
  rw [parse6_eq, gapW_end hk]
  unfold gapS
  rw [parse_gap spell_four (fun a h => h16 a (List.mem_of_mem_take h)) (fun a h => h16 a (List.mem_of_mem_drop h)) (by rw [List.length_take, List.length_drop]; omega), List.length_take, List.length_drop, show 8 - min k l.length - (l.length - k) = 8 - l.length by omega]
theorem gapS_two {l : List Nat} {k : Nat} (h16 : ∀ x ∈ l, x < 65536) : pParse6 (gapS l k ++ [58, 58]) = none := by
  have := parse_behind spell_four (x := l.take k) (fun a h => h16 a (List.mem_of_mem_take h)) (hexs dig4 (l.drop k) ++ [58])
  rw [parse6_eq, ← this]
  unfold gapS; simp
theorem gapS_one {l : List Nat} {k : Nat} (h16 : ∀ x ∈ l, x < 65536) : pParse6 (gapS l k ++ [58]) = none := by
  have := parse_behind spell_four (x := l.take k) (fun a h => h16 a (List.mem_of_mem_take h)) (hexs dig4 (l.drop k))
  rw [parse6_eq, ← this]
  unfold gapS; simp

/- Plain: the text that Ip6Rows and the reference's Show6 write, round for round: a gap at place g of n noughts. -/

/-- The text ahead of round i. -/
def gapRow (D : Nat → List UInt8) (a : List Nat) (g n i : Nat) : List UInt8 := if i ≤ g then hexs D (a.take i) else hexs D (a.take g) ++ 58 :: 58 :: hexs D ((a.take i).drop (g + n))
section
variable {D : Nat → List UInt8} {a : List Nat} {g n i x : Nat}
theorem hexsD_next (l : List Nat) (x : Nat) : hexs D (l ++ [x]) = if l = [] then D x else hexs D l ++ 58 :: D x := by
  by_cases h : l = []
  · rw [if_pos h, h, List.nil_append, hexs_one]
  · rw [if_neg h, hexs_snoc _ _ _ h]
theorem gapRow_zero : gapRow D a g n 0 = [] := by
  unfold gapRow; rw [if_pos (Nat.zero_le _)]; rfl
theorem gapRow_first (h : a[0]? = some x) (hg : 0 < g) : gapRow D a g n 1 = D x := by
  unfold gapRow
  rw [if_pos (by omega), show 1 = 0 + 1 from rfl, taken_next h]
  simp [hexs_one]
theorem gapRow_lo (h : a[i]? = some x) (h0 : 0 < i) (hg : i < g) : gapRow D a g n (i + 1) = gapRow D a g n i ++ [58] ++ D x := by
  have hi := (List.getElem?_eq_some_iff.1 h).1
  unfold gapRow
  rw [if_pos (by omega), if_pos (by omega), taken_next h, hexsD_next, if_neg (fun e => by have := congrArg List.length e; rw [List.length_take, List.length_nil] at this; omega)]
  simp
theorem gapRow_gap (hn : 0 < n) (hl : g + n ≤ a.length) : gapRow D a g n (g + n) = gapRow D a g n g ++ [58, 58] := by
  unfold gapRow
  rw [if_neg (by omega), if_pos (Nat.le_refl g), List.drop_of_length_le (by rw [List.length_take]; omega), hexs_nil]
theorem gapRow_behind (h : a[g + n]? = some x) (hn : 0 < n) : gapRow D a g n (g + n + 1) = gapRow D a g n (g + n) ++ D x := by
  have hi := (List.getElem?_eq_some_iff.1 h).1
  unfold gapRow
  rw [if_neg (by omega), if_neg (by omega), taken_next h, List.drop_append_of_le_length (by rw [List.length_take]; omega), List.drop_of_length_le (by rw [List.length_take]; omega), List.nil_append, hexs_one, hexs_nil]
  simp
theorem gapRow_hi (h : a[i]? = some x) (hn : 0 < n) (hg : g + n < i) : gapRow D a g n (i + 1) = gapRow D a g n i ++ [58] ++ D x := by
  have hi := (List.getElem?_eq_some_iff.1 h).1
  unfold gapRow
  rw [if_neg (by omega), if_neg (by omega), taken_next h, List.drop_append_of_le_length (by rw [List.length_take]; omega), hexsD_next, if_neg (fun e => by have := congrArg List.length e; rw [List.length_drop, List.length_take, List.length_nil] at this; omega)]
  simp
theorem gapRow_none (hg : a.length ≤ g) : gapRow D a g n a.length = hexs D a := by
  unfold gapRow
  rw [if_pos hg, List.take_length]
theorem gapRow_some (hn : 0 < n) (hl : g + n ≤ a.length) : gapRow D a g n a.length = hexs D (a.take g) ++ 58 :: 58 :: hexs D (a.drop (g + n)) := by
  unfold gapRow
  rw [if_neg (by omega), List.take_length]
/-- The text does not end with a colon behind a piece. -/
theorem hexs_last (hD : Spell D) {l : List Nat} (hl : l ≠ []) (h : ∀ x ∈ l, x < 65536) : ∃ p c, hexs D l = p ++ [c] ∧ c ≠ 58 := by
  obtain ⟨l', x, rfl⟩ : ∃ l' x, l = l' ++ [x] := ⟨l.dropLast, l.getLast hl, (List.dropLast_concat_getLast hl).symm⟩
  have hx := h x (by simp)
  have hne := spell_ne hD hx
  have hc := spell_colon hD hx
  have e : D x = (D x).dropLast ++ [(D x).getLast hne] := (List.dropLast_concat_getLast hne).symm
  have hm : (D x).getLast hne ≠ 58 := fun e => hc (e ▸ List.getLast_mem hne)
  rw [hexsD_next]
  by_cases h0 : l' = []
  · rw [if_pos h0]; exact ⟨_, _, e, hm⟩
  · rw [if_neg h0]; exact ⟨hexs D l' ++ 58 :: (D x).dropLast, _, by rw [List.append_assoc, List.cons_append, ← e], hm⟩
theorem gapRow_last_lo (hD : Spell D) (h : ∀ x ∈ a, x < 65536) (h0 : 0 < i) (hi : i ≤ a.length) (hg : i ≤ g) : ∃ p c, gapRow D a g n i = p ++ [c] ∧ c ≠ 58 := by
  unfold gapRow
  rw [if_pos hg]
  exact hexs_last hD (fun e => by have := congrArg List.length e; rw [List.length_take, List.length_nil] at this; omega) (fun x hx => h x (List.mem_of_mem_take hx))
theorem gapRow_last_hi (hD : Spell D) (h : ∀ x ∈ a, x < 65536) (hn : 0 < n) (hi : i ≤ a.length) (hg : g + n < i) : ∃ p c, gapRow D a g n i = p ++ [c] ∧ c ≠ 58 := by
  unfold gapRow
  rw [if_neg (by omega)]
  obtain ⟨p, c, e, hc⟩ := hexs_last hD (l := (a.take i).drop (g + n)) (fun e => by have := congrArg List.length e; rw [List.length_drop, List.length_take, List.length_nil] at this; omega) (fun x hx => h x (List.mem_of_mem_take (List.mem_of_mem_drop hx)))
  exact ⟨hexs D (a.take g) ++ 58 :: 58 :: p, c, by rw [e]; simp, hc⟩
end

/- Plain: the pieces that Ip6Rows makes of a byte; the text that is written round for round, as the rounds meet it. -/

def bitM (m i : Nat) : Nat := m / 2 ^ i % 2
def bitsM (m : Nat) : List Nat := (List.range 8).map (bitM m)
theorem bitsM_len (m : Nat) : (bitsM m).length = 8 := by unfold bitsM; rw [List.length_map, List.length_range]
theorem bitsM_get {m i : Nat} (h : i < 8) : (bitsM m)[i]? = some (bitM m i) := by
  unfold bitsM; rw [List.getElem?_map, List.getElem?_range h]; rfl
theorem bitM_lt (m i : Nat) : bitM m i < 2 := Nat.mod_lt _ (by decide)
theorem bitsM_lt {m x : Nat} (h : x ∈ bitsM m) : x < 2 := by
  obtain ⟨i, _, rfl⟩ := List.mem_map.1 h
  exact bitM_lt m i
def bitsTo (m j : Nat) : List Nat := (bitsM m).take j ++ noughts (8 - j)
theorem bitsTo_zero (m : Nat) : bitsTo m 0 = [0, 0, 0, 0, 0, 0, 0, 0] := rfl
theorem bitsTo_end (m : Nat) : bitsTo m 8 = bitsM m := by
  unfold bitsTo noughts; rw [List.take_of_length_le (Nat.le_of_eq (bitsM_len m))]; simp
theorem bitsTo_len {m j : Nat} (h : j ≤ 8) : (bitsTo m j).length = 8 := by
  unfold bitsTo noughts; rw [List.length_append, List.length_take, bitsM_len, List.length_replicate]; omega
theorem bitsTo_set {m j : Nat} (h : j < 8) : (bitsTo m j).set j (bitM m j) = bitsTo m (j + 1) := by
  unfold bitsTo
  rw [taken_next (bitsM_get h), List.set_append_right _ _ (by rw [List.length_take, bitsM_len]; omega), show j - ((bitsM m).take j).length = 0 by rw [List.length_take, bitsM_len]; omega, noughts_set (by omega), show 8 - j - 1 = 8 - (j + 1) by omega]
  simp

def gapG (s : Nat × Nat) : Nat := if 2 ≤ s.2 then s.1 else 8
theorem gapG_at {s : Nat × Nat} {i : Nat} (h : i < 8) : (i : Int) = rAt s ↔ i = gapG s := by
  unfold rAt gapG
  split <;> omega
def rowT (a : List Nat) (i : Nat) : List UInt8 := gapRow (digs 16) a (gapG (rowI a 8)) (rLong (rowI a 8)) i
def rowG (a : List Nat) : Nat := gapG (rowI a 8)
def rowN (a : List Nat) : Nat := rLong (rowI a 8)
section
variable {a : List Nat} (h8 : a.length = 8)
include h8
theorem rowN_pos : 0 < rowN a := by unfold rowN rLong; omega
theorem rowN_le : rowN a ≤ 8 := by
  unfold rowN rLong
  by_cases h2 : 2 ≤ (rowI a 8).2
  · have := (rowI_parts a 8 h2).2; omega
  · omega
theorem rowG_in (h : rowG a < 8) : rowG a + rowN a ≤ 8 := by
  unfold rowG rowN rLong gapG at *
  by_cases h2 : 2 ≤ (rowI a 8).2
  · have := (rowI_parts a 8 h2).2; rw [if_pos h2] at *; omega
  · rw [if_neg h2] at h; omega
theorem rowG_le : rowG a ≤ 8 := by
  unfold rowG gapG
  by_cases h2 : 2 ≤ (rowI a 8).2
  · have := (rowI_parts a 8 h2).2; rw [if_pos h2]; omega
  · rw [if_neg h2]; exact Nat.le_refl _
theorem rowT_zero : rowT a 0 = [] := gapRow_zero
theorem rowT_end : rowT a 8 = pShow6 a := by
  have hg := rowG_in (a := a) h8
  have hp := rowN_pos (a := a) h8
  unfold rowT pShow6 pShowD
  unfold rowG rowN at hg hp
  unfold gapG at *
  by_cases h2 : 2 ≤ (rowI a 8).2
  · rw [if_pos h2] at *
    have hi := (rowI_parts a 8 h2).2
    have e : rLong (rowI a 8) = (rowI a 8).2 := by unfold rLong; omega
    rw [if_neg (by omega), e]
    have := gapRow_some (D := digs 16) (a := a) (g := (rowI a 8).1) (n := (rowI a 8).2) (by omega) hi
    rw [h8] at this
    exact this
  · rw [if_neg h2, if_pos (by omega)]
    have := gapRow_none (D := digs 16) (a := a) (g := 8) (n := rLong (rowI a 8)) (by omega)
    rw [h8] at this
    exact this
/-- The gap. -/
theorem rowT_gap (hg : rowG a < 8) : rowT a (rowG a + rowN a) = rowT a (rowG a) ++ [58, 58] :=
  gapRow_gap (rowN_pos h8) (by rw [h8]; exact rowG_in h8 hg)
/-- A piece: nothing stands ahead, or a colon, or a piece. -/
theorem rowT_cases (h16 : ∀ x ∈ a, x < 65536) {i x : Nat} (hx : a[i]? = some x) (hne : i ≠ rowG a) (hin : i ≤ rowG a ∨ rowG a + rowN a ≤ i) :
    (rowT a i = [] ∧ rowT a (i + 1) = digs 16 x) ∨ (∃ p, rowT a i = p ++ [58] ∧ rowT a (i + 1) = rowT a i ++ digs 16 x) ∨ (∃ p c, rowT a i = p ++ [c] ∧ c ≠ 58 ∧ rowT a (i + 1) = rowT a i ++ [58] ++ digs 16 x) := by
  have hi := (List.getElem?_eq_some_iff.1 hx).1
  have hp := rowN_pos (a := a) h8
  by_cases h0 : i < rowG a
  · by_cases hz : i = 0
    · subst hz
      exact .inl ⟨gapRow_zero, gapRow_first hx h0⟩
    · obtain ⟨p, c, e, hc⟩ := gapRow_last_lo (D := digs 16) (a := a) (g := rowG a) (n := rowN a) (i := i) spell_digs h16 (by omega) (by omega) (by omega)
      exact .inr (.inr ⟨p, c, e, hc, gapRow_lo hx (by omega) h0⟩)
  · by_cases he : i = rowG a + rowN a
    · subst he
      refine .inr (.inl ⟨rowT a (rowG a) ++ [58], ?_, gapRow_behind hx hp⟩)
      rw [rowT_gap h8 (by omega)]; simp
    · obtain ⟨p, c, e, hc⟩ := gapRow_last_hi (D := digs 16) (a := a) (g := rowG a) (n := rowN a) (i := i) spell_digs h16 hp (by omega) (by omega)
      exact .inr (.inr ⟨p, c, e, hc, gapRow_hi hx hp (by show rowG a + rowN a < i; omega)⟩)
theorem rowT_next {i : Nat} (hne : i ≠ rowG a) (hin : i ≤ rowG a ∨ rowG a + rowN a ≤ i) : i + 1 ≤ rowG a ∨ rowG a + rowN a ≤ i + 1 := by omega
end
end Go.Proofs.YtaglbcniomcfnaaDoor

