/- Plain: the text and the numbers that Ip6Gaps builds up, round for round. -/
import Derived.Test.YtaglbcniomcfnaaDoorSixQ
namespace Go.Proofs.YtaglbcniomcfnaaDoor
set_option linter.all false

theorem taken_next {a : List Nat} {j x : Nat} (h : a[j]? = some x) : a.take (j + 1) = a.take j ++ [x] := by
  obtain ⟨hj, e⟩ := List.getElem?_eq_some_iff.1 h
  rw [List.take_succ, h]; rfl
theorem hexs4_next (l : List Nat) (x : Nat) : hexs dig4 (l ++ [x]) = if l = [] then dig4 x else hexs dig4 l ++ 58 :: dig4 x := by
  by_cases h : l = []
  · rw [if_pos h, h, List.nil_append, hexs_one]
  · rw [if_neg h, hexs_snoc _ _ _ h]
/-- The text ahead of round i. -/
def gapT (l : List Nat) (k i : Nat) : List UInt8 := if i ≤ k then hexs dig4 (l.take i) else hexs dig4 (l.take k) ++ 58 :: 58 :: hexs dig4 ((l.take i).drop k)
/-- The numbers ahead of round i. -/
def gapW (l : List Nat) (k i : Nat) : List Nat := if i ≤ k then l.take i ++ noughts (8 - i) else l.take k ++ noughts (8 - l.length) ++ (l.take i).drop k ++ noughts (l.length - i)
theorem gapT_at {l : List Nat} {k x : Nat} (h : l[k]? = some x) : gapT l k (k + 1) = gapT l k k ++ [58, 58] ++ dig4 x := by
  have hk := (List.getElem?_eq_some_iff.1 h).1
  unfold gapT
  rw [if_neg (by omega), if_pos (Nat.le_refl k), taken_next h, List.drop_append_of_le_length (by rw [List.length_take]; omega), List.drop_of_length_le (by rw [List.length_take]; omega), List.nil_append, hexs_one]
  simp
theorem gapT_first {l : List Nat} {k x : Nat} (h : l[0]? = some x) (hk : 0 ≠ k) : gapT l k 1 = gapT l k 0 ++ dig4 x := by
  unfold gapT
  rw [if_pos (by omega), if_pos (by omega), show 1 = 0 + 1 from rfl, taken_next h]
  simp [hexs_one, hexs_nil]
theorem gapT_next {l : List Nat} {k i x : Nat} (h : l[i]? = some x) (hk : i ≠ k) (h0 : 0 < i) : gapT l k (i + 1) = gapT l k i ++ [58] ++ dig4 x := by
  have hi := (List.getElem?_eq_some_iff.1 h).1
  unfold gapT
  by_cases hlt : i < k
  · rw [if_pos (by omega), if_pos (by omega), taken_next h, hexs4_next, if_neg (fun e => by have := congrArg List.length e; rw [List.length_take, List.length_nil] at this; omega)]
    simp
  · rw [if_neg (by omega), if_neg (by omega), taken_next h, List.drop_append_of_le_length (by rw [List.length_take]; omega), hexs4_next, if_neg (fun e => by have := congrArg List.length e; rw [List.length_drop, List.length_take, List.length_nil] at this; omega)]
    simp
theorem gapW_len {l : List Nat} {k i : Nat} (h7 : l.length ≤ 7) (hk : k ≤ l.length) (hi : i ≤ l.length) : (gapW l k i).length = 8 := by
  unfold gapW noughts
  split <;> simp <;> omega
theorem noughts_set {n x : Nat} (h : 0 < n) : (noughts n).set 0 x = x :: noughts (n - 1) := by
  cases n with
  | zero => omega
  | succ n => rfl
theorem gapW_lo {l : List Nat} {k i x : Nat} (h7 : l.length ≤ 7) (h : l[i]? = some x) (hk : i < k) : (gapW l k i).set i x = gapW l k (i + 1) := by
  have hi := (List.getElem?_eq_some_iff.1 h).1
  unfold gapW
  rw [if_pos (by omega), if_pos (by omega), taken_next h, List.set_append_right _ _ (by rw [List.length_take]; omega), show i - (l.take i).length = 0 by rw [List.length_take]; omega, noughts_set (by omega), show 8 - i - 1 = 8 - (i + 1) by omega]
  simp
theorem gapW_hi {l : List Nat} {k i x : Nat} (h7 : l.length ≤ 7) (h : l[i]? = some x) (hk : k ≤ i) : (gapW l k i).set (8 - l.length + i) x = gapW l k (i + 1) := by
  have hi := (List.getElem?_eq_some_iff.1 h).1
  have e : gapW l k i = l.take k ++ noughts (8 - l.length) ++ (l.take i).drop k ++ noughts (l.length - i) := by
    unfold gapW
    by_cases hik : i ≤ k
    · obtain rfl : i = k := by omega
      rw [if_pos hik, List.drop_of_length_le (by rw [List.length_take]; omega), List.append_nil, List.append_assoc]
      congr 1
      unfold noughts
      rw [List.replicate_append_replicate]
      congr 1; omega
    · rw [if_neg hik]
  have hl : (l.take k ++ noughts (8 - l.length) ++ (l.take i).drop k).length = 8 - l.length + i := by
    unfold noughts; simp; omega
  rw [e, List.set_append_right _ _ (by rw [hl]; omega), hl, Nat.sub_self, noughts_set (by omega)]
  unfold gapW
  rw [if_neg (by omega), taken_next h, List.drop_append_of_le_length (by rw [List.length_take]; omega), show l.length - i - 1 = l.length - (i + 1) by omega]
  simp
/-- The text behind the last round and the gap at the end. -/
def gapS (l : List Nat) (k : Nat) : List UInt8 := hexs dig4 (l.take k) ++ 58 :: 58 :: hexs dig4 (l.drop k)
theorem gapS_end {l : List Nat} : gapT l l.length l.length ++ [58, 58] = gapS l l.length := by
  unfold gapT gapS
  rw [if_pos (Nat.le_refl _), List.drop_length, hexs_nil]
theorem gapS_mid {l : List Nat} {k : Nat} (hk : k < l.length) : gapT l k l.length = gapS l k := by
  unfold gapT gapS
  rw [if_neg (by omega), List.take_length]
theorem gapW_end {l : List Nat} {k : Nat} (hk : k ≤ l.length) : gapW l k l.length = l.take k ++ noughts (8 - l.length) ++ l.drop k := by
  unfold gapW
  by_cases h : l.length ≤ k
  · obtain rfl : k = l.length := by omega
    rw [if_pos h, List.take_length, List.drop_length, List.append_nil]
  · rw [if_neg h, List.take_length, Nat.sub_self]
    simp [noughts]
theorem gapS_some {l : List Nat} {k : Nat} (h7 : l.length ≤ 7) (hk : k ≤ l.length) (h16 : ∀ x ∈ l, x < 65536) : pParse6 (gapS l k) = some (gapW l k l.length) := by
  rw [parse6_eq, gapW_end hk]
  unfold gapS
  rw [parse_gap spell_four (fun a h => h16 a (List.mem_of_mem_take h)) (fun a h => h16 a (List.mem_of_mem_drop h)) (by rw [List.length_take, List.length_drop]; omega), List.length_take, List.length_drop, show 8 - min k l.length - (l.length - k) = 8 - l.length by omega]
theorem gapS_two {l : List Nat} {k : Nat} (h16 : ∀ x ∈ l, x < 65536) : pParse6 (gapS l k ++ [58, 58]) = none := by
  have := parse_behind spell_four (x := l.take k) (fun a h => h16 a (List.mem_of_mem_take h)) (hexs dig4 (l.drop k) ++ [58])
  rw [parse6_eq, ← this]
  unfold gapS; simp
theorem gapS_one {l : List Nat} {k : Nat} (h16 : ∀ x ∈ l, x < 65536) : pParse6 (gapS l k ++ [58]) = none := by
  have := parse_behind spell_four (x := l.take k) (fun a h => h16 a (List.mem_of_mem_take h)) (hexs dig4 (l.drop k))
  rw [parse6_eq, ← this]
  unfold gapS; simp
end Go.Proofs.YtaglbcniomcfnaaDoor

