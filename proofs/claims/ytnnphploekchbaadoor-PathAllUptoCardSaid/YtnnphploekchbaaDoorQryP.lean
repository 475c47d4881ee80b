/- Questions: pairs out of a text, a text out of pairs: plain. -/
import Derived.Test.YtnnphploekchbaaDoorCutP
import Derived.Test.YtnnphploekchbaaDoorPctP
namespace Go.Proofs.YtnnphploekchbaaDoor
set_option linter.all false

abbrev Pr := List UInt8 × List UInt8
def qText (s : List UInt8) : List UInt8 := uEnc (uDec (pDec (s.map plus)))
def qPair (p : List UInt8) : Pr := (qText (ahead 61 p), qText (behind 61 p))
def full (p : List UInt8) : Bool := !p.isEmpty
def qPieces (s : List UInt8) : List (List UInt8) := (cuts 38 s).filter full
def qPairs (s : List UInt8) : List Pr := ((qPieces s).take 40).map qPair
def qOne (p : Pr) : List UInt8 := pEnc 6 p.1 ++ 61 :: pEnc 6 p.2
def qShow (l : List Pr) : List UInt8 := Lib.join (l.map qOne) [38]
def qRight (s : List UInt8) : List UInt8 := uEnc (uDec s)
def qRight2 (p : Pr) : Pr := (qRight p.1, qRight p.2)

theorem form_one : ∀ n, n < 256 → ∀ x ∈ pEnc1 6 (UInt8.ofNat n), x ≠ 38 ∧ x ≠ 61 := by decide +kernel
theorem form_out (l : List UInt8) : ∀ x ∈ pEnc 6 l, x ≠ 38 ∧ x ≠ 61 := by
  intro x hx
  obtain ⟨c, hc, hx⟩ := List.mem_flatMap.1 hx
  have h := form_one c.toNat (byte_lt c)
  rw [UInt8.ofNat_toNat] at h
  exact h x hx
theorem qOne_out (p : Pr) : (38 : UInt8) ∉ qOne p := by
  intro h
  unfold qOne at h
  rcases List.mem_append.1 h with h | h
  · exact (form_out _ _ h).1 rfl
  · rcases List.mem_cons.1 h with h | h
    · exact absurd h (by decide)
    · exact (form_out _ _ h).1 rfl
theorem qOne_full (p : Pr) : full (qOne p) = true := by unfold full qOne; simp
theorem qText_form (s : List UInt8) : qText (pEnc 6 s) = qRight s := by unfold qText qRight; rw [pDec_form]
theorem qPair_one (p : Pr) : qPair (qOne p) = qRight2 p := by
  have h : (61 : UInt8) ∉ pEnc 6 p.1 := fun h => (form_out _ _ h).2 rfl
  unfold qPair qOne
  rw [(ahead_at _ h).1, (ahead_at _ h).2, qText_form, qText_form]; rfl
theorem qPieces_show (l : List Pr) : qPieces (qShow l) = l.map qOne := by
  unfold qPieces qShow
  by_cases h : l = []
  · subst h; rfl
  · rw [cuts_join (by simpa using h) (by intro p hp; obtain ⟨q, _, rfl⟩ := List.mem_map.1 hp; exact qOne_out q)]
    exact List.filter_eq_self.2 (by intro p hp; obtain ⟨q, _, rfl⟩ := List.mem_map.1 hp; exact qOne_full q)
theorem qPairs_show {l : List Pr} (h : l.length ≤ 40) : qPairs (qShow l) = l.map qRight2 := by
  unfold qPairs
  rw [qPieces_show, List.take_of_length_le (by simpa using h), List.map_map]
  exact List.map_congr_left fun p _ => qPair_one p
theorem uDec_uEnc {l : List Int} (h : ∀ r ∈ l, cpOk r = true) : uDec (uEnc l) = l := by
  have e := uDec_enc l []
  rw [List.append_nil, uDec_nil, List.append_nil, map_cpFix h] at e
  exact e
theorem qRight_twice (s : List UInt8) : qRight (qRight s) = qRight s := by
  unfold qRight; rw [uDec_uEnc (uDec_ok s)]
theorem qRight2_twice (p : Pr) : qRight2 (qRight2 p) = qRight2 p := by unfold qRight2; rw [qRight_twice, qRight_twice]
theorem qPairs_right {l : List Pr} (h : l.length ≤ 40) : qPairs (qShow (l.map qRight2)) = l.map qRight2 := by
  rw [qPairs_show (by simpa using h), List.map_map]
  exact List.map_congr_left fun p _ => qRight2_twice p
theorem qPieces_side (a b : List UInt8) : qPieces (a ++ 38 :: b) = qPieces a ++ qPieces b := by
  unfold qPieces; rw [cuts_append, List.filter_append]
theorem qPairs_len (s : List UInt8) : (qPairs s).length = min 40 (qPieces s).length := by unfold qPairs; rw [List.length_map, List.length_take]
theorem qPairs_side {a b : List UInt8} (h : (qPairs a).length + (qPairs b).length ≤ 40) : qPairs (a ++ 38 :: b) = qPairs a ++ qPairs b := by
  rw [qPairs_len, qPairs_len] at h
  unfold qPairs
  rw [qPieces_side, ← List.map_append, List.take_append]
  congr 1
  by_cases h0 : (qPieces a).length = 0
  · rw [List.eq_nil_of_length_eq_zero h0]; simp
  by_cases h1 : (qPieces a).length ≤ 40
  · rw [List.take_of_length_le h1, List.take_of_length_le (by omega), List.take_of_length_le (by omega)]
  · have hb : (qPieces b).length = 0 := by omega
    rw [List.eq_nil_of_length_eq_zero hb]; simp
/-- The k-th question of QueryMost. -/
def qMost : Nat → List UInt8
  | 0 => []
  | k + 1 => qMost k ++ 38 :: UInt8.ofNat (97 + k % 26) :: [61, 49, 38]
theorem qMost_pieces : ∀ k, (qPieces (qMost k)).length = k := by
  intro k
  induction k with
  | zero => rfl
  | succ k ih =>
    have h0 : UInt8.ofNat (97 + k % 26) ≠ 38 := by
      intro e
      have e2 : (UInt8.ofNat (97 + k % 26)).toNat = 38 := by rw [e]; rfl
      rw [UInt8.toNat_ofNat', Nat.mod_eq_of_lt (by omega)] at e2
      omega
    have e : qMost (k + 1) = qMost k ++ 38 :: ([UInt8.ofNat (97 + k % 26), 61, 49] ++ 38 :: []) := rfl
    have hn : (38 : UInt8) ∉ [UInt8.ofNat (97 + k % 26), 61, 49] := by
      intro hm
      rcases List.mem_cons.1 hm with hm | hm
      · exact h0 hm.symm
      · exact absurd hm (by decide)
    rw [e, qPieces_side, List.length_append, ih]
    congr 1
    unfold qPieces
    rw [cuts_at _ hn]
    rfl
theorem qMost_len (k : Nat) : (qMost k).length = 5 * k := by
  induction k with
  | zero => rfl
  | succ k ih => unfold qMost; simp [ih]; omega
theorem qMost_pairs (k : Nat) : (qPairs (qMost k)).length = min k 40 := by rw [qPairs_len, qMost_pieces, Nat.min_comm]
theorem qText_len (s : List UInt8) : (qText s).length ≤ 4 * s.length := by
  unfold qText
  have h1 := uEnc_le (uDec (pDec (s.map plus)))
  have h2 := uDec_len_le (pDec (s.map plus))
  have h3 := pDec_len_le (s.map plus)
  rw [List.length_map] at h3
  omega
end Go.Proofs.YtnnphploekchbaaDoor

