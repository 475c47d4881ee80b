/- How long a question is that was stripped; rules cut in two: plain. -/
import Derived.Test.YtpoaeppapmbkpaaDoorRulB
namespace Go.Proofs.YtpoaeppapmbkpaaDoor
set_option linter.all false
open Go.RowKit

def wt (l : List Pr) : Nat := (l.map fun p => (qOne p).length + 1).sum
theorem wt_cons (p : Pr) (l : List Pr) : wt (p :: l) = (qOne p).length + 1 + wt l := by unfold wt; rw [List.map_cons, List.sum_cons]
theorem wt_filter (f : Pr → Bool) : ∀ l : List Pr, wt (l.filter f) ≤ wt l := by
  intro l
  induction l with
  | nil => exact Nat.le_refl _
  | cons p l ih =>
    by_cases h : f p = true
    · rw [List.filter_cons_of_pos h, wt_cons, wt_cons]; omega
    · rw [List.filter_cons_of_neg h, wt_cons]; omega
theorem show_wt (l : List Pr) : (qShow l).length ≤ wt l := by
  unfold qShow
  cases l with
  | nil => exact Nat.zero_le _
  | cons p l =>
    rw [List.map_cons, Lib.join_cons, List.length_append, wt_cons]
    have : (Lib.joinTail [38] (l.map qOne)).length ≤ wt l := by
      induction l with
      | nil => exact Nat.zero_le _
      | cons q l ih =>
        unfold Lib.joinTail at ih ⊢
        rw [List.map_cons, List.map_cons, List.flatten_cons, List.length_append, wt_cons]
        simp only [List.length_append, List.length_cons, List.length_nil]
        omega
    omega
theorem parts_le (c : UInt8) (q : List UInt8) : (ahead c q).length + (behind c q).length ≤ q.length := by
  by_cases h : c ∈ q
  · obtain ⟨a, t, rfl, hn⟩ := first_parts h
    rw [(ahead_at t hn).1, (ahead_at t hn).2, List.length_append, List.length_cons]; omega
  · rw [(ahead_whole h).1, (ahead_whole h).2]; simp
theorem one_wt (q : List UInt8) : (qOne (qPair q)).length ≤ 12 * q.length + 1 := by
  have h1 := qText_len (ahead 61 q)
  have h2 := qText_len (behind 61 q)
  have h3 := parts_le 61 q
  unfold qOne qPair
  have h4 := pEnc_le 6 (qText (ahead 61 q))
  have h5 := pEnc_le 6 (qText (behind 61 q))
  rw [List.length_append, List.length_cons]
  simp only
  omega
theorem wt_pieces : ∀ l : List (List UInt8), wt (l.map qPair) ≤ 12 * l.flatten.length + 2 * l.length := by
  intro l
  induction l with
  | nil => exact Nat.zero_le _
  | cons q l ih =>
    have := one_wt q
    rw [List.map_cons, wt_cons, List.flatten_cons, List.length_append, List.length_cons]
    omega
theorem flat_filter {α : Type} (f : List α → Bool) : ∀ l : List (List α), (l.filter f).flatten.length ≤ l.flatten.length := by
  intro l
  induction l with
  | nil => exact Nat.le_refl _
  | cons q l ih =>
    by_cases h : f q = true
    · rw [List.filter_cons_of_pos h, List.flatten_cons, List.flatten_cons, List.length_append, List.length_append]; omega
    · rw [List.filter_cons_of_neg h, List.flatten_cons, List.length_append]; omega
theorem flat_take {α : Type} : ∀ (n : Nat) (l : List (List α)), (l.take n).flatten.length ≤ l.flatten.length := by
  intro n l
  induction l generalizing n with
  | nil => simp
  | cons q l ih =>
    cases n with
    | zero => simp
    | succ n =>
      have := ih n
      rw [List.take_succ_cons, List.flatten_cons, List.flatten_cons, List.length_append, List.length_append]; omega
theorem rText_len (s : List UInt8) (rs : List Ru) : (rText s rs).length ≤ 12 * s.length + 80 := by
  unfold rText
  have h1 := show_wt (rStrip (qPairs s) rs)
  have h2 := wt_filter (fun p => !rOut p.1 rs) (qPairs s)
  have h3 : wt (qPairs s) ≤ 12 * s.length + 80 := by
    unfold qPairs
    have a1 := wt_pieces ((qPieces s).take 40)
    have a2 := flat_take 40 (qPieces s)
    have a3 := flat_filter full (cuts 38 s)
    have a4 := cuts_parts 38 s
    have a5 : ((qPieces s).take 40).length ≤ 40 := by rw [List.length_take]; omega
    have a6 : (qPieces s).flatten.length ≤ (cuts 38 s).flatten.length := a3
    omega
  have h4 : wt (rStrip (qPairs s) rs) ≤ wt (qPairs s) := h2
  omega

theorem rls_cons (p : Ru) (l : List Ru) : rls (p :: l) = Value.string (str p.1) :: Value.bool p.2 :: rls l := by unfold rls; rw [List.flatMap_cons]; rfl
theorem rls_take (l : List Ru) (i : Nat) : (rls l).take (i * 2) = rls (l.take i) := by
  induction l generalizing i with
  | nil => simp [rls]
  | cons p l ih =>
    cases i with
    | zero => simp [rls]
    | succ i => rw [rls_cons, show (i + 1) * 2 = i * 2 + 1 + 1 from by omega, List.take_succ_cons, List.take_succ_cons, ih, List.take_succ_cons, rls_cons]
theorem rls_drop (l : List Ru) (i : Nat) : (rls l).drop (i * 2) = rls (l.drop i) := by
  induction l generalizing i with
  | nil => simp [rls]
  | cons p l ih =>
    cases i with
    | zero => simp
    | succ i => rw [rls_cons, show (i + 1) * 2 = i * 2 + 1 + 1 from by omega, List.drop_succ_cons, List.drop_succ_cons, ih, List.drop_succ_cons]
theorem Rd.ruTake {w : World} {B : Nat} {A : Option Addr} {l : List Ru} (h : Rd w B A (rls l)) (i : Nat) : Rd w B A (rls (l.take i)) := by
  rw [← rls_take]; exact h.take _
theorem Rd.ruDrop {w : World} {B : Nat} {A : Option Addr} {l : List Ru} (h : Rd w B A (rls l)) {i cap : Nat} (hc : l.length ≤ cap) : Rd w B (if cap = i then A else A.map (·.add (i * 2))) (rls (l.drop i)) := fun hn => by
  rw [rls_len, List.length_drop] at hn
  obtain ⟨b, off, e, hb, hcell⟩ := h (by rw [rls_len]; omega)
  rw [if_neg (by omega), e]
  refine ⟨b, off + i * 2, ?_, hb, fun j u hu => ?_⟩
  · show some ((⟨b, off, none⟩ : Addr).add (i * 2)) = _
    rw [Go.WideShapes.add_plain]
  · rw [← rls_drop, List.getElem?_drop] at hu
    have := hcell (i * 2 + j) u hu
    rw [Nat.add_assoc]; exact this
end Go.Proofs.YtpoaeppapmbkpaaDoor

