/- The walks of query.text, query.Parse. -/
import Derived.Test.YtaglbcniomcfnaaDoorLibB
namespace Go.Proofs.YtaglbcniomcfnaaDoor
set_option linter.all false
open Go.RowKit

theorem str_atN {w : World} {B n : Nat} {A : Option Addr} {c : Nat} {l : List UInt8} (hr : Rd w B A (bytes l)) (hn : n = l.length) : (convert 44 9 (.slice A n c)).run Tryd.prog w = .ok (.string (str l)) w :=
  run_strM Tryd.underlying44 Tryd.underlying5 Tryd.underlying9 hr hn

theorem piece_take {α : Type} {f : α → Bool} {l : List α} {j : Nat} {x : α} (h : l[j]? = some x) : (l.take (j + 1)).filter f = (l.take j).filter f ++ if f x = true then [x] else [] := by
  obtain ⟨hj, e⟩ := List.getElem?_eq_some_iff.1 h
  rw [take_snoc' l j hj, e, List.filter_append]
  congr 1
  by_cases hx : f x = true
  · rw [if_pos hx, List.filter_cons_of_pos hx, List.filter_nil]
  · rw [if_neg hx, List.filter_cons_of_neg hx, List.filter_nil]
theorem pieces_full {s : List UInt8} {j : Nat} (h : (((cuts 38 s).take j).filter full).length = 40) : (((cuts 38 s).take j).filter full).map qPair = qPairs s := by
  unfold qPairs qPieces
  have e := List.take_append_drop j (cuts 38 s)
  conv => rhs; rw [← e, List.filter_append, List.take_append_of_le_length (by omega), List.take_of_length_le (by omega)]
theorem pieces_all {s : List UInt8} (h : (((cuts 38 s).take (cuts 38 s).length).filter full).length ≤ 40) : (((cuts 38 s).take (cuts 38 s).length).filter full).map qPair = qPairs s := by
  unfold qPairs qPieces
  rw [List.take_length] at h ⊢
  rw [List.take_of_length_le h]

theorem behind_le (c : UInt8) (p : List UInt8) : (ahead c p).length ≤ p.length ∧ (behind c p).length ≤ p.length := by
  refine ⟨(List.takeWhile_prefix _).length_le, ?_⟩
  unfold behind
  rw [List.length_drop]
  have := (List.dropWhile_suffix (p := (· ≠ c)) (l := p)).length_le
  omega

end Go.Proofs.YtaglbcniomcfnaaDoor

