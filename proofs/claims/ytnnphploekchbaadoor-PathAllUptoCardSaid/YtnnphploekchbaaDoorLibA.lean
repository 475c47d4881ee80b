/- The library's functions on texts, in this proof's words: Split, Cut, ReplaceAll, Join at one byte. -/
import Derived.Test.YtnnphploekchbaaDoorShelf
import Derived.Test.YtnnphploekchbaaDoorTxt
import Derived.Test.YtnnphploekchbaaDoorCutP
namespace Go.Proofs.YtnnphploekchbaaDoor
set_option linter.all false
open Go.RowKit

/-- The library's variable internal/bytealg.MaxLen holds some number. -/
def ML (w : World) : Prop := ∃ m, w.cell? ⟨3, 0, none⟩ = some (.int .i64 m)
theorem ML.next {w w' : World} (h : ML w) (hb : Below w.heap.size w w') : ML w' := by
  obtain ⟨m, hm⟩ := h
  exact ⟨m, (hb.cell (p := ⟨_, 0, none⟩) (World.block_lt_of_cell? _ _ hm)).trans hm⟩
theorem ML.drew {w : World} (h : ML w) : ML w.drew := h
theorem ML.new {w : World} (h : ML w) (o : Obj) : ML (w.alloc o) := h.next (Below.alloc (Below.refl _ _) (Nat.le_refl _) o)

theorem strs_split (c : UInt8) (s : List UInt8) : (Lib.splitB (str [c]) 0 (Lib.countB (str s) (str [c])) (str s)).map Value.string = strs (cuts c s) := by
  have h := Lib.splitB_data (str [c]) 0 (Lib.countB (str s) (str [c])) (str s)
  have hc : Lib.countB (str s) (str [c]) = s.count c := by
    show Lib.count (str s).data.toList (str [c]).data.toList = _
    rw [str_data, str_data, Lib.count_one]
  rw [str_data, str_data, hc, splitK_cuts c _ s rfl] at h
  rw [hc]
  unfold strs
  rw [← h, List.map_map]
  exact List.map_congr_left fun b _ => by show Value.string b = Value.string (str b.data.toList); rw [str_of]
theorem count_split (c : UInt8) (s : List UInt8) : Lib.countB (str s) (str [c]) + 1 = (cuts c s).length := by
  have hc : Lib.countB (str s) (str [c]) = s.count c := by
    show Lib.count (str s).data.toList (str [c]).data.toList = _
    rw [str_data, str_data, Lib.count_one]
  rw [hc, cuts_len]
theorem split_any (c : UInt8) (s : List UInt8) (w : World) (hm : ML w) (hs : s.length ≤ 1000000) :
    Calls Tryd.prog 51 #[.string (str s), .string (str [c])] w fun e w' =>
      e = .returned (.slice (some ⟨w.heap.size, 0, none⟩) (cuts c s).length (cuts c s).length) ∧ Rd w' w'.heap.size (some ⟨w.heap.size, 0, none⟩) (strs (cuts c s)) ∧ Below w.heap.size w w' := by
  obtain ⟨m, hm⟩ := hm
  refine (Tryd.strings_Split (str s) (str [c]) m w (by rw [str_size]; omega) hm (by rw [str_size]; simp)).mono fun e w' ⟨he, hw⟩ => ?_
  rw [count_split] at he
  rw [strs_split] at hw
  refine ⟨he, ?_, by rw [hw]; exact bnew (Below.refl _ _) _⟩
  rw [hw]
  have := @Rd.lit w (strs (cuts c s)).toArray 9 (0, 0)
  simpa using this
theorem cut_any (c : UInt8) (s : List UInt8) (w : World) (hm : ML w) (hs : s.length ≤ 1000000) :
    Calls Tryd.prog 52 #[.string (str s), .string (str [c])] w fun e w' =>
      (∃ b, e = .returned (.tuple #[.string (str (ahead c s)), .string (str (behind c s)), .bool b])) ∧ Below w.heap.size w w' := by
  obtain ⟨m, hm⟩ := hm
  refine (Tryd.strings_Cut (str s) (str [c]) m w (by rw [str_size]; omega) hm).mono fun e w' ⟨he, n, hw⟩ => ?_
  rw [str_data, str_data, (cut_one c s).1, (cut_one c s).2] at he
  exact ⟨⟨_, he⟩, by rw [hw]; exact below_drewN (Below.refl _ _) n⟩
theorem replace_any (o n : UInt8) (s : List UInt8) (w : World) (hm : ML w) (hs : s.length ≤ 1000000) (hne : o ≠ n) :
    Calls Tryd.prog 66 #[.string (str s), .string (str [o]), .string (str [n])] w fun e w' =>
      e = .returned (.string (str (s.map fun c => if c = o then n else c))) ∧ Below w.heap.size w w' := by
  obtain ⟨m, hm⟩ := hm
  have hc : Lib.countB (str s) (str [o]) = s.count o := by
    show Lib.count (str s).data.toList (str [o]).data.toList = _
    rw [str_data, str_data, Lib.count_one]
  have hle := List.count_le_length (a := o) (l := s)
  refine (Tryd.strings_ReplaceAll (str s) (str [o]) (str [n]) m w (by rw [str_size]; omega) hm (by rw [str_size]; simp) (by rw [hc, str_size, str_size]; simp; omega)).mono fun e w' ⟨he, hw⟩ => ?_
  rw [str_data, str_data, str_data, replaceAll_map hne] at he
  exact ⟨he, hw⟩
theorem join_any (c : UInt8) (A : Option Addr) (k : Nat) (l : List (List UInt8)) (w : World) (hr : Rd w w.heap.size A (strs l)) (hk : l.length ≤ k) (hl : l.length ≤ 1000000) (hj : (Lib.join l [c]).length ≤ 100000000) :
    Calls Tryd.prog 56 #[.slice A l.length k, .string (str [c])] w fun e w' => e = .returned (.string (str (Lib.join l [c]))) ∧ Below w.heap.size w w' := by
  by_cases h0 : l = []
  · subst h0
    refine (Tryd.strings_Join_none A k (str [c]) w).mono fun e w' ⟨he, hw⟩ => ?_
    exact ⟨he, hw ▸ Below.refl _ _⟩
  · obtain ⟨b, off, rfl, hb, hc⟩ := hr (by rw [strs_len]; exact List.length_pos_iff.2 h0)
    have hx : (l.map str).map (fun b => b.data.toList) = l := by
      rw [List.map_map]
      conv => rhs; rw [← List.map_id l]
      exact List.map_congr_left fun x _ => str_data x
    have h := Tryd.strings_Join b off k (l.map str) (str [c]) w (fun j x hj => hc j _ (by
      rw [List.getElem?_map] at hj
      unfold strs
      rw [List.getElem?_map]
      cases hl : l[j]? with
      | none => rw [hl] at hj; cases hj
      | some y => rw [hl] at hj; injection hj with hj; subst hj; rfl)) hb (by rw [List.length_map]; omega) (by rw [List.length_map]; exact hk) (by rw [hx, str_data]; omega)
    rw [List.length_map, hx, str_data] at h
    exact h
end Go.Proofs.YtnnphploekchbaaDoor

