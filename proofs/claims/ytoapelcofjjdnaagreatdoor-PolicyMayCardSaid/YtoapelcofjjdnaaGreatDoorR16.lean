/- A part of the proof. -/
import Derived.Test.YtoapelcofjjdnaaGreatDoorR01
import Derived.Test.YtoapelcofjjdnaaGreatDoorR13
import Derived.Test.YtoapelcofjjdnaaGreatDoorR14
import Derived.Test.YtoapelcofjjdnaaGreatDoorR12
namespace Go.Proofs.YtoapelcofjjdnaaGreatDoor
set_option linter.all false
open Go.RowKit
theorem idx_next {c : Int} {l : List Int} {j : Nat} {x : Int} (h : l[j]? = some x) (hn : c ∉ l.take j) (e : x ≠ c) : c ∉ l.take (j + 1) := by
 obtain ⟨hj, e2⟩ := List.getElem?_eq_some_iff.1 h
 rw [take_snoc' l j hj, e2]
 intro hm
 rcases List.mem_append.1 hm with hm | hm
 · exact hn hm
 · exact e (List.mem_singleton.1 hm).symm
theorem any_takeD {α : Type} {P : α → Bool} {l : List α} {j : Nat} {x : α} (h : l[j]? = some x) (hf : (l.take j).any P = false) (hx : P x = false) : (l.take (j + 1)).any P = false := by
 obtain ⟨hj, e⟩ := List.getElem?_eq_some_iff.1 h
 rw [take_snoc' l j hj, e, List.any_append, hf]; simp [hx]
theorem any_hereD {α : Type} {P : α → Bool} {l : List α} {j : Nat} {x : α} (h : l[j]? = some x) (hx : P x = true) : l.any P = true :=
 List.any_eq_true.2 ⟨x, List.mem_of_getElem? h, hx⟩
theorem trim_dot (s : List UInt8) : Lib.trimSuffix s [46] = dTrim s := by
 unfold Lib.trimSuffix Lib.hasSuffix dTrim
 by_cases h : s.getLast? = some 46
 ·
  rw [if_pos h, if_pos]
  · exact (List.dropLast_eq_take).symm
  rw [List.isSuffixOf_iff_suffix]
  refine ⟨s.dropLast, ?_⟩
  have hne : s ≠ [] := fun e => by rw [e] at h; cases h
  rw [List.getLast?_eq_some_getLast hne] at h
  injection h with h
  rw [← h]; exact List.dropLast_concat_getLast hne
 ·
  rw [if_neg h, if_neg]
  intro h2
  rw [List.isSuffixOf_iff_suffix] at h2
  obtain ⟨t, rfl⟩ := h2
  exact h (by simp)
theorem trimDot_any (s : List UInt8) (w : World) (hs : s.length ≤ 1000000) :
  Calls Tryz.prog 51 #[.string (str s), .string (str [46])] w fun e w' => e = .returned (.string (str (dTrim s))) ∧ w = w' := by
 refine (Tryz.strings_TrimSuffix (str s) (str [46]) w (by rw [str_size]; omega)).mono fun e w' ⟨he, hw⟩ => ⟨?_, hw.symm⟩
 rw [he, str_data, str_data, trim_dot]; rfl
end Go.Proofs.YtoapelcofjjdnaaGreatDoor
