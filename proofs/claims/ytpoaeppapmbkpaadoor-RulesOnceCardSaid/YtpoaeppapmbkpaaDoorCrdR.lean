/- Slices of rules opened. -/
import Derived.Test.YtpoaeppapmbkpaaDoorCrd
import Derived.Test.YtpoaeppapmbkpaaDoorRulB
namespace Go.Proofs.YtpoaeppapmbkpaaDoor
set_option linter.all false
open Go.ChangeShapes Go.WideShapes Go.ChangeAt Go.RowKit Go.Deep

section
variable {H : Type} {enc : TypeId × Value → H} {W : World} {base : Nat} {spare : Nat → Bool} {held : Bool}
-- A slice of rules that came in.
set_option maxRecDepth 100000 in
set_option maxHeartbeats 1000000 in
theorem open_rules {len c : Nat} {A : Option Addr} {d : DataW H} {p : List MemPlace} (h : DataW.Trod enc Tryd.prog W base spare held 44 (.slice A len c) d p) :
    ∃ l : List Ru, len = l.length ∧ len ≤ c ∧ c ≤ maxLen ∧ Rd W W.heap.size A (rls l) ∧ ∀ x ∈ l, x.1.length ≤ maxLen := by
  obtain ⟨fuel, hf⟩ := h
  have c2 : Tryd.prog.cellsOf 52 = 2 := by kernel_rfl
  have c1 : Tryd.prog.cellsOf 9 = 1 := by kernel_rfl
  have c3 : Tryd.prog.cellsOf 4 = 1 := by kernel_rfl
  rcases open_slice Tryd.underlying44 hf with ⟨hcs, _⟩ | ⟨a, len', cap, m, n, D, Pl, hcs, _, hl, hm, hmm, _, hV⟩
  · simp [Value.cells] at hcs
    obtain ⟨rfl, rfl, rfl⟩ := hcs
    exact ⟨[], rfl, Nat.le_refl _, by simp [maxLen], Rd.nil, by simp⟩
  · simp [Value.cells] at hcs
    obtain ⟨rfl, rfl, rfl⟩ := hcs
    have hle : len ≤ m := by rw [hmm]; split <;> omega
    have hg : ∀ i, i < len → ∃ x : Ru, (W.cell? (a.add (i * 2)) = some (.string (str x.1)) ∧ W.cell? ((a.add (i * 2)).add 1) = some (.bool x.2)) ∧ x.1.length ≤ maxLen := fun i hi => by
      obtain ⟨cs, h1, h2⟩ := hV i (by omega)
      rw [c2] at h1
      obtain ⟨_, hcl, hat⟩ := World.cells?_some h1
      obtain ⟨xs, k, _, _, _, hxl, hfs⟩ := DataW.trod_struct Tryd.underlying52 h2
      match cs, hcl with
      | [v0, v1], _ =>
        have g0 : DataW.trod enc Tryd.prog W base spare held k 9 (([v0, v1].drop 0).take (Tryd.prog.cellsOf 9)) = xs[0]? := hfs 0 _ rfl
        have g1 : DataW.trod enc Tryd.prog W base spare held k 4 (([v0, v1].drop 1).take (Tryd.prog.cellsOf 4)) = xs[1]? := hfs 1 _ rfl
        rw [c1] at g0
        rw [c3] at g1
        rw [List.getElem?_eq_getElem (by rw [hxl]; decide)] at g0 g1
        obtain ⟨s0, e0, _, q0⟩ := DataW.trod_string Tryd.underlying9 g0
        obtain ⟨s1, e1, _⟩ := DataW.trod_bool Tryd.underlying4 g1
        have e0' : v0 = .string s0 := by injection e0
        have e1' : v1 = .bool s1 := by injection e1
        subst e0' e1'
        have h0 := hat 0 (by decide)
        have h1 := hat 1 (by decide)
        refine ⟨(s0.data.toList, s1), ⟨?_, ?_⟩, ?_⟩
        · simp only [str_of]; exact h0
        · exact h1
        · simp only; rw [← str_size, str_of]; exact q0
    obtain ⟨X, hX⟩ := choose_lt (α := Ru) (p := fun i x => (W.cell? (a.add (i * 2)) = some (.string (str x.1)) ∧ W.cell? ((a.add (i * 2)).add 1) = some (.bool x.2)) ∧ x.1.length ≤ maxLen) hg
    refine ⟨(List.range len).map X, by simp, hl, hm, fun hp => ?_, ?_⟩
    · rw [rls_len, List.length_map, List.length_range] at hp
      obtain ⟨b, off, ea, hb⟩ := plain_spot (hX 0 (by omega)).1.1
      have ea' : a = ⟨b, off, none⟩ := by rw [← ea]; rfl
      subst ea'
      refine ⟨b, off, rfl, hb, fun j u hu => ?_⟩
      have hj : j / 2 < len := by
        rcases Nat.lt_or_ge (j / 2) len with h1 | h1
        · exact h1
        · rw [List.getElem?_eq_none (by rw [rls_len, List.length_map, List.length_range]; omega)] at hu; cases hu
      have hat := rls_at (l := (List.range len).map X) (k := j / 2) (p := X (j / 2)) (by rw [List.getElem?_map, List.getElem?_range hj]; rfl)
      obtain ⟨h1, h2⟩ := (hX (j / 2) hj).1
      rw [add_off] at h1
      rw [add_off, add_off] at h2
      rcases Nat.mod_two_eq_zero_or_one j with hm2 | hm2
      · have ej : j / 2 * 2 = j := by omega
        rw [ej] at hat h1
        rw [hat.1] at hu
        injection hu with hu
        rw [← hu]; exact h1
      · have ej : j / 2 * 2 + 1 = j := by omega
        rw [Nat.add_assoc, ej] at h2
        rw [ej] at hat
        rw [hat.2] at hu
        injection hu with hu
        rw [← hu]; exact h2
    · intro x hx
      obtain ⟨i, hi, rfl⟩ := List.mem_map.1 hx
      exact (hX i (List.mem_range.1 hi)).2
end
end Go.Proofs.YtpoaeppapmbkpaaDoor

