/- What the second form's card of layer 10 asks besides: the bulk of the texts, and a witness that meets the bound. -/
import Derived.Test.YtnnphploekchbaaDoorCrdP
import Derived.Test.YtnnphploekchbaaDoorPathP
import Derived.Deep.DeepHandedRow
namespace Go.Proofs.YtnnphploekchbaaDoor
set_option linter.all false
open Go.ChangeShapes Go.WideShapes Go.ChangeAt Go.RowKit Go.Deep

section
variable {H : Type} {enc : TypeId × Value → H} {W : World} {base : Nat} {spare : Nat → Bool} {held : Bool}
theorem show_bulk (X : Nat → List UInt8) (D : Nat → DataW H) : ∀ (L : List Nat), (∀ i ∈ L, D i = .lit (.string (X i))) → (pShowP (L.map X)).length = Rows.uptoBulkAll (L.map D) := by
  intro L
  induction L with
  | nil => intro _; simp [pShowP, Rows.uptoBulkAll]
  | cons i L ih =>
    intro h
    have h1 := h i (by simp)
    have h2 := ih fun j hj => h j (by simp [hj])
    have e : pShowP (X i :: L.map X) = 47 :: X i ++ pShowP (L.map X) := by simp [pShowP]
    rw [List.map_cons, e, List.map_cons, h1, List.length_append, List.length_cons, h2]
    simp only [Rows.uptoBulkAll, Rows.uptoBulk]
/-- A slice of strings that came in, and how many letters it holds. -/
theorem open_textsB {len c : Nat} {A : Option Addr} {d : DataW H} {p : List MemPlace} (h : DataW.Trod enc Tryd.prog W base spare held 22 (.slice A len c) d p) :
    ∃ l : List (List UInt8), len = l.length ∧ len ≤ c ∧ c ≤ maxLen ∧ Rd W W.heap.size A (strs l) ∧ (pShowP l).length ≤ Rows.uptoBulk d := by
  obtain ⟨fuel, hf⟩ := h
  rcases open_slice1 Tryd.underlying22 (by kernel_rfl) hf with ⟨hcs, _⟩ | ⟨a, len', cap, m, n, V, D, Pl, hcs, _, hl, hm, hmm, hd, hV⟩
  · simp [Value.cells] at hcs
    obtain ⟨rfl, rfl, rfl⟩ := hcs
    exact ⟨[], rfl, Nat.le_refl _, by simp [maxLen], Rd.nil, Nat.zero_le _⟩
  · simp [Value.cells] at hcs
    obtain ⟨rfl, rfl, rfl⟩ := hcs
    have hle : len ≤ m := by rw [hmm]; split <;> omega
    have hg : ∀ i, i < len → ∃ x : List UInt8, W.cell? (a.add i) = some (.string (str x)) ∧ D i = .lit (.string x) := fun i hi => by
      obtain ⟨h1, h2⟩ := hV i (by omega)
      obtain ⟨s, e1, e2, e3⟩ := DataW.trod_string Tryd.underlying9 h2
      injection e1 with e1
      injection e2 with e2 _
      exact ⟨s.data.toList, by rw [h1, e1, str_of], e2⟩
    obtain ⟨X, hX⟩ := choose_lt (α := List UInt8) (p := fun i x => W.cell? (a.add i) = some (.string (str x)) ∧ D i = .lit (.string x)) hg
    refine ⟨(List.range len).map X, by simp, hl, hm, fun hp => ?_, ?_⟩
    · rw [strs_len, List.length_map, List.length_range] at hp
      obtain ⟨b, off, rfl, hb⟩ := plain_spot (hX 0 hp).1
      refine ⟨b, off, rfl, hb, fun j u hu => ?_⟩
      unfold strs at hu
      rw [List.getElem?_map, List.getElem?_map] at hu
      rcases Nat.lt_or_ge j len with hj | hj
      · rw [List.getElem?_range hj] at hu
        injection hu with hu
        rw [← hu, ← add_off]
        exact (hX j hj).1
      · rw [List.getElem?_eq_none (by simpa using hj)] at hu; cases hu
    · have hs := show_bulk X D (List.range len) fun i hi => (hX i (List.mem_range.1 hi)).2
      injection hd with hd _
      rw [hd, hs]
      simp only [Rows.uptoBulk]
      omega
end
theorem witness_rowS {H : Type} {enc : TypeId × Value → H} {C : Checked} {os : Os} {f : FuncId} {fn : Func} {s : OpenSpec} {conds : List PathCond} {apart : Bool} {laid : List (String × DataW Unit)} (modest : Bool) (w0 : World) (args : Array Value) (hos : w0.os = os)
    (hsh : (w0.forCall (fun _ _ => 0) ⟨#[], args, []⟩).Shaped C.prog)
    (hok : Input.okWideB C.prog (w0.forCall (fun _ _ => 0) ⟨#[], args, []⟩) f ⟨#[], args, []⟩ = true)
    (hrow : s.preRow enc C.prog fn conds apart laid (w0.forCall (fun _ _ => 0) ⟨#[], args, []⟩).memory args) :
    ∃ (w : World) (tape : Tape) (i : Input), w.os = os ∧ (w.forCall tape i).Shaped C.prog ∧ i.vars = [] ∧ Input.okWide C.prog (w.forCall tape i) .any w.heap.size f i ∧
      s.preRow enc C.prog fn conds apart laid (w.forCall tape i).memory i.args ∧ ({ modest := modest } : Assume).holds C.prog (lone (Frame.enter C.prog f i.args .normal) [] (w.forCall tape i)) :=
  ⟨w0, fun _ _ => 0, ⟨#[], args, []⟩, hos, hsh, (Input.okWide_of_okWideB (base := 0) hok).1, (Input.okWide_of_okWideB hok).2, hrow, by
    simp only [Assume.holds]
    exact ⟨by simp, by simp, fun _ => Modest.zero, by simp, by simp⟩⟩
end Go.Proofs.YtnnphploekchbaaDoor

