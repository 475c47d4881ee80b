/- Texts as lists of bytes: what the conversions give. -/
import Derived.Test.YtnnphploekchbaaDoorUtfP
import Derived.Laws.BytesString
import Derived.Laws.IdiomStrings
namespace Go.Proofs.YtnnphploekchbaaDoor
set_option linter.all false
open Go.RowKit

def str (l : List UInt8) : ByteArray := ⟨l.toArray⟩
theorem str_data (l : List UInt8) : (str l).data.toList = l := by simp [str]
theorem str_size (l : List UInt8) : (str l).size = l.length := by simp [str, ByteArray.size]
theorem str_of (s : ByteArray) : str s.data.toList = s := by
  cases s; simp [str]
theorem str_inj {a b : List UInt8} (h : str a = str b) : a = b := by rw [← str_data a, h, str_data]


/-- string(b) of bytes that read as l. -/
theorem run_str {P : Program} {w : World} {src dst e : TypeId} {B : Nat} {A : Option Addr} {c : Nat} {l : List UInt8} (hs : P.underlying src = some (.slice e)) (he : P.underlying e = some (.int .u8)) (hd : P.underlying dst = some .string)
    (hr : Rd w B A (bytes l)) : (convert src dst (.slice A l.length c)).run P w = .ok (.string (str l)) w := by
  rcases Nat.eq_zero_or_pos l.length with h0 | h0
  · rw [run_convert_bytes_string w src dst e A l.length c hs he hd]
    have h00 : l = [] := List.eq_nil_of_length_eq_zero h0
    subst h00
    cases A <;> simp [Conv.bytesToString, Sem.run_pure, str, loadCells, loadCellsFrom] <;> rfl
  · obtain ⟨b, off, rfl, _, hc⟩ := hr (by rw [bytes_len]; exact h0)
    refine run_convert_bytes_back w src dst e ⟨b, off, none⟩ c l hs he hd fun j hj => ?_
    rw [Addr.add_lit]
    refine hc j _ ?_
    unfold bytes
    rw [List.getElem?_map, List.getElem?_eq_getElem hj]; rfl

/-- Block g is a row of cells that may be written at places below n; its first n cells are xs. -/
def Row (w : World) (g : Nat) (xs : List Value) : Prop :=
  (∀ j u, xs[j]? = some u → w.cell? ⟨g, j, none⟩ = some u) ∧ (∀ j, j < xs.length → w.frozen? ⟨g, j, none⟩ = false) ∧ g < w.heap.size

theorem Row.rd {w : World} {g : Nat} {xs : List Value} (h : Row w g xs) {B : Nat} (hB : g < B) : Rd w B (some ⟨g, 0, none⟩) xs := fun _ => ⟨g, 0, rfl, hB, fun j u hu => by rw [Nat.zero_add]; exact h.1 j u hu⟩
theorem Row.below {w w' : World} {g B : Nat} {xs : List Value} (h : Row w g xs) (hb : Below B w w') (hg : g < B) : Row w' g xs :=
  ⟨fun j u hu => (hb.cell (p := ⟨g, j, none⟩) hg).trans (h.1 j u hu), fun j hj => (hb.frozen (p := ⟨g, j, none⟩) hg).trans (h.2.1 j hj), Nat.lt_of_lt_of_le h.2.2 hb.size⟩
theorem Row.set {w : World} {g : Nat} {xs : List Value} (h : Row w g xs) {j : Nat} (hj : j < xs.length) (u : Value) : Row (w.setCell ⟨g, j, none⟩ u) g (xs.set j u) := by
  obtain ⟨h1, h2, h3⟩ := h
  refine ⟨fun i v hv => ?_, fun i hi => ?_, by simpa [World.setCell] using h3⟩
  · by_cases hij : i = j
    · subst hij
      rw [List.getElem?_set_self hj] at hv
      injection hv with hv
      subst hv
      have hc := h1 i xs[i] (List.getElem?_eq_getElem hj)
      exact World.cell?_setCell_same (w := w) (a := ⟨g, i, none⟩) u hc
    · rw [List.getElem?_set_ne (fun e => hij e.symm)] at hv
      rw [World.cell?_setCell_other w _ _ u (by intro e; injection e with _ e; exact hij e.symm)]
      exact h1 i v hv
  · rw [List.length_set] at hi
    rw [World.frozen?_setCell]
    exact h2 i hi

section
variable {P : Program} {w : World} {ops : Array Oper} {rest : List Oper} {o : Oper} {a : Act} {Q : Exit → Act → World → Prop}

theorem wpList_str (hgd : o.guard = none) (x : Operand) (src dst e : TypeId) (ho : o.op = .convert src dst x) (hs : P.underlying src = some (.slice e)) (he : P.underlying e = some (.int .u8)) (hd : P.underlying dst = some .string)
    (B : Nat) (A : Option Addr) (n c : Nat) (l : List UInt8) (hx : a.eval x = .slice A n c) (hn : n = l.length) (hr : Rd w B A (bytes l))
    (h : wpList P ops Q rest (a.put o.dst (.string (str l))) w) : wpList P ops Q (o :: rest) a w := by
  subst hn
  refine wpList_plain hgd fun K hK => ?_
  unfold Oper.wp execOp
  simp only [ho, hx, run_str hs he hd hr, Sem.run_bind, Sem.run_pure, Result.andThen_ok]
  exact hK _ _ h

theorem wpList_bytes (hgd : o.guard = none) (x : Operand) (src dst e : TypeId) (ho : o.op = .convert src dst x) (hs : P.underlying src = some .string) (hd : P.underlying dst = some (.slice e)) (he : P.underlying e = some (.int .u8))
    (s : ByteArray) (hx : a.eval x = .string s) (hlen : s.size ≤ 1000000)
    (h : ∀ c' w', s.size ≤ c' → c' ≤ maxLen → Row w' w.heap.size (bytes s.data.toList) → Below w.heap.size w w' → w.heap.size < w'.heap.size → wpList P ops Q rest (a.put o.dst (.slice (some ⟨w.heap.size, 0, none⟩) s.size c')) w') :
    wpList P ops Q (o :: rest) a w := by
  refine wpList_plain hgd fun K hK => ?_
  unfold Oper.wp execOp
  simp only [ho, hx, run_bytes_of_string w src dst e s hs hd he, Sem.run_bind, Sem.run_pure, Result.andThen_ok]
  refine hK _ _ (h _ _ (grownCap_ge _ _ _ _) (grownCap_le_maxLen _ _ _ _ (by unfold maxLen; omega)) ?_ ((Below.refl _ _).drew.alloc (Nat.le_refl _) _) (by simp))
  have hge := grownCap_ge w s.size 0 e
  have hrow : (w.drew.alloc (.cells (bytesRow s (grownCap w s.size 0 e)) e ((bytesRow s (grownCap w s.size 0 e)).size, (bytesRow s (grownCap w s.size 0 e)).size + 1))).heap[w.heap.size]? = some (.cells (bytesRow s (grownCap w s.size 0 e)) e ((bytesRow s (grownCap w s.size 0 e)).size, (bytesRow s (grownCap w s.size 0 e)).size + 1)) := heap_alloc_new w.drew _
  have hsz : (bytesRow s (grownCap w s.size 0 e)).size = grownCap w s.size 0 e := by
    unfold bytesRow; rw [Array.size_append, Array.size_map, Array.size_replicate]; show s.size + _ = _; omega
  refine ⟨fun j u hu => ?_, fun j hj => ?_, by simp⟩
  · rw [cell_of_row _ _ j _ _ _ hrow]
    have hj : j < s.data.toList.length := by
      rcases Nat.lt_or_ge j s.data.toList.length with h1 | h1
      · exact h1
      · rw [List.getElem?_eq_none (by rw [bytes_len]; exact h1)] at hu; cases hu
    unfold bytesRow
    rw [Array.getElem?_append_left (by simpa using hj)]
    unfold bytes at hu
    rw [← hu]
    simp
  · rw [bytes_len] at hj
    have hj2 : j < s.size := hj
    unfold World.frozen?
    rw [hrow]
    show (decide (_ ≤ j) && decide (j < _)) = false
    rw [hsz, decide_eq_false (by omega), Bool.false_and]
end
end Go.Proofs.YtnnphploekchbaaDoor

