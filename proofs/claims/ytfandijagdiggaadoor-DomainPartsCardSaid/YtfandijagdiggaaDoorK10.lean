/- Texts as bytes where the order is open; rows of pairs. -/
import Derived.Test.YtfandijagdiggaaDoorK08
import Derived.Test.YtfandijagdiggaaDoorK02
import Derived.Test.YtfandijagdiggaaDoorK09
import Derived.Test.YtfandijagdiggaaDoorK01
namespace Go.Proofs.YtfandijagdiggaaDoor
set_option linter.all false
open Go.RowKit

/-- The row that '[]byte(s)' lays. -/
def byteRow (w : World) (l : List UInt8) (t : TypeId) : Obj :=
  .cells (bytesRow (str l) (grownCap w l.length 0 t)) t ((bytesRow (str l) (grownCap w l.length 0 t)).size, (bytesRow (str l) (grownCap w l.length 0 t)).size + 1)
theorem bytes_at (w : World) (l : List UInt8) :
    (convert 9 22 (.string (str l))).run Tryd.prog w =
      .ok (.slice (some ⟨w.heap.size, 0, none⟩) l.length (grownCap w l.length 0 5)) (w.drew.alloc (byteRow w l 5)) := by
  have hl := str_size l
  rw [run_bytes_of_string w 9 22 5 (str l) Tryd.underlying9 Tryd.underlying22 Tryd.underlying5, hl]
  rfl
theorem byteRow_rd (w : World) (l : List UInt8) (t : TypeId) {B : Nat} (hB : w.heap.size < B) : Rd (w.drew.alloc (byteRow w l t)) B (some ⟨w.heap.size, 0, none⟩) (bytes l) := fun _ => by
  refine ⟨w.heap.size, 0, rfl, hB, fun j u hu => ?_⟩
  have hrow : (w.drew.alloc (byteRow w l t)).heap[w.heap.size]? = some (byteRow w l t) := heap_alloc_new w.drew _
  unfold byteRow at hrow ⊢
  have hj : j < l.length := by
    rcases Nat.lt_or_ge j l.length with h1 | h1
    · exact h1
    · rw [List.getElem?_eq_none (by rw [bytes_len]; exact h1)] at hu; cases hu
  rw [Nat.zero_add, cell_of_row _ _ j _ _ _ hrow]
  unfold bytesRow
  rw [Array.getElem?_append_left (by simpa [str] using hj)]
  unfold bytes at hu
  rw [← hu]
  simp [str]

/-- Pairs as they lie in a row: a name, a value. -/
def prs (l : List Pr) : List Value := l.flatMap fun p => [Value.string (str p.1), Value.string (str p.2)]
theorem prs_len (l : List Pr) : (prs l).length = l.length * 2 := by
  unfold prs
  induction l with
  | nil => rfl
  | cons p l ih => rw [List.flatMap_cons, List.length_append, ih]; simp; omega
theorem prs_append (a b : List Pr) : prs (a ++ b) = prs a ++ prs b := List.flatMap_append ..
theorem prs_one (l : List Pr) : ∀ u ∈ prs l, u.oneCell' = true := by
  intro u hu
  obtain ⟨p, _, hp⟩ := List.mem_flatMap.1 hu
  rcases List.mem_cons.1 hp with rfl | hp
  · rfl
  · rw [List.mem_singleton.1 hp]; rfl
theorem prs_at {l : List Pr} {k : Nat} {p : Pr} (h : l[k]? = some p) : (prs l)[k * 2]? = some (.string (str p.1)) ∧ (prs l)[k * 2 + 1]? = some (.string (str p.2)) := by
  induction l generalizing k with
  | nil => cases h
  | cons q l ih =>
    cases k with
    | zero => simp at h; subst h; exact ⟨rfl, rfl⟩
    | succ k =>
      have := ih (k := k) (by simpa using h)
      have e : prs (q :: l) = [Value.string (str q.1), Value.string (str q.2)] ++ prs l := by unfold prs; rw [List.flatMap_cons]
      rw [e]
      refine ⟨?_, ?_⟩
      · rw [show (k + 1) * 2 = k * 2 + 2 from by omega, List.getElem?_append_right (by simp)]; simpa using this.1
      · rw [show (k + 1) * 2 + 1 = k * 2 + 1 + 2 from by omega, List.getElem?_append_right (by simp)]; simpa using this.2
theorem Rd.pair_at {w : World} {B : Nat} {A : Option Addr} {l : List Pr} (h : Rd w B A (prs l)) {k : Nat} (hk : k < l.length) :
    ∃ b off p, A = some ⟨b, off, none⟩ ∧ b < B ∧ w.cell? ⟨b, off + k * 2, none⟩ = some (.string (str p.1)) ∧ w.cell? ⟨b, off + k * 2 + 1, none⟩ = some (.string (str p.2)) ∧ Hid (l[k]? = some p) := by
  obtain ⟨b, off, e, hb, hc⟩ := h (by rw [prs_len]; omega)
  have hp := prs_at (List.getElem?_eq_getElem hk)
  exact ⟨b, off, l[k], e, hb, hc _ _ hp.1, by rw [Nat.add_assoc]; exact hc _ _ hp.2, List.getElem?_eq_getElem hk⟩
/-- What the call owns reads so, however many cells an element has. -/
theorem own_rdN {w : World} {base : Nat} {e : TypeId} {size : Nat} {v : Value} {n : Nat} {xs : List Value} (h : w.ownsRow base e size v n xs) :
    ∃ A c, v = .slice A n c ∧ n ≤ c ∧ c ≤ maxLen ∧ Rd w w.heap.size A xs := by
  have hl : xs.length = n * size := h.1
  rcases h.2 with ⟨rfl, rfl⟩ | ⟨g, cap, cur, rfl, hb, hg, hnc, hcm, hs, ht⟩
  · exact ⟨none, 0, rfl, Nat.le_refl _, by simp [maxLen], by have e0 : xs = [] := List.eq_nil_of_length_eq_zero (by omega); rw [e0]; exact Rd.nil⟩
  · refine ⟨_, _, rfl, hnc, hcm, fun hn => ⟨g, 0, rfl, (Array.getElem?_eq_some_iff.1 hg).1, fun j u hu => ?_⟩⟩
    have hj : j < n * size := by rcases Nat.lt_or_ge j xs.length with h1 | h1; omega; rw [List.getElem?_eq_none h1] at hu; cases hu
    have := h.cellAt j hj
    rw [Nat.zero_add, this, hu]
theorem info_str : (Tryd.prog.info? 9).map (fun i => (i.zero, i.size, i.bytes)) = some (some (.string ByteArray.empty), 1, 16) := by kernel_rfl
end Go.Proofs.YtfandijagdiggaaDoor
