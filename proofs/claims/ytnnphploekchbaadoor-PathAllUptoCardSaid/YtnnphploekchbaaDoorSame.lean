/- shortcutref1.SameRunes: are two lists the same? -/
import Derived.Test.YtnnphploekchbaaDoorPre
import Derived.Test.YtnnphploekchbaaDoorRows
namespace Go.Proofs.YtnnphploekchbaaDoor
set_option linter.all false
open Go.RowKit

theorem bnext {a b c : World} (h : Below a.heap.size a b) (k : Below b.heap.size b c) : Below a.heap.size a c := h.trans (k.mono h.size)
theorem bnew {a b : World} (h : Below a.heap.size a b) (o : Obj) : Below a.heap.size a (b.alloc o) := h.alloc h.size o
theorem bdrawn {a b : World} (h : Below a.heap.size a b) (n : Nat) : Below a.heap.size a (b.drewN n) := below_drewN h n
theorem Rd.next {w w' : World} {A : Option Addr} {xs : List Value} (h : Rd w w.heap.size A xs) (hb : Below w.heap.size w w') : Rd w' w'.heap.size A xs := (h.below hb).mono hb.size
theorem Rd.new {w : World} {A : Option Addr} {xs : List Value} (h : Rd w w.heap.size A xs) (o : Obj) : Rd (w.alloc o) (w.alloc o).heap.size A xs := (h.alloc (Nat.le_refl _) o).mono (by simp)
theorem Rd.lit {w : World} {us : Array Value} {e : TypeId} {m : Nat × Nat} : Rd (w.alloc (.cells us e m)) (w.alloc (.cells us e m)).heap.size (some ⟨w.heap.size, 0, none⟩) us.toList := fun _ =>
  ⟨w.heap.size, 0, rfl, by simp, fun j u hu => by
    rw [Nat.zero_add, cell_of_row (w.alloc (.cells us e m)) w.heap.size j us e m (heap_alloc_new w _), ← hu]; simp⟩

def sameB (l m : List Int) : Bool := decide (l = m)
theorem sameB_self (l : List Int) : sameB l l = true := decide_eq_true rfl

theorem Rd.rune_at {w : World} {B : Nat} {A : Option Addr} {l : List Int} (h : Rd w B A (runes l)) {k : Nat} (hk : k < l.length) :
    ∃ b off x, A = some ⟨b, off, none⟩ ∧ b < B ∧ w.cell? ⟨b, off + k, none⟩ = some (.int .i32 x) ∧ Hid (l[k]? = some x) := by
  obtain ⟨b, off, e, hb, hc⟩ := h.at_ (k := k) (by rw [runes_len]; exact hk)
  refine ⟨b, off, l[k], e, hb, ?_, List.getElem?_eq_getElem hk⟩
  rw [hc]; simp [runes]
theorem Rd.byte_at {w : World} {B : Nat} {A : Option Addr} {l : List UInt8} (h : Rd w B A (bytes l)) {k : Nat} (hk : k < l.length) :
    ∃ b off x, A = some ⟨b, off, none⟩ ∧ b < B ∧ w.cell? ⟨b, off + k, none⟩ = some (.int .u8 (x.toNat : Int)) ∧ Hid (l[k]? = some x) := by
  obtain ⟨b, off, e, hb, hc⟩ := h.at_ (k := k) (by rw [bytes_len]; exact hk)
  refine ⟨b, off, l[k], e, hb, ?_, List.getElem?_eq_getElem hk⟩
  rw [hc]; simp [bytes]

theorem take_same {l m : List Int} {k : Nat} {x y : Int} (h : l.take k = m.take k) (hx : l[k]? = some x) (hy : m[k]? = some y) : (x = y → l.take (k + 1) = m.take (k + 1)) ∧ (x ≠ y → l ≠ m) := by
  obtain ⟨h1, e1⟩ := List.getElem?_eq_some_iff.1 hx
  obtain ⟨h2, e2⟩ := List.getElem?_eq_some_iff.1 hy
  refine ⟨fun e => ?_, fun ne e => ?_⟩
  · rw [take_snoc' l k h1, take_snoc' m k h2, h, e1, e2, e]
  · subst e
    rw [hx] at hy
    injection hy with hy
    exact ne hy

end Go.Proofs.YtnnphploekchbaaDoor

