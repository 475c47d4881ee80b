/- A part of the proof. -/
import Derived.Test.YtoapelcofjjdnaaGreatDoorR13
import Derived.Shelf.Spec.SlicesInsertGrow
namespace Go.Proofs.YtoapelcofjjdnaaGreatDoor
set_option linter.all false
open Go.RowKit Go.Lib
def CellsOf (w : World) (g : Nat) (e : TypeId) (cap : Nat) : Prop := ∃ cur, w.heap[g]? = some (.cells cur e (0, 0)) ∧ cur.size = cap
theorem CellsOf.set {w : World} {g : Nat} {e : TypeId} {cap : Nat} (h : CellsOf w g e cap) (j : Nat) (v : Value) : CellsOf (w.setCell ⟨g, j, none⟩ v) g e cap := by
 obtain ⟨cur, h1, h2⟩ := h
 exact ⟨cur.setIfInBounds j v, heap_setCell_same w g j cur e v h1, by rw [Array.size_setIfInBounds, h2]⟩
theorem CellsOf.sets {g : Nat} {e : TypeId} {cap : Nat} : ∀ (vs : List Value) (o : Nat) (w : World), CellsOf w g e cap → CellsOf (w.setCells g o vs) g e cap
 | [], _, _, h => h
 | v :: r, o, w, h => CellsOf.sets r (o + 1) _ (h.set o v)
end Go.Proofs.YtoapelcofjjdnaaGreatDoor
namespace Go.Proofs.YtoapelcofjjdnaaGreatDoor
set_option linter.all false
open Go.RowKit Go.Lib
end Go.Proofs.YtoapelcofjjdnaaGreatDoor
