/- The address of a part without cells. Nothing here speaks of the program. -/
import Derived.Test.YtnnphploekchbaaDoorPre
namespace Go.Proofs.YtnnphploekchbaaDoor
set_option linter.all false
open Go.RowKit

theorem run_partAt_zero {P : Program} {w : World} {b : Nat} {e : TypeId} {n : Nat} (hs : w.shape? b = some (e, n)) (hc : P.cellsOf e = 0 ∨ ∃ k, byteOfCell P P.depth e 0 = some k) :
    (partAt ⟨b, 0, none⟩ 0 0).run P w = .ok ⟨b, 0, none⟩ w := by
  have hb : ∃ k, (byteOf ⟨b, 0, none⟩).run P w = .ok k w := by
    by_cases h0 : P.cellsOf e = 0
    · refine ⟨0, ?_⟩
      simp [byteOf, noView, viewAt, hs, h0]
    · rcases hc with hc | ⟨k, hk⟩
      · exact absurd hc h0
      · refine ⟨k, ?_⟩
        simp [byteOf, noView, viewAt, hs, h0, hk]
  obtain ⟨k, hk⟩ := hb
  unfold partAt
  simp [hk]
theorem shape_new (w : World) (cs : Array Value) (e : TypeId) (m : Nat × Nat) : (w.alloc (.cells cs e m)).shape? w.heap.size = some (e, cs.size) := by
  have h := heap_alloc_new w (.cells cs e m)
  unfold World.shape?
  rw [h]
end Go.Proofs.YtnnphploekchbaaDoor

