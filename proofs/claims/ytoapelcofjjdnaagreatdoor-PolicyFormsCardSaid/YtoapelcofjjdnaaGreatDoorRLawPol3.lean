/- A part of the proof. -/
import Derived.Test.YtoapelcofjjdnaaGreatDoorRLawPol
namespace Go.Proofs.YtoapelcofjjdnaaGreatDoor
set_option linter.all false
open Go.RowKit
theorem rd_one (w : World) (s : List UInt8) : Rd (w.alloc (.cells #[.string (str s)] 9)) (w.alloc (.cells #[.string (str s)] 9)).heap.size (some ⟨w.heap.size, 0, none⟩) (strs [s]) := by
 obtain ⟨A2, c2, e, _, _, h3⟩ := own_rdN (World.ownsRow_lit w (e := 9) (size := 1) #[.string (str s)] 1 (Nat.le_refl _) (by decide) rfl)
 injection e with e1 e2 e3
 rw [e1]; exact h3
end Go.Proofs.YtoapelcofjjdnaaGreatDoor
