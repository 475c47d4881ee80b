/- A part of the proof. -/
import Derived.Test.YtoapelcofjjdnaaGreatDoorHLawHost
import Derived.Test.YtoapelcofjjdnaaGreatDoorH18
import Derived.Test.YtoapelcofjjdnaaGreatDoorH14
import Derived.Deep.RegionHeld3
namespace Go.Proofs.YtoapelcofjjdnaaGreatDoor
set_option linter.all false
open Go.RowKit
theorem Row.c8 {w : World} {g : Nat} {v0 v1 v2 v3 v4 v5 v6 v7 : Value} (h : Row w g [v0, v1, v2, v3, v4, v5, v6, v7]) :
  w.cell? ⟨g, 0, none⟩ = some v0 ∧ w.cell? ⟨g, 1, none⟩ = some v1 ∧ w.cell? ⟨g, 2, none⟩ = some v2 ∧ w.cell? ⟨g, 3, none⟩ = some v3 ∧ w.cell? ⟨g, 4, none⟩ = some v4 ∧ w.cell? ⟨g, 5, none⟩ = some v5 ∧ w.cell? ⟨g, 6, none⟩ = some v6 ∧ w.cell? ⟨g, 7, none⟩ = some v7 :=
 ⟨h.1 0 _ rfl, h.1 1 _ rfl, h.1 2 _ rfl, h.1 3 _ rfl, h.1 4 _ rfl, h.1 5 _ rfl, h.1 6 _ rfl, h.1 7 _ rfl⟩
end Go.Proofs.YtoapelcofjjdnaaGreatDoor
