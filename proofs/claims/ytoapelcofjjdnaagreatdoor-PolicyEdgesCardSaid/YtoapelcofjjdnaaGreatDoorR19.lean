/- A part of the proof. -/
import Derived.Test.YtoapelcofjjdnaaGreatDoorR17
import Derived.StillTailTactics
import Derived.Deep.RegionHeld3
namespace Go.Proofs.YtoapelcofjjdnaaGreatDoor
set_option linter.all false
open Go.RowKit
theorem Row.grown {w w' : World} {g : Nat} {xs : List Value} {row : Option Nat} (h : Row w g xs) (hg : w.grownBy w' row) (hne : some g ≠ row) : Row w' g xs := by
 obtain ⟨h1, h2, h3⟩ := h
 exact ⟨fun j u hu => (hg.cell_far ⟨g, j, none⟩ h3 hne).trans (h1 j u hu), fun j hj => (hg.frozen_far ⟨g, j, none⟩ h3 hne).trans (h2 j hj), Nat.lt_of_lt_of_le h3 hg.size⟩
theorem Row.made (w : World) (us : Array Value) (e : TypeId) : Row (w.alloc (.cells us e)) w.heap.size us.toList :=
 ⟨fun j u hu => by rw [cell_of_row (w.alloc (.cells us e)) w.heap.size j us e (0, 0) (heap_alloc_new w _), ← hu]; simp, fun j _ => Lib.frozen_of_heap (heap_alloc_new w _) j, by simp⟩
theorem Rdr.far {w : World} {g X : Nat} {s : List UInt8} {ok : Bool} {v : Value} {gap : Int} (h : Rdr w g s ok v gap) (hne : g ≠ X) (j : Nat) (u : Value) : Rdr (w.setCell ⟨X, j, none⟩ u) g s ok v gap :=
 h.keep (Below.heap_setCell _ _ _ _ hne)
theorem or_bytes {a b : Nat} (hb : b < 256) : a * 256 ||| b = a * 256 + b := by
 have := Nat.shiftLeft_add_eq_or_of_lt (show b < 2 ^ 8 from hb) a
 rw [Nat.shiftLeft_eq] at this
 exact this.symm
def sMore : Nat → List UInt8 → Option (List Nat)
 | 0, r => if r = [] then some [] else none
 | k + 1, r => match r with
  | [] => none
  | c :: t => if c = 46 then sBytes (k + 1) t else none
def FI (j : Nat) (r : List UInt8) (ok : Bool) (xs : List Nat) (T : Option (List Nat)) : Prop :=
 xs.length = 4 ∧ (∀ x ∈ xs, x < 65536) ∧ (ok = false → T = none) ∧ (ok = true → (∀ x ∈ xs, x < 256) ∧ T = (if j = 0 then sBytes 4 r else sMore (4 - j) r).map (xs.take j ++ ·))
def FourIs (s r : List UInt8) (ok : Bool) (y0 y1 : Nat) : Prop := (∃ m, sFour s = some m ∧ ok = true ∧ r = [] ∧ m = [y0, y1]) ∨ (sFour s = none ∧ ¬ (ok = true ∧ r = []))
theorem FI.done {s r : List UInt8} {ok : Bool} {a b c d : Nat} (h : FI 4 r ok [a, b, c, d] (sBytes 4 s)) : FourIs s r ok (a * 256 % 65536 ||| b) (c * 256 % 65536 ||| d) := by
 obtain ⟨_, _, h3, h4⟩ := h
 unfold FourIs sFour
 cases ok with
 | false => exact .inr ⟨by rw [h3 rfl]; rfl, fun e => by cases e.1⟩
 | true =>
  obtain ⟨h4, h5⟩ := h4 rfl
  have ha := h4 a (by simp)
  have hb := h4 b (by simp)
  have hc := h4 c (by simp)
  have hd := h4 d (by simp)
  have h5 : sBytes 4 s = (if r = [] then some [] else none).map ([a, b, c, d] ++ ·) := h5
  by_cases hr : r = []
  ·
   refine .inl ⟨[a * 256 + b, c * 256 + d], by rw [h5, if_pos hr]; rfl, rfl, hr, ?_⟩
   rw [Nat.mod_eq_of_lt (by omega), Nat.mod_eq_of_lt (by omega), or_bytes hb, or_bytes hd]
  · exact .inr ⟨by rw [h5, if_neg hr]; rfl, fun e => hr e.2⟩
end Go.Proofs.YtoapelcofjjdnaaGreatDoor
namespace Go.Proofs.YtoapelcofjjdnaaGreatDoor
set_option linter.all false
open Go.RowKit
section
variable {g : Nat} {s p : List UInt8} {ok : Bool} {l : List Nat} {gap : Int}
end
section
variable {f : Nat} {r : List UInt8} {l : List Nat} {go : Option Nat} (h : ¬ 8 < l.length) (hd : dotted r = false) (hk : okPiece (r.takeWhile hexOk) = true)
include h hd hk
end
end Go.Proofs.YtoapelcofjjdnaaGreatDoor
