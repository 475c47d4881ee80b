/- What the call owns, as it reads. -/
import Derived.Test.YtnnphploekchbaaDoorSame
namespace Go.Proofs.YtnnphploekchbaaDoor
set_option linter.all false
open Go.RowKit

theorem Rd.own {w : World} {base : Nat} {e : TypeId} {A : Option Addr} {n m c : Nat} {xs : List Value} (h : w.ownsRow base e 1 (.slice A m c) n xs) : Rd w w.heap.size A xs := by
  obtain ⟨A', c', hv, _, _, _, hr⟩ := Rd.of_own h
  injection hv with e1
  subst e1
  exact hr
theorem own_rd {w : World} {base : Nat} {e : TypeId} {v : Value} {n : Nat} {xs : List Value} (h : w.ownsRow base e 1 v n xs) : ∃ A c, v = .slice A n c ∧ n ≤ c ∧ c ≤ maxLen ∧ Rd w w.heap.size A xs := by
  obtain ⟨A, c, e, h1, h2, _, h3⟩ := Rd.of_own h
  exact ⟨A, c, e, h1, h2, h3⟩
theorem own_cap {w : World} {base : Nat} {e : TypeId} {A : Option Addr} {n c size : Nat} {xs : List Value} (h : w.ownsRow base e size (.slice A n c) n xs) : n ≤ c ∧ c ≤ maxLen := by
  obtain ⟨A', c', hv, h1, h2⟩ := own_shape h
  injection hv with _ _ e3
  subst e3
  exact ⟨h1, h2⟩
theorem empty_own (w : World) (e : TypeId) : (w.alloc (.cells #[] e)).ownsRow w.heap.size e 1 (.slice (some ⟨w.heap.size, 0, none⟩) 0 0) 0 [] :=
  World.ownsRow_lit w #[] 0 (Nat.le_refl _) (by decide) rfl
theorem bytes_of {l : List Int} (h : ∀ n ∈ l, (Lit.int .u8 n).wf = true) : ∃ b : List UInt8, l.length = b.length ∧ l.map (Value.int .u8) = bytes b := by
  refine ⟨l.map fun n => UInt8.ofNat n.toNat, by rw [List.length_map], ?_⟩
  unfold bytes
  rw [List.map_map]
  refine List.map_congr_left fun n hn => ?_
  have hw := h n hn
  have h1 : 0 ≤ n ∧ n < 256 := by
    have := bounds_u8 hw
    omega
  show Value.int .u8 n = Value.int .u8 ((UInt8.ofNat n.toNat).toNat : Int)
  rw [UInt8.toNat_ofNat']
  congr 1
  omega
end Go.Proofs.YtnnphploekchbaaDoor

