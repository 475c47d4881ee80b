/- The walks of utf.walk with its two closures, utf.Decode, utf.Valid. -/
import Derived.Test.YtaglbcniomcfnaaDoorUtfA
import Derived.Deep.DeepFit
namespace Go.Proofs.YtaglbcniomcfnaaDoor
set_option linter.all false
open Go.RowKit

theorem info_i32u : (Tryd.prog.info? 21).map (fun i => (i.zero, i.size, i.bytes)) = some (some (.int .i32 0), 1, 4) := by kernel_rfl

theorem slice_len {A : Option Addr} {c n m : Nat} (h : n = m) : Value.slice A n c = .slice A m c := by rw [h]
theorem rd_step {w : World} {B bk off : Nat} {rest : List UInt8} {k j : Nat} (h : Rd w B (some ⟨bk, off, none⟩) (bytes rest)) (hj : j = off + k ∨ rest.length ≤ k) : Rd w B (some ⟨bk, j, none⟩) (bytes (rest.drop k)) := by
  by_cases hk : rest.length ≤ k
  · rw [List.drop_eq_nil_of_le hk]; exact Rd.nil
  · have e : j = off + k := by omega
    subst e
    unfold bytes
    rw [List.map_drop]
    exact h.dropAt k
theorem own_eq {w : World} {base : Nat} {e : TypeId} {size n m : Nat} {v : Value} {xs ys : List Value} (h : w.ownsRow base e size v n xs) (hn : n = m) (hx : xs = ys) : w.ownsRow base e size v m ys := by
  subst hn; subst hx; exact h
theorem dec1_bd (l : List UInt8) (h : 0 < l.length) : (dec1 l).2 ≤ l.length ∧ (dec1 l).2 ≤ 4 := ⟨dec1_len h, dec1_le l⟩

end Go.Proofs.YtaglbcniomcfnaaDoor

