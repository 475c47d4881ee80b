/- A part of the proof. -/
import Derived.Test.YtoapelcofjjdnaaGreatDoorR28
import Derived.Test.YtoapelcofjjdnaaGreatDoorR23
import Derived.Stop.Texts
import Derived.Stop.ErrReads
import Derived.Stop.LaidErr
namespace Go.Proofs.YtoapelcofjjdnaaGreatDoor
set_option linter.all false
open Go.ChangeShapes Go.WideShapes Go.ChangeAt Go.RowKit Go.Deep
theorem u16_of {n : Int} (h : (Lit.int .u16 n).wf = true) : ∃ c : Nat, n = (c : Int) ∧ c < 65536 := by
 have h1 : 0 ≤ n ∧ n < 65536 := by
  simp [Lit.wf, IntKind.min, IntKind.max, IntKind.signed, IntKind.bits] at h
  omega
 exact ⟨n.toNat, by omega, by omega⟩
section
variable {H : Type} {enc : TypeId × Value → H} {W : World} {base : Nat} {spare : Nat → Bool} {held : Bool}
set_option maxRecDepth 100000 in
set_option maxHeartbeats 1000000 in
theorem okWide_arr8 {r : Reach} {b0 : Nat} {v : Value} (h : Value.okWide Tryz.prog W r b0 24 v) : ∃ cs : Array Value, v = .agg cs ∧ cs.size = 8 := by
 simp only [Value.okWide, Tryz.underlying24] at h
 obtain ⟨cs, h1, h2, _⟩ := h
 exact ⟨cs, h1, by rw [h2]; kernel_rfl⟩
-- Eight numbers of 16 bits that came in by value.
set_option maxRecDepth 100000 in
set_option maxHeartbeats 1000000 in
theorem open_arr8 {r : Reach} {b0 : Nat} {v : Value} {d : DataW H} {p : List MemPlace} (hval : Value.okWide Tryz.prog W r b0 24 v) (h : DataW.Trod enc Tryz.prog W base spare held 24 v d p) :
  ∃ a0 a1 a2 a3 a4 a5 a6 a7 : Nat, v = .agg #[.int .u16 (a0 : Int), .int .u16 (a1 : Int), .int .u16 (a2 : Int), .int .u16 (a3 : Int), .int .u16 (a4 : Int), .int .u16 (a5 : Int), .int .u16 (a6 : Int), .int .u16 (a7 : Int)] ∧ ∀ x ∈ [a0, a1, a2, a3, a4, a5, a6, a7], x < 65536 := by
 obtain ⟨cs, rfl, hs⟩ := okWide_arr8 hval
 obtain ⟨fuel, hf⟩ := h
 obtain ⟨l⟩ := cs
 have hc1 : Tryz.prog.cellsOf 23 = 1 := by kernel_rfl
 obtain ⟨xs, m, _, _, hlen, hxl, hat⟩ := DataW.trod_array Tryz.underlying24 hf
 rw [hc1] at hat
 have hl8 : l.length = 8 := by simpa using hs
 match l, hl8 with
 | [c0, c1, c2, c3, c4, c5, c6, c7], _ =>
  have key : ∀ i (c : Value), ([c0, c1, c2, c3, c4, c5, c6, c7].drop (i * 1)).take 1 = [c] → i < 8 → ∃ n : Nat, c = .int .u16 (n : Int) ∧ n < 65536 := by
   intro i c hc hi
   have h := hat i hi
   rw [show (Value.agg (List.toArray [c0, c1, c2, c3, c4, c5, c6, c7])).cells.toList = [c0, c1, c2, c3, c4, c5, c6, c7] from rfl, hc, List.getElem?_eq_getElem (by omega)] at h
   obtain ⟨n, e1, _, hw⟩ := DataW.trod_int Tryz.underlying23 h
   obtain ⟨k, rfl, hk⟩ := u16_of hw
   injection e1 with e1
   exact ⟨k, e1, hk⟩
  obtain ⟨n0, rfl, h0⟩ := key 0 c0 rfl (by decide)
  obtain ⟨n1, rfl, h1⟩ := key 1 c1 rfl (by decide)
  obtain ⟨n2, rfl, h2⟩ := key 2 c2 rfl (by decide)
  obtain ⟨n3, rfl, h3⟩ := key 3 c3 rfl (by decide)
  obtain ⟨n4, rfl, h4⟩ := key 4 c4 rfl (by decide)
  obtain ⟨n5, rfl, h5⟩ := key 5 c5 rfl (by decide)
  obtain ⟨n6, rfl, h6⟩ := key 6 c6 rfl (by decide)
  obtain ⟨n7, rfl, h7⟩ := key 7 c7 rfl (by decide)
  refine ⟨n0, n1, n2, n3, n4, n5, n6, n7, rfl, fun x hx => ?_⟩
  simp only [List.mem_cons, List.not_mem_nil, or_false] at hx
  omega
-- A slice of numbers of 16 bits that came in.
end
end Go.Proofs.YtoapelcofjjdnaaGreatDoor
