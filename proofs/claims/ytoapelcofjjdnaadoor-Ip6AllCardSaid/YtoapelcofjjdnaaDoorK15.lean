/- What the cards of layer 8 ask besides: the library's errors, and its table for the lowest bit, as they were laid. -/
import Derived.Test.YtoapelcofjjdnaaDoorK14
import Derived.Test.YtoapelcofjjdnaaDoorK11
import Derived.Stop.Texts
import Derived.Stop.ErrReads
import Derived.Stop.LaidErr
namespace Go.Proofs.YtoapelcofjjdnaaDoor
set_option linter.all false
open Go.ChangeShapes Go.WideShapes Go.ChangeAt Go.RowKit Go.Deep

theorem star_err : "*" ++ "errors.errorString" = "*errors.errorString" := by decide
theorem row_err (u : TypeId) (h : Tryd.prog.typeName? 3 u = some "*errors.errorString") : u = 99 :=
  typeName_ptr_named (nm := "errors.errorString") (by rw [star_err]; kernel_rfl) (by kernel_rfl) (by decide) u (by rw [star_err]; exact h)
def lowTab : List Int := [0, 1, 56, 2, 57, 49, 28, 3, 61, 58, 42, 50, 38, 29, 17, 4, 62, 47, 59, 36, 45, 43, 51, 22, 53, 39, 33, 30, 24, 18, 12, 5, 63, 55, 48, 27, 60, 41, 37, 16, 46, 35, 44, 21, 52, 32, 23, 11, 54, 26, 40, 15, 34, 20, 31, 10, 25, 14, 19, 9, 13, 8, 7, 6]
theorem l8_of {W : World} {L : List (String × DataW Unit)} (hL : laidMetH Tryd.prog L W) (hp : (L.all fun x => x.2.handleName?.isNone) = true) {x y : String × DataW Unit} {t1 t2 : List UInt8} {r : List (String × DataW Unit)}
    (e : L = x :: ("math/bits.deBruijn64tab", Lib.tabData .u8 lowTab) :: y :: ("strconv.ErrRange", .iface "*errors.errorString" (.ptr (.agg [.lit (.string t1)]))) :: ("strconv.ErrSyntax", .iface "*errors.errorString" (.ptr (.agg [.lit (.string t2)]))) :: r) : L8 W := by
  rw [MakeChecks.laidMetH_plain _ _ _ hp] at hL
  subst e
  have gR : Tryd.prog.globalNamed "strconv.ErrRange" = some 3 := by kernel_rfl
  have gS : Tryd.prog.globalNamed "strconv.ErrSyntax" = some 2 := by kernel_rfl
  have gD : Tryd.prog.globalNamed "math/bits.deBruijn64tab" = some 5 := by kernel_rfl
  obtain ⟨a, s, hv, _⟩ := laid_sentinel hL.tail.tail.tail gR (by kernel_rfl) Tryd.underlying57 row_err Tryd.underlying99 Tryd.underlying101 rfl rfl Tryd.underlying9 (by kernel_rfl) (by kernel_rfl)
  obtain ⟨b, u, hv2, _⟩ := laid_sentinel hL.tail.tail.tail.tail gS (by kernel_rfl) Tryd.underlying57 row_err Tryd.underlying99 Tryd.underlying101 rfl rfl Tryd.underlying9 (by kernel_rfl) (by kernel_rfl)
  have hd := Lib.tabIs_of_head (g := 5) (t := 103) (e := 5) (n := 64) (by kernel_rfl) (by kernel_rfl) (by kernel_rfl) (by kernel_rfl) (by kernel_rfl) (by kernel_rfl) hL.tail
  have c1 : W.cell? ⟨2, 0, none⟩ = some (.iface 99 (.pointer (some b))) := by
    have := World.var?_cell gS hv2 0
    simpa using this
  have c2 : W.cell? ⟨3, 0, none⟩ = some (.iface 99 (.pointer (some a))) := by
    have := World.var?_cell gR hv 0
    simpa using this
  have c3 : W.cell? ⟨5, 15, none⟩ = some (.int .u8 4) := by
    have := World.var?_cell gD hd 15
    simpa [lowTab] using this
  exact ⟨⟨⟨_, c1, .inr ⟨_, _, rfl⟩⟩, ⟨_, c2, .inr ⟨_, _, rfl⟩⟩⟩, c3⟩

theorem u16_of {n : Int} (h : (Lit.int .u16 n).wf = true) : ∃ c : Nat, n = (c : Int) ∧ c < 65536 := by
  have h1 : 0 ≤ n ∧ n < 65536 := by
    simp [Lit.wf, IntKind.min, IntKind.max, IntKind.signed, IntKind.bits] at h
    omega
  exact ⟨n.toNat, by omega, by omega⟩
section
variable {H : Type} {enc : TypeId × Value → H} {W : World} {base : Nat} {spare : Nat → Bool} {held : Bool}
set_option maxRecDepth 100000 in
set_option maxHeartbeats 1000000 in
theorem okWide_arr8 {r : Reach} {b0 : Nat} {v : Value} (h : Value.okWide Tryd.prog W r b0 23 v) : ∃ cs : Array Value, v = .agg cs ∧ cs.size = 8 := by
  simp only [Value.okWide, Tryd.underlying23] at h
  obtain ⟨cs, h1, h2, _⟩ := h
  exact ⟨cs, h1, by rw [h2]; kernel_rfl⟩
-- Eight numbers of 16 bits that came in by value.
set_option maxRecDepth 100000 in
set_option maxHeartbeats 1000000 in
theorem open_arr8 {r : Reach} {b0 : Nat} {v : Value} {d : DataW H} {p : List MemPlace} (hval : Value.okWide Tryd.prog W r b0 23 v) (h : DataW.Trod enc Tryd.prog W base spare held 23 v d p) :
    ∃ a0 a1 a2 a3 a4 a5 a6 a7 : Nat, v = .agg #[.int .u16 (a0 : Int), .int .u16 (a1 : Int), .int .u16 (a2 : Int), .int .u16 (a3 : Int), .int .u16 (a4 : Int), .int .u16 (a5 : Int), .int .u16 (a6 : Int), .int .u16 (a7 : Int)] ∧ ∀ x ∈ [a0, a1, a2, a3, a4, a5, a6, a7], x < 65536 := by
  obtain ⟨cs, rfl, hs⟩ := okWide_arr8 hval
  obtain ⟨fuel, hf⟩ := h
  obtain ⟨l⟩ := cs
  have hc1 : Tryd.prog.cellsOf 22 = 1 := by kernel_rfl
  obtain ⟨xs, m, _, _, hlen, hxl, hat⟩ := DataW.trod_array Tryd.underlying23 hf
  rw [hc1] at hat
  have hl8 : l.length = 8 := by simpa using hs
  match l, hl8 with
  | [c0, c1, c2, c3, c4, c5, c6, c7], _ =>
    have key : ∀ i (c : Value), ([c0, c1, c2, c3, c4, c5, c6, c7].drop (i * 1)).take 1 = [c] → i < 8 → ∃ n : Nat, c = .int .u16 (n : Int) ∧ n < 65536 := by
      intro i c hc hi
      have h := hat i hi
      rw [show (Value.agg (List.toArray [c0, c1, c2, c3, c4, c5, c6, c7])).cells.toList = [c0, c1, c2, c3, c4, c5, c6, c7] from rfl, hc, List.getElem?_eq_getElem (by omega)] at h
      obtain ⟨n, e1, _, hw⟩ := DataW.trod_int Tryd.underlying22 h
      obtain ⟨k, rfl, hk⟩ := u16_of hw
      injection e1 with e1
      exact ⟨k, e1, hk⟩
    obtain ⟨n0, rfl, h0⟩ := key 0 c0 rfl (by decide)
    obtain ⟨n1, rfl, h1⟩ := key 1 c1 rfl (by decide)
    obtain ⟨n2, rfl, h2⟩ := key 2 c2 rfl (by decide)
    obtain ⟨n3, rfl, h3⟩ := key 3 c3 rfl (by decide)
    obtain ⟨n4, rfl, h4⟩ := key 4 c4 rfl (by decide)
    obtain ⟨n5, rfl, h5⟩ := key 5 c5 rfl (by decide)
    obtain ⟨n6, rfl, h6⟩ := key 6 c6 rfl (by decide)
    obtain ⟨n7, rfl, h7⟩ := key 7 c7 rfl (by decide)
    refine ⟨n0, n1, n2, n3, n4, n5, n6, n7, rfl, fun x hx => ?_⟩
    simp only [List.mem_cons, List.not_mem_nil, or_false] at hx
    omega
-- A slice of numbers of 16 bits that came in.
set_option maxRecDepth 100000 in
set_option maxHeartbeats 1000000 in
theorem open_u16s {len c : Nat} {A : Option Addr} {d : DataW H} {p : List MemPlace} (h : DataW.Trod enc Tryd.prog W base spare held 33 (.slice A len c) d p) :
    ∃ l : List Nat, len = l.length ∧ len ≤ c ∧ c ≤ maxLen ∧ Rd W W.heap.size A (u16s l) ∧ ∀ x ∈ l, x < 65536 := by
  obtain ⟨fuel, hf⟩ := h
  have hz := open_ints Tryd.underlying33 Tryd.underlying22 (by kernel_rfl) hf
  have hz2 : (A = none ∧ len = 0 ∧ c = 0 ∧ ([] : List Int) = []) ∨ ∃ (x : Addr) (zs : List Int), A = some x ∧ len ≤ c ∧ c ≤ maxLen ∧ len ≤ zs.length ∧ zs.length ≤ c ∧ (∀ i, i < zs.length → W.cell? (x.add i) = some (.int .u16 (zs.getD i 0))) ∧ ∀ n ∈ zs, (Lit.int .u16 n).wf = true := by
    rcases hz with ⟨e, _⟩ | ⟨a, len', cap, zs, e, _, h1, h2, h3, _, h4, h5⟩
    · simp [Value.cells] at e
      exact .inl ⟨e.1, e.2.1, e.2.2, rfl⟩
    · simp [Value.cells] at e
      obtain ⟨rfl, rfl, rfl⟩ := e
      exact .inr ⟨a, zs, rfl, h1, h2, by rw [h3]; split <;> omega, by rw [h3]; split <;> omega, h4, h5⟩
  rcases hz2 with ⟨rfl, rfl, rfl, _⟩ | ⟨x, zs, rfl, hl, hm, hz1, hz3, hc, hw⟩
  · exact ⟨[], rfl, Nat.le_refl _, by simp [maxLen], Rd.nil, by simp⟩
  · refine ⟨(zs.take len).map Int.toNat, by simp; omega, hl, hm, fun hn => ?_, ?_⟩
    · rw [u16s_len, List.length_map, List.length_take] at hn
      obtain ⟨b, off, rfl, hcc⟩ := ints_at hc (by omega)
      refine ⟨b, off, rfl, World.block_lt_of_cell? _ _ (hcc 0 (by omega)), fun j u hu => ?_⟩
      unfold u16s at hu
      rw [List.getElem?_map, List.getElem?_map, List.getElem?_take] at hu
      split at hu
      · next hj =>
        rw [List.getElem?_eq_getElem (by omega)] at hu
        rw [hcc j (by omega)]
        obtain ⟨k, e, _⟩ := u16_of (hw _ (List.getElem_mem (l := zs) (n := j) (by omega)))
        simp only [Option.map_some, Option.some.injEq] at hu
        rw [← hu, List.getD_eq_getElem?_getD, List.getElem?_eq_getElem (show j < zs.length by omega)]
        simp only [Option.getD_some]
        rw [e]; simp
      · cases hu
    · intro y hy
      obtain ⟨n, hn, rfl⟩ := List.mem_map.1 hy
      obtain ⟨k, rfl, hk⟩ := u16_of (hw _ (List.mem_of_mem_take hn))
      simpa using hk
end
end Go.Proofs.YtoapelcofjjdnaaDoor
