/- shortcutref1.SameRunes: are two lists the same? -/
import Derived.Test.YtoapelcofjjdnaaDoorK00
import Derived.Test.YtoapelcofjjdnaaDoorRows
import Derived.Deep.DeepFit
namespace Go.Proofs.YtoapelcofjjdnaaDoor
set_option linter.all false
open Go.RowKit

theorem bnext {a b c : World} (h : Below a.heap.size a b) (k : Below b.heap.size b c) : Below a.heap.size a c := h.trans (k.mono h.size)
theorem bnew {a b : World} (h : Below a.heap.size a b) (o : Obj) : Below a.heap.size a (b.alloc o) := h.alloc h.size o
theorem bdrawn {a b : World} (h : Below a.heap.size a b) (n : Nat) : Below a.heap.size a (b.drewN n) := below_drewN h n
theorem Rd.next {w w' : World} {A : Option Addr} {xs : List Value} (h : Rd w w.heap.size A xs) (hb : Below w.heap.size w w') : Rd w' w'.heap.size A xs := (h.below hb).mono hb.size
theorem Rd.new {w : World} {A : Option Addr} {xs : List Value} (h : Rd w w.heap.size A xs) (o : Obj) : Rd (w.alloc o) (w.alloc o).heap.size A xs := (h.alloc (Nat.le_refl _) o).mono (by simp)
theorem Rd.lit {w : World} {us : Array Value} {e : TypeId} {m : Nat × Nat} : Rd (w.alloc (.cells us e m)) (w.alloc (.cells us e m)).heap.size (some ⟨w.heap.size, 0, none⟩) us.toList := fun _ =>
  ⟨w.heap.size, 0, rfl, by simp, fun j u hu => by
    rw [Nat.zero_add, cell_of_row (w.alloc (.cells us e m)) w.heap.size j us e m (heap_alloc_new w _), ← hu]; simp⟩

def sameB (l m : List Int) : Bool := decide (l = m)
theorem sameB_self (l : List Int) : sameB l l = true := decide_eq_true rfl

theorem Rd.rune_at {w : World} {B : Nat} {A : Option Addr} {l : List Int} (h : Rd w B A (runes l)) {k : Nat} (hk : k < l.length) :
    ∃ b off x, A = some ⟨b, off, none⟩ ∧ b < B ∧ w.cell? ⟨b, off + k, none⟩ = some (.int .i32 x) ∧ Hid (l[k]? = some x) := by
  obtain ⟨b, off, e, hb, hc⟩ := h.at_ (k := k) (by rw [runes_len]; exact hk)
  refine ⟨b, off, l[k], e, hb, ?_, List.getElem?_eq_getElem hk⟩
  rw [hc]; simp [runes]
theorem Rd.byte_at {w : World} {B : Nat} {A : Option Addr} {l : List UInt8} (h : Rd w B A (bytes l)) {k : Nat} (hk : k < l.length) :
    ∃ b off x, A = some ⟨b, off, none⟩ ∧ b < B ∧ w.cell? ⟨b, off + k, none⟩ = some (.int .u8 (x.toNat : Int)) ∧ Hid (l[k]? = some x) := by
  obtain ⟨b, off, e, hb, hc⟩ := h.at_ (k := k) (by rw [bytes_len]; exact hk)
  refine ⟨b, off, l[k], e, hb, ?_, List.getElem?_eq_getElem hk⟩
  rw [hc]; simp [bytes]

theorem take_same {l m : List Int} {k : Nat} {x y : Int} (h : l.take k = m.take k) (hx : l[k]? = some x) (hy : m[k]? = some y) : (x = y → l.take (k + 1) = m.take (k + 1)) ∧ (x ≠ y → l ≠ m) := by
  obtain ⟨h1, e1⟩ := List.getElem?_eq_some_iff.1 hx
  obtain ⟨h2, e2⟩ := List.getElem?_eq_some_iff.1 hy
  refine ⟨fun e => ?_, fun ne e => ?_⟩
  · rw [take_snoc' l k h1, take_snoc' m k h2, h, e1, e2, e]
  · subst e
    rw [hx] at hy
    injection hy with hy
    exact ne hy

end Go.Proofs.YtoapelcofjjdnaaDoor

namespace Go.Proofs.YtoapelcofjjdnaaDoor
set_option linter.all false
open Go.RowKit

theorem Rd.own {w : World} {base : Nat} {e : TypeId} {A : Option Addr} {n m c : Nat} {xs : List Value} (h : w.ownsRow base e 1 (.slice A m c) n xs) : Rd w w.heap.size A xs := by
  obtain ⟨A', c', hv, _, _, _, hr⟩ := Rd.of_own h
  injection hv with e1
  subst e1
  exact hr
theorem own_rd {w : World} {base : Nat} {e : TypeId} {v : Value} {n : Nat} {xs : List Value} (h : w.ownsRow base e 1 v n xs) : ∃ A c, v = .slice A n c ∧ n ≤ c ∧ c ≤ maxLen ∧ Rd w w.heap.size A xs := by
  obtain ⟨A, c, e, h1, h2, _, h3⟩ := Rd.of_own h
  exact ⟨A, c, e, h1, h2, h3⟩
theorem own_cap {w : World} {base : Nat} {e : TypeId} {A : Option Addr} {n c size : Nat} {xs : List Value} (h : w.ownsRow base e size (.slice A n c) n xs) : n ≤ c ∧ c ≤ maxLen := by
  obtain ⟨A', c', hv, h1, h2⟩ := own_shape h
  injection hv with _ _ e3
  subst e3
  exact ⟨h1, h2⟩
theorem empty_own (w : World) (e : TypeId) : (w.alloc (.cells #[] e)).ownsRow w.heap.size e 1 (.slice (some ⟨w.heap.size, 0, none⟩) 0 0) 0 [] :=
  World.ownsRow_lit w #[] 0 (Nat.le_refl _) (by decide) rfl
theorem bytes_of {l : List Int} (h : ∀ n ∈ l, (Lit.int .u8 n).wf = true) : ∃ b : List UInt8, l.length = b.length ∧ l.map (Value.int .u8) = bytes b := by
  refine ⟨l.map fun n => UInt8.ofNat n.toNat, by rw [List.length_map], ?_⟩
  unfold bytes
  rw [List.map_map]
  refine List.map_congr_left fun n hn => ?_
  have hw := h n hn
  have h1 : 0 ≤ n ∧ n < 256 := by
    have := bounds_u8 hw
    omega
  show Value.int .u8 n = Value.int .u8 ((UInt8.ofNat n.toNat).toNat : Int)
  rw [UInt8.toNat_ofNat']
  congr 1
  omega
end Go.Proofs.YtoapelcofjjdnaaDoor

namespace Go.Proofs.YtoapelcofjjdnaaDoor
set_option linter.all false
open Go.RowKit

/-- Texts, as cells. -/
def strs (l : List (List UInt8)) : List Value := l.map fun b => Value.string (str b)
theorem strs_len (l : List (List UInt8)) : (strs l).length = l.length := List.length_map ..
theorem strs_append (a b : List (List UInt8)) : strs (a ++ b) = strs a ++ strs b := List.map_append ..
theorem strs_one (l : List (List UInt8)) : ∀ u ∈ strs l, u.oneCell' = true := by
  intro u hu
  obtain ⟨c, _, rfl⟩ := List.mem_map.1 hu
  rfl
theorem Rd.str_at {w : World} {B : Nat} {A : Option Addr} {l : List (List UInt8)} (h : Rd w B A (strs l)) {k : Nat} (hk : k < l.length) :
    ∃ b off x, A = some ⟨b, off, none⟩ ∧ b < B ∧ w.cell? ⟨b, off + k, none⟩ = some (.string (str x)) ∧ Hid (l[k]? = some x) := by
  obtain ⟨b, off, e, hb, hc⟩ := h.at_ (k := k) (by rw [strs_len]; exact hk)
  refine ⟨b, off, l[k], e, hb, ?_, List.getElem?_eq_getElem hk⟩
  rw [hc]; simp [strs]

/-- The byte at a place (0 behind the end); what lies behind a place, ahead of one, between two. -/
def gb (l : List UInt8) (k : Nat) : UInt8 := l.getD k 0
def dr (l : List UInt8) (k : Nat) : List UInt8 := l.drop k
def tk (l : List UInt8) (k : Nat) : List UInt8 := l.take k
def mid (l : List UInt8) (a b : Nat) : List UInt8 := (l.take b).drop a
theorem str_get (l : List UInt8) (k : Nat) (h : k < (str l).size) : (str l)[k]'h = gb l k := by
  have h' : k < l.length := by rw [str_size] at h; exact h
  unfold gb
  rw [List.getD_eq_getElem?_getD, List.getElem?_eq_getElem h']
  show (str l).data[k] = _
  simp [str]
theorem str_mid (l : List UInt8) (a b : Nat) : (str l).extract a b = str (mid l a b) := by
  have h : ((str l).extract a b).data.toList = mid l a b := by
    rw [ByteArray.data_extract, Array.toList_extract, str_data, List.extract_eq_drop_take]
    unfold mid
    rw [List.drop_take]
  rw [← h, str_of]
theorem str_end (l : List UInt8) (a : Nat) : (str l).extract a l.length = str (dr l a) := by
  rw [str_mid]; unfold mid dr; rw [List.take_length]
theorem str_front (l : List UInt8) (b : Nat) : (str l).extract 0 b = str (tk l b) := by
  rw [str_mid]; unfold mid tk; rw [List.drop_zero]
theorem str_app (a b : List UInt8) : str a ++ str b = str (a ++ b) := by
  have h : (str a ++ str b).data.toList = a ++ b := by simp [str]
  rw [← h, str_of]
theorem dr_len (l : List UInt8) (k : Nat) : (dr l k).length = l.length - k := List.length_drop ..
theorem tk_len (l : List UInt8) (k : Nat) : (tk l k).length = min k l.length := List.length_take ..
theorem gb_some {l : List UInt8} {k : Nat} (h : k < l.length) : l[k]? = some (gb l k) := by
  unfold gb; rw [List.getD_eq_getElem?_getD, List.getElem?_eq_getElem h]; rfl
theorem gb_of {l : List UInt8} {k : Nat} {x : UInt8} (h : l[k]? = some x) : gb l k = x := by
  unfold gb; rw [List.getD_eq_getElem?_getD, h]; rfl

theorem own_as {w : World} {base : Nat} {e : TypeId} {size n m : Nat} {v : Value} {xs ys : List Value} (h : w.ownsRow base e size v n xs) (hn : n = m) (hx : xs = ys) : w.ownsRow base e size v m ys := by
  subst hn; subst hx; exact h

/-- A cell below stands. -/
theorem cell_on {B : Nat} {w w' : World} {b o : Nat} {v : Value} (hb : Below B w w') (hc : w.cell? ⟨b, o, none⟩ = some v) (h : b < B) : w'.cell? ⟨b, o, none⟩ = some v := (hb.cell (p := ⟨b, o, none⟩) h).trans hc

theorem run_bytesL {P : Program} {w : World} {src dst e : TypeId} (hs : P.underlying src = some .string) (hd : P.underlying dst = some (.slice e)) (he : P.underlying e = some (.int .u8)) (l : List UInt8) (hlen : l.length ≤ 1000000) :
    ∃ c' w', l.length ≤ c' ∧ c' ≤ maxLen ∧ Row w' w.heap.size (bytes l) ∧ Below w.heap.size w w' ∧ w.heap.size < w'.heap.size ∧ (convert src dst (.string (str l))).run P w = .ok (.slice (some ⟨w.heap.size, 0, none⟩) l.length c') w' := by
  have hl := str_size l
  refine ⟨grownCap w (str l).size 0 e, w.drew.alloc (.cells (bytesRow (str l) (grownCap w (str l).size 0 e)) e ((bytesRow (str l) (grownCap w (str l).size 0 e)).size, (bytesRow (str l) (grownCap w (str l).size 0 e)).size + 1)), ?_, ?_, ?_, (Below.refl _ _).drew.alloc (Nat.le_refl _) _, by simp, ?_⟩
  · have := grownCap_ge w (str l).size 0 e; omega
  · exact grownCap_le_maxLen _ _ _ _ (by unfold maxLen; omega)
  · have hge := grownCap_ge w (str l).size 0 e
    generalize hN : grownCap w (str l).size 0 e = N at *
    have hrow : (w.drew.alloc (.cells (bytesRow (str l) N) e ((bytesRow (str l) N).size, (bytesRow (str l) N).size + 1))).heap[w.heap.size]? = some (.cells (bytesRow (str l) N) e ((bytesRow (str l) N).size, (bytesRow (str l) N).size + 1)) := heap_alloc_new w.drew _
    have hsz : (bytesRow (str l) N).size = N := by
      unfold bytesRow; rw [Array.size_append, Array.size_map, Array.size_replicate]; show (str l).size + _ = _; omega
    refine ⟨fun j u hu => ?_, fun j hj => ?_, by simp⟩
    · rw [cell_of_row _ _ j _ _ _ hrow]
      have hj : j < l.length := by
        rcases Nat.lt_or_ge j l.length with h1 | h1
        · exact h1
        · rw [List.getElem?_eq_none (by rw [bytes_len]; exact h1)] at hu; cases hu
      unfold bytesRow
      rw [Array.getElem?_append_left (by simpa [str] using hj)]
      unfold bytes at hu
      rw [← hu]
      simp [str]
    · rw [bytes_len] at hj
      unfold World.frozen?
      rw [hrow]
      show (decide (_ ≤ j) && decide (j < _)) = false
      rw [hsz, decide_eq_false (by omega), Bool.false_and]
  · rw [run_bytes_of_string w src dst e (str l) hs hd he, hl]

theorem run_strM {P : Program} {w : World} {src dst e : TypeId} {B n : Nat} {A : Option Addr} {c : Nat} {l : List UInt8} (hs : P.underlying src = some (.slice e)) (he : P.underlying e = some (.int .u8)) (hd : P.underlying dst = some .string)
    (hr : Rd w B A (bytes l)) (hn : n = l.length) : (convert src dst (.slice A n c)).run P w = .ok (.string (str l)) w := by subst hn; exact run_str hs he hd hr
theorem str_toL (l : List UInt8) : (str l).toList = l := by rw [ByteArray.toList_eq, str_data]
theorem str_eqB (a b : List UInt8) : ((str a).toList == (str b).toList) = decide (a = b) := by
  rw [str_toL, str_toL]; by_cases h : a = b <;> simp [h]

section
variable {P : Program} {w : World} {ops : Array Oper} {rest : List Oper} {o : Oper} {a : Act} {Q : Exit → Act → World → Prop}

/-- '[]byte(s)', s written as a list of bytes; guarded or not. -/
theorem wpList_bytesL (hgd : Region.wanted o (yielded ops a.tmps) = true) (x : Operand) (src dst e : TypeId) (ho : o.op = .convert src dst x) (hs : P.underlying src = some .string) (hd : P.underlying dst = some (.slice e)) (he : P.underlying e = some (.int .u8))
    (l : List UInt8) (hx : a.eval x = .string (str l)) (hlen : l.length ≤ 1000000)
    (h : ∀ c' w', l.length ≤ c' → c' ≤ maxLen → Row w' w.heap.size (bytes l) → Rd w' w'.heap.size (some ⟨w.heap.size, 0, none⟩) (bytes l) → Below w.heap.size w w' → w.heap.size < w'.heap.size → wpList P ops Q rest (a.put o.dst (.slice (some ⟨w.heap.size, 0, none⟩) l.length c')) w') :
    wpList P ops Q (o :: rest) a w := by
  refine BigFrame.wpList_want hgd fun K hK => ?_
  obtain ⟨c', w', h1, h2, h3, h4, h5, hrun⟩ : ∃ c' w', l.length ≤ c' ∧ c' ≤ maxLen ∧ Row w' w.heap.size (bytes l) ∧ Below w.heap.size w w' ∧ w.heap.size < w'.heap.size ∧ (convert src dst (.string (str l))).run P w = .ok (.slice (some ⟨w.heap.size, 0, none⟩) l.length c') w' := run_bytesL hs hd he l hlen
  unfold Oper.wp execOp
  simp only [ho, hx, hrun, Sem.run_bind, Sem.run_pure, Result.andThen_ok]
  exact hK _ _ (h c' w' h1 h2 h3 (h3.rd h5) h4 h5)

/-- 'string(b)', guarded or not. -/
theorem wpList_strL (hgd : Region.wanted o (yielded ops a.tmps) = true) (x : Operand) (src dst e : TypeId) (ho : o.op = .convert src dst x) (hs : P.underlying src = some (.slice e)) (he : P.underlying e = some (.int .u8)) (hd : P.underlying dst = some .string)
    (B : Nat) (A : Option Addr) (n c : Nat) (l : List UInt8) (hx : a.eval x = .slice A n c) (hn : n = l.length) (hr : Rd w B A (bytes l))
    (h : wpList P ops Q rest (a.put o.dst (.string (str l))) w) : wpList P ops Q (o :: rest) a w := by
  subst hn
  refine BigFrame.wpList_want hgd fun K hK => ?_
  unfold Oper.wp execOp
  simp only [ho, hx, run_str hs he hd hr, Sem.run_bind, Sem.run_pure, Result.andThen_ok]
  exact hK _ _ h
end
end Go.Proofs.YtoapelcofjjdnaaDoor

namespace Go.Proofs.YtoapelcofjjdnaaDoor
set_option linter.all false
open Go.RowKit

/-- A number of the kind uint8 is a byte. -/
theorem byte_of {n : Int} (h : (Lit.int .u8 n).wf = true) : ∃ c : UInt8, n = (c.toNat : Int) := by
  have h1 : 0 ≤ n ∧ n < 256 := by
    have := bounds_u8 h
    omega
  exact ⟨byteOf n, (byteOf_nat h1.1 h1.2).symm⟩

end Go.Proofs.YtoapelcofjjdnaaDoor

namespace Go.Proofs.YtoapelcofjjdnaaDoor
set_option linter.all false
open Go.RowKit

theorem cpSize_is {r : Int} {n : Nat} (h : cpSize r = n) : Ending.returned (.int .i64 (n : Int)) = .returned (.int .i64 (cpSize r)) := by rw [h]

theorem andNot_mask (k : Nat) (hk : k < 8) {a : Int} (h0 : 0 ≤ a) (h1 : a < 256) : bits .andNot .u8 a (2 ^ k - 1 : Nat) = a - a % (2 ^ k : Nat) := by
  obtain ⟨n, rfl⟩ : ∃ n : Nat, a = n := ⟨a.toNat, by omega⟩
  have hn : n < 256 := by omega
  have h : ∀ k, k < 8 → ∀ n, n < 256 → bits .andNot .u8 (n : Nat) (2 ^ k - 1 : Nat) = (n : Int) - (n : Int) % (2 ^ k : Nat) := by decide +kernel
  exact h k hk n hn
theorem and_mask (k : Nat) (hk : k < 8) {a : Int} (h0 : 0 ≤ a) (h1 : a < 256) : bits .and .u8 a (2 ^ k - 1 : Nat) = a % (2 ^ k : Nat) := by
  obtain ⟨n, rfl⟩ : ∃ n : Nat, a = n := ⟨a.toNat, by omega⟩
  have h := u8_and_nat n (2 ^ k - 1) (by omega) (by have := Nat.pow_lt_pow_right (a := 2) (by decide) hk; omega)
  rw [h, Nat.and_two_pow_sub_one_eq_mod]; omega

theorem i32_or_low (x : Nat) (hx : x < 16777216) {r y : Int} (hr : r = 64 * x) (h0 : 0 ≤ y) (h1 : y < 64) : bits .or .i32 r y = r + y := by
  obtain ⟨n, rfl⟩ : ∃ n : Nat, y = n := ⟨y.toNat, by omega⟩
  subst hr
  show IntKind.i32.wrap ((BitVec.ofInt 32 (64 * (x : Int)) ||| BitVec.ofInt 32 (n : Int)).toNat : Int) = _
  have e1 : BitVec.ofInt 32 (64 * (x : Int)) = BitVec.ofNat 32 (64 * x) := by rw [show (64 : Int) * (x : Int) = ((64 * x : Nat) : Int) from by omega]; exact BitVec.ofInt_natCast ..
  have e2 : BitVec.ofInt 32 (n : Int) = BitVec.ofNat 32 n := BitVec.ofInt_natCast ..
  rw [e1, e2, BitVec.toNat_or, BitVec.toNat_ofNat, BitVec.toNat_ofNat, Nat.mod_eq_of_lt (by omega), Nat.mod_eq_of_lt (by omega), nat_join 6 (64 * x) n (by omega) (by omega)]
  simp [IntKind.wrap, IntKind.bits, IntKind.signed]
  omega

theorem dec4_is {v : Int} {k : Int} {r : Int × Nat} (h1 : r.1 = v) (h2 : (r.2 : Int) = k) : Ending.returned (.tuple #[.int .i32 v, .int .i64 k]) = .returned (.tuple #[.int .i32 r.1, .int .i64 r.2]) := by rw [h1, h2]
theorem bne_no {a b : Int} (h : (a != b) = true) : ¬ a = b := by simpa using h
theorem bne_yes {a b : Int} (h : (a != b) = false) : a = b := by simpa using h

theorem bt_cell {w : World} {bk off : Nat} {l : List UInt8} (hr : ∀ j u, (bytes l)[j]? = some u → w.cell? ⟨bk, off + j, none⟩ = some u) (j : Nat) (hj : j < l.length) :
    w.cell? ⟨bk, off + j, none⟩ = some (.int .u8 (bt l j)) := by
  refine hr j _ ?_
  unfold bytes
  rw [List.getElem?_map, List.getElem?_eq_getElem hj]
  unfold bt
  rw [List.getD_eq_getElem?_getD, List.getElem?_eq_getElem hj]; rfl

end Go.Proofs.YtoapelcofjjdnaaDoor

namespace Go.Proofs.YtoapelcofjjdnaaDoor
set_option linter.all false
open Go.RowKit

theorem info_i32u : (Tryd.prog.info? 21).map (fun i => (i.zero, i.size, i.bytes)) = some (some (.int .i32 0), 1, 4) := by kernel_rfl

theorem slice_len {A : Option Addr} {c n m : Nat} (h : n = m) : Value.slice A n c = .slice A m c := by rw [h]
theorem rd_step {w : World} {B bk off : Nat} {rest : List UInt8} {k j : Nat} (h : Rd w B (some ⟨bk, off, none⟩) (bytes rest)) (hj : j = off + k ∨ rest.length ≤ k) : Rd w B (some ⟨bk, j, none⟩) (bytes (rest.drop k)) := by
  by_cases hk : rest.length ≤ k
  · rw [List.drop_eq_nil_of_le hk]; exact Rd.nil
  · have e : j = off + k := by omega
    subst e
    unfold bytes
    rw [List.map_drop]
    exact h.dropAt k
theorem own_eq {w : World} {base : Nat} {e : TypeId} {size n m : Nat} {v : Value} {xs ys : List Value} (h : w.ownsRow base e size v n xs) (hn : n = m) (hx : xs = ys) : w.ownsRow base e size v m ys := by
  subst hn; subst hx; exact h
theorem dec1_bd (l : List UInt8) (h : 0 < l.length) : (dec1 l).2 ≤ l.length ∧ (dec1 l).2 ≤ 4 := ⟨dec1_len h, dec1_le l⟩

end Go.Proofs.YtoapelcofjjdnaaDoor

namespace Go.Proofs.YtoapelcofjjdnaaDoor
set_option linter.all false
open Go.RowKit

theorem info_u8 : (Tryd.prog.info? 5).map (fun i => (i.zero, i.size, i.bytes)) = some (some (.int .u8 0), 1, 1) := by kernel_rfl

theorem cell_byteOf {e : Int} (h0 : 0 ≤ e) (h1 : e < 256) : Value.int .u8 ((byteOf e).toNat : Int) = .int .u8 e := by rw [byteOf_nat h0 h1]
theorem enc_cells1 {y : Int} (h0 : 0 ≤ y) (h1 : y < 128) : bytes (enc0 y) = [.int .u8 y] := by
  unfold enc0; rw [if_pos h1]
  simp only [bytes, List.map_cons, List.map_nil]
  rw [cell_byteOf (by omega) (by omega)]
theorem enc_cells2 {y : Int} (h0 : 128 ≤ y) (h1 : y < 2048) : bytes (enc0 y) = [.int .u8 (192 + y / 64), .int .u8 (128 + y % 64)] := by
  unfold enc0; rw [if_neg (by omega), if_pos h1]
  simp only [bytes, List.map_cons, List.map_nil]
  rw [cell_byteOf (by omega) (by omega), cell_byteOf (by omega) (by omega)]
theorem enc_cells3 {y : Int} (h0 : 2048 ≤ y) (h1 : y < 65536) : bytes (enc0 y) = [.int .u8 (224 + y / 4096), .int .u8 (128 + y / 64 % 64), .int .u8 (128 + y % 64)] := by
  unfold enc0; rw [if_neg (by omega), if_neg (by omega), if_pos h1]
  simp only [bytes, List.map_cons, List.map_nil]
  rw [cell_byteOf (by omega) (by omega), cell_byteOf (by omega) (by omega), cell_byteOf (by omega) (by omega)]
theorem enc_cells4 {y : Int} (h0 : 65536 ≤ y) (h1 : y ≤ 1114111) : bytes (enc0 y) = [.int .u8 (240 + y / 262144), .int .u8 (128 + y / 4096 % 64), .int .u8 (128 + y / 64 % 64), .int .u8 (128 + y % 64)] := by
  unfold enc0; rw [if_neg (by omega), if_neg (by omega), if_neg (by omega)]
  simp only [bytes, List.map_cons, List.map_nil]
  rw [cell_byteOf (by omega) (by omega), cell_byteOf (by omega) (by omega), cell_byteOf (by omega) (by omega), cell_byteOf (by omega) (by omega)]
theorem enc_cells_lost : bytes (enc0 65533) = [.int .u8 239, .int .u8 191, .int .u8 189] := by rw [enc_cells3 (by decide) (by decide)]; rfl
theorem cpFix_no {x : Int} (h : cpOk x = false) : cpFix x = 65533 := by unfold cpFix; rw [h]; rfl
theorem uEnc_snoc {l : List Int} {j : Nat} {x : Int} (h : l[j]? = some x) : uEnc (l.take (j + 1)) = uEnc (l.take j) ++ enc0 (cpFix x) := by
  obtain ⟨hj, hx⟩ := List.getElem?_eq_some_iff.1 h
  rw [take_snoc' l j hj, hx]
  simp [uEnc, enc1]

end Go.Proofs.YtoapelcofjjdnaaDoor
