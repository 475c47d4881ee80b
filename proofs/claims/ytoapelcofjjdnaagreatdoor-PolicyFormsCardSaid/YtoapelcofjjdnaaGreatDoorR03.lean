/- A part of the proof. -/
import Derived.Test.YtoapelcofjjdnaaGreatDoorR00
import Derived.Test.YtoapelcofjjdnaaGreatDoorRows
import Derived.Deep.DeepFit
namespace Go.Proofs.YtoapelcofjjdnaaGreatDoor
set_option linter.all false
open Go.RowKit
theorem bnext {a b c : World} (h : Below a.heap.size a b) (k : Below b.heap.size b c) : Below a.heap.size a c := h.trans (k.mono h.size)
theorem bnew {a b : World} (h : Below a.heap.size a b) (o : Obj) : Below a.heap.size a (b.alloc o) := h.alloc h.size o
theorem Rd.next {w w' : World} {A : Option Addr} {xs : List Value} (h : Rd w w.heap.size A xs) (hb : Below w.heap.size w w') : Rd w' w'.heap.size A xs := (h.below hb).mono hb.size
theorem Rd.new {w : World} {A : Option Addr} {xs : List Value} (h : Rd w w.heap.size A xs) (o : Obj) : Rd (w.alloc o) (w.alloc o).heap.size A xs := (h.alloc (Nat.le_refl _) o).mono (by simp)
theorem Rd.lit {w : World} {us : Array Value} {e : TypeId} {m : Nat × Nat} : Rd (w.alloc (.cells us e m)) (w.alloc (.cells us e m)).heap.size (some ⟨w.heap.size, 0, none⟩) us.toList := fun _ =>
 ⟨w.heap.size, 0, rfl, by simp, fun j u hu => by
  rw [Nat.zero_add, cell_of_row (w.alloc (.cells us e m)) w.heap.size j us e m (heap_alloc_new w _), ← hu]; simp⟩
def sameB (l m : List Int) : Bool := decide (l = m)
theorem Rd.rune_at {w : World} {B : Nat} {A : Option Addr} {l : List Int} (h : Rd w B A (runes l)) {k : Nat} (hk : k < l.length) :
  ∃ b off x, A = some ⟨b, off, none⟩ ∧ b < B ∧ w.cell? ⟨b, off + k, none⟩ = some (.int .i32 x) ∧ Hid (l[k]? = some x) := by
 obtain ⟨b, off, e, hb, hc⟩ := h.at_ (k := k) (by rw [runes_len]; exact hk)
 refine ⟨b, off, l[k], e, hb, ?_, List.getElem?_eq_getElem hk⟩
 rw [hc]; simp [runes]
theorem Rd.byte_at {w : World} {B : Nat} {A : Option Addr} {l : List UInt8} (h : Rd w B A (bytes l)) {k : Nat} (hk : k < l.length) :
  ∃ b off x, A = some ⟨b, off, none⟩ ∧ b < B ∧ w.cell? ⟨b, off + k, none⟩ = some (.int .u8 (x.toNat : Int)) ∧ Hid (l[k]? = some x) := by
 obtain ⟨b, off, e, hb, hc⟩ := h.at_ (k := k) (by rw [bytes_len]; exact hk)
 refine ⟨b, off, l[k], e, hb, ?_, List.getElem?_eq_getElem hk⟩
 rw [hc]; simp [bytes]
theorem take_same {l m : List Int} {k : Nat} {x y : Int} (h : l.take k = m.take k) (hx : l[k]? = some x) (hy : m[k]? = some y) : (x = y → l.take (k + 1) = m.take (k + 1)) ∧ (x ≠ y → l ≠ m) := by
 obtain ⟨h1, e1⟩ := List.getElem?_eq_some_iff.1 hx
 obtain ⟨h2, e2⟩ := List.getElem?_eq_some_iff.1 hy
 refine ⟨fun e => ?_, fun ne e => ?_⟩
 · rw [take_snoc' l k h1, take_snoc' m k h2, h, e1, e2, e]
 ·
  subst e
  rw [hx] at hy
  injection hy with hy
  exact ne hy
set_option maxRecDepth 100000 in
set_option maxHeartbeats 1000000 in
theorem same_any (A A2 : Option Addr) (c c2 : Nat) (l m : List Int) (w : World) (hr : Rd w w.heap.size A (runes l)) (hr2 : Rd w w.heap.size A2 (runes m)) (hl : l.length ≤ 1000000) (hm : m.length ≤ 1000000) :
  Calls Tryz.prog 162 #[.slice A l.length c, .slice A2 m.length c2] w fun e w' => e = .returned (.bool (sameB l m)) ∧ Below w.heap.size w w' := by
 by_cases hlen : l.length = m.length
 ·
  have hlb : ((l.length : Int) != (m.length : Int)) = false := by simp [hlen]
  have HL := Lib.hid hlen
  clear hlen
  go_enter Tryz.func162, Tryz.ntmps162
  go_wp2
  clear hlb
  go_loopg [5] (l.length) (fun k i wr => ∃ j : Nat, k = l.length - j ∧ j ≤ l.length ∧ i = .int .i64 j ∧ Hid (l.take j = m.take j) ∧ Below w.heap.size w wr)
  case atStart => exact ⟨0, rfl, Nat.zero_le _, rfl, rfl, Below.refl _ _⟩
  case round =>
   obtain ⟨j, rfl, hj, rfl, hs, hbel⟩ := hrel
   by_cases hlt : j < l.length
   ·
    obtain ⟨b, off, x, rfl, hb, hc, hx⟩ := (hr.below hbel).rune_at hlt
    obtain ⟨b2, off2, y, rfl, hb2, hc2, hy⟩ := (hr2.below hbel).rune_at (k := j) (by have := HL.out; omega)
    have hlt2 : (j : Int) < (m.length : Int) := by have := HL.out; omega
    have hlt1 : (j : Int) < (l.length : Int) := by omega
    have hj0 : (0 : Int) ≤ (j : Int) := by omega
    by_cases hxy : (x != y) = true
    ·
     go_wp2
     go_quiet (fail)
     go_wp2
     go_ret
     exact ⟨ret_bool (by unfold sameB; rw [decide_eq_false ((take_same hs.out hx.out hy.out).2 (by simpa using hxy))]), below_drewN hbel _⟩
    ·
     have hxy : (x != y) = false := by simpa using hxy
     go_wp2
     go_quiet (fail)
     go_wp2
     go_roundg (l.length - (j + 1))
     case measure => omega
     case rel => exact ⟨j + 1, rfl, by omega, by go_num, (take_same hs.out hx.out hy.out).1 (by simpa using hxy), below_drewN hbel _⟩
   ·
    obtain rfl : j = l.length := by omega
    go_wp2
    go_ret
    have e := hs.out
    rw [List.take_length, HL.out, List.take_length] at e
    exact ⟨ret_bool (by unfold sameB; rw [decide_eq_true e]), hbel⟩
 ·
  have hlb : ((l.length : Int) != (m.length : Int)) = true := by simp; omega
  have HL := Lib.hid hlen
  clear hlen
  go_enter Tryz.func162, Tryz.ntmps162
  go_wp2
  go_ret
  exact ⟨ret_bool (by unfold sameB; rw [decide_eq_false (fun e => HL.out (by rw [e]))]), Below.refl _ _⟩
end Go.Proofs.YtoapelcofjjdnaaGreatDoor
namespace Go.Proofs.YtoapelcofjjdnaaGreatDoor
set_option linter.all false
open Go.RowKit
theorem Rd.own {w : World} {base : Nat} {e : TypeId} {A : Option Addr} {n m c : Nat} {xs : List Value} (h : w.ownsRow base e 1 (.slice A m c) n xs) : Rd w w.heap.size A xs := by
 obtain ⟨A', c', hv, _, _, _, hr⟩ := Rd.of_own h
 injection hv with e1
 subst e1
 exact hr
theorem own_rd {w : World} {base : Nat} {e : TypeId} {v : Value} {n : Nat} {xs : List Value} (h : w.ownsRow base e 1 v n xs) : ∃ A c, v = .slice A n c ∧ n ≤ c ∧ c ≤ maxLen ∧ Rd w w.heap.size A xs := by
 obtain ⟨A, c, e, h1, h2, _, h3⟩ := Rd.of_own h
 exact ⟨A, c, e, h1, h2, h3⟩
end Go.Proofs.YtoapelcofjjdnaaGreatDoor
namespace Go.Proofs.YtoapelcofjjdnaaGreatDoor
set_option linter.all false
open Go.RowKit
def strs (l : List (List UInt8)) : List Value := l.map fun b => Value.string (str b)
theorem strs_len (l : List (List UInt8)) : (strs l).length = l.length := List.length_map ..
theorem strs_append (a b : List (List UInt8)) : strs (a ++ b) = strs a ++ strs b := List.map_append ..
theorem strs_one (l : List (List UInt8)) : ∀ u ∈ strs l, u.oneCell' = true := by
 intro u hu
 obtain ⟨c, _, rfl⟩ := List.mem_map.1 hu
 rfl
theorem Rd.str_at {w : World} {B : Nat} {A : Option Addr} {l : List (List UInt8)} (h : Rd w B A (strs l)) {k : Nat} (hk : k < l.length) :
  ∃ b off x, A = some ⟨b, off, none⟩ ∧ b < B ∧ w.cell? ⟨b, off + k, none⟩ = some (.string (str x)) ∧ Hid (l[k]? = some x) := by
 obtain ⟨b, off, e, hb, hc⟩ := h.at_ (k := k) (by rw [strs_len]; exact hk)
 refine ⟨b, off, l[k], e, hb, ?_, List.getElem?_eq_getElem hk⟩
 rw [hc]; simp [strs]
def gb (l : List UInt8) (k : Nat) : UInt8 := l.getD k 0
def dr (l : List UInt8) (k : Nat) : List UInt8 := l.drop k
def tk (l : List UInt8) (k : Nat) : List UInt8 := l.take k
def mid (l : List UInt8) (a b : Nat) : List UInt8 := (l.take b).drop a
theorem str_get (l : List UInt8) (k : Nat) (h : k < (str l).size) : (str l)[k]'h = gb l k := by
 have h' : k < l.length := by rw [str_size] at h; exact h
 unfold gb
 rw [List.getD_eq_getElem?_getD, List.getElem?_eq_getElem h']
 show (str l).data[k] = _
 simp [str]
theorem str_mid (l : List UInt8) (a b : Nat) : (str l).extract a b = str (mid l a b) := by
 have h : ((str l).extract a b).data.toList = mid l a b := by
  rw [ByteArray.data_extract, Array.toList_extract, str_data, List.extract_eq_drop_take]
  unfold mid
  rw [List.drop_take]
 rw [← h, str_of]
theorem str_end (l : List UInt8) (a : Nat) : (str l).extract a l.length = str (dr l a) := by
 rw [str_mid]; unfold mid dr; rw [List.take_length]
theorem str_front (l : List UInt8) (b : Nat) : (str l).extract 0 b = str (tk l b) := by
 rw [str_mid]; unfold mid tk; rw [List.drop_zero]
theorem str_app (a b : List UInt8) : str a ++ str b = str (a ++ b) := by
 have h : (str a ++ str b).data.toList = a ++ b := by simp [str]
 rw [← h, str_of]
theorem dr_len (l : List UInt8) (k : Nat) : (dr l k).length = l.length - k := List.length_drop ..
theorem tk_len (l : List UInt8) (k : Nat) : (tk l k).length = min k l.length := List.length_take ..
theorem gb_some {l : List UInt8} {k : Nat} (h : k < l.length) : l[k]? = some (gb l k) := by
 unfold gb; rw [List.getD_eq_getElem?_getD, List.getElem?_eq_getElem h]; rfl
theorem gb_of {l : List UInt8} {k : Nat} {x : UInt8} (h : l[k]? = some x) : gb l k = x := by
 unfold gb; rw [List.getD_eq_getElem?_getD, h]; rfl
theorem own_as {w : World} {base : Nat} {e : TypeId} {size n m : Nat} {v : Value} {xs ys : List Value} (h : w.ownsRow base e size v n xs) (hn : n = m) (hx : xs = ys) : w.ownsRow base e size v m ys := by
 subst hn; subst hx; exact h
theorem cell_on {B : Nat} {w w' : World} {b o : Nat} {v : Value} (hb : Below B w w') (hc : w.cell? ⟨b, o, none⟩ = some v) (h : b < B) : w'.cell? ⟨b, o, none⟩ = some v := (hb.cell (p := ⟨b, o, none⟩) h).trans hc
theorem run_bytesL {P : Program} {w : World} {src dst e : TypeId} (hs : P.underlying src = some .string) (hd : P.underlying dst = some (.slice e)) (he : P.underlying e = some (.int .u8)) (l : List UInt8) (hlen : l.length ≤ 1000000) :
  ∃ c' w', l.length ≤ c' ∧ c' ≤ maxLen ∧ Row w' w.heap.size (bytes l) ∧ Below w.heap.size w w' ∧ w.heap.size < w'.heap.size ∧ (convert src dst (.string (str l))).run P w = .ok (.slice (some ⟨w.heap.size, 0, none⟩) l.length c') w' := by
 have hl := str_size l
 refine ⟨grownCap w (str l).size 0 e, w.drew.alloc (.cells (bytesRow (str l) (grownCap w (str l).size 0 e)) e ((bytesRow (str l) (grownCap w (str l).size 0 e)).size, (bytesRow (str l) (grownCap w (str l).size 0 e)).size + 1)), ?_, ?_, ?_, (Below.refl _ _).drew.alloc (Nat.le_refl _) _, by simp, ?_⟩
 · have := grownCap_ge w (str l).size 0 e; omega
 · exact grownCap_le_maxLen _ _ _ _ (by unfold maxLen; omega)
 ·
  have hge := grownCap_ge w (str l).size 0 e
  generalize hN : grownCap w (str l).size 0 e = N at *
  have hrow : (w.drew.alloc (.cells (bytesRow (str l) N) e ((bytesRow (str l) N).size, (bytesRow (str l) N).size + 1))).heap[w.heap.size]? = some (.cells (bytesRow (str l) N) e ((bytesRow (str l) N).size, (bytesRow (str l) N).size + 1)) := heap_alloc_new w.drew _
  have hsz : (bytesRow (str l) N).size = N := by
   unfold bytesRow; rw [Array.size_append, Array.size_map, Array.size_replicate]; show (str l).size + _ = _; omega
  refine ⟨fun j u hu => ?_, fun j hj => ?_, by simp⟩
  ·
   rw [cell_of_row _ _ j _ _ _ hrow]
   have hj : j < l.length := by
    rcases Nat.lt_or_ge j l.length with h1 | h1
    · exact h1
    · rw [List.getElem?_eq_none (by rw [bytes_len]; exact h1)] at hu; cases hu
   unfold bytesRow
   rw [Array.getElem?_append_left (by simpa [str] using hj)]
   unfold bytes at hu
   rw [← hu]
   simp [str]
  ·
   rw [bytes_len] at hj
   unfold World.frozen?
   rw [hrow]
   show (decide (_ ≤ j) && decide (j < _)) = false
   rw [hsz, decide_eq_false (by omega), Bool.false_and]
 · rw [run_bytes_of_string w src dst e (str l) hs hd he, hl]
theorem run_strM {P : Program} {w : World} {src dst e : TypeId} {B n : Nat} {A : Option Addr} {c : Nat} {l : List UInt8} (hs : P.underlying src = some (.slice e)) (he : P.underlying e = some (.int .u8)) (hd : P.underlying dst = some .string)
  (hr : Rd w B A (bytes l)) (hn : n = l.length) : (convert src dst (.slice A n c)).run P w = .ok (.string (str l)) w := by subst hn; exact run_str hs he hd hr
theorem str_toL (l : List UInt8) : (str l).toList = l := by rw [ByteArray.toList_eq, str_data]
theorem str_eqB (a b : List UInt8) : ((str a).toList == (str b).toList) = decide (a = b) := by
 rw [str_toL, str_toL]; by_cases h : a = b <;> simp [h]
section
variable {P : Program} {w : World} {ops : Array Oper} {rest : List Oper} {o : Oper} {a : Act} {Q : Exit → Act → World → Prop}
theorem wpList_bytesL (hgd : Region.wanted o (yielded ops a.tmps) = true) (x : Operand) (src dst e : TypeId) (ho : o.op = .convert src dst x) (hs : P.underlying src = some .string) (hd : P.underlying dst = some (.slice e)) (he : P.underlying e = some (.int .u8))
  (l : List UInt8) (hx : a.eval x = .string (str l)) (hlen : l.length ≤ 1000000)
  (h : ∀ c' w', l.length ≤ c' → c' ≤ maxLen → Row w' w.heap.size (bytes l) → Rd w' w'.heap.size (some ⟨w.heap.size, 0, none⟩) (bytes l) → Below w.heap.size w w' → w.heap.size < w'.heap.size → wpList P ops Q rest (a.put o.dst (.slice (some ⟨w.heap.size, 0, none⟩) l.length c')) w') :
  wpList P ops Q (o :: rest) a w := by
 refine BigFrame.wpList_want hgd fun K hK => ?_
 obtain ⟨c', w', h1, h2, h3, h4, h5, hrun⟩ : ∃ c' w', l.length ≤ c' ∧ c' ≤ maxLen ∧ Row w' w.heap.size (bytes l) ∧ Below w.heap.size w w' ∧ w.heap.size < w'.heap.size ∧ (convert src dst (.string (str l))).run P w = .ok (.slice (some ⟨w.heap.size, 0, none⟩) l.length c') w' := run_bytesL hs hd he l hlen
 unfold Oper.wp execOp
 simp only [ho, hx, hrun, Sem.run_bind, Sem.run_pure, Result.andThen_ok]
 exact hK _ _ (h c' w' h1 h2 h3 (h3.rd h5) h4 h5)
theorem wpList_strL (hgd : Region.wanted o (yielded ops a.tmps) = true) (x : Operand) (src dst e : TypeId) (ho : o.op = .convert src dst x) (hs : P.underlying src = some (.slice e)) (he : P.underlying e = some (.int .u8)) (hd : P.underlying dst = some .string)
  (B : Nat) (A : Option Addr) (n c : Nat) (l : List UInt8) (hx : a.eval x = .slice A n c) (hn : n = l.length) (hr : Rd w B A (bytes l))
  (h : wpList P ops Q rest (a.put o.dst (.string (str l))) w) : wpList P ops Q (o :: rest) a w := by
 subst hn
 refine BigFrame.wpList_want hgd fun K hK => ?_
 unfold Oper.wp execOp
 simp only [ho, hx, run_str hs he hd hr, Sem.run_bind, Sem.run_pure, Result.andThen_ok]
 exact hK _ _ h
end
end Go.Proofs.YtoapelcofjjdnaaGreatDoor
namespace Go.Proofs.YtoapelcofjjdnaaGreatDoor
set_option linter.all false
open Go.RowKit
theorem byte_of {n : Int} (h : (Lit.int .u8 n).wf = true) : ∃ c : UInt8, n = (c.toNat : Int) := by
 have h1 : 0 ≤ n ∧ n < 256 := by
  have := bounds_u8 h
  omega
 exact ⟨byteOf n, (byteOf_nat h1.1 h1.2).symm⟩
end Go.Proofs.YtoapelcofjjdnaaGreatDoor
namespace Go.Proofs.YtoapelcofjjdnaaGreatDoor
set_option linter.all false
open Go.RowKit
theorem and_mask (k : Nat) (hk : k < 8) {a : Int} (h0 : 0 ≤ a) (h1 : a < 256) : bits .and .u8 a (2 ^ k - 1 : Nat) = a % (2 ^ k : Nat) := by
 obtain ⟨n, rfl⟩ : ∃ n : Nat, a = n := ⟨a.toNat, by omega⟩
 have h := u8_and_nat n (2 ^ k - 1) (by omega) (by have := Nat.pow_lt_pow_right (a := 2) (by decide) hk; omega)
 rw [h, Nat.and_two_pow_sub_one_eq_mod]; omega
theorem i32_or_low (x : Nat) (hx : x < 16777216) {r y : Int} (hr : r = 64 * x) (h0 : 0 ≤ y) (h1 : y < 64) : bits .or .i32 r y = r + y := by
 obtain ⟨n, rfl⟩ : ∃ n : Nat, y = n := ⟨y.toNat, by omega⟩
 subst hr
 show IntKind.i32.wrap ((BitVec.ofInt 32 (64 * (x : Int)) ||| BitVec.ofInt 32 (n : Int)).toNat : Int) = _
 have e1 : BitVec.ofInt 32 (64 * (x : Int)) = BitVec.ofNat 32 (64 * x) := by rw [show (64 : Int) * (x : Int) = ((64 * x : Nat) : Int) from by omega]; exact BitVec.ofInt_natCast ..
 have e2 : BitVec.ofInt 32 (n : Int) = BitVec.ofNat 32 n := BitVec.ofInt_natCast ..
 rw [e1, e2, BitVec.toNat_or, BitVec.toNat_ofNat, BitVec.toNat_ofNat, Nat.mod_eq_of_lt (by omega), Nat.mod_eq_of_lt (by omega), nat_join 6 (64 * x) n (by omega) (by omega)]
 simp [IntKind.wrap, IntKind.bits, IntKind.signed]
 omega
theorem bt_cell {w : World} {bk off : Nat} {l : List UInt8} (hr : ∀ j u, (bytes l)[j]? = some u → w.cell? ⟨bk, off + j, none⟩ = some u) (j : Nat) (hj : j < l.length) :
  w.cell? ⟨bk, off + j, none⟩ = some (.int .u8 (bt l j)) := by
 refine hr j _ ?_
 unfold bytes
 rw [List.getElem?_map, List.getElem?_eq_getElem hj]
 unfold bt
 rw [List.getD_eq_getElem?_getD, List.getElem?_eq_getElem hj]; rfl
end Go.Proofs.YtoapelcofjjdnaaGreatDoor
namespace Go.Proofs.YtoapelcofjjdnaaGreatDoor
set_option linter.all false
open Go.RowKit
theorem info_i32u : (Tryz.prog.info? 21).map (fun i => (i.zero, i.size, i.bytes)) = some (some (.int .i32 0), 1, 4) := by kernel_rfl
theorem slice_len {A : Option Addr} {c n m : Nat} (h : n = m) : Value.slice A n c = .slice A m c := by rw [h]
theorem rd_step {w : World} {B bk off : Nat} {rest : List UInt8} {k j : Nat} (h : Rd w B (some ⟨bk, off, none⟩) (bytes rest)) (hj : j = off + k ∨ rest.length ≤ k) : Rd w B (some ⟨bk, j, none⟩) (bytes (rest.drop k)) := by
 by_cases hk : rest.length ≤ k
 · rw [List.drop_eq_nil_of_le hk]; exact Rd.nil
 ·
  have e : j = off + k := by omega
  subst e
  unfold bytes
  rw [List.map_drop]
  exact h.dropAt k
theorem own_eq {w : World} {base : Nat} {e : TypeId} {size n m : Nat} {v : Value} {xs ys : List Value} (h : w.ownsRow base e size v n xs) (hn : n = m) (hx : xs = ys) : w.ownsRow base e size v m ys := by
 subst hn; subst hx; exact h
theorem dec1_bd (l : List UInt8) (h : 0 < l.length) : (dec1 l).2 ≤ l.length ∧ (dec1 l).2 ≤ 4 := ⟨dec1_len h, dec1_le l⟩
end Go.Proofs.YtoapelcofjjdnaaGreatDoor
namespace Go.Proofs.YtoapelcofjjdnaaGreatDoor
set_option linter.all false
open Go.RowKit
theorem cell_byteOf {e : Int} (h0 : 0 ≤ e) (h1 : e < 256) : Value.int .u8 ((byteOf e).toNat : Int) = .int .u8 e := by rw [byteOf_nat h0 h1]
theorem enc_cells1 {y : Int} (h0 : 0 ≤ y) (h1 : y < 128) : bytes (enc0 y) = [.int .u8 y] := by
 unfold enc0; rw [if_pos h1]
 simp only [bytes, List.map_cons, List.map_nil]
 rw [cell_byteOf (by omega) (by omega)]
theorem enc_cells2 {y : Int} (h0 : 128 ≤ y) (h1 : y < 2048) : bytes (enc0 y) = [.int .u8 (192 + y / 64), .int .u8 (128 + y % 64)] := by
 unfold enc0; rw [if_neg (by omega), if_pos h1]
 simp only [bytes, List.map_cons, List.map_nil]
 rw [cell_byteOf (by omega) (by omega), cell_byteOf (by omega) (by omega)]
theorem enc_cells3 {y : Int} (h0 : 2048 ≤ y) (h1 : y < 65536) : bytes (enc0 y) = [.int .u8 (224 + y / 4096), .int .u8 (128 + y / 64 % 64), .int .u8 (128 + y % 64)] := by
 unfold enc0; rw [if_neg (by omega), if_neg (by omega), if_pos h1]
 simp only [bytes, List.map_cons, List.map_nil]
 rw [cell_byteOf (by omega) (by omega), cell_byteOf (by omega) (by omega), cell_byteOf (by omega) (by omega)]
theorem enc_cells4 {y : Int} (h0 : 65536 ≤ y) (h1 : y ≤ 1114111) : bytes (enc0 y) = [.int .u8 (240 + y / 262144), .int .u8 (128 + y / 4096 % 64), .int .u8 (128 + y / 64 % 64), .int .u8 (128 + y % 64)] := by
 unfold enc0; rw [if_neg (by omega), if_neg (by omega), if_neg (by omega)]
 simp only [bytes, List.map_cons, List.map_nil]
 rw [cell_byteOf (by omega) (by omega), cell_byteOf (by omega) (by omega), cell_byteOf (by omega) (by omega), cell_byteOf (by omega) (by omega)]
theorem cpFix_no {x : Int} (h : cpOk x = false) : cpFix x = 65533 := by unfold cpFix; rw [h]; rfl
end Go.Proofs.YtoapelcofjjdnaaGreatDoor
namespace Go.Proofs.YtoapelcofjjdnaaGreatDoor
set_option linter.all false
open Go.RowKit
def shortN (r : Int) : Nat := if cpOk r = true then cpSize r else 0
theorem short_is {r : Int} {n : Nat} (h : shortN r = n) : Ending.returned (.int .i64 (n : Int)) = .returned (.int .i64 (shortN r)) := by rw [h]
set_option maxRecDepth 100000 in
set_option maxHeartbeats 1000000 in
theorem short_any (r : Int) (w : World) :
  Calls Tryz.prog 159 #[.int .i32 r] w fun e w' => e = .returned (.int .i64 (shortN r)) ∧ w = w' := by
 by_cases hok : cpOk r = true
 ·
  obtain ⟨o1, o2, o3⟩ := cpOk_iff.1 hok
  rcases o3 with o3 | o3
  all_goals
   go_enter Tryz.func159, Tryz.ntmps159
   go_wp2
   all_goals (go_ret; exact ⟨short_is (by unfold shortN cpSize; rw [if_pos hok]; (repeat' split) <;> omega), rfl⟩)
 ·
  have hok' : r < 0 ∨ 1114111 < r ∨ (55296 ≤ r ∧ r ≤ 57343) := by
   rw [cpOk_iff] at hok; omega
  rcases hok' with o | o | ⟨o, o'⟩
  all_goals
   go_enter Tryz.func159, Tryz.ntmps159
   go_wp2
   all_goals (go_ret; exact ⟨short_is (by unfold shortN; rw [if_neg hok]), rfl⟩)
theorem ofInt32 {x : Int} (h0 : 0 ≤ x) (h1 : x < 4294967296) : (BitVec.ofInt 32 x).toNat = x.toNat := by
 obtain ⟨n, rfl⟩ : ∃ n : Nat, x = n := ⟨x.toNat, by omega⟩
 rw [BitVec.ofInt_natCast, BitVec.toNat_ofNat]
 omega
theorem i32_wrap {x : Int} (h0 : 0 ≤ x) (h1 : x < 2147483648) : IntKind.i32.wrap x = x := by
 simp [IntKind.wrap, IntKind.bits, IntKind.signed]; omega
theorem i32_and_mask (k : Nat) (hk : k ≤ 8) {x : Int} (h0 : 0 ≤ x) (h1 : x < 2147483648) : bits .and .i32 x (2 ^ k - 1 : Nat) = x % (2 ^ k : Nat) := by
 have hp : 2 ^ k ≤ 2 ^ 8 := Nat.pow_le_pow_right (by decide) hk
 have hp0 : 0 < 2 ^ k := Nat.two_pow_pos k
 show IntKind.i32.wrap ((BitVec.ofInt 32 x &&& BitVec.ofInt 32 ((2 ^ k - 1 : Nat) : Int)).toNat : Int) = _
 rw [BitVec.toNat_and, ofInt32 h0 (by omega), ofInt32 (by omega) (by omega), Int.toNat_natCast, Nat.and_two_pow_sub_one_eq_mod]
 have hm := Nat.mod_lt x.toNat hp0
 rw [i32_wrap (by omega) (by omega)]
 rw [Int.natCast_emod, Int.toNat_of_nonneg h0]
theorem i32_or_join (i t y : Nat) (ht : t % 2 ^ i = 0) (ht2 : t < 1000) (hy : y < 2 ^ i) (hy2 : y < 1000) : bits .or .i32 (t : Int) (y : Int) = (t : Int) + y := by
 show IntKind.i32.wrap ((BitVec.ofInt 32 (t : Int) ||| BitVec.ofInt 32 (y : Int)).toNat : Int) = _
 rw [BitVec.toNat_or, ofInt32 (by omega) (by omega), ofInt32 (by omega) (by omega), Int.toNat_natCast, Int.toNat_natCast, nat_join i t y ht hy, i32_wrap (by omega) (by omega)]
 omega
theorem i32_or_tail (t y : Nat) (ht : t % 64 = 0) (ht2 : t < 1000) (hy : y < 64) : bits .or .i32 (t : Int) (y : Int) = (t : Int) + y := by
 show IntKind.i32.wrap ((BitVec.ofInt 32 (t : Int) ||| BitVec.ofInt 32 (y : Int)).toNat : Int) = _
 rw [BitVec.toNat_or, ofInt32 (by omega) (by omega), ofInt32 (by omega) (by omega), Int.toNat_natCast, Int.toNat_natCast, nat_join 6 t y (by omega) (by omega), i32_wrap (by omega) (by omega)]
 omega
theorem or128 {x : Int} : bits .or .i32 128 (x % 64) = 128 + x % 64 := by
 have h := i32_or_tail 128 (x % 64).toNat (by decide) (by decide) (by omega)
 rw [show ((128 : Nat) : Int) = 128 from rfl, show (((x % 64).toNat : Nat) : Int) = x % 64 from by omega] at h
 exact h
theorem lit_own {w : World} {e : TypeId} {cs : Array Value} {n : Nat} {xs : List Value} (hn : cs.size = n) (hx : cs.toList = xs) (hm : n ≤ 1000000) : (w.alloc (.cells cs e)).ownsRow w.heap.size e 1 (.slice (some ⟨w.heap.size, 0, none⟩) n n) xs.length xs := by
 have := World.ownsRow_lit (e := e) (size := 1) (base := w.heap.size) w cs n (Nat.le_refl _) (by unfold maxLen; omega) (by omega)
 subst hx
 rw [show cs.toList.length = n from by simpa using hn]
 exact this
set_option maxRecDepth 100000 in
set_option maxHeartbeats 1000000 in
theorem one_ok (r : Int) (w : World) (hok : cpOk r = true) :
  Calls Tryz.prog 160 #[.int .i32 r] w fun e w' => ∃ v, e = .returned v ∧ w'.ownsRow w.heap.size 5 1 v (bytes (enc0 r)).length (bytes (enc0 r)) ∧ Below w.heap.size w w' := by
 obtain ⟨o1, o2, o3⟩ := cpOk_iff.1 hok
 have e6 : bits .and .i32 r 63 = r % 64 := i32_and_mask 6 (by decide) o1 (by omega)
 have e12 : bits .and .i32 (r / 64) 63 = r / 64 % 64 := i32_and_mask 6 (by decide) (by omega) (by omega)
 have e18 : bits .and .i32 (r / 4096) 63 = r / 4096 % 64 := i32_and_mask 6 (by decide) (by omega) (by omega)
 have f6 : bits .or .i32 128 (r % 64) = 128 + r % 64 := or128
 have f12 : bits .or .i32 128 (r / 64 % 64) = 128 + r / 64 % 64 := or128
 have f18 : bits .or .i32 128 (r / 4096 % 64) = 128 + r / 4096 % 64 := or128
 have g3 : r / 4096 < 16 → bits .or .i32 224 (r / 4096) = 224 + r / 4096 := fun h => by
  have := i32_or_join 4 224 (r / 4096).toNat (by decide) (by decide) (by omega) (by omega)
  rw [show (((r / 4096).toNat : Nat) : Int) = r / 4096 from by omega] at this
  exact this
 have g4 : bits .or .i32 240 (r / 262144) = 240 + r / 262144 := by
  have := i32_or_join 3 240 (r / 262144).toNat (by decide) (by decide) (by omega) (by omega)
  rw [show (((r / 262144).toNat : Nat) : Int) = r / 262144 from by omega] at this
  exact this
 by_cases s1 : r < 128
 ·
  have hs : shortN r = 1 := by unfold shortN cpSize; rw [if_pos hok, if_pos s1]
  go_enter Tryz.func160, Tryz.ntmps160
  go_wp2_with (go_at_call 159; go_must (go_fit (short_any r w)); rintro e w1 ⟨rfl, rfl⟩)
  go_ret
  exact ⟨_, rfl, lit_own rfl (by rw [enc_cells1 (by omega) (by omega)]) (by decide), (Below.refl _ _).alloc (Nat.le_refl _) _⟩
 by_cases s2 : r < 2048
 ·
  have hs : shortN r = 2 := by unfold shortN cpSize; rw [if_pos hok, if_neg s1, if_pos s2]
  go_enter Tryz.func160, Tryz.ntmps160
  go_wp2_with (go_at_call 159; go_must (go_fit (short_any r w)); rintro e w1 ⟨rfl, rfl⟩)
  go_ret
  exact ⟨_, rfl, lit_own rfl (by rw [enc_cells2 (by omega) (by omega)]) (by decide), (Below.refl _ _).alloc (Nat.le_refl _) _⟩
 by_cases s3 : r < 65536
 ·
  have g3 := g3 (by omega)
  have hs : shortN r = 3 := by unfold shortN cpSize; rw [if_pos hok, if_neg s1, if_neg s2, if_pos s3]
  go_enter Tryz.func160, Tryz.ntmps160
  go_wp2_with (go_at_call 159; go_must (go_fit (short_any r w)); rintro e w1 ⟨rfl, rfl⟩)
  go_ret
  exact ⟨_, rfl, lit_own rfl (by rw [enc_cells3 (by omega) (by omega)]) (by decide), (Below.refl _ _).alloc (Nat.le_refl _) _⟩
 ·
  have hs : shortN r = 4 := by unfold shortN cpSize; rw [if_pos hok, if_neg s1, if_neg s2, if_neg s3]
  go_enter Tryz.func160, Tryz.ntmps160
  go_wp2_with (go_at_call 159; go_must (go_fit (short_any r w)); rintro e w1 ⟨rfl, rfl⟩)
  go_ret
  exact ⟨_, rfl, lit_own rfl (by rw [enc_cells4 (by omega) (by omega)]) (by decide), (Below.refl _ _).alloc (Nat.le_refl _) _⟩
set_option maxRecDepth 100000 in
set_option maxHeartbeats 1000000 in
theorem one_any (r : Int) (w : World) :
  Calls Tryz.prog 160 #[.int .i32 r] w fun e w' => ∃ v, e = .returned v ∧ w'.ownsRow w.heap.size 5 1 v (bytes (enc1 r)).length (bytes (enc1 r)) ∧ Below w.heap.size w w' := by
 by_cases hok : cpOk r = true
 ·
  have e : enc1 r = enc0 r := by unfold enc1; rw [cpFix_of hok]
  rw [e]; exact one_ok r w hok
 ·
  have hok : cpOk r = false := Bool.eq_false_iff.2 hok
  have e : enc1 r = enc0 65533 := by unfold enc1; rw [cpFix_no hok]
  rw [e]
  have hs : shortN r = 0 := by unfold shortN; rw [hok]; rfl
  have H := Lib.hid (one_ok 65533 w (by decide))
  clear e
  go_enter Tryz.func160, Tryz.ntmps160
  go_wp2_with (first
   | (go_at_call 159; go_must (go_fit (short_any r w)); rintro e w1 ⟨rfl, rfl⟩)
   | (go_at_call 160; go_must (go_fit H.out); rintro e w1 ⟨v, rfl, hown, hb⟩))
  go_ret
  exact ⟨v, rfl, hown, hb⟩
end Go.Proofs.YtoapelcofjjdnaaGreatDoor
namespace Go.Proofs.YtoapelcofjjdnaaGreatDoor
set_option linter.all false
open Go.RowKit
theorem info_i32 : (Tryz.prog.info? 21).map (fun i => (i.zero, i.size, i.bytes)) = some (some (.int .i32 0), 1, 4) := by kernel_rfl
theorem mOut_is {r o : Int} {k : Bool} (h : (mKeep r, mOut r) = (k, o)) (w w' : World) (hb : Below w.heap.size w w') :
  (Ending.returned (.tuple #[.int .i32 o, .bool k])) = .returned (.tuple #[.int .i32 (mOut r), .bool (mKeep r)]) ∧ Below w.heap.size w w' := by
 injection h with h1 h2
 rw [h1, h2]
 exact ⟨rfl, hb⟩
theorem mOut_at {r o : Int} (h1 : ¬ (r = 173 ∨ r = 8203 ∨ r = 8204 ∨ r = 8205 ∨ r = 8288 ∨ r = 65279)) (h2 : mOut r = o) : (mKeep r, mOut r) = (true, o) := by
 rw [h2]
 unfold mKeep
 rw [decide_eq_true (by omega)]
theorem beq_no {a b : Int} (h : ¬ a = b) : (a == b) = false := by simpa using h
end Go.Proofs.YtoapelcofjjdnaaGreatDoor
namespace Go.Proofs.YtoapelcofjjdnaaGreatDoor
set_option linter.all false
open Go.RowKit
theorem own_eq2 {w : World} {base : Nat} {e : TypeId} {size n m : Nat} {v : Value} {xs ys : List Value} (h : w.ownsRow base e size v n xs) (hn : n = m) (hx : xs = ys) : w.ownsRow base e size v m ys := by
 subst hn; subst hx; exact h
set_option maxRecDepth 100000 in
set_option maxHeartbeats 4000000 in
theorem rmap_near (r : Int) (w : World) (h : r < 65281 ∨ 65374 < r) :
  Calls Tryz.prog 135 #[.int .i32 r] w fun e w' => e = .returned (.tuple #[.int .i32 (mOut r), .bool (mKeep r)]) ∧ Below w.heap.size w w' := by
 by_cases hs : r = 173 ∨ r = 8203 ∨ r = 8204 ∨ r = 8205 ∨ r = 8288 ∨ r = 65279 ∨ r = 12290 ∨ r = 65377 ∨ r = 215 ∨ r = 930
 ·
  rcases hs with rfl | rfl | rfl | rfl | rfl | rfl | rfl | rfl | rfl | rfl
  all_goals
   go_enter Tryz.func135, Tryz.ntmps135
   go_wp2
   go_ret2
   exact mOut_is (by decide) _ _ (Below.refl _ _)
 by_cases hr : 256 ≤ r ∧ r ≤ 303
 ·
  obtain ⟨hr1, hr2⟩ := hr
  have e := or1 hr1 hr2
  have e2 : mOut r = if r % 2 = 0 then r + 1 else r := by
   unfold mOut mBase; (repeat' split) <;> omega
  rw [← e2] at e
  have e3 : mKeep r = true := decide_eq_true (by omega)
  clear e2
  have HE := Lib.hid e
  clear e
  have h1 := beq_no (a := r) (b := 173) (by omega)
  have h5 := beq_no (a := r) (b := 8288) (by omega)
  have h6 := beq_no (a := r) (b := 65279) (by omega)
  have h7 := beq_no (a := r) (b := 12290) (by omega)
  have h8 := beq_no (a := r) (b := 65377) (by omega)
  go_enter Tryz.func135, Tryz.ntmps135
  go_wp2
  all_goals
   go_ret2
   rw [← HE.out]
   exact ⟨rfl, Below.refl _ _⟩
 ·
  have h1 := beq_no (a := r) (b := 173) (by omega)
  have h5 := beq_no (a := r) (b := 8288) (by omega)
  have h6 := beq_no (a := r) (b := 65279) (by omega)
  have h7 := beq_no (a := r) (b := 12290) (by omega)
  have h8 := beq_no (a := r) (b := 65377) (by omega)
  have h9 : (r != 215) = true := by simp; omega
  have h10 : (r != 930) = true := by simp; omega
  have hx : r < 8203 ∨ 8205 < r := by omega
  have hr2 : r < 256 ∨ 303 < r := by omega
  have hs1 : ¬ (r = 173 ∨ r = 8203 ∨ r = 8204 ∨ r = 8205 ∨ r = 8288 ∨ r = 65279) := by omega
  have hs2 : ¬ (r = 12290 ∨ r = 65377) := by omega
  have HS := Lib.hid hs1
  have HS2 := Lib.hid hs2
  clear hs hr hs1 hs2
  go_enter Tryz.func135, Tryz.ntmps135
  go_wp2
  all_goals go_ret2
  all_goals go_light
  all_goals (simp only [beq_eq_false_iff_ne, ne_eq, bne_iff_ne, bne_eq_false_iff_eq] at *)
  all_goals
   have a1 := HS.out
   have a2 := HS2.out
   exact mOut_is (mOut_at a1 (by unfold mOut mBase; (repeat' split) <;> omega)) _ _ (Below.refl _ _)
set_option maxRecDepth 100000 in
set_option maxHeartbeats 1000000 in
theorem rmap_any (r : Int) (w : World) :
  Calls Tryz.prog 135 #[.int .i32 r] w fun e w' => e = .returned (.tuple #[.int .i32 (mOut r), .bool (mKeep r)]) ∧ Below w.heap.size w w' := by
 by_cases h : r < 65281 ∨ 65374 < r
 · exact rmap_near r w h
 ·
  have h1 : 65281 ≤ r := by omega
  have h2 : r ≤ 65374 := by omega
  clear h
  have e1 : mKeep (r - 65248) = mKeep r := by unfold mKeep; rw [decide_eq_decide]; omega
  have e2 : mOut (r - 65248) = mOut r := by
   have a : mOut r = mBase (r - 65248) := by unfold mOut; rw [if_neg (by omega), if_neg (by omega), if_pos (by omega)]
   have b : mOut (r - 65248) = mBase (r - 65248) := by unfold mOut; rw [if_neg (by omega), if_neg (by omega), if_neg (by omega)]
   rw [a, b]
  have c : ∀ w : World, Calls Tryz.prog 135 #[.int .i32 (r - 65248)] w fun e w' => e = .returned (.tuple #[.int .i32 (mOut r), .bool (mKeep r)]) ∧ Below w.heap.size w w' := by
   intro w
   have := rmap_near (r - 65248) w (by omega)
   rwa [e1, e2] at this
  have C := Lib.hid c
  clear c e1 e2
  have b1 := beq_no (a := r) (b := 173) (by omega)
  have b5 := beq_no (a := r) (b := 8288) (by omega)
  have b6 := beq_no (a := r) (b := 65279) (by omega)
  go_enter Tryz.func135, Tryz.ntmps135
  go_wp2_with (go_at_call 135; refine (C.out _).mono ?_; rintro e w1 ⟨rfl, hb⟩)
  go_ret2
  exact ⟨rfl, hb⟩
set_option maxRecDepth 100000 in
set_option maxHeartbeats 1000000 in
theorem rtext_any (A : Option Addr) (c : Nat) (l : List Int) (w : World) (hr : Rd w w.heap.size A (runes l)) (hl : l.length ≤ 100000) :
  Calls Tryz.prog 106 #[.slice A l.length c] w fun e w' => ∃ v, e = .returned v ∧ w'.ownsRow w.heap.size 21 1 v (runes (fText l)).length (runes (fText l)) ∧ Below w.heap.size w w' := by
 go_enter Tryz.func106, Tryz.ntmps106
 go_wp2
 go_loopg [3, 4] (l.length) (fun k v i wr => ∃ j : Nat, k = l.length - j ∧ j ≤ l.length ∧ i = .int .i64 j ∧ wr.ownsRow w.heap.size 21 1 v (runes (fText (l.take j))).length (runes (fText (l.take j))) ∧ Below w.heap.size w wr)
 case atStart => exact ⟨0, rfl, Nat.zero_le _, rfl, World.ownsRow_nil _ _ _ _, Below.refl _ _⟩
 case round =>
  obtain ⟨j, rfl, hj, rfl, hown, hbel⟩ := hrel
  by_cases hlt : j < l.length
  ·
   obtain ⟨b, off, x, rfl, hb, hc, hx⟩ := (hr.below hbel).rune_at hlt
   have hlt1 : (j : Int) < (l.length : Int) := by omega
   have hj0 : (0 : Int) ≤ (j : Int) := by omega
   have hw := hbel.size
   have hty : (runes (fText (l.take j))).length ≤ 100000 := by have := fText_le (l.take j); rw [List.length_take] at this; rw [runes_len]; omega
   by_cases hk : mKeep x = true
   ·
    go_wp2_with (first
     | (go_at_call 135; go_must (go_fit (rmap_any x wr)); rintro e w1 ⟨rfl, hb1⟩; have hw1 := hb1.size)
     | (at_builtin; refine wpList_append_lit rfl _ _ _ rfl w.heap.size _ _ 1 4 Tryz.underlying127 info_i32 rfl (by decide) _ _ _ rfl (own_below hown hb1 (Nat.le_refl _)) _ 1 1 _ rfl rfl (by simp [Value.oneCell']) (by omega) (by decide) (by omega) ?_; intro A1 c1 w2 hc1 hm1 hown1 hb2 hg2))
    go_roundg (l.length - (j + 1))
    case measure => omega
    case rel =>
     refine ⟨j + 1, rfl, by omega, by go_num, own_eq2 hown1 ?_ ?_, (hbel.trans (hb1.mono hw)).trans hb2⟩
     · rw [fText_yes hx.out hk, runes_append, List.length_append]; rfl
     · rw [fText_yes hx.out hk, runes_append]; rfl
   ·
    have hk : mKeep x = false := by simpa using hk
    go_wp2_with (go_at_call 135; go_must (go_fit (rmap_any x wr)); rintro e w1 ⟨rfl, hb1⟩; have hw1 := hb1.size)
    go_roundg (l.length - (j + 1))
    case measure => omega
    case rel => exact ⟨j + 1, rfl, by omega, by go_num, by rw [fText_no hx.out hk]; exact own_below hown hb1 (Nat.le_refl _), hbel.trans (hb1.mono hw)⟩
  ·
   obtain rfl : j = l.length := by omega
   go_wp2
   go_ret
   rw [List.take_length] at hown
   exact ⟨_, rfl, hown, hbel⟩
end Go.Proofs.YtoapelcofjjdnaaGreatDoor
