/- Lists of texts as cells; a text as bytes in new memory. Nothing here speaks of the program. -/
import Derived.Test.YtnnphploekchbaaDoorStr
import Derived.Test.YtnnphploekchbaaDoorOwn
namespace Go.Proofs.YtnnphploekchbaaDoor
set_option linter.all false
open Go.RowKit

/-- Texts, as cells. -/
def strs (l : List (List UInt8)) : List Value := l.map fun b => Value.string (str b)
theorem strs_len (l : List (List UInt8)) : (strs l).length = l.length := List.length_map ..
theorem strs_append (a b : List (List UInt8)) : strs (a ++ b) = strs a ++ strs b := List.map_append ..
theorem strs_one (l : List (List UInt8)) : ∀ u ∈ strs l, u.oneCell' = true := by
  intro u hu
  obtain ⟨c, _, rfl⟩ := List.mem_map.1 hu
  rfl
theorem Rd.str_at {w : World} {B : Nat} {A : Option Addr} {l : List (List UInt8)} (h : Rd w B A (strs l)) {k : Nat} (hk : k < l.length) :
    ∃ b off x, A = some ⟨b, off, none⟩ ∧ b < B ∧ w.cell? ⟨b, off + k, none⟩ = some (.string (str x)) ∧ Hid (l[k]? = some x) := by
  obtain ⟨b, off, e, hb, hc⟩ := h.at_ (k := k) (by rw [strs_len]; exact hk)
  refine ⟨b, off, l[k], e, hb, ?_, List.getElem?_eq_getElem hk⟩
  rw [hc]; simp [strs]

/-- The byte at a place (0 behind the end); what lies behind a place, ahead of one, between two. -/
def gb (l : List UInt8) (k : Nat) : UInt8 := l.getD k 0
def dr (l : List UInt8) (k : Nat) : List UInt8 := l.drop k
def tk (l : List UInt8) (k : Nat) : List UInt8 := l.take k
def mid (l : List UInt8) (a b : Nat) : List UInt8 := (l.take b).drop a
theorem str_get (l : List UInt8) (k : Nat) (h : k < (str l).size) : (str l)[k]'h = gb l k := by
  have h' : k < l.length := by rw [str_size] at h; exact h
  unfold gb
  rw [List.getD_eq_getElem?_getD, List.getElem?_eq_getElem h']
  show (str l).data[k] = _
  simp [str]
theorem str_mid (l : List UInt8) (a b : Nat) : (str l).extract a b = str (mid l a b) := by
  have h : ((str l).extract a b).data.toList = mid l a b := by
    rw [ByteArray.data_extract, Array.toList_extract, str_data, List.extract_eq_drop_take]
    unfold mid
    rw [List.drop_take]
  rw [← h, str_of]
theorem str_end (l : List UInt8) (a : Nat) : (str l).extract a l.length = str (dr l a) := by
  rw [str_mid]; unfold mid dr; rw [List.take_length]
theorem str_front (l : List UInt8) (b : Nat) : (str l).extract 0 b = str (tk l b) := by
  rw [str_mid]; unfold mid tk; rw [List.drop_zero]
theorem str_app (a b : List UInt8) : str a ++ str b = str (a ++ b) := by
  have h : (str a ++ str b).data.toList = a ++ b := by simp [str]
  rw [← h, str_of]
theorem dr_len (l : List UInt8) (k : Nat) : (dr l k).length = l.length - k := List.length_drop ..
theorem tk_len (l : List UInt8) (k : Nat) : (tk l k).length = min k l.length := List.length_take ..
theorem gb_some {l : List UInt8} {k : Nat} (h : k < l.length) : l[k]? = some (gb l k) := by
  unfold gb; rw [List.getD_eq_getElem?_getD, List.getElem?_eq_getElem h]; rfl
theorem gb_of {l : List UInt8} {k : Nat} {x : UInt8} (h : l[k]? = some x) : gb l k = x := by
  unfold gb; rw [List.getD_eq_getElem?_getD, h]; rfl

theorem own_as {w : World} {base : Nat} {e : TypeId} {size n m : Nat} {v : Value} {xs ys : List Value} (h : w.ownsRow base e size v n xs) (hn : n = m) (hx : xs = ys) : w.ownsRow base e size v m ys := by
  subst hn; subst hx; exact h

/-- A cell below stands. -/
theorem cell_on {B : Nat} {w w' : World} {b o : Nat} {v : Value} (hb : Below B w w') (hc : w.cell? ⟨b, o, none⟩ = some v) (h : b < B) : w'.cell? ⟨b, o, none⟩ = some v := (hb.cell (p := ⟨b, o, none⟩) h).trans hc

theorem run_bytesL {P : Program} {w : World} {src dst e : TypeId} (hs : P.underlying src = some .string) (hd : P.underlying dst = some (.slice e)) (he : P.underlying e = some (.int .u8)) (l : List UInt8) (hlen : l.length ≤ 1000000) :
    ∃ c' w', l.length ≤ c' ∧ c' ≤ maxLen ∧ Row w' w.heap.size (bytes l) ∧ Below w.heap.size w w' ∧ w.heap.size < w'.heap.size ∧ (convert src dst (.string (str l))).run P w = .ok (.slice (some ⟨w.heap.size, 0, none⟩) l.length c') w' := by
  have hl := str_size l
  refine ⟨grownCap w (str l).size 0 e, w.drew.alloc (.cells (bytesRow (str l) (grownCap w (str l).size 0 e)) e ((bytesRow (str l) (grownCap w (str l).size 0 e)).size, (bytesRow (str l) (grownCap w (str l).size 0 e)).size + 1)), ?_, ?_, ?_, (Below.refl _ _).drew.alloc (Nat.le_refl _) _, by simp, ?_⟩
  · have := grownCap_ge w (str l).size 0 e; omega
  · exact grownCap_le_maxLen _ _ _ _ (by unfold maxLen; omega)
  · have hge := grownCap_ge w (str l).size 0 e
    generalize hN : grownCap w (str l).size 0 e = N at *
    have hrow : (w.drew.alloc (.cells (bytesRow (str l) N) e ((bytesRow (str l) N).size, (bytesRow (str l) N).size + 1))).heap[w.heap.size]? = some (.cells (bytesRow (str l) N) e ((bytesRow (str l) N).size, (bytesRow (str l) N).size + 1)) := heap_alloc_new w.drew _
    have hsz : (bytesRow (str l) N).size = N := by
      unfold bytesRow; rw [Array.size_append, Array.size_map, Array.size_replicate]; show (str l).size + _ = _; omega
    refine ⟨fun j u hu => ?_, fun j hj => ?_, by simp⟩
    · rw [cell_of_row _ _ j _ _ _ hrow]
      have hj : j < l.length := by
        rcases Nat.lt_or_ge j l.length with h1 | h1
        · exact h1
        · rw [List.getElem?_eq_none (by rw [bytes_len]; exact h1)] at hu; cases hu
      unfold bytesRow
      rw [Array.getElem?_append_left (by simpa [str] using hj)]
      unfold bytes at hu
      rw [← hu]
      simp [str]
    · rw [bytes_len] at hj
      unfold World.frozen?
      rw [hrow]
      show (decide (_ ≤ j) && decide (j < _)) = false
      rw [hsz, decide_eq_false (by omega), Bool.false_and]
  · rw [run_bytes_of_string w src dst e (str l) hs hd he, hl]

theorem run_strM {P : Program} {w : World} {src dst e : TypeId} {B n : Nat} {A : Option Addr} {c : Nat} {l : List UInt8} (hs : P.underlying src = some (.slice e)) (he : P.underlying e = some (.int .u8)) (hd : P.underlying dst = some .string)
    (hr : Rd w B A (bytes l)) (hn : n = l.length) : (convert src dst (.slice A n c)).run P w = .ok (.string (str l)) w := by subst hn; exact run_str hs he hd hr
theorem str_toL (l : List UInt8) : (str l).toList = l := by rw [ByteArray.toList_eq, str_data]
theorem str_eqB (a b : List UInt8) : ((str a).toList == (str b).toList) = decide (a = b) := by
  rw [str_toL, str_toL]; by_cases h : a = b <;> simp [h]

section
variable {P : Program} {w : World} {ops : Array Oper} {rest : List Oper} {o : Oper} {a : Act} {Q : Exit → Act → World → Prop}

/-- '[]byte(s)', s written as a list of bytes; guarded or not. -/
theorem wpList_bytesL (hgd : Region.wanted o (yielded ops a.tmps) = true) (x : Operand) (src dst e : TypeId) (ho : o.op = .convert src dst x) (hs : P.underlying src = some .string) (hd : P.underlying dst = some (.slice e)) (he : P.underlying e = some (.int .u8))
    (l : List UInt8) (hx : a.eval x = .string (str l)) (hlen : l.length ≤ 1000000)
    (h : ∀ c' w', l.length ≤ c' → c' ≤ maxLen → Row w' w.heap.size (bytes l) → Rd w' w'.heap.size (some ⟨w.heap.size, 0, none⟩) (bytes l) → Below w.heap.size w w' → w.heap.size < w'.heap.size → wpList P ops Q rest (a.put o.dst (.slice (some ⟨w.heap.size, 0, none⟩) l.length c')) w') :
    wpList P ops Q (o :: rest) a w := by
  refine BigFrame.wpList_want hgd fun K hK => ?_
  obtain ⟨c', w', h1, h2, h3, h4, h5, hrun⟩ : ∃ c' w', l.length ≤ c' ∧ c' ≤ maxLen ∧ Row w' w.heap.size (bytes l) ∧ Below w.heap.size w w' ∧ w.heap.size < w'.heap.size ∧ (convert src dst (.string (str l))).run P w = .ok (.slice (some ⟨w.heap.size, 0, none⟩) l.length c') w' := run_bytesL hs hd he l hlen
  unfold Oper.wp execOp
  simp only [ho, hx, hrun, Sem.run_bind, Sem.run_pure, Result.andThen_ok]
  exact hK _ _ (h c' w' h1 h2 h3 (h3.rd h5) h4 h5)

/-- 'string(b)', guarded or not. -/
theorem wpList_strL (hgd : Region.wanted o (yielded ops a.tmps) = true) (x : Operand) (src dst e : TypeId) (ho : o.op = .convert src dst x) (hs : P.underlying src = some (.slice e)) (he : P.underlying e = some (.int .u8)) (hd : P.underlying dst = some .string)
    (B : Nat) (A : Option Addr) (n c : Nat) (l : List UInt8) (hx : a.eval x = .slice A n c) (hn : n = l.length) (hr : Rd w B A (bytes l))
    (h : wpList P ops Q rest (a.put o.dst (.string (str l))) w) : wpList P ops Q (o :: rest) a w := by
  subst hn
  refine BigFrame.wpList_want hgd fun K hK => ?_
  unfold Oper.wp execOp
  simp only [ho, hx, run_str hs he hd hr, Sem.run_bind, Sem.run_pure, Result.andThen_ok]
  exact hK _ _ h
end
end Go.Proofs.YtnnphploekchbaaDoor

