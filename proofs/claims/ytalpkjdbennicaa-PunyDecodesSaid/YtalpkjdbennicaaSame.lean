/- shortcutref1.SameRunes: are two lists the same? -/
import Derived.Test.YtalpkjdbennicaaPre
import Derived.Test.YtalpkjdbennicaaRows
namespace Go.Proofs.Ytalpkjdbennicaa
set_option linter.all false
open Go.RowKit

theorem bnext {a b c : World} (h : Below a.heap.size a b) (k : Below b.heap.size b c) : Below a.heap.size a c := h.trans (k.mono h.size)
theorem bnew {a b : World} (h : Below a.heap.size a b) (o : Obj) : Below a.heap.size a (b.alloc o) := h.alloc h.size o
theorem bdrawn {a b : World} (h : Below a.heap.size a b) (n : Nat) : Below a.heap.size a (b.drewN n) := below_drewN h n
theorem Rd.next {w w' : World} {A : Option Addr} {xs : List Value} (h : Rd w w.heap.size A xs) (hb : Below w.heap.size w w') : Rd w' w'.heap.size A xs := (h.below hb).mono hb.size
theorem Rd.new {w : World} {A : Option Addr} {xs : List Value} (h : Rd w w.heap.size A xs) (o : Obj) : Rd (w.alloc o) (w.alloc o).heap.size A xs := (h.alloc (Nat.le_refl _) o).mono (by simp)
theorem Rd.lit {w : World} {us : Array Value} {e : TypeId} {m : Nat × Nat} : Rd (w.alloc (.cells us e m)) (w.alloc (.cells us e m)).heap.size (some ⟨w.heap.size, 0, none⟩) us.toList := fun _ =>
  ⟨w.heap.size, 0, rfl, by simp, fun j u hu => by
    rw [Nat.zero_add, cell_of_row (w.alloc (.cells us e m)) w.heap.size j us e m (heap_alloc_new w _), ← hu]; simp⟩

def sameB (l m : List Int) : Bool := decide (l = m)
theorem sameB_self (l : List Int) : sameB l l = true := decide_eq_true rfl

theorem Rd.rune_at {w : World} {B : Nat} {A : Option Addr} {l : List Int} (h : Rd w B A (runes l)) {k : Nat} (hk : k < l.length) :
    ∃ b off x, A = some ⟨b, off, none⟩ ∧ b < B ∧ w.cell? ⟨b, off + k, none⟩ = some (.int .i32 x) ∧ Hid (l[k]? = some x) := by
  obtain ⟨b, off, e, hb, hc⟩ := h.at_ (k := k) (by rw [runes_len]; exact hk)
  refine ⟨b, off, l[k], e, hb, ?_, List.getElem?_eq_getElem hk⟩
  rw [hc]; simp [runes]
theorem Rd.byte_at {w : World} {B : Nat} {A : Option Addr} {l : List UInt8} (h : Rd w B A (bytes l)) {k : Nat} (hk : k < l.length) :
    ∃ b off x, A = some ⟨b, off, none⟩ ∧ b < B ∧ w.cell? ⟨b, off + k, none⟩ = some (.int .u8 (x.toNat : Int)) ∧ Hid (l[k]? = some x) := by
  obtain ⟨b, off, e, hb, hc⟩ := h.at_ (k := k) (by rw [bytes_len]; exact hk)
  refine ⟨b, off, l[k], e, hb, ?_, List.getElem?_eq_getElem hk⟩
  rw [hc]; simp [bytes]

theorem take_same {l m : List Int} {k : Nat} {x y : Int} (h : l.take k = m.take k) (hx : l[k]? = some x) (hy : m[k]? = some y) : (x = y → l.take (k + 1) = m.take (k + 1)) ∧ (x ≠ y → l ≠ m) := by
  obtain ⟨h1, e1⟩ := List.getElem?_eq_some_iff.1 hx
  obtain ⟨h2, e2⟩ := List.getElem?_eq_some_iff.1 hy
  refine ⟨fun e => ?_, fun ne e => ?_⟩
  · rw [take_snoc' l k h1, take_snoc' m k h2, h, e1, e2, e]
  · subst e
    rw [hx] at hy
    injection hy with hy
    exact ne hy

set_option maxRecDepth 100000 in
set_option maxHeartbeats 1000000 in
theorem same_any (A A2 : Option Addr) (c c2 : Nat) (l m : List Int) (w : World) (hr : Rd w w.heap.size A (runes l)) (hr2 : Rd w w.heap.size A2 (runes m)) (hl : l.length ≤ 1000000) (hm : m.length ≤ 1000000) :
    Calls Try.prog 26 #[.slice A l.length c, .slice A2 m.length c2] w fun e w' => e = .returned (.bool (sameB l m)) ∧ Below w.heap.size w w' := by
  by_cases hlen : l.length = m.length
  · have hlb : ((l.length : Int) != (m.length : Int)) = false := by simp [hlen]
    have HL := Lib.hid hlen
    clear hlen
    go_enter Try.func26, Try.ntmps26
    go_wp2
    clear hlb
    go_loopg [5] (l.length) (fun k i wr => ∃ j : Nat, k = l.length - j ∧ j ≤ l.length ∧ i = .int .i64 j ∧ Hid (l.take j = m.take j) ∧ Below w.heap.size w wr)
    case atStart => exact ⟨0, rfl, Nat.zero_le _, rfl, rfl, Below.refl _ _⟩
    case round =>
      obtain ⟨j, rfl, hj, rfl, hs, hbel⟩ := hrel
      by_cases hlt : j < l.length
      · obtain ⟨b, off, x, rfl, hb, hc, hx⟩ := (hr.below hbel).rune_at hlt
        obtain ⟨b2, off2, y, rfl, hb2, hc2, hy⟩ := (hr2.below hbel).rune_at (k := j) (by have := HL.out; omega)
        have hlt2 : (j : Int) < (m.length : Int) := by have := HL.out; omega
        have hlt1 : (j : Int) < (l.length : Int) := by omega
        have hj0 : (0 : Int) ≤ (j : Int) := by omega
        by_cases hxy : (x != y) = true
        · go_wp2
          go_quiet (fail)
          go_wp2
          go_ret
          exact ⟨ret_bool (by unfold sameB; rw [decide_eq_false ((take_same hs.out hx.out hy.out).2 (by simpa using hxy))]), below_drewN hbel _⟩
        · have hxy : (x != y) = false := by simpa using hxy
          go_wp2
          go_quiet (fail)
          go_wp2
          go_roundg (l.length - (j + 1))
          case measure => omega
          case rel => exact ⟨j + 1, rfl, by omega, by go_num, (take_same hs.out hx.out hy.out).1 (by simpa using hxy), below_drewN hbel _⟩
      · obtain rfl : j = l.length := by omega
        go_wp2
        go_ret
        have e := hs.out
        rw [List.take_length, HL.out, List.take_length] at e
        exact ⟨ret_bool (by unfold sameB; rw [decide_eq_true e]), hbel⟩
  · have hlb : ((l.length : Int) != (m.length : Int)) = true := by simp; omega
    have HL := Lib.hid hlen
    clear hlen
    go_enter Try.func26, Try.ntmps26
    go_wp2
    go_ret
    exact ⟨ret_bool (by unfold sameB; rw [decide_eq_false (fun e => HL.out (by rw [e]))]), Below.refl _ _⟩
end Go.Proofs.Ytalpkjdbennicaa
