/- Texts as bytes where the order is open; rows of pairs. -/
import Derived.Test.YtoapelcofjjdnaaDoorK06
import Derived.Test.YtoapelcofjjdnaaDoorK03
import Derived.Test.YtoapelcofjjdnaaDoorK07
import Derived.Test.YtoapelcofjjdnaaDoorK01
namespace Go.Proofs.YtoapelcofjjdnaaDoor
set_option linter.all false
open Go.RowKit

/-- The row that '[]byte(s)' lays. -/
def byteRow (w : World) (l : List UInt8) (t : TypeId) : Obj :=
  .cells (bytesRow (str l) (grownCap w l.length 0 t)) t ((bytesRow (str l) (grownCap w l.length 0 t)).size, (bytesRow (str l) (grownCap w l.length 0 t)).size + 1)
theorem bytes_at (w : World) (l : List UInt8) :
    (convert 9 64 (.string (str l))).run Tryd.prog w =
      .ok (.slice (some ⟨w.heap.size, 0, none⟩) l.length (grownCap w l.length 0 5)) (w.drew.alloc (byteRow w l 5)) := by
  have hl := str_size l
  rw [run_bytes_of_string w 9 64 5 (str l) Tryd.underlying9 Tryd.underlying64 Tryd.underlying5, hl]
  rfl
theorem byteRow_rd (w : World) (l : List UInt8) (t : TypeId) {B : Nat} (hB : w.heap.size < B) : Rd (w.drew.alloc (byteRow w l t)) B (some ⟨w.heap.size, 0, none⟩) (bytes l) := fun _ => by
  refine ⟨w.heap.size, 0, rfl, hB, fun j u hu => ?_⟩
  have hrow : (w.drew.alloc (byteRow w l t)).heap[w.heap.size]? = some (byteRow w l t) := heap_alloc_new w.drew _
  unfold byteRow at hrow ⊢
  have hj : j < l.length := by
    rcases Nat.lt_or_ge j l.length with h1 | h1
    · exact h1
    · rw [List.getElem?_eq_none (by rw [bytes_len]; exact h1)] at hu; cases hu
  rw [Nat.zero_add, cell_of_row _ _ j _ _ _ hrow]
  unfold bytesRow
  rw [Array.getElem?_append_left (by simpa [str] using hj)]
  unfold bytes at hu
  rw [← hu]
  simp [str]

/-- Pairs as they lie in a row: a name, a value. -/
def prs (l : List Pr) : List Value := l.flatMap fun p => [Value.string (str p.1), Value.string (str p.2)]
theorem prs_len (l : List Pr) : (prs l).length = l.length * 2 := by
  unfold prs
  induction l with
  | nil => rfl
  | cons p l ih => rw [List.flatMap_cons, List.length_append, ih]; simp; omega
theorem prs_append (a b : List Pr) : prs (a ++ b) = prs a ++ prs b := List.flatMap_append ..
theorem prs_one (l : List Pr) : ∀ u ∈ prs l, u.oneCell' = true := by
  intro u hu
  obtain ⟨p, _, hp⟩ := List.mem_flatMap.1 hu
  rcases List.mem_cons.1 hp with rfl | hp
  · rfl
  · rw [List.mem_singleton.1 hp]; rfl
theorem prs_at {l : List Pr} {k : Nat} {p : Pr} (h : l[k]? = some p) : (prs l)[k * 2]? = some (.string (str p.1)) ∧ (prs l)[k * 2 + 1]? = some (.string (str p.2)) := by
  induction l generalizing k with
  | nil => cases h
  | cons q l ih =>
    cases k with
    | zero => simp at h; subst h; exact ⟨rfl, rfl⟩
    | succ k =>
      have := ih (k := k) (by simpa using h)
      have e : prs (q :: l) = [Value.string (str q.1), Value.string (str q.2)] ++ prs l := by unfold prs; rw [List.flatMap_cons]
      rw [e]
      refine ⟨?_, ?_⟩
      · rw [show (k + 1) * 2 = k * 2 + 2 from by omega, List.getElem?_append_right (by simp)]; simpa using this.1
      · rw [show (k + 1) * 2 + 1 = k * 2 + 1 + 2 from by omega, List.getElem?_append_right (by simp)]; simpa using this.2
theorem Rd.pair_at {w : World} {B : Nat} {A : Option Addr} {l : List Pr} (h : Rd w B A (prs l)) {k : Nat} (hk : k < l.length) :
    ∃ b off p, A = some ⟨b, off, none⟩ ∧ b < B ∧ w.cell? ⟨b, off + k * 2, none⟩ = some (.string (str p.1)) ∧ w.cell? ⟨b, off + k * 2 + 1, none⟩ = some (.string (str p.2)) ∧ Hid (l[k]? = some p) := by
  obtain ⟨b, off, e, hb, hc⟩ := h (by rw [prs_len]; omega)
  have hp := prs_at (List.getElem?_eq_getElem hk)
  exact ⟨b, off, l[k], e, hb, hc _ _ hp.1, by rw [Nat.add_assoc]; exact hc _ _ hp.2, List.getElem?_eq_getElem hk⟩
/-- What the call owns reads so, however many cells an element has. -/
theorem own_rdN {w : World} {base : Nat} {e : TypeId} {size : Nat} {v : Value} {n : Nat} {xs : List Value} (h : w.ownsRow base e size v n xs) :
    ∃ A c, v = .slice A n c ∧ n ≤ c ∧ c ≤ maxLen ∧ Rd w w.heap.size A xs := by
  have hl : xs.length = n * size := h.1
  rcases h.2 with ⟨rfl, rfl⟩ | ⟨g, cap, cur, rfl, hb, hg, hnc, hcm, hs, ht⟩
  · exact ⟨none, 0, rfl, Nat.le_refl _, by simp [maxLen], by have e0 : xs = [] := List.eq_nil_of_length_eq_zero (by omega); rw [e0]; exact Rd.nil⟩
  · refine ⟨_, _, rfl, hnc, hcm, fun hn => ⟨g, 0, rfl, (Array.getElem?_eq_some_iff.1 hg).1, fun j u hu => ?_⟩⟩
    have hj : j < n * size := by rcases Nat.lt_or_ge j xs.length with h1 | h1; omega; rw [List.getElem?_eq_none h1] at hu; cases hu
    have := h.cellAt j hj
    rw [Nat.zero_add, this, hu]
theorem info_str : (Tryd.prog.info? 9).map (fun i => (i.zero, i.size, i.bytes)) = some (some (.string ByteArray.empty), 1, 16) := by kernel_rfl
end Go.Proofs.YtoapelcofjjdnaaDoor

namespace Go.Proofs.YtoapelcofjjdnaaDoor
set_option linter.all false
open Go.RowKit

theorem Rd.front {w : World} {B : Nat} {A : Option Addr} {xs ys : List Value} (h : Rd w B A (xs ++ ys)) : Rd w B A xs := by
  intro hp
  obtain ⟨b, off, e, hb, hc⟩ := h (by rw [List.length_append]; omega)
  refine ⟨b, off, e, hb, fun j u hu => hc j u ?_⟩
  rw [List.getElem?_append_left (by
    rcases Nat.lt_or_ge j xs.length with h1 | h1
    · exact h1
    · rw [List.getElem?_eq_none h1] at hu; cases hu)]
  exact hu
theorem last_is {α : Type} {L : List α} {n : Nat} {x : α} (hn : L.length = n + 1) (hx : L[n]? = some x) : L = L.dropLast ++ [x] ∧ L.getLast? = some x := by
  have h1 : L.getLast? = some x := by rw [List.getLast?_eq_getElem?, hn]; exact hx
  obtain ⟨l', e⟩ := List.getLast?_eq_some_iff.1 h1
  exact ⟨by rw [e, List.dropLast_concat], h1⟩
theorem pParts_cut {s : List UInt8} {n : Nat} (hn : (cuts 46 s).length = n + 1) (h0 : 0 < n) (hx : (cuts 46 s)[n]? = some []) : (pParts s).length = n ∧ cuts 46 s = pParts s ++ [[]] := by
  obtain ⟨h1, h2⟩ := last_is hn hx
  have e : pParts s = (cuts 46 s).dropLast := by unfold pParts; rw [if_pos ⟨by omega, h2⟩]
  exact ⟨by rw [e, List.length_dropLast, hn]; omega, by rw [e]; exact h1⟩
theorem pParts_all {s : List UInt8} {n : Nat} {x : List UInt8} (hn : (cuts 46 s).length = n + 1) (hx : (cuts 46 s)[n]? = some x) (h : n = 0 ∨ x ≠ []) : pParts s = cuts 46 s := by
  obtain ⟨_, h2⟩ := last_is hn hx
  unfold pParts
  rw [if_neg]
  rintro ⟨h3, h4⟩
  rw [h2] at h4
  injection h4 with h4
  rcases h with h | h
  · omega
  · exact h h4

theorem Rd.text {w : World} {B b off : Nat} {L : List (List UInt8)} (h : Rd w B (some ⟨b, off, none⟩) (strs L)) {k : Nat} {x : List UInt8} (hx : L[k]? = some x) : w.cell? ⟨b, off + k, none⟩ = some (.string (str x)) ∧ b < B := by
  obtain ⟨hk, e⟩ := List.getElem?_eq_some_iff.1 hx
  obtain ⟨b', off', y, e', hb, hc, hy⟩ := h.str_at hk
  injection e' with e'
  injection e' with e1 e2
  subst e1 e2
  rw [show L[k]? = some y from hy] at hx
  injection hx with hx
  rw [← hx]; exact ⟨hc, hb⟩

end Go.Proofs.YtoapelcofjjdnaaDoor

namespace Go.Proofs.YtoapelcofjjdnaaDoor
set_option linter.all false
open Go.RowKit

/-- The last part, as a cell. -/
theorem pLast_at {s : List UInt8} {n : Nat} {x : List UInt8} (hn : (pParts s).length = n + 1) (hx : (pParts s)[n]? = some x) : pLast s = x := by
  unfold pLast; rw [(last_is hn hx).2]; rfl
theorem cuts_piece {s x : List UInt8} {n : Nat} (hx : (pParts s)[n]? = some x) : x.length ≤ s.length := by
  have h1 : x ∈ pParts s := List.mem_of_getElem? hx
  have h2 : x ∈ cuts 46 s := by
    unfold pParts at h1
    split at h1
    · exact List.dropLast_subset _ h1
    · exact h1
  exact cuts_sum 46 s x h2
theorem Rd.last {w : World} {B : Nat} {A : Option Addr} {L : List (List UInt8)} (h : Rd w B A (strs L)) {k : Nat} {x : List UInt8} (hx : L[k]? = some x) : ∃ b off, A = some ⟨b, off, none⟩ ∧ w.cell? ⟨b, off + k, none⟩ = some (.string (str x)) := by
  obtain ⟨hk, e⟩ := List.getElem?_eq_some_iff.1 hx
  obtain ⟨b', off', y, e', hb, hc, hy⟩ := h.str_at hk
  rw [show L[k]? = some y from hy] at hx
  injection hx with hx
  rw [← hx]; exact ⟨b', off', e', hc⟩
end Go.Proofs.YtoapelcofjjdnaaDoor

namespace Go.Proofs.YtoapelcofjjdnaaDoor
set_option linter.all false
open Go.RowKit

section
variable {o : Option Nat} {j sum : Nat} {L : List (List UInt8)} {p : List UInt8}
theorem par_drop (hx : L[j]? = some p) : L.drop j = p :: L.drop (j + 1) := by
  obtain ⟨hj, e⟩ := List.getElem?_eq_some_iff.1 hx
  rw [List.drop_eq_getElem_cons hj, e]
theorem par_none (h : o = parGo j sum (L.drop j)) (hx : L[j]? = some p) (hp : pNum p = none) : o = none := by
  rw [h, par_drop hx, parGo, hp]
theorem par_last {x : Nat} (h : o = parGo j sum (L.drop j)) (hx : L[j]? = some p) (hp : pNum p = some x) (hl : j + 1 = L.length) : o = if x < 2 ^ (8 * (4 - j)) then some (sum + x) else none := by
  have e : L.drop (j + 1) = [] := by rw [hl, List.drop_length]
  rw [h, par_drop hx, parGo, hp, e]; rfl
theorem par_more {x : Nat} (h : o = parGo j sum (L.drop j)) (hx : L[j]? = some p) (hp : pNum p = some x) (hl : j + 1 < L.length) : o = if x < 256 then parGo (j + 1) (sum + x * 2 ^ (8 * (3 - j))) (L.drop (j + 1)) else none := by
  have e : L.drop (j + 1) ≠ [] := fun e => by have := congrArg List.length e; rw [List.length_drop] at this; simp at this; omega
  rw [h, par_drop hx, parGo, hp]; simp only [if_neg e]
theorem par_end (h : o = parGo j sum (L.drop j)) (hl : L.length ≤ j) : o = some sum := by
  rw [h, List.drop_eq_nil_of_le hl]; rfl
end

theorem pow3 (j : Nat) : 2 ^ (8 * (3 - j)) ≤ 16777216 := by
  have h := Nat.pow_le_pow_right (show 0 < 2 by decide) (show 8 * (3 - j) ≤ 24 by omega)
  simpa using h
theorem castpow (v k : Nat) : (v : Int) * 2 ^ k = ((v * 2 ^ k : Nat) : Int) := by simp
theorem castpow1 (k : Nat) : (2 : Int) ^ k = ((2 ^ k : Nat) : Int) := by simp
theorem pow4 (j : Nat) : 2 ^ (8 * (4 - j)) ≤ 4294967296 := by
  have h := Nat.pow_le_pow_right (show 0 < 2 by decide) (show 8 * (4 - j) ≤ 32 by omega)
  simpa using h
theorem mul3 {v j : Nat} (h : v < 256) : v * 2 ^ (8 * (3 - j)) ≤ 4278190080 := by
  have := Nat.mul_le_mul (show v ≤ 255 by omega) (pow3 j)
  omega
theorem wrapq {v j q : Nat} (hq : q = v * 2 ^ (8 * (3 - j))) (h : q ≤ 4278190080) : wrap64 ((v : Int) * 2 ^ (8 * (3 - j))) = (q : Int) := by
  rw [castpow, ← hq]; exact IntWalk.wrap64_in _ (by omega)
theorem wraps {s q j : Nat} (hs : s ≤ j * 4294967296) (hj : j ≤ 4) (h : q ≤ 4294967296) : wrap64 ((s : Int) + (q : Int)) = (s : Int) + (q : Int) := IntWalk.wrap64_in _ (by omega)
theorem stepq {s v j : Nat} (hs : s ≤ j * 4294967296) (h : v < 256) (hj : j ≤ 4) : ∃ q : Nat, v * 2 ^ (8 * (3 - j)) = q ∧ q ≤ 4278190080 ∧ wrap64 ((v : Int) * 2 ^ (8 * (3 - j))) = (q : Int) ∧ wrap64 ((s : Int) + (q : Int)) = (s : Int) + (q : Int) := by
  have h1 := mul3 (j := j) h
  refine ⟨_, rfl, h1, wrapq rfl h1, ?_⟩
  generalize v * 2 ^ (8 * (3 - j)) = q at h1 ⊢
  exact wraps hs hj (by omega)
theorem stepl {s v j : Nat} (hs : s ≤ j * 4294967296) (h : v ≤ 1099511627776) (hj : j ≤ 4) : ∃ q : Nat, 2 ^ (8 * (4 - j)) = q ∧ q ≤ 4294967296 ∧ wrap64 ((2 : Int) ^ (8 * (4 - j))) = (q : Int) ∧ wrap64 ((s : Int) + (v : Int)) = (s : Int) + (v : Int) := by
  have h1 := pow4 j
  refine ⟨_, rfl, h1, ?_, IntWalk.wrap64_in _ (by omega)⟩
  rw [castpow1]
  generalize 2 ^ (8 * (4 - j)) = q at h1 ⊢
  exact IntWalk.wrap64_in _ (by omega)
-- What Parse hands on.
end Go.Proofs.YtoapelcofjjdnaaDoor

namespace Go.Proofs.YtoapelcofjjdnaaDoor
set_option linter.all false
open Go.RowKit
theorem ustepq {s v j : Nat} (hs : s ≤ j * 4294967296) (h : v < 256) (hj : j ≤ 4) : ∃ q : Nat, v * 2 ^ (8 * (3 - j)) = q ∧ q ≤ 4278190080 ∧ IntKind.u64.wrap ((v : Int) * 2 ^ (8 * (3 - j))) = (q : Int) ∧ IntKind.u64.wrap ((s : Int) + (q : Int)) = (s : Int) + (q : Int) := by
  have h1 := mul3 (j := j) h
  refine ⟨_, rfl, h1, ?_, ?_⟩
  · rw [castpow]
    generalize v * 2 ^ (8 * (3 - j)) = q at h1 ⊢
    exact IntWalk.u64_in _ (by omega)
  · generalize v * 2 ^ (8 * (3 - j)) = q at h1 ⊢
    exact IntWalk.u64_in _ (by omega)
theorem ustepl {s v j n : Nat} (hs : s ≤ j * 4294967296) (h : v ≤ 1099511627776) (hj : j ≤ 4) (hn : n = j + 1) : ∃ q : Nat, 2 ^ (8 * (4 - j)) = q ∧ q ≤ 4294967296 ∧ IntKind.u64.wrap ((2 : Int) ^ (8 * (5 - n))) = (q : Int) ∧ IntKind.u64.wrap ((s : Int) + (v : Int)) = (s : Int) + (v : Int) := by
  have h1 := pow4 j
  rw [show 5 - n = 4 - j by omega]
  refine ⟨_, rfl, h1, ?_, IntWalk.u64_in _ (by omega)⟩
  rw [castpow1]
  generalize 2 ^ (8 * (4 - j)) = q at h1 ⊢
  exact IntWalk.u64_in _ (by omega)
end Go.Proofs.YtoapelcofjjdnaaDoor

namespace Go.Proofs.YtoapelcofjjdnaaDoor
set_option linter.all false
open Go.RowKit

theorem str_atN {w : World} {B n : Nat} {A : Option Addr} {c : Nat} {l : List UInt8} (hr : Rd w B A (bytes l)) (hn : n = l.length) : (convert 64 9 (.slice A n c)).run Tryd.prog w = .ok (.string (str l)) w :=
  run_strM Tryd.underlying64 Tryd.underlying5 Tryd.underlying9 hr hn

theorem piece_take {α : Type} {f : α → Bool} {l : List α} {j : Nat} {x : α} (h : l[j]? = some x) : (l.take (j + 1)).filter f = (l.take j).filter f ++ if f x = true then [x] else [] := by
  obtain ⟨hj, e⟩ := List.getElem?_eq_some_iff.1 h
  rw [take_snoc' l j hj, e, List.filter_append]
  congr 1
  by_cases hx : f x = true
  · rw [if_pos hx, List.filter_cons_of_pos hx, List.filter_nil]
  · rw [if_neg hx, List.filter_cons_of_neg hx, List.filter_nil]
theorem pieces_full {s : List UInt8} {j : Nat} (h : (((cuts 38 s).take j).filter full).length = 40) : (((cuts 38 s).take j).filter full).map qPair = qPairs s := by
  unfold qPairs qPieces
  have e := List.take_append_drop j (cuts 38 s)
  conv => rhs; rw [← e, List.filter_append, List.take_append_of_le_length (by omega), List.take_of_length_le (by omega)]
theorem pieces_all {s : List UInt8} (h : (((cuts 38 s).take (cuts 38 s).length).filter full).length ≤ 40) : (((cuts 38 s).take (cuts 38 s).length).filter full).map qPair = qPairs s := by
  unfold qPairs qPieces
  rw [List.take_length] at h ⊢
  rw [List.take_of_length_le h]

theorem behind_le (c : UInt8) (p : List UInt8) : (ahead c p).length ≤ p.length ∧ (behind c p).length ≤ p.length := by
  refine ⟨(List.takeWhile_prefix _).length_le, ?_⟩
  unfold behind
  rw [List.length_drop]
  have := (List.dropWhile_suffix (p := (· ≠ c)) (l := p)).length_le
  omega

end Go.Proofs.YtoapelcofjjdnaaDoor
