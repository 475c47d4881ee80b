/- Words on memory that the proofs of this seat share: a slice that reads as a list, and what keeps it so. Nothing here speaks of the program. -/
import Derived.Handy
import Derived.WalkSpells
import Derived.WalkLawsBesides
import Derived.Maps.AppendAt
import Derived.Deep.QuietTactic
import Derived.BigQuiet
import Derived.Deep.LoopGhost
import Derived.Deep.AppendLies
import Derived.Deep.Light
import Derived.Lib.Hide
import Derived.Laws.BytesString
import Derived.Laws.IdiomStrings
namespace Go.Proofs.YtoapelcofjjdnaaDoor
set_option linter.all false
open Go.RowKit

/-- The slice at address A, of as many elements as xs has (one cell each), holds xs; it lies in a block below B. -/
def Rd (w : World) (B : Nat) (A : Option Addr) (xs : List Value) : Prop :=
  0 < xs.length → ∃ b off, A = some ⟨b, off, none⟩ ∧ b < B ∧ ∀ j u, xs[j]? = some u → w.cell? ⟨b, off + j, none⟩ = some u

section
variable {w w' : World} {B B' : Nat} {A : Option Addr} {xs : List Value}

theorem Rd.nil : Rd w B A [] := fun h => absurd h (by simp)

theorem Rd.at_ (h : Rd w B A xs) {k : Nat} (hk : k < xs.length) :
    ∃ b off, A = some ⟨b, off, none⟩ ∧ b < B ∧ w.cell? ⟨b, off + k, none⟩ = some xs[k] := by
  obtain ⟨b, off, e, hb, hc⟩ := h (by omega)
  exact ⟨b, off, e, hb, hc k _ (List.getElem?_eq_getElem hk)⟩

theorem Rd.keep (h : Rd w B A xs) (hk : ∀ p : Addr, p.block < B → w'.cell? p = w.cell? p) : Rd w' B A xs := fun hn => by
  obtain ⟨b, off, e, hb, hc⟩ := h hn
  exact ⟨b, off, e, hb, fun j u hu => (hk ⟨b, off + j, none⟩ hb).trans (hc j u hu)⟩

theorem Rd.mono (h : Rd w B A xs) (hB : B ≤ B') : Rd w B' A xs := fun hn => by
  obtain ⟨b, off, e, hb, hc⟩ := h hn
  exact ⟨b, off, e, by omega, hc⟩

theorem Rd.below (h : Rd w B A xs) (hb : Below B w w') : Rd w' B A xs := h.keep fun _ hp => hb.cell hp
theorem Rd.drew (h : Rd w B A xs) : Rd w.drew B A xs := h
theorem Rd.drewN (h : Rd w B A xs) (n : Nat) : Rd (w.drewN n) B A xs := h
theorem Rd.alloc (h : Rd w B A xs) (hB : B ≤ w.heap.size) (o : Obj) : Rd (w.alloc o) B A xs :=
  h.keep fun p hp => World.cell?_alloc_lt w o p (by omega)
theorem Rd.setCell (h : Rd w B A xs) {p : Addr} (hp : B ≤ p.block) (u : Value) : Rd (w.setCell p u) B A xs :=
  h.keep fun q hq => World.cell?_setCell_other w p q u (fun e => by subst e; omega)
theorem Rd.grown (h : Rd w B A xs) {row : Option Nat} (hg : w.grownBy w' row) (hB : B ≤ w.heap.size) (hr : ∀ g, row = some g → B ≤ g) : Rd w' B A xs :=
  h.keep fun p hp => World.cell?_of_block (hg.block p.block (by omega) (fun e => by have := hr _ e.symm; omega))

theorem Rd.take (h : Rd w B A xs) (n : Nat) : Rd w B A (xs.take n) := fun hn => by
  obtain ⟨b, off, e, hb, hc⟩ := h (by rw [List.length_take] at hn; omega)
  refine ⟨b, off, e, hb, fun j u hu => hc j u ?_⟩
  rw [List.getElem?_take] at hu
  split at hu
  · exact hu
  · cases hu

/-- Behind a cut from k on: the model keeps the old address where nothing is left of the room. -/
theorem Rd.drop (h : Rd w B A xs) {k cap : Nat} (hc : xs.length ≤ cap) :
    Rd w B (if cap = k then A else A.map (·.add k)) (xs.drop k) := fun hn => by
  rw [List.length_drop] at hn
  obtain ⟨b, off, e, hb, hcell⟩ := h (by omega)
  rw [if_neg (by omega)]
  refine ⟨b, off + k, by rw [e, Option.map_some, Addr.add_lit], hb, fun j u hu => ?_⟩
  rw [List.getElem?_drop] at hu
  rw [Nat.add_assoc]
  exact hcell _ u hu

/-- The same at an address that is written out. -/
theorem Rd.dropAt {b off : Nat} (h : Rd w B (some ⟨b, off, none⟩) xs) (k : Nat) : Rd w B (some ⟨b, off + k, none⟩) (xs.drop k) := fun hn => by
  rw [List.length_drop] at hn
  obtain ⟨b', off', e, hb, hcell⟩ := h (by omega)
  injection e with e
  injection e with e1 e2
  subst e1; subst e2
  refine ⟨b, off + k, rfl, hb, fun j u hu => ?_⟩
  rw [List.getElem?_drop] at hu
  rw [Nat.add_assoc]
  exact hcell _ u hu

/-- What the call owns reads so. -/
theorem Rd.of_own {base : Nat} {e : TypeId} {v : Value} {n : Nat} (h : w.ownsRow base e 1 v n xs) :
    ∃ A c, v = .slice A n c ∧ n ≤ c ∧ c ≤ maxLen ∧ n = xs.length ∧ Rd w w.heap.size A xs := by
  have hl : xs.length = n := by have := h.1; omega
  rcases h.2 with ⟨rfl, rfl⟩ | ⟨g, cap, cur, rfl, hb, hg, hnc, hcm, hs, ht⟩
  · exact ⟨none, 0, rfl, Nat.le_refl _, by simp [maxLen], by omega, by rw [List.eq_nil_of_length_eq_zero hl]; exact Rd.nil⟩
  · refine ⟨_, _, rfl, hnc, hcm, by omega, fun hn => ⟨g, 0, rfl, (Array.getElem?_eq_some_iff.1 hg).1, fun j u hu => ?_⟩⟩
    have hj : j < n * 1 := by rcases Nat.lt_or_ge j xs.length with h1 | h1; omega; rw [List.getElem?_eq_none h1] at hu; cases hu
    have := h.cellAt j hj
    rw [Nat.zero_add, this, hu]
end

/-- A slice of integers that came in, as the frames of the rows hand it. -/
theorem Rd.ints {w : World} {k : IntKind} {a : Option Addr} {len cap : Nat} {zs : List Int}
    (h : (a = none ∧ len = 0 ∧ cap = 0 ∧ zs = []) ∨ ∃ x, a = some x ∧ len ≤ cap ∧ cap ≤ maxLen ∧ zs.length = cap ∧ (∀ i, i < zs.length → w.cell? (x.add i) = some (.int k (zs.getD i 0))) ∧ ∀ n ∈ zs, (Lit.int k n).wf = true) :
    ∃ l : List Int, len = l.length ∧ len ≤ cap ∧ cap ≤ maxLen ∧ Rd w w.heap.size a (l.map (.int k)) ∧ ∀ n ∈ l, (Lit.int k n).wf = true := by
  rcases h with ⟨rfl, rfl, rfl, rfl⟩ | ⟨x, rfl, hl, hm, hz, hc, hw⟩
  · exact ⟨[], rfl, Nat.le_refl _, by simp [maxLen], Rd.nil, by simp⟩
  · refine ⟨zs.take len, by rw [List.length_take]; omega, hl, hm, fun hn => ?_, fun n hn => hw n (List.mem_of_mem_take hn)⟩
    have hp : 0 < zs.length := by simp at hn; omega
    obtain ⟨b, off, rfl, hcc⟩ := ints_at hc hp
    refine ⟨b, off, rfl, World.block_lt_of_cell? _ _ (hcc 0 hp), fun j u hu => ?_⟩
    have hj : j < zs.length := by
      rcases Nat.lt_or_ge j zs.length with h1 | h1
      · exact h1
      · rw [List.getElem?_eq_none (by simp; omega)] at hu; cases hu
    rw [hcc j hj]
    rw [List.getElem?_map, List.getElem?_take] at hu
    split at hu
    · rw [List.getElem?_eq_getElem hj] at hu
      rw [← hu, List.getD_eq_getElem?_getD, List.getElem?_eq_getElem hj]; rfl
    · cases hu

/-- The shape of what the call owns. -/
theorem own_shape {w : World} {base : Nat} {e : TypeId} {size : Nat} {v : Value} {n : Nat} {xs : List Value} (h : w.ownsRow base e size v n xs) : ∃ A c, v = .slice A n c ∧ n ≤ c ∧ c ≤ maxLen := by
  rcases h.2 with ⟨rfl, rfl⟩ | ⟨g, cap, cur, rfl, hb, hg, hnc, hcm, hs, ht⟩
  · exact ⟨none, 0, rfl, Nat.le_refl _, by simp [maxLen]⟩
  · exact ⟨_, _, rfl, hnc, hcm⟩

theorem below_drewN {B : Nat} {a w : World} (h : Below B a w) (n : Nat) : Below B a (w.drewN n) := ⟨h.os, h.tape, h.output, h.size, h.block⟩

theorem bcell {B : Nat} {w w' : World} (h : Below B w w') : ∀ b o, b < B → w'.cell? ⟨b, o, none⟩ = w.cell? ⟨b, o, none⟩ := fun b o hb => h.cell (p := ⟨b, o, none⟩) hb

section
variable {P : Program} {w : World} {ops : Array Oper} {rest : List Oper} {o : Oper} {a : Act} {Q : Exit → Act → World → Prop}

/-- 'out = append(out, x, ..)', out the call's own (or nil): the new elements lie in the block that was laid for them just before. -/
theorem wpList_append_lit (hgd : o.guard = none) (s x : Operand) (t : TypeId)
    (ho : o.op = .call { callee := .builtin .append, args := #[s, x], argTypes := #[t, t] })
    (base : Nat) (e : TypeId) (z : Value) (size bytes : Nat) (ht : P.underlying t = some (.slice e))
    (hinfo : (P.info? e).map (fun i => (i.zero, i.size, i.bytes)) = some (some z, size, bytes)) (hzs : z.cells.size = size) (hsz : 0 < size)
    (v : Value) (n : Nat) (xs : List Value) (hs : a.eval s = v) (hown : w.ownsRow base e size v n xs)
    (us : Array Value) (m c : Nat) (e' : TypeId) (hx : a.eval x = .slice (some ⟨w.heap.size, 0, none⟩) m c) (hl : us.size = m * size) (h1 : ∀ u ∈ us.toList, u.oneCell' = true)
    (h63 : n + m ≤ 1000000) (hb : bytes ≤ 1000) (hbase : base ≤ w.heap.size)
    (h : ∀ A' c' w', n + m ≤ c' → c' ≤ maxLen → w'.ownsRow base e size (.slice A' (n + m) c') (n + m) (xs ++ us.toList) → Below base w w' → w.grownBy w' v.ownBlock → wpList P ops Q rest (a.put o.dst (.slice A' (n + m) c')) w') :
    wpList P ops Q (o :: rest) a (w.alloc (.cells us e')) := by
  obtain ⟨i, hi, hz, hsize, hby⟩ := info_parts hinfo
  refine wpList_append_own_at _ hgd s x t ho base e i z size bytes ht hi hz hsize hby hzs hsz v n xs hs (hown.alloc _) ⟨w.heap.size, 0, none⟩ m c us.toList hx (by simpa using hl) ?_ h1 (by simp only [maxLen]; omega) ?_ (by simp; omega) ?_
  · intro j u hu
    rw [Addr.add_lit, Nat.zero_add]
    have hc := cell_of_row (w.alloc (.cells us e')) w.heap.size j us e' (0, 0) (heap_alloc_new w _)
    rw [hc, ← hu]; simp
  · calc (n + m) * bytes ≤ 1000000 * 1000 := Nat.mul_le_mul h63 hb
      _ ≤ 140737488355328 := by decide
  · intro v' w' hown' hg _ hat
    obtain ⟨A', c', rfl, h1, h2⟩ := own_shape hown'
    refine h A' c' w' h1 h2 hown' ?_ ?_
    · refine ((Below.refl _ _).alloc hbase _).grown hg (by simp; omega) fun k hk => (hown.lt k hk).1
    · exact ⟨hg.os, hg.tape, hg.output, by have := hg.size; simp at this; omega, fun k hk hne => (hg.block k (by simp; omega) hne).trans (Below.heap_alloc _ _ _ hk)⟩

/-- 'out = append(out, more...)', out the call's own (or nil), 'more' a slice that reads as news. -/
theorem wpList_append_rd (hgd : o.guard = none) (s x : Operand) (t : TypeId)
    (ho : o.op = .call { callee := .builtin .append, args := #[s, x], argTypes := #[t, t] })
    (base : Nat) (e : TypeId) (z : Value) (bytes : Nat) (ht : P.underlying t = some (.slice e))
    (hinfo : (P.info? e).map (fun i => (i.zero, i.size, i.bytes)) = some (some z, 1, bytes)) (hzs : z.cells.size = 1)
    (v : Value) (n : Nat) (xs : List Value) (hs : a.eval s = v) (hown : w.ownsRow base e 1 v n xs)
    (B : Nat) (A : Option Addr) (m c : Nat) (news : List Value) (hx : a.eval x = .slice A m c) (hm : m = news.length) (hr : Rd w B A news) (h1 : ∀ u ∈ news, u.oneCell' = true)
    (h63 : n + m ≤ 1000000) (hb : bytes ≤ 1000) (hbase : base ≤ w.heap.size)
    (h : ∀ A' c' w', n + m ≤ c' → c' ≤ maxLen → w'.ownsRow base e 1 (.slice A' (n + m) c') (n + m) (xs ++ news) → Below base w w' → w.grownBy w' v.ownBlock → wpList P ops Q rest (a.put o.dst (.slice A' (n + m) c')) w') :
    wpList P ops Q (o :: rest) a w := by
  obtain ⟨i, hi, hz, hsize, hby⟩ := info_parts hinfo
  have hbytes : (n + m) * bytes ≤ 140737488355328 := by
    calc (n + m) * bytes ≤ 1000000 * 1000 := Nat.mul_le_mul h63 hb
      _ ≤ 140737488355328 := by decide
  have hbel : ∀ w', w.grownBy w' v.ownBlock → Below base w w' := fun w' hg => (Below.refl _ _).grown hg hbase fun k hk => (hown.lt k hk).1
  rcases A with _ | ad
  · have hm0 : news = [] := by
      rcases news with _ | ⟨y, ys⟩
      · rfl
      · obtain ⟨_, _, he, _⟩ := hr (by simp); cases he
    subst hm0
    have hm1 : m = 0 := by simpa using hm
    subst hm1
    refine wpList_plain hgd fun K hK => ?_
    have hrun : (Builtin.append_ #[t, t] o.type #[v, .slice none 0 c]).run P w = .ok v w := by
      rcases hown.2 with ⟨rfl, rfl⟩ | ⟨g, cap, cur, rfl, _, _, hnc, _⟩
      · simp [Builtin.append_, run_underlying ht, sizeOf, typeInfo, hi, Builtin.lenOf, Builtin.firstCells]
      · simp [Builtin.append_, run_underlying ht, sizeOf, typeInfo, hi, Builtin.lenOf, Builtin.firstCells, hnc, storeCells]
    unfold Oper.wp execOp
    simp only [ho, resolve, invoke, builtin, Sem.run_bind, Sem.run_pure, Result.andThen_ok, List.map_toArray, List.map_cons, List.map_nil, hs, hx, hrun]
    obtain ⟨A', c', rfl, h2, h3⟩ := own_shape hown
    exact hK _ _ (h A' c' w (by omega) h3 (by simpa using hown) (Below.refl _ _) (World.grownBy.refl _ _))
  · refine wpList_append_own_at _ hgd s x t ho base e i z 1 bytes ht hi hz hsize hby hzs (by decide) v n xs hs hown ad m c news hx (by omega) ?_ h1 (by simp only [maxLen]; omega) hbytes hbase ?_
    · intro j u hu
      have hj : j < news.length := by
        rcases Nat.lt_or_ge j news.length with h2 | h2
        · exact h2
        · rw [List.getElem?_eq_none h2] at hu; cases hu
      obtain ⟨b, off, e1, _, hc⟩ := hr (by omega)
      injection e1 with e1
      subst e1
      rw [Addr.add_lit]
      exact hc j u hu
    · intro v' w' hown' hg _ _
      obtain ⟨A', c', rfl, h2, h3⟩ := own_shape hown'
      exact h A' c' w' h2 h3 hown' (hbel _ hg) hg
end

theorem ret_int {k : IntKind} {a b : Int} (h : a = b) : Ending.returned (.int k a) = .returned (.int k b) := by rw [h]
theorem ret_bool {a b : Bool} (h : a = b) : Ending.returned (.bool a) = .returned (.bool b) := by rw [h]
theorem ints_one (k : IntKind) (zs : List Int) : ∀ u ∈ zs.map (Value.int k), u.oneCell' = true := ints_oneCell k zs

/-- What the call owns stays so while blocks from 'base' on other than its own may turn: the caller's B at most. -/
theorem own_below {w w' : World} {base B : Nat} {e : TypeId} {size : Nat} {v : Value} {n : Nat} {xs : List Value} (h : w.ownsRow base e size v n xs) (hb : Below B w w')
    (hB : w.heap.size ≤ B) : w'.ownsRow base e size v n xs :=
  h.kept (row := none) ⟨hb.os, hb.tape, hb.output, hb.size, fun k hk _ => hb.block k (by omega)⟩ (by cases v.ownBlock <;> simp)

theorem own_base {w : World} {base base' : Nat} {e : TypeId} {size : Nat} {v : Value} {n : Nat} {xs : List Value} (h : w.ownsRow base e size v n xs) (hb : base' ≤ base) : w.ownsRow base' e size v n xs := by
  refine ⟨h.1, ?_⟩
  rcases h.2 with hn | ⟨g, cap, cur, rfl, hg, rest⟩
  · exact .inl hn
  · exact .inr ⟨g, cap, cur, rfl, by omega, rest⟩

/-- Block g is one cell of type t that holds v. -/
def Box (w : World) (g : Nat) (t : TypeId) (v : Value) : Prop := w.heap[g]? = some (.cells #[v] t (0, 0))
theorem Box.cell {w : World} {g : Nat} {t : TypeId} {v : Value} (h : Box w g t v) : w.cell? ⟨g, 0, none⟩ = some v := cell_of_one h
theorem Box.free {w : World} {g : Nat} {t : TypeId} {v : Value} (h : Box w g t v) : w.frozen? ⟨g, 0, none⟩ = false := free_of_one h
theorem Box.set {w : World} {g : Nat} {t : TypeId} {v : Value} (h : Box w g t v) (u : Value) : Box (w.setCell ⟨g, 0, none⟩ u) g t u := one_setCell h
theorem Box.keep {w w' : World} {g : Nat} {t : TypeId} {v : Value} (h : Box w g t v) (hk : w'.heap[g]? = w.heap[g]?) : Box w' g t v := hk.trans h
theorem Box.below {w w' : World} {g B : Nat} {t : TypeId} {v : Value} (h : Box w g t v) (hb : Below B w w') (hg : g < B) : Box w' g t v := (hb.block g hg).trans h
theorem Box.lt {w : World} {g : Nat} {t : TypeId} {v : Value} (h : Box w g t v) : g < w.heap.size := lt_of_block h
theorem Box.new (w : World) (t : TypeId) (v : Value) : Box (w.alloc (.cells #[v] t)) w.heap.size t v := heap_alloc_new w _

/-- Code points, and bytes, as cells. -/
def runes (l : List Int) : List Value := l.map (Value.int .i32)
def bytes (l : List UInt8) : List Value := l.map fun c => Value.int .u8 (c.toNat : Int)
theorem runes_len (l : List Int) : (runes l).length = l.length := List.length_map ..
theorem bytes_len (l : List UInt8) : (bytes l).length = l.length := List.length_map ..
theorem runes_append (a b : List Int) : runes (a ++ b) = runes a ++ runes b := List.map_append ..
theorem bytes_append (a b : List UInt8) : bytes (a ++ b) = bytes a ++ bytes b := List.map_append ..
theorem runes_one (l : List Int) : ∀ u ∈ runes l, u.oneCell' = true := ints_oneCell _ l
theorem bytes_one (l : List UInt8) : ∀ u ∈ bytes l, u.oneCell' = true := by
  intro u hu
  obtain ⟨c, _, rfl⟩ := List.mem_map.1 hu
  rfl

theorem take_snoc' {α : Type} (l : List α) (k : Nat) (h : k < l.length) : l.take (k + 1) = l.take k ++ [l[k]] := by
  rw [List.take_add_one, List.getElem?_eq_getElem h]; rfl

end Go.Proofs.YtoapelcofjjdnaaDoor

namespace Go.Proofs.YtoapelcofjjdnaaDoor
set_option linter.all false
open Go.RowKit

def byteOf (n : Int) : UInt8 := UInt8.ofNat n.toNat
theorem byteOf_nat {n : Int} (h0 : 0 ≤ n) (h1 : n < 256) : ((byteOf n).toNat : Int) = n := by
  unfold byteOf
  rw [UInt8.toNat_ofNat']
  omega
theorem byteOf_toNat {n : Int} (h0 : 0 ≤ n) (h1 : n < 256) : (byteOf n).toNat = n.toNat := by have := byteOf_nat h0 h1; omega
theorem byteOf_self (c : UInt8) : byteOf (c.toNat : Int) = c := by
  unfold byteOf; simp
theorem byte_lt (c : UInt8) : c.toNat < 256 := UInt8.toNat_lt c
theorem byte_ext {a b : UInt8} (h : a.toNat = b.toNat) : a = b := UInt8.toNat_inj.1 h

def cpOk (r : Int) : Bool := decide (0 ≤ r ∧ r ≤ 1114111 ∧ (r < 55296 ∨ 57343 < r))
def cpFix (r : Int) : Int := if cpOk r = true then r else 65533
def cpSize (r : Int) : Nat := if r < 128 then 1 else if r < 2048 then 2 else if r < 65536 then 3 else 4

theorem cpOk_iff {r : Int} : cpOk r = true ↔ 0 ≤ r ∧ r ≤ 1114111 ∧ (r < 55296 ∨ 57343 < r) := decide_eq_true_iff
theorem cpFix_ok (r : Int) : cpOk (cpFix r) = true := by
  unfold cpFix; split
  · assumption
  · decide
theorem cpFix_of {r : Int} (h : cpOk r = true) : cpFix r = r := if_pos h

def enc0 (r : Int) : List UInt8 :=
  if r < 128 then [byteOf r]
  else if r < 2048 then [byteOf (192 + r / 64), byteOf (128 + r % 64)]
  else if r < 65536 then [byteOf (224 + r / 4096), byteOf (128 + r / 64 % 64), byteOf (128 + r % 64)]
  else [byteOf (240 + r / 262144), byteOf (128 + r / 4096 % 64), byteOf (128 + r / 64 % 64), byteOf (128 + r % 64)]
def enc1 (r : Int) : List UInt8 := enc0 (cpFix r)
def uEnc (l : List Int) : List UInt8 := l.flatMap enc1

theorem enc0_len (r : Int) : (enc0 r).length = cpSize r := by
  unfold enc0 cpSize; repeat' split
  all_goals rfl
theorem cpSize_le (r : Int) : 1 ≤ cpSize r ∧ cpSize r ≤ 4 := by unfold cpSize; (repeat' split) <;> omega
theorem uEnc_le (l : List Int) : (uEnc l).length ≤ 4 * l.length := by
  induction l with
  | nil => simp [uEnc]
  | cons x l ih =>
    unfold uEnc at ih ⊢
    rw [List.flatMap_cons, List.length_append, List.length_cons]
    have : (enc1 x).length ≤ 4 := by unfold enc1; rw [enc0_len]; exact (cpSize_le _).2
    omega

/-- The number at place j; 0 behind the end. -/
def bt (l : List UInt8) (j : Nat) : Int := ((l.getD j 0).toNat : Int)
theorem bt_range (l : List UInt8) (j : Nat) : 0 ≤ bt l j ∧ bt l j < 256 := by unfold bt; have := byte_lt (l.getD j 0); omega

def val2 (l : List UInt8) : Int := (bt l 0 - 192) * 64 + (bt l 1 - 128)
def val3 (l : List UInt8) : Int := ((bt l 0 - 224) * 64 + (bt l 1 - 128)) * 64 + (bt l 2 - 128)
def val4 (l : List UInt8) : Int := (((bt l 0 - 240) * 64 + (bt l 1 - 128)) * 64 + (bt l 2 - 128)) * 64 + (bt l 3 - 128)
def cont (x : Int) : Prop := 128 ≤ x ∧ x < 192
instance (x : Int) : Decidable (cont x) := inferInstanceAs (Decidable (_ ∧ _))

def dec1 (l : List UInt8) : Int × Nat :=
  if bt l 0 < 128 then (bt l 0, 1)
  else if 2 ≤ l.length ∧ (192 ≤ bt l 0 ∧ bt l 0 < 224) ∧ cont (bt l 1) ∧ 128 ≤ val2 l then (val2 l, 2)
  else if 3 ≤ l.length ∧ (224 ≤ bt l 0 ∧ bt l 0 < 240) ∧ cont (bt l 1) ∧ cont (bt l 2) ∧ 2048 ≤ val3 l ∧ (val3 l < 55296 ∨ 57343 < val3 l) then (val3 l, 3)
  else if 4 ≤ l.length ∧ (240 ≤ bt l 0 ∧ bt l 0 < 248) ∧ cont (bt l 1) ∧ cont (bt l 2) ∧ cont (bt l 3) ∧ 65536 ≤ val4 l ∧ val4 l ≤ 1114111 then (val4 l, 4)
  else (65533, 0)

/-- The same of the numbers alone. -/
def dec4 (n : Nat) (a b c d : Int) : Int × Nat :=
  if a < 128 then (a, 1)
  else if 2 ≤ n ∧ (192 ≤ a ∧ a < 224) ∧ cont b ∧ 128 ≤ (a - 192) * 64 + (b - 128) then ((a - 192) * 64 + (b - 128), 2)
  else if 3 ≤ n ∧ (224 ≤ a ∧ a < 240) ∧ cont b ∧ cont c ∧ 2048 ≤ ((a - 224) * 64 + (b - 128)) * 64 + (c - 128) ∧ (((a - 224) * 64 + (b - 128)) * 64 + (c - 128) < 55296 ∨ 57343 < ((a - 224) * 64 + (b - 128)) * 64 + (c - 128)) then (((a - 224) * 64 + (b - 128)) * 64 + (c - 128), 3)
  else if 4 ≤ n ∧ (240 ≤ a ∧ a < 248) ∧ cont b ∧ cont c ∧ cont d ∧ 65536 ≤ (((a - 240) * 64 + (b - 128)) * 64 + (c - 128)) * 64 + (d - 128) ∧ (((a - 240) * 64 + (b - 128)) * 64 + (c - 128)) * 64 + (d - 128) ≤ 1114111 then ((((a - 240) * 64 + (b - 128)) * 64 + (c - 128)) * 64 + (d - 128), 4)
  else (65533, 0)
theorem dec1_eq (l : List UInt8) : dec1 l = dec4 l.length (bt l 0) (bt l 1) (bt l 2) (bt l 3) := rfl

theorem dec1_le (l : List UInt8) : (dec1 l).2 ≤ 4 := by unfold dec1; (repeat' split) <;> simp
theorem dec1_len {l : List UInt8} (h : 0 < l.length) : (dec1 l).2 ≤ l.length := by
  unfold dec1; repeat' split
  all_goals simp only []
  all_goals omega
theorem dec1_ok (l : List UInt8) : cpOk (dec1 l).1 = true := by
  have h0 := bt_range l 0
  have h1 := bt_range l 1
  have h2 := bt_range l 2
  rw [cpOk_iff]
  unfold dec1; repeat' split
  all_goals simp only [val2, val3, val4, cont] at *
  all_goals omega

def uDecF : Nat → List UInt8 → List Int
  | 0, _ => []
  | _ + 1, [] => []
  | f + 1, a :: t => (dec1 (a :: t)).1 :: uDecF f ((a :: t).drop (max (dec1 (a :: t)).2 1))
def uDec (l : List UInt8) : List Int := uDecF l.length l

theorem uDecF_more : ∀ (f g : Nat) (l : List UInt8), l.length ≤ f → l.length ≤ g → uDecF f l = uDecF g l := by
  intro f
  induction f with
  | zero =>
    intro g l h _
    have : l = [] := List.eq_nil_of_length_eq_zero (by omega)
    subst this
    cases g <;> rfl
  | succ f ih =>
    intro g l hf hg
    match l, g with
    | [], 0 => rfl
    | [], _ + 1 => rfl
    | a :: t, 0 => simp at hg
    | a :: t, g + 1 =>
      simp only [uDecF]
      refine congrArg (List.cons _) ?_
      have hl : ((a :: t).drop (max (dec1 (a :: t)).2 1)).length ≤ t.length := by rw [List.length_drop, List.length_cons]; omega
      simp only [List.length_cons] at hf hg
      exact ih g _ (by omega) (by omega)

theorem uDec_nil : uDec [] = [] := rfl
theorem uDec_step {l : List UInt8} (h : 0 < l.length) : uDec l = (dec1 l).1 :: uDec (l.drop (max (dec1 l).2 1)) := by
  match l, h with
  | a :: t, _ =>
    unfold uDec
    rw [List.length_cons]
    simp only [uDecF]
    refine congrArg (List.cons _) ?_
    refine uDecF_more _ _ _ ?_ (Nat.le_refl _)
    rw [List.length_drop, List.length_cons]; omega

def uValF : Nat → List UInt8 → Bool
  | 0, _ => true
  | _ + 1, [] => true
  | f + 1, a :: t => decide (0 < (dec1 (a :: t)).2) && uValF f ((a :: t).drop (max (dec1 (a :: t)).2 1))
def uVal (l : List UInt8) : Bool := uValF l.length l
theorem uValF_more : ∀ (f g : Nat) (l : List UInt8), l.length ≤ f → l.length ≤ g → uValF f l = uValF g l := by
  intro f
  induction f with
  | zero =>
    intro g l h _
    have : l = [] := List.eq_nil_of_length_eq_zero (by omega)
    subst this
    cases g <;> rfl
  | succ f ih =>
    intro g l hf hg
    match l, g with
    | [], 0 => rfl
    | [], _ + 1 => rfl
    | a :: t, 0 => simp at hg
    | a :: t, g + 1 =>
      simp only [uValF]
      have hl : ((a :: t).drop (max (dec1 (a :: t)).2 1)).length ≤ t.length := by rw [List.length_drop, List.length_cons]; omega
      simp only [List.length_cons] at hf hg
      rw [ih g _ (by omega) (by omega)]
theorem uVal_nil : uVal [] = true := rfl
theorem uVal_step {l : List UInt8} (h : 0 < l.length) : uVal l = (decide (0 < (dec1 l).2) && uVal (l.drop (max (dec1 l).2 1))) := by
  match l, h with
  | a :: t, _ =>
    unfold uVal
    rw [List.length_cons]
    simp only [uValF]
    rw [uValF_more _ _ ((a :: t).drop (max (dec1 (a :: t)).2 1)) (by rw [List.length_drop, List.length_cons]; omega) (Nat.le_refl _)]

theorem uDec_len_le (l : List UInt8) : (uDec l).length ≤ l.length := by
  suffices h : ∀ (n : Nat) (l : List UInt8), l.length ≤ n → (uDec l).length ≤ l.length from h _ l (Nat.le_refl _)
  intro n
  induction n with
  | zero => intro l h; rw [List.eq_nil_of_length_eq_zero (by omega : l.length = 0)]; simp [uDec_nil]
  | succ n ih =>
    intro l hl
    rcases Nat.eq_zero_or_pos l.length with h0 | h0
    · rw [List.eq_nil_of_length_eq_zero h0]; simp [uDec_nil]
    · rw [uDec_step h0, List.length_cons]
      have := ih (l.drop (max (dec1 l).2 1)) (by rw [List.length_drop]; omega)
      rw [List.length_drop] at this
      omega

/-- What stands in front is what was encoded. -/
theorem dec1_enc0 {r : Int} (h : cpOk r = true) (t : List UInt8) : dec1 (enc0 r ++ t) = (r, cpSize r) := by
  rw [cpOk_iff] at h
  unfold enc0 cpSize
  by_cases h1 : r < 128
  · have e0 : bt ([byteOf r] ++ t) 0 = r := byteOf_nat (by omega) (by omega)
    simp only [if_pos h1]
    unfold dec1
    rw [e0, if_pos h1]
  by_cases h2 : r < 2048
  · simp only [if_neg h1, if_pos h2]
    have e0 : bt ([byteOf (192 + r / 64), byteOf (128 + r % 64)] ++ t) 0 = 192 + r / 64 := byteOf_nat (by omega) (by omega)
    have e1 : bt ([byteOf (192 + r / 64), byteOf (128 + r % 64)] ++ t) 1 = 128 + r % 64 := byteOf_nat (by omega) (by omega)
    unfold dec1 val2 cont
    rw [e0, e1, if_neg (by omega), if_pos (by simp only [List.length_append, List.length_cons]; omega)]
    congr 1
    omega
  by_cases h3 : r < 65536
  · simp only [if_neg h1, if_neg h2, if_pos h3]
    have e0 : bt ([byteOf (224 + r / 4096), byteOf (128 + r / 64 % 64), byteOf (128 + r % 64)] ++ t) 0 = 224 + r / 4096 := byteOf_nat (by omega) (by omega)
    have e1 : bt ([byteOf (224 + r / 4096), byteOf (128 + r / 64 % 64), byteOf (128 + r % 64)] ++ t) 1 = 128 + r / 64 % 64 := byteOf_nat (by omega) (by omega)
    have e2 : bt ([byteOf (224 + r / 4096), byteOf (128 + r / 64 % 64), byteOf (128 + r % 64)] ++ t) 2 = 128 + r % 64 := byteOf_nat (by omega) (by omega)
    unfold dec1 val2 val3 cont
    rw [e0, e1, e2, if_neg (by omega), if_neg (by omega), if_pos (by simp only [List.length_append, List.length_cons]; omega)]
    congr 1
    omega
  · simp only [if_neg h1, if_neg h2, if_neg h3]
    have e0 : bt ([byteOf (240 + r / 262144), byteOf (128 + r / 4096 % 64), byteOf (128 + r / 64 % 64), byteOf (128 + r % 64)] ++ t) 0 = 240 + r / 262144 := byteOf_nat (by omega) (by omega)
    have e1 : bt ([byteOf (240 + r / 262144), byteOf (128 + r / 4096 % 64), byteOf (128 + r / 64 % 64), byteOf (128 + r % 64)] ++ t) 1 = 128 + r / 4096 % 64 := byteOf_nat (by omega) (by omega)
    have e2 : bt ([byteOf (240 + r / 262144), byteOf (128 + r / 4096 % 64), byteOf (128 + r / 64 % 64), byteOf (128 + r % 64)] ++ t) 2 = 128 + r / 64 % 64 := byteOf_nat (by omega) (by omega)
    have e3 : bt ([byteOf (240 + r / 262144), byteOf (128 + r / 4096 % 64), byteOf (128 + r / 64 % 64), byteOf (128 + r % 64)] ++ t) 3 = 128 + r % 64 := byteOf_nat (by omega) (by omega)
    unfold dec1 val2 val3 val4 cont
    rw [e0, e1, e2, e3, if_neg (by omega), if_neg (by omega), if_neg (by omega), if_pos (by simp only [List.length_append, List.length_cons]; omega)]
    congr 1
    omega

theorem uDec_enc (l : List Int) (t : List UInt8) : uDec (uEnc l ++ t) = l.map cpFix ++ uDec t := by
  induction l with
  | nil => rfl
  | cons x l ih =>
    have e : uEnc (x :: l) ++ t = enc0 (cpFix x) ++ (uEnc l ++ t) := by simp [uEnc, enc1]
    have hs := cpSize_le (cpFix x)
    have hl := enc0_len (cpFix x)
    rw [e, uDec_step (by rw [List.length_append]; omega), dec1_enc0 (cpFix_ok x)]
    simp only [List.map_cons, List.cons_append]
    rw [Nat.max_eq_left hs.1, ← hl, List.drop_left, ih]

theorem uVal_enc (l : List Int) (t : List UInt8) : uVal (uEnc l ++ t) = uVal t := by
  induction l with
  | nil => rfl
  | cons x l ih =>
    have e : uEnc (x :: l) ++ t = enc0 (cpFix x) ++ (uEnc l ++ t) := by simp [uEnc, enc1]
    have hs := cpSize_le (cpFix x)
    have hl := enc0_len (cpFix x)
    rw [e, uVal_step (by rw [List.length_append]; omega), dec1_enc0 (cpFix_ok x)]
    simp only []
    rw [Nat.max_eq_left hs.1, decide_eq_true (by omega : 0 < cpSize (cpFix x)), Bool.true_and, ← hl, List.drop_left, ih]

theorem getD_eq_of_bt {l : List UInt8} {j : Nat} {n : Int} (h : bt l j = n) : l.getD j 0 = byteOf n := by
  rw [← h]; unfold bt; exact (byteOf_self _).symm

set_option maxRecDepth 20000 in
theorem ex1 {l : List UInt8} (h : 0 < l.length) : ∃ a t, l = a :: t := by
  cases l with
  | nil => simp at h
  | cons a t => exact ⟨a, t, rfl⟩
theorem ex2 {l : List UInt8} (h : 2 ≤ l.length) : ∃ a b t, l = a :: b :: t := by
  obtain ⟨a, t, rfl⟩ := ex1 (l := l) (by omega)
  obtain ⟨b, t, rfl⟩ := ex1 (l := t) (by simp at h; omega)
  exact ⟨a, b, t, rfl⟩
theorem ex3 {l : List UInt8} (h : 3 ≤ l.length) : ∃ a b c t, l = a :: b :: c :: t := by
  obtain ⟨a, b, t, rfl⟩ := ex2 (l := l) (by omega)
  obtain ⟨c, t, rfl⟩ := ex1 (l := t) (by simp at h; omega)
  exact ⟨a, b, c, t, rfl⟩
theorem ex4 {l : List UInt8} (h : 4 ≤ l.length) : ∃ a b c d t, l = a :: b :: c :: d :: t := by
  obtain ⟨a, b, c, t, rfl⟩ := ex3 (l := l) (by omega)
  obtain ⟨d, t, rfl⟩ := ex1 (l := t) (by simp at h; omega)
  exact ⟨a, b, c, d, t, rfl⟩

/-- Where a code point stands, its bytes are those that it is encoded as. -/
theorem take_dec1 {l : List UInt8} (h : 0 < (dec1 l).2) (hl : 0 < l.length) : l.take (dec1 l).2 = enc1 (dec1 l).1 := by
  have ho := dec1_ok l
  unfold enc1
  rw [cpFix_of ho]
  have b0 := bt_range l 0
  have b1 := bt_range l 1
  have b2 := bt_range l 2
  have b3 := bt_range l 3
  by_cases c1 : bt l 0 < 128
  · have e : dec1 l = (bt l 0, 1) := by unfold dec1; rw [if_pos c1]
    rw [e]
    obtain ⟨a, t, rfl⟩ := ex1 hl
    have e0 : bt (a :: t) 0 = (a.toNat : Int) := rfl
    unfold enc0
    simp only []
    rw [if_pos c1, e0, byteOf_self]; rfl
  by_cases c2 : 2 ≤ l.length ∧ (192 ≤ bt l 0 ∧ bt l 0 < 224) ∧ cont (bt l 1) ∧ 128 ≤ val2 l
  · have e : dec1 l = (val2 l, 2) := by unfold dec1; rw [if_neg c1, if_pos c2]
    rw [e]
    obtain ⟨a, b, t, rfl⟩ := ex2 c2.1
    have e0 : bt (a :: b :: t) 0 = (a.toNat : Int) := rfl
    have e1 : bt (a :: b :: t) 1 = (b.toNat : Int) := rfl
    unfold val2 cont at c2
    unfold enc0 val2
    rw [e0, e1] at c2 ⊢
    simp only []
    rw [if_neg (by omega), if_pos (by omega), show (192 : Int) + (((a.toNat : Int) - 192) * 64 + ((b.toNat : Int) - 128)) / 64 = (a.toNat : Int) from by omega,
      show (128 : Int) + (((a.toNat : Int) - 192) * 64 + ((b.toNat : Int) - 128)) % 64 = (b.toNat : Int) from by omega, byteOf_self, byteOf_self]
    rfl
  by_cases c3 : 3 ≤ l.length ∧ (224 ≤ bt l 0 ∧ bt l 0 < 240) ∧ cont (bt l 1) ∧ cont (bt l 2) ∧ 2048 ≤ val3 l ∧ (val3 l < 55296 ∨ 57343 < val3 l)
  · have e : dec1 l = (val3 l, 3) := by unfold dec1; rw [if_neg c1, if_neg c2, if_pos c3]
    rw [e]
    clear c2
    obtain ⟨a, b, c, t, rfl⟩ := ex3 c3.1
    have e0 : bt (a :: b :: c :: t) 0 = (a.toNat : Int) := rfl
    have e1 : bt (a :: b :: c :: t) 1 = (b.toNat : Int) := rfl
    have e2 : bt (a :: b :: c :: t) 2 = (c.toNat : Int) := rfl
    unfold val3 cont at c3
    unfold enc0 val3
    rw [e0, e1, e2] at c3 ⊢
    simp only []
    rw [if_neg (by omega), if_neg (by omega), if_pos (by omega), show (224 : Int) + ((((a.toNat : Int) - 224) * 64 + ((b.toNat : Int) - 128)) * 64 + ((c.toNat : Int) - 128)) / 4096 = (a.toNat : Int) from by omega,
      show (128 : Int) + ((((a.toNat : Int) - 224) * 64 + ((b.toNat : Int) - 128)) * 64 + ((c.toNat : Int) - 128)) / 64 % 64 = (b.toNat : Int) from by omega,
      show (128 : Int) + ((((a.toNat : Int) - 224) * 64 + ((b.toNat : Int) - 128)) * 64 + ((c.toNat : Int) - 128)) % 64 = (c.toNat : Int) from by omega, byteOf_self, byteOf_self, byteOf_self]
    rfl
  by_cases c4 : 4 ≤ l.length ∧ (240 ≤ bt l 0 ∧ bt l 0 < 248) ∧ cont (bt l 1) ∧ cont (bt l 2) ∧ cont (bt l 3) ∧ 65536 ≤ val4 l ∧ val4 l ≤ 1114111
  · have e : dec1 l = (val4 l, 4) := by unfold dec1; rw [if_neg c1, if_neg c2, if_neg c3, if_pos c4]
    rw [e]
    clear c2 c3
    obtain ⟨a, b, c, d, t, rfl⟩ := ex4 c4.1
    have e0 : bt (a :: b :: c :: d :: t) 0 = (a.toNat : Int) := rfl
    have e1 : bt (a :: b :: c :: d :: t) 1 = (b.toNat : Int) := rfl
    have e2 : bt (a :: b :: c :: d :: t) 2 = (c.toNat : Int) := rfl
    have e3 : bt (a :: b :: c :: d :: t) 3 = (d.toNat : Int) := rfl
    unfold val4 cont at c4
    unfold enc0 val4
    rw [e0, e1, e2, e3] at c4 ⊢
    simp only []
    rw [if_neg (by omega), if_neg (by omega), if_neg (by omega), show (240 : Int) + (((((a.toNat : Int) - 240) * 64 + ((b.toNat : Int) - 128)) * 64 + ((c.toNat : Int) - 128)) * 64 + ((d.toNat : Int) - 128)) / 262144 = (a.toNat : Int) from by omega,
      show (128 : Int) + (((((a.toNat : Int) - 240) * 64 + ((b.toNat : Int) - 128)) * 64 + ((c.toNat : Int) - 128)) * 64 + ((d.toNat : Int) - 128)) / 4096 % 64 = (b.toNat : Int) from by omega,
      show (128 : Int) + (((((a.toNat : Int) - 240) * 64 + ((b.toNat : Int) - 128)) * 64 + ((c.toNat : Int) - 128)) * 64 + ((d.toNat : Int) - 128)) / 64 % 64 = (c.toNat : Int) from by omega,
      show (128 : Int) + (((((a.toNat : Int) - 240) * 64 + ((b.toNat : Int) - 128)) * 64 + ((c.toNat : Int) - 128)) * 64 + ((d.toNat : Int) - 128)) % 64 = (d.toNat : Int) from by omega, byteOf_self, byteOf_self, byteOf_self, byteOf_self]
    rfl
  · have e : dec1 l = (65533, 0) := by unfold dec1; rw [if_neg c1, if_neg c2, if_neg c3, if_neg c4]
    rw [e] at h
    simp at h

theorem uEnc_dec (l : List UInt8) : uVal l = true → uEnc (uDec l) = l := by
  suffices h : ∀ (n : Nat) (l : List UInt8), l.length ≤ n → uVal l = true → uEnc (uDec l) = l from h _ l (Nat.le_refl _)
  intro n
  induction n with
  | zero => intro l h _; rw [List.eq_nil_of_length_eq_zero (by omega : l.length = 0)]; rfl
  | succ n ih =>
    intro l hl hv
    rcases Nat.eq_zero_or_pos l.length with h0 | h0
    · rw [List.eq_nil_of_length_eq_zero h0]; rfl
    · rw [uVal_step h0, Bool.and_eq_true] at hv
      have hp := of_decide_eq_true hv.1
      have ht := take_dec1 hp h0
      have := ih (l.drop (max (dec1 l).2 1)) (by rw [List.length_drop]; omega) hv.2
      rw [uDec_step h0]
      have e : uEnc ((dec1 l).1 :: uDec (l.drop (max (dec1 l).2 1))) = enc1 (dec1 l).1 ++ uEnc (uDec (l.drop (max (dec1 l).2 1))) := by simp [uEnc]
      rw [e, this, ← ht, Nat.max_eq_left (by omega), List.take_append_drop]

set_option maxRecDepth 20000 in
theorem uDec_ok (l : List UInt8) : ∀ r ∈ uDec l, cpOk r = true := by
  suffices h : ∀ (n : Nat) (l : List UInt8), l.length ≤ n → ∀ r ∈ uDec l, cpOk r = true from h _ l (Nat.le_refl _)
  intro n
  induction n with
  | zero => intro l h; rw [List.eq_nil_of_length_eq_zero (by omega : l.length = 0)]; simp [uDec_nil]
  | succ n ih =>
    intro l hl r hr
    rcases Nat.eq_zero_or_pos l.length with h0 | h0
    · rw [List.eq_nil_of_length_eq_zero h0] at hr; simp [uDec_nil] at hr
    · rw [uDec_step h0, List.mem_cons] at hr
      rcases hr with rfl | hr
      · exact dec1_ok l
      · exact ih _ (by rw [List.length_drop]; omega) r hr

theorem map_cpFix {l : List Int} (h : ∀ r ∈ l, cpOk r = true) : l.map cpFix = l := by
  induction l with
  | nil => rfl
  | cons x l ih =>
    rw [List.map_cons, cpFix_of (h x (by simp)), ih fun r hr => h r (by simp [hr])]

theorem uDec_append {a : List UInt8} (h : uVal a = true) (b : List UInt8) : uDec (a ++ b) = uDec a ++ uDec b := by
  have := uDec_enc (uDec a) b
  rwa [uEnc_dec a h, map_cpFix (uDec_ok a)] at this

theorem uVal_iff (b : List UInt8) : uVal b = decide (uEnc (uDec b) = b) := by
  by_cases h : uVal b = true
  · rw [h, decide_eq_true (uEnc_dec b h)]
  · rw [Bool.eq_false_iff.2 h, decide_eq_false]
    intro e
    apply h
    rw [← e]
    have := uVal_enc (uDec b) []
    rwa [List.append_nil] at this
end Go.Proofs.YtoapelcofjjdnaaDoor

namespace Go.Proofs.YtoapelcofjjdnaaDoor
set_option linter.all false
open Go.RowKit

def str (l : List UInt8) : ByteArray := ⟨l.toArray⟩
theorem str_data (l : List UInt8) : (str l).data.toList = l := by simp [str]
theorem str_size (l : List UInt8) : (str l).size = l.length := by simp [str, ByteArray.size]
theorem str_of (s : ByteArray) : str s.data.toList = s := by
  cases s; simp [str]
theorem str_inj {a b : List UInt8} (h : str a = str b) : a = b := by rw [← str_data a, h, str_data]


/-- string(b) of bytes that read as l. -/
theorem run_str {P : Program} {w : World} {src dst e : TypeId} {B : Nat} {A : Option Addr} {c : Nat} {l : List UInt8} (hs : P.underlying src = some (.slice e)) (he : P.underlying e = some (.int .u8)) (hd : P.underlying dst = some .string)
    (hr : Rd w B A (bytes l)) : (convert src dst (.slice A l.length c)).run P w = .ok (.string (str l)) w := by
  rcases Nat.eq_zero_or_pos l.length with h0 | h0
  · rw [run_convert_bytes_string w src dst e A l.length c hs he hd]
    have h00 : l = [] := List.eq_nil_of_length_eq_zero h0
    subst h00
    cases A <;> simp [Conv.bytesToString, Sem.run_pure, str, loadCells, loadCellsFrom] <;> rfl
  · obtain ⟨b, off, rfl, _, hc⟩ := hr (by rw [bytes_len]; exact h0)
    refine run_convert_bytes_back w src dst e ⟨b, off, none⟩ c l hs he hd fun j hj => ?_
    rw [Addr.add_lit]
    refine hc j _ ?_
    unfold bytes
    rw [List.getElem?_map, List.getElem?_eq_getElem hj]; rfl

/-- Block g is a row of cells that may be written at places below n; its first n cells are xs. -/
def Row (w : World) (g : Nat) (xs : List Value) : Prop :=
  (∀ j u, xs[j]? = some u → w.cell? ⟨g, j, none⟩ = some u) ∧ (∀ j, j < xs.length → w.frozen? ⟨g, j, none⟩ = false) ∧ g < w.heap.size

theorem Row.rd {w : World} {g : Nat} {xs : List Value} (h : Row w g xs) {B : Nat} (hB : g < B) : Rd w B (some ⟨g, 0, none⟩) xs := fun _ => ⟨g, 0, rfl, hB, fun j u hu => by rw [Nat.zero_add]; exact h.1 j u hu⟩
theorem Row.below {w w' : World} {g B : Nat} {xs : List Value} (h : Row w g xs) (hb : Below B w w') (hg : g < B) : Row w' g xs :=
  ⟨fun j u hu => (hb.cell (p := ⟨g, j, none⟩) hg).trans (h.1 j u hu), fun j hj => (hb.frozen (p := ⟨g, j, none⟩) hg).trans (h.2.1 j hj), Nat.lt_of_lt_of_le h.2.2 hb.size⟩
theorem Row.set {w : World} {g : Nat} {xs : List Value} (h : Row w g xs) {j : Nat} (hj : j < xs.length) (u : Value) : Row (w.setCell ⟨g, j, none⟩ u) g (xs.set j u) := by
  obtain ⟨h1, h2, h3⟩ := h
  refine ⟨fun i v hv => ?_, fun i hi => ?_, by simpa [World.setCell] using h3⟩
  · by_cases hij : i = j
    · subst hij
      rw [List.getElem?_set_self hj] at hv
      injection hv with hv
      subst hv
      have hc := h1 i xs[i] (List.getElem?_eq_getElem hj)
      exact World.cell?_setCell_same (w := w) (a := ⟨g, i, none⟩) u hc
    · rw [List.getElem?_set_ne (fun e => hij e.symm)] at hv
      rw [World.cell?_setCell_other w _ _ u (by intro e; injection e with _ e; exact hij e.symm)]
      exact h1 i v hv
  · rw [List.length_set] at hi
    rw [World.frozen?_setCell]
    exact h2 i hi

section
variable {P : Program} {w : World} {ops : Array Oper} {rest : List Oper} {o : Oper} {a : Act} {Q : Exit → Act → World → Prop}

theorem wpList_str (hgd : o.guard = none) (x : Operand) (src dst e : TypeId) (ho : o.op = .convert src dst x) (hs : P.underlying src = some (.slice e)) (he : P.underlying e = some (.int .u8)) (hd : P.underlying dst = some .string)
    (B : Nat) (A : Option Addr) (n c : Nat) (l : List UInt8) (hx : a.eval x = .slice A n c) (hn : n = l.length) (hr : Rd w B A (bytes l))
    (h : wpList P ops Q rest (a.put o.dst (.string (str l))) w) : wpList P ops Q (o :: rest) a w := by
  subst hn
  refine wpList_plain hgd fun K hK => ?_
  unfold Oper.wp execOp
  simp only [ho, hx, run_str hs he hd hr, Sem.run_bind, Sem.run_pure, Result.andThen_ok]
  exact hK _ _ h

theorem wpList_bytes (hgd : o.guard = none) (x : Operand) (src dst e : TypeId) (ho : o.op = .convert src dst x) (hs : P.underlying src = some .string) (hd : P.underlying dst = some (.slice e)) (he : P.underlying e = some (.int .u8))
    (s : ByteArray) (hx : a.eval x = .string s) (hlen : s.size ≤ 1000000)
    (h : ∀ c' w', s.size ≤ c' → c' ≤ maxLen → Row w' w.heap.size (bytes s.data.toList) → Below w.heap.size w w' → w.heap.size < w'.heap.size → wpList P ops Q rest (a.put o.dst (.slice (some ⟨w.heap.size, 0, none⟩) s.size c')) w') :
    wpList P ops Q (o :: rest) a w := by
  refine wpList_plain hgd fun K hK => ?_
  unfold Oper.wp execOp
  simp only [ho, hx, run_bytes_of_string w src dst e s hs hd he, Sem.run_bind, Sem.run_pure, Result.andThen_ok]
  refine hK _ _ (h _ _ (grownCap_ge _ _ _ _) (grownCap_le_maxLen _ _ _ _ (by unfold maxLen; omega)) ?_ ((Below.refl _ _).drew.alloc (Nat.le_refl _) _) (by simp))
  have hge := grownCap_ge w s.size 0 e
  have hrow : (w.drew.alloc (.cells (bytesRow s (grownCap w s.size 0 e)) e ((bytesRow s (grownCap w s.size 0 e)).size, (bytesRow s (grownCap w s.size 0 e)).size + 1))).heap[w.heap.size]? = some (.cells (bytesRow s (grownCap w s.size 0 e)) e ((bytesRow s (grownCap w s.size 0 e)).size, (bytesRow s (grownCap w s.size 0 e)).size + 1)) := heap_alloc_new w.drew _
  have hsz : (bytesRow s (grownCap w s.size 0 e)).size = grownCap w s.size 0 e := by
    unfold bytesRow; rw [Array.size_append, Array.size_map, Array.size_replicate]; show s.size + _ = _; omega
  refine ⟨fun j u hu => ?_, fun j hj => ?_, by simp⟩
  · rw [cell_of_row _ _ j _ _ _ hrow]
    have hj : j < s.data.toList.length := by
      rcases Nat.lt_or_ge j s.data.toList.length with h1 | h1
      · exact h1
      · rw [List.getElem?_eq_none (by rw [bytes_len]; exact h1)] at hu; cases hu
    unfold bytesRow
    rw [Array.getElem?_append_left (by simpa using hj)]
    unfold bytes at hu
    rw [← hu]
    simp
  · rw [bytes_len] at hj
    have hj2 : j < s.size := hj
    unfold World.frozen?
    rw [hrow]
    show (decide (_ ≤ j) && decide (j < _)) = false
    rw [hsz, decide_eq_false (by omega), Bool.false_and]
end
end Go.Proofs.YtoapelcofjjdnaaDoor

namespace Go.Proofs.YtoapelcofjjdnaaDoor
set_option linter.all false
open Go.RowKit

def pLow (c : UInt8) : Bool := decide (c.toNat < 32 ∨ 126 < c.toNat)
def txt1 : List UInt8 := [32, 34, 60, 62, 96]
def txt2 : List UInt8 := [32, 34, 35, 60, 62]
def txt3 : List UInt8 := [32, 34, 35, 60, 62, 39]
def txt4 : List UInt8 := [32, 34, 35, 60, 62, 63, 94, 96, 123, 125]
def txt5 : List UInt8 := [32, 34, 35, 60, 62, 63, 94, 96, 123, 125, 47, 58, 59, 61, 64, 91, 92, 93, 124]
def txt6 : List UInt8 := [42, 45, 46, 95]
def alnum (c : UInt8) : Bool := decide ((97 ≤ c.toNat ∧ c.toNat ≤ 122) ∨ (65 ≤ c.toNat ∧ c.toNat ≤ 90) ∨ (48 ≤ c.toNat ∧ c.toNat ≤ 57))
def pForm (c : UInt8) : Bool := pLow c || (!alnum c && !txt6.contains c)
def pIn (s : Int) (c : UInt8) : Bool :=
  if s = 0 then pLow c
  else if s = 1 then pLow c || txt1.contains c
  else if s = 2 then pLow c || txt2.contains c
  else if s = 3 then pLow c || txt3.contains c
  else if s = 4 then pLow c || txt4.contains c
  else if s = 5 then pLow c || txt5.contains c
  else if s = 6 then pForm c
  else false

def hexU (n : Nat) : UInt8 := if n < 10 then UInt8.ofNat (48 + n) else UInt8.ofNat (55 + n)
def esc (c : UInt8) : List UInt8 := [37, hexU (c.toNat / 16), hexU (c.toNat % 16)]
def pEnc1 (s : Int) (c : UInt8) : List UInt8 := if s = 6 ∧ c = 32 then [43] else if pIn s c = true then esc c else [c]
def pEnc (s : Int) (l : List UInt8) : List UInt8 := l.flatMap (pEnc1 s)

def hexV (c : UInt8) : Int :=
  if 48 ≤ c.toNat ∧ c.toNat ≤ 57 then (c.toNat : Int) - 48
  else if 97 ≤ c.toNat ∧ c.toNat ≤ 102 then (c.toNat : Int) - 87
  else if 65 ≤ c.toNat ∧ c.toNat ≤ 70 then (c.toNat : Int) - 55
  else -1

theorem hexV_range (c : UInt8) : -1 ≤ hexV c ∧ hexV c < 16 := by unfold hexV; (repeat' split) <;> omega
theorem hexV_hexU : ∀ n, n < 16 → hexV (hexU n) = (n : Int) := by decide
theorem hexU_plain : ∀ n, n < 16 → (hexU n ≠ 43 ∧ hexU n ≠ 37) := by decide

def pStep (l : List UInt8) : UInt8 × Nat :=
  if 3 ≤ l.length ∧ l.getD 0 0 = 37 ∧ 0 ≤ hexV (l.getD 1 0) ∧ 0 ≤ hexV (l.getD 2 0) then (byteOf (hexV (l.getD 1 0) * 16 + hexV (l.getD 2 0)), 3) else (l.getD 0 0, 1)

theorem pStep_pos (l : List UInt8) : 1 ≤ (pStep l).2 ∧ (pStep l).2 ≤ 3 := by unfold pStep; split <;> simp
theorem pStep_len {l : List UInt8} (h : 0 < l.length) : (pStep l).2 ≤ l.length := by unfold pStep; split <;> simp only [] <;> omega

def pDecF : Nat → List UInt8 → List UInt8
  | 0, _ => []
  | _ + 1, [] => []
  | f + 1, a :: t => (pStep (a :: t)).1 :: pDecF f ((a :: t).drop (pStep (a :: t)).2)
def pDec (l : List UInt8) : List UInt8 := pDecF l.length l

theorem pDecF_more : ∀ (f g : Nat) (l : List UInt8), l.length ≤ f → l.length ≤ g → pDecF f l = pDecF g l := by
  intro f
  induction f with
  | zero =>
    intro g l h _
    have : l = [] := List.eq_nil_of_length_eq_zero (by omega)
    subst this
    cases g <;> rfl
  | succ f ih =>
    intro g l hf hg
    match l, g with
    | [], 0 => rfl
    | [], _ + 1 => rfl
    | a :: t, 0 => simp at hg
    | a :: t, g + 1 =>
      simp only [pDecF]
      refine congrArg (List.cons _) ?_
      have hp := pStep_pos (a :: t)
      have hl : ((a :: t).drop (pStep (a :: t)).2).length ≤ t.length := by rw [List.length_drop, List.length_cons]; omega
      simp only [List.length_cons] at hf hg
      exact ih g _ (by omega) (by omega)

theorem pDec_nil : pDec [] = [] := rfl
theorem pDec_step {l : List UInt8} (h : 0 < l.length) : pDec l = (pStep l).1 :: pDec (l.drop (pStep l).2) := by
  match l, h with
  | a :: t, _ =>
    unfold pDec
    rw [List.length_cons]
    simp only [pDecF]
    refine congrArg (List.cons _) ?_
    have hp := pStep_pos (a :: t)
    refine pDecF_more _ _ _ ?_ (Nat.le_refl _)
    rw [List.length_drop, List.length_cons]; omega

theorem pDec_len_le (l : List UInt8) : (pDec l).length ≤ l.length := by
  suffices h : ∀ (n : Nat) (l : List UInt8), l.length ≤ n → (pDec l).length ≤ l.length from h _ l (Nat.le_refl _)
  intro n
  induction n with
  | zero => intro l h; rw [List.eq_nil_of_length_eq_zero (by omega : l.length = 0)]; simp [pDec_nil]
  | succ n ih =>
    intro l hl
    rcases Nat.eq_zero_or_pos l.length with h0 | h0
    · rw [List.eq_nil_of_length_eq_zero h0]; simp [pDec_nil]
    · have hp := pStep_pos l
      rw [pDec_step h0, List.length_cons]
      have := ih (l.drop (pStep l).2) (by rw [List.length_drop]; omega)
      rw [List.length_drop] at this
      omega

theorem pDec_plain {c : UInt8} (h : c ≠ 37) (t : List UInt8) : pDec (c :: t) = c :: pDec t := by
  have e : pStep (c :: t) = (c, 1) := by
    unfold pStep
    rw [if_neg (by rintro ⟨_, h1, _⟩; exact h h1)]; rfl
  rw [pDec_step (by simp), e]; rfl

theorem pDec_esc (c : UInt8) (t : List UInt8) : pDec (esc c ++ t) = c :: pDec t := by
  have hc := byte_lt c
  have e : pStep (esc c ++ t) = (c, 3) := by
    have h1 : hexV ((esc c ++ t).getD 1 0) = ((c.toNat / 16 : Nat) : Int) := hexV_hexU _ (by omega)
    have h2 : hexV ((esc c ++ t).getD 2 0) = ((c.toNat % 16 : Nat) : Int) := hexV_hexU _ (by omega)
    unfold pStep
    rw [h1, h2, if_pos ⟨by simp [esc], rfl, by omega, by omega⟩]
    congr 1
    rw [show (((c.toNat / 16 : Nat) : Int) * 16 + ((c.toNat % 16 : Nat) : Int)) = (c.toNat : Int) from by omega, byteOf_self]
  rw [pDec_step (by simp [esc]), e]
  rfl

theorem pEnc_cons (s : Int) (c : UInt8) (l : List UInt8) : pEnc s (c :: l) = pEnc1 s c ++ pEnc s l := by simp [pEnc]
theorem pEnc_append (s : Int) (a b : List UInt8) : pEnc s (a ++ b) = pEnc s a ++ pEnc s b := by simp [pEnc]

theorem pEnc1_len (s : Int) (c : UInt8) : 1 ≤ (pEnc1 s c).length ∧ (pEnc1 s c).length ≤ 3 := by unfold pEnc1 esc; (repeat' split) <;> simp
theorem pEnc_le (s : Int) (l : List UInt8) : (pEnc s l).length ≤ 3 * l.length := by
  induction l with
  | nil => simp [pEnc]
  | cons c l ih => rw [pEnc_cons, List.length_append, List.length_cons]; have := (pEnc1_len s c).2; omega

/-- Of no set but Form. -/
theorem pDec_enc {s : Int} (hs : s ≠ 6) : ∀ (l : List UInt8), (∀ c ∈ l, c ≠ 37) → pDec (pEnc s l) = l := by
  intro l
  induction l with
  | nil => intro _; rfl
  | cons c l ih =>
    intro h
    have hc := h c (by simp)
    have ih := ih fun x hx => h x (by simp [hx])
    rw [pEnc_cons]
    unfold pEnc1
    rw [if_neg (by rintro ⟨h1, _⟩; exact hs h1)]
    split
    · rw [pDec_esc, ih]
    · rw [List.singleton_append, pDec_plain hc, ih]

def plus (c : UInt8) : UInt8 := if c = 43 then 32 else c
theorem pForm_signs : pForm 43 = true ∧ pForm 37 = true := by decide

theorem pDec_form : ∀ (l : List UInt8), pDec ((pEnc 6 l).map plus) = l := by
  intro l
  induction l with
  | nil => rfl
  | cons c l ih =>
    rw [pEnc_cons, List.map_append]
    unfold pEnc1
    have hc := byte_lt c
    by_cases h1 : c = 32
    · subst h1
      rw [if_pos ⟨rfl, rfl⟩]
      show pDec (32 :: List.map plus (pEnc 6 l)) = _
      rw [pDec_plain (by decide), ih]
    rw [if_neg (by rintro ⟨_, h2⟩; exact h1 h2)]
    have e : pIn 6 c = pForm c := rfl
    rw [e]
    by_cases h2 : pForm c = true
    · rw [if_pos h2]
      have e : (esc c).map plus = esc c := by
        have a := hexU_plain (c.toNat / 16) (by omega)
        have b := hexU_plain (c.toNat % 16) (by omega)
        simp [esc, plus, a.1, b.1]
      rw [e, pDec_esc, ih]
    · rw [if_neg h2]
      have n1 : c ≠ 43 := by rintro rfl; exact h2 pForm_signs.1
      have n2 : c ≠ 37 := by rintro rfl; exact h2 pForm_signs.2
      have e : [c].map plus = [c] := by simp [plus, n1]
      rw [e, List.singleton_append, pDec_plain n2, ih]

theorem pIn_stays : ∀ k : Nat, k < 6 → pIn k 37 = false ∧ ∀ n, n < 16 → pIn k (hexU n) = false := by decide

theorem pEnc_out {k : Nat} (hk : k < 6) : ∀ (l : List UInt8), ∀ c ∈ pEnc k l, pIn k c = false := by
  intro l c hc
  have hst := pIn_stays k hk
  unfold pEnc at hc
  rw [List.mem_flatMap] at hc
  obtain ⟨x, _, hc⟩ := hc
  have hx := byte_lt x
  unfold pEnc1 at hc
  rw [if_neg (by rintro ⟨h1, _⟩; omega)] at hc
  split at hc
  · unfold esc at hc
    simp only [List.mem_cons, List.not_mem_nil, or_false] at hc
    rcases hc with rfl | rfl | rfl
    · exact hst.1
    · exact hst.2 _ (by omega)
    · exact hst.2 _ (by omega)
  · simp only [List.mem_cons, List.not_mem_nil, or_false] at hc
    subst hc
    rename_i hno
    exact Bool.eq_false_iff.2 hno

theorem pEnc_id {k : Nat} (hk : k < 6) : ∀ (l : List UInt8), (∀ c ∈ l, pIn k c = false) → pEnc k l = l := by
  intro l
  induction l with
  | nil => intro _; rfl
  | cons c l ih =>
    intro h
    have e : pEnc1 k c = [c] := by
      unfold pEnc1
      rw [if_neg (by rintro ⟨h1, _⟩; omega), if_neg (by rw [h c (by simp)]; decide)]
    rw [pEnc_cons, e, ih fun x hx => h x (by simp [hx])]; rfl
end Go.Proofs.YtoapelcofjjdnaaDoor

namespace Go.Proofs.YtoapelcofjjdnaaDoor
set_option linter.all false
open Go.RowKit

theorem run_partAt_zero {P : Program} {w : World} {b : Nat} {e : TypeId} {n : Nat} (hs : w.shape? b = some (e, n)) (hc : P.cellsOf e = 0 ∨ ∃ k, byteOfCell P P.depth e 0 = some k) :
    (Go.partAt ⟨b, 0, none⟩ 0 0).run P w = .ok ⟨b, 0, none⟩ w := by
  have hb : ∃ k, (Go.byteOf ⟨b, 0, none⟩).run P w = .ok k w := by
    by_cases h0 : P.cellsOf e = 0
    · refine ⟨0, ?_⟩
      simp [Go.byteOf, noView, viewAt, hs, h0]
    · rcases hc with hc | ⟨k, hk⟩
      · exact absurd hc h0
      · refine ⟨k, ?_⟩
        simp [Go.byteOf, noView, viewAt, hs, h0, hk]
  obtain ⟨k, hk⟩ := hb
  unfold Go.partAt
  simp [hk]
theorem shape_new (w : World) (cs : Array Value) (e : TypeId) (m : Nat × Nat) : (w.alloc (.cells cs e m)).shape? w.heap.size = some (e, cs.size) := by
  have h := heap_alloc_new w (.cells cs e m)
  unfold World.shape?
  rw [h]
end Go.Proofs.YtoapelcofjjdnaaDoor
