/- A part of the proof. -/
import Derived.Handy
import Derived.WalkSpells
import Derived.WalkLawsBesides
import Derived.Maps.AppendAt
import Derived.Deep.QuietTactic
import Derived.BigQuiet
import Derived.Deep.LoopGhost
import Derived.Deep.AppendLies
import Derived.Deep.Light
import Derived.Lib.Hide
import Derived.Laws.BytesString
import Derived.Laws.IdiomStrings
namespace Go.Proofs.YtoapelcofjjdnaaGreatDoor
set_option linter.all false
open Go.RowKit
def Rd (w : World) (B : Nat) (A : Option Addr) (xs : List Value) : Prop :=
 0 < xs.length → ∃ b off, A = some ⟨b, off, none⟩ ∧ b < B ∧ ∀ j u, xs[j]? = some u → w.cell? ⟨b, off + j, none⟩ = some u
section
variable {w w' : World} {B B' : Nat} {A : Option Addr} {xs : List Value}
theorem Rd.nil : Rd w B A [] := fun h => absurd h (by simp)
theorem Rd.at_ (h : Rd w B A xs) {k : Nat} (hk : k < xs.length) :
  ∃ b off, A = some ⟨b, off, none⟩ ∧ b < B ∧ w.cell? ⟨b, off + k, none⟩ = some xs[k] := by
 obtain ⟨b, off, e, hb, hc⟩ := h (by omega)
 exact ⟨b, off, e, hb, hc k _ (List.getElem?_eq_getElem hk)⟩
theorem Rd.keep (h : Rd w B A xs) (hk : ∀ p : Addr, p.block < B → w'.cell? p = w.cell? p) : Rd w' B A xs := fun hn => by
 obtain ⟨b, off, e, hb, hc⟩ := h hn
 exact ⟨b, off, e, hb, fun j u hu => (hk ⟨b, off + j, none⟩ hb).trans (hc j u hu)⟩
theorem Rd.mono (h : Rd w B A xs) (hB : B ≤ B') : Rd w B' A xs := fun hn => by
 obtain ⟨b, off, e, hb, hc⟩ := h hn
 exact ⟨b, off, e, by omega, hc⟩
theorem Rd.below (h : Rd w B A xs) (hb : Below B w w') : Rd w' B A xs := h.keep fun _ hp => hb.cell hp
theorem Rd.drew (h : Rd w B A xs) : Rd w.drew B A xs := h
theorem Rd.drewN (h : Rd w B A xs) (n : Nat) : Rd (w.drewN n) B A xs := h
theorem Rd.alloc (h : Rd w B A xs) (hB : B ≤ w.heap.size) (o : Obj) : Rd (w.alloc o) B A xs :=
 h.keep fun p hp => World.cell?_alloc_lt w o p (by omega)
theorem Rd.setCell (h : Rd w B A xs) {p : Addr} (hp : B ≤ p.block) (u : Value) : Rd (w.setCell p u) B A xs :=
 h.keep fun q hq => World.cell?_setCell_other w p q u (fun e => by subst e; omega)
theorem Rd.grown (h : Rd w B A xs) {row : Option Nat} (hg : w.grownBy w' row) (hB : B ≤ w.heap.size) (hr : ∀ g, row = some g → B ≤ g) : Rd w' B A xs :=
 h.keep fun p hp => World.cell?_of_block (hg.block p.block (by omega) (fun e => by have := hr _ e.symm; omega))
theorem Rd.take (h : Rd w B A xs) (n : Nat) : Rd w B A (xs.take n) := fun hn => by
 obtain ⟨b, off, e, hb, hc⟩ := h (by rw [List.length_take] at hn; omega)
 refine ⟨b, off, e, hb, fun j u hu => hc j u ?_⟩
 rw [List.getElem?_take] at hu
 split at hu
 · exact hu
 · cases hu
theorem Rd.drop (h : Rd w B A xs) {k cap : Nat} (hc : xs.length ≤ cap) :
  Rd w B (if cap = k then A else A.map (·.add k)) (xs.drop k) := fun hn => by
 rw [List.length_drop] at hn
 obtain ⟨b, off, e, hb, hcell⟩ := h (by omega)
 rw [if_neg (by omega)]
 refine ⟨b, off + k, by rw [e, Option.map_some, Addr.add_lit], hb, fun j u hu => ?_⟩
 rw [List.getElem?_drop] at hu
 rw [Nat.add_assoc]
 exact hcell _ u hu
theorem Rd.dropAt {b off : Nat} (h : Rd w B (some ⟨b, off, none⟩) xs) (k : Nat) : Rd w B (some ⟨b, off + k, none⟩) (xs.drop k) := fun hn => by
 rw [List.length_drop] at hn
 obtain ⟨b', off', e, hb, hcell⟩ := h (by omega)
 injection e with e
 injection e with e1 e2
 subst e1; subst e2
 refine ⟨b, off + k, rfl, hb, fun j u hu => ?_⟩
 rw [List.getElem?_drop] at hu
 rw [Nat.add_assoc]
 exact hcell _ u hu
theorem Rd.of_own {base : Nat} {e : TypeId} {v : Value} {n : Nat} (h : w.ownsRow base e 1 v n xs) :
  ∃ A c, v = .slice A n c ∧ n ≤ c ∧ c ≤ maxLen ∧ n = xs.length ∧ Rd w w.heap.size A xs := by
 have hl : xs.length = n := by have := h.1; omega
 rcases h.2 with ⟨rfl, rfl⟩ | ⟨g, cap, cur, rfl, hb, hg, hnc, hcm, hs, ht⟩
 · exact ⟨none, 0, rfl, Nat.le_refl _, by simp [maxLen], by omega, by rw [List.eq_nil_of_length_eq_zero hl]; exact Rd.nil⟩
 ·
  refine ⟨_, _, rfl, hnc, hcm, by omega, fun hn => ⟨g, 0, rfl, (Array.getElem?_eq_some_iff.1 hg).1, fun j u hu => ?_⟩⟩
  have hj : j < n * 1 := by rcases Nat.lt_or_ge j xs.length with h1 | h1; omega; rw [List.getElem?_eq_none h1] at hu; cases hu
  have := h.cellAt j hj
  rw [Nat.zero_add, this, hu]
end
theorem Rd.ints {w : World} {k : IntKind} {a : Option Addr} {len cap : Nat} {zs : List Int}
  (h : (a = none ∧ len = 0 ∧ cap = 0 ∧ zs = []) ∨ ∃ x, a = some x ∧ len ≤ cap ∧ cap ≤ maxLen ∧ zs.length = cap ∧ (∀ i, i < zs.length → w.cell? (x.add i) = some (.int k (zs.getD i 0))) ∧ ∀ n ∈ zs, (Lit.int k n).wf = true) :
  ∃ l : List Int, len = l.length ∧ len ≤ cap ∧ cap ≤ maxLen ∧ Rd w w.heap.size a (l.map (.int k)) ∧ ∀ n ∈ l, (Lit.int k n).wf = true := by
 rcases h with ⟨rfl, rfl, rfl, rfl⟩ | ⟨x, rfl, hl, hm, hz, hc, hw⟩
 · exact ⟨[], rfl, Nat.le_refl _, by simp [maxLen], Rd.nil, by simp⟩
 ·
  refine ⟨zs.take len, by rw [List.length_take]; omega, hl, hm, fun hn => ?_, fun n hn => hw n (List.mem_of_mem_take hn)⟩
  have hp : 0 < zs.length := by simp at hn; omega
  obtain ⟨b, off, rfl, hcc⟩ := ints_at hc hp
  refine ⟨b, off, rfl, World.block_lt_of_cell? _ _ (hcc 0 hp), fun j u hu => ?_⟩
  have hj : j < zs.length := by
   rcases Nat.lt_or_ge j zs.length with h1 | h1
   · exact h1
   · rw [List.getElem?_eq_none (by simp; omega)] at hu; cases hu
  rw [hcc j hj]
  rw [List.getElem?_map, List.getElem?_take] at hu
  split at hu
  ·
   rw [List.getElem?_eq_getElem hj] at hu
   rw [← hu, List.getD_eq_getElem?_getD, List.getElem?_eq_getElem hj]; rfl
  · cases hu
theorem own_shape {w : World} {base : Nat} {e : TypeId} {size : Nat} {v : Value} {n : Nat} {xs : List Value} (h : w.ownsRow base e size v n xs) : ∃ A c, v = .slice A n c ∧ n ≤ c ∧ c ≤ maxLen := by
 rcases h.2 with ⟨rfl, rfl⟩ | ⟨g, cap, cur, rfl, hb, hg, hnc, hcm, hs, ht⟩
 · exact ⟨none, 0, rfl, Nat.le_refl _, by simp [maxLen]⟩
 · exact ⟨_, _, rfl, hnc, hcm⟩
theorem below_drewN {B : Nat} {a w : World} (h : Below B a w) (n : Nat) : Below B a (w.drewN n) := ⟨h.os, h.tape, h.output, h.size, h.block⟩
section
variable {P : Program} {w : World} {ops : Array Oper} {rest : List Oper} {o : Oper} {a : Act} {Q : Exit → Act → World → Prop}
theorem wpList_append_lit (hgd : o.guard = none) (s x : Operand) (t : TypeId)
  (ho : o.op = .call { callee := .builtin .append, args := #[s, x], argTypes := #[t, t] })
  (base : Nat) (e : TypeId) (z : Value) (size bytes : Nat) (ht : P.underlying t = some (.slice e))
  (hinfo : (P.info? e).map (fun i => (i.zero, i.size, i.bytes)) = some (some z, size, bytes)) (hzs : z.cells.size = size) (hsz : 0 < size)
  (v : Value) (n : Nat) (xs : List Value) (hs : a.eval s = v) (hown : w.ownsRow base e size v n xs)
  (us : Array Value) (m c : Nat) (e' : TypeId) (hx : a.eval x = .slice (some ⟨w.heap.size, 0, none⟩) m c) (hl : us.size = m * size) (h1 : ∀ u ∈ us.toList, u.oneCell' = true)
  (h63 : n + m ≤ 1000000) (hb : bytes ≤ 1000) (hbase : base ≤ w.heap.size)
  (h : ∀ A' c' w', n + m ≤ c' → c' ≤ maxLen → w'.ownsRow base e size (.slice A' (n + m) c') (n + m) (xs ++ us.toList) → Below base w w' → w.grownBy w' v.ownBlock → wpList P ops Q rest (a.put o.dst (.slice A' (n + m) c')) w') :
  wpList P ops Q (o :: rest) a (w.alloc (.cells us e')) := by
 obtain ⟨i, hi, hz, hsize, hby⟩ := info_parts hinfo
 refine wpList_append_own_at _ hgd s x t ho base e i z size bytes ht hi hz hsize hby hzs hsz v n xs hs (hown.alloc _) ⟨w.heap.size, 0, none⟩ m c us.toList hx (by simpa using hl) ?_ h1 (by simp only [maxLen]; omega) ?_ (by simp; omega) ?_
 ·
  intro j u hu
  rw [Addr.add_lit, Nat.zero_add]
  have hc := cell_of_row (w.alloc (.cells us e')) w.heap.size j us e' (0, 0) (heap_alloc_new w _)
  rw [hc, ← hu]; simp
 ·
  calc (n + m) * bytes ≤ 1000000 * 1000 := Nat.mul_le_mul h63 hb
   _ ≤ 140737488355328 := by decide
 ·
  intro v' w' hown' hg _ hat
  obtain ⟨A', c', rfl, h1, h2⟩ := own_shape hown'
  refine h A' c' w' h1 h2 hown' ?_ ?_
  · refine ((Below.refl _ _).alloc hbase _).grown hg (by simp; omega) fun k hk => (hown.lt k hk).1
  · exact ⟨hg.os, hg.tape, hg.output, by have := hg.size; simp at this; omega, fun k hk hne => (hg.block k (by simp; omega) hne).trans (Below.heap_alloc _ _ _ hk)⟩
theorem wpList_append_rd (hgd : o.guard = none) (s x : Operand) (t : TypeId)
  (ho : o.op = .call { callee := .builtin .append, args := #[s, x], argTypes := #[t, t] })
  (base : Nat) (e : TypeId) (z : Value) (bytes : Nat) (ht : P.underlying t = some (.slice e))
  (hinfo : (P.info? e).map (fun i => (i.zero, i.size, i.bytes)) = some (some z, 1, bytes)) (hzs : z.cells.size = 1)
  (v : Value) (n : Nat) (xs : List Value) (hs : a.eval s = v) (hown : w.ownsRow base e 1 v n xs)
  (B : Nat) (A : Option Addr) (m c : Nat) (news : List Value) (hx : a.eval x = .slice A m c) (hm : m = news.length) (hr : Rd w B A news) (h1 : ∀ u ∈ news, u.oneCell' = true)
  (h63 : n + m ≤ 1000000) (hb : bytes ≤ 1000) (hbase : base ≤ w.heap.size)
  (h : ∀ A' c' w', n + m ≤ c' → c' ≤ maxLen → w'.ownsRow base e 1 (.slice A' (n + m) c') (n + m) (xs ++ news) → Below base w w' → w.grownBy w' v.ownBlock → wpList P ops Q rest (a.put o.dst (.slice A' (n + m) c')) w') :
  wpList P ops Q (o :: rest) a w := by
 obtain ⟨i, hi, hz, hsize, hby⟩ := info_parts hinfo
 have hbytes : (n + m) * bytes ≤ 140737488355328 := by
  calc (n + m) * bytes ≤ 1000000 * 1000 := Nat.mul_le_mul h63 hb
   _ ≤ 140737488355328 := by decide
 have hbel : ∀ w', w.grownBy w' v.ownBlock → Below base w w' := fun w' hg => (Below.refl _ _).grown hg hbase fun k hk => (hown.lt k hk).1
 rcases A with _ | ad
 ·
  have hm0 : news = [] := by
   rcases news with _ | ⟨y, ys⟩
   · rfl
   · obtain ⟨_, _, he, _⟩ := hr (by simp); cases he
  subst hm0
  have hm1 : m = 0 := by simpa using hm
  subst hm1
  refine wpList_plain hgd fun K hK => ?_
  have hrun : (Builtin.append_ #[t, t] o.type #[v, .slice none 0 c]).run P w = .ok v w := by
   rcases hown.2 with ⟨rfl, rfl⟩ | ⟨g, cap, cur, rfl, _, _, hnc, _⟩
   · simp [Builtin.append_, run_underlying ht, sizeOf, typeInfo, hi, Builtin.lenOf, Builtin.firstCells]
   · simp [Builtin.append_, run_underlying ht, sizeOf, typeInfo, hi, Builtin.lenOf, Builtin.firstCells, hnc, storeCells]
  unfold Oper.wp execOp
  simp only [ho, resolve, invoke, builtin, Sem.run_bind, Sem.run_pure, Result.andThen_ok, List.map_toArray, List.map_cons, List.map_nil, hs, hx, hrun]
  obtain ⟨A', c', rfl, h2, h3⟩ := own_shape hown
  exact hK _ _ (h A' c' w (by omega) h3 (by simpa using hown) (Below.refl _ _) (World.grownBy.refl _ _))
 ·
  refine wpList_append_own_at _ hgd s x t ho base e i z 1 bytes ht hi hz hsize hby hzs (by decide) v n xs hs hown ad m c news hx (by omega) ?_ h1 (by simp only [maxLen]; omega) hbytes hbase ?_
  ·
   intro j u hu
   have hj : j < news.length := by
    rcases Nat.lt_or_ge j news.length with h2 | h2
    · exact h2
    · rw [List.getElem?_eq_none h2] at hu; cases hu
   obtain ⟨b, off, e1, _, hc⟩ := hr (by omega)
   injection e1 with e1
   subst e1
   rw [Addr.add_lit]
   exact hc j u hu
  ·
   intro v' w' hown' hg _ _
   obtain ⟨A', c', rfl, h2, h3⟩ := own_shape hown'
   exact h A' c' w' h2 h3 hown' (hbel _ hg) hg
end
theorem ret_int {k : IntKind} {a b : Int} (h : a = b) : Ending.returned (.int k a) = .returned (.int k b) := by rw [h]
theorem ret_bool {a b : Bool} (h : a = b) : Ending.returned (.bool a) = .returned (.bool b) := by rw [h]
theorem own_below {w w' : World} {base B : Nat} {e : TypeId} {size : Nat} {v : Value} {n : Nat} {xs : List Value} (h : w.ownsRow base e size v n xs) (hb : Below B w w')
  (hB : w.heap.size ≤ B) : w'.ownsRow base e size v n xs :=
 h.kept (row := none) ⟨hb.os, hb.tape, hb.output, hb.size, fun k hk _ => hb.block k (by omega)⟩ (by cases v.ownBlock <;> simp)
theorem own_base {w : World} {base base' : Nat} {e : TypeId} {size : Nat} {v : Value} {n : Nat} {xs : List Value} (h : w.ownsRow base e size v n xs) (hb : base' ≤ base) : w.ownsRow base' e size v n xs := by
 refine ⟨h.1, ?_⟩
 rcases h.2 with hn | ⟨g, cap, cur, rfl, hg, rest⟩
 · exact .inl hn
 · exact .inr ⟨g, cap, cur, rfl, by omega, rest⟩
def Box (w : World) (g : Nat) (t : TypeId) (v : Value) : Prop := w.heap[g]? = some (.cells #[v] t (0, 0))
theorem Box.cell {w : World} {g : Nat} {t : TypeId} {v : Value} (h : Box w g t v) : w.cell? ⟨g, 0, none⟩ = some v := cell_of_one h
theorem Box.set {w : World} {g : Nat} {t : TypeId} {v : Value} (h : Box w g t v) (u : Value) : Box (w.setCell ⟨g, 0, none⟩ u) g t u := one_setCell h
theorem Box.keep {w w' : World} {g : Nat} {t : TypeId} {v : Value} (h : Box w g t v) (hk : w'.heap[g]? = w.heap[g]?) : Box w' g t v := hk.trans h
theorem Box.below {w w' : World} {g B : Nat} {t : TypeId} {v : Value} (h : Box w g t v) (hb : Below B w w') (hg : g < B) : Box w' g t v := (hb.block g hg).trans h
theorem Box.lt {w : World} {g : Nat} {t : TypeId} {v : Value} (h : Box w g t v) : g < w.heap.size := lt_of_block h
theorem Box.new (w : World) (t : TypeId) (v : Value) : Box (w.alloc (.cells #[v] t)) w.heap.size t v := heap_alloc_new w _
def runes (l : List Int) : List Value := l.map (Value.int .i32)
def bytes (l : List UInt8) : List Value := l.map fun c => Value.int .u8 (c.toNat : Int)
theorem runes_len (l : List Int) : (runes l).length = l.length := List.length_map ..
theorem bytes_len (l : List UInt8) : (bytes l).length = l.length := List.length_map ..
theorem runes_append (a b : List Int) : runes (a ++ b) = runes a ++ runes b := List.map_append ..
theorem bytes_append (a b : List UInt8) : bytes (a ++ b) = bytes a ++ bytes b := List.map_append ..
theorem runes_one (l : List Int) : ∀ u ∈ runes l, u.oneCell' = true := ints_oneCell _ l
theorem take_snoc' {α : Type} (l : List α) (k : Nat) (h : k < l.length) : l.take (k + 1) = l.take k ++ [l[k]] := by
 rw [List.take_add_one, List.getElem?_eq_getElem h]; rfl
end Go.Proofs.YtoapelcofjjdnaaGreatDoor
namespace Go.Proofs.YtoapelcofjjdnaaGreatDoor
set_option linter.all false
open Go.RowKit
def byteOf (n : Int) : UInt8 := UInt8.ofNat n.toNat
theorem byteOf_nat {n : Int} (h0 : 0 ≤ n) (h1 : n < 256) : ((byteOf n).toNat : Int) = n := by
 unfold byteOf
 rw [UInt8.toNat_ofNat']
 omega
theorem byteOf_toNat {n : Int} (h0 : 0 ≤ n) (h1 : n < 256) : (byteOf n).toNat = n.toNat := by have := byteOf_nat h0 h1; omega
theorem byteOf_self (c : UInt8) : byteOf (c.toNat : Int) = c := by
 unfold byteOf; simp
theorem byte_lt (c : UInt8) : c.toNat < 256 := UInt8.toNat_lt c
theorem byte_ext {a b : UInt8} (h : a.toNat = b.toNat) : a = b := UInt8.toNat_inj.1 h
def cpOk (r : Int) : Bool := decide (0 ≤ r ∧ r ≤ 1114111 ∧ (r < 55296 ∨ 57343 < r))
def cpFix (r : Int) : Int := if cpOk r = true then r else 65533
def cpSize (r : Int) : Nat := if r < 128 then 1 else if r < 2048 then 2 else if r < 65536 then 3 else 4
theorem cpOk_iff {r : Int} : cpOk r = true ↔ 0 ≤ r ∧ r ≤ 1114111 ∧ (r < 55296 ∨ 57343 < r) := decide_eq_true_iff
theorem cpFix_ok (r : Int) : cpOk (cpFix r) = true := by
 unfold cpFix; split
 · assumption
 · decide
theorem cpFix_of {r : Int} (h : cpOk r = true) : cpFix r = r := if_pos h
def enc0 (r : Int) : List UInt8 :=
 if r < 128 then [byteOf r]
 else if r < 2048 then [byteOf (192 + r / 64), byteOf (128 + r % 64)]
 else if r < 65536 then [byteOf (224 + r / 4096), byteOf (128 + r / 64 % 64), byteOf (128 + r % 64)]
 else [byteOf (240 + r / 262144), byteOf (128 + r / 4096 % 64), byteOf (128 + r / 64 % 64), byteOf (128 + r % 64)]
def enc1 (r : Int) : List UInt8 := enc0 (cpFix r)
def uEnc (l : List Int) : List UInt8 := l.flatMap enc1
theorem enc0_len (r : Int) : (enc0 r).length = cpSize r := by
 unfold enc0 cpSize; repeat' split
 all_goals rfl
theorem cpSize_le (r : Int) : 1 ≤ cpSize r ∧ cpSize r ≤ 4 := by unfold cpSize; (repeat' split) <;> omega
def bt (l : List UInt8) (j : Nat) : Int := ((l.getD j 0).toNat : Int)
theorem bt_range (l : List UInt8) (j : Nat) : 0 ≤ bt l j ∧ bt l j < 256 := by unfold bt; have := byte_lt (l.getD j 0); omega
def val2 (l : List UInt8) : Int := (bt l 0 - 192) * 64 + (bt l 1 - 128)
def val3 (l : List UInt8) : Int := ((bt l 0 - 224) * 64 + (bt l 1 - 128)) * 64 + (bt l 2 - 128)
def val4 (l : List UInt8) : Int := (((bt l 0 - 240) * 64 + (bt l 1 - 128)) * 64 + (bt l 2 - 128)) * 64 + (bt l 3 - 128)
def cont (x : Int) : Prop := 128 ≤ x ∧ x < 192
instance (x : Int) : Decidable (cont x) := inferInstanceAs (Decidable (_ ∧ _))
def dec1 (l : List UInt8) : Int × Nat :=
 if bt l 0 < 128 then (bt l 0, 1)
 else if 2 ≤ l.length ∧ (192 ≤ bt l 0 ∧ bt l 0 < 224) ∧ cont (bt l 1) ∧ 128 ≤ val2 l then (val2 l, 2)
 else if 3 ≤ l.length ∧ (224 ≤ bt l 0 ∧ bt l 0 < 240) ∧ cont (bt l 1) ∧ cont (bt l 2) ∧ 2048 ≤ val3 l ∧ (val3 l < 55296 ∨ 57343 < val3 l) then (val3 l, 3)
 else if 4 ≤ l.length ∧ (240 ≤ bt l 0 ∧ bt l 0 < 248) ∧ cont (bt l 1) ∧ cont (bt l 2) ∧ cont (bt l 3) ∧ 65536 ≤ val4 l ∧ val4 l ≤ 1114111 then (val4 l, 4)
 else (65533, 0)
theorem dec1_le (l : List UInt8) : (dec1 l).2 ≤ 4 := by unfold dec1; (repeat' split) <;> simp
theorem dec1_len {l : List UInt8} (h : 0 < l.length) : (dec1 l).2 ≤ l.length := by
 unfold dec1; repeat' split
 all_goals simp only []
 all_goals omega
theorem dec1_ok (l : List UInt8) : cpOk (dec1 l).1 = true := by
 have h0 := bt_range l 0
 have h1 := bt_range l 1
 have h2 := bt_range l 2
 rw [cpOk_iff]
 unfold dec1; repeat' split
 all_goals simp only [val2, val3, val4, cont] at *
 all_goals omega
def uDecF : Nat → List UInt8 → List Int
 | 0, _ => []
 | _ + 1, [] => []
 | f + 1, a :: t => (dec1 (a :: t)).1 :: uDecF f ((a :: t).drop (max (dec1 (a :: t)).2 1))
def uDec (l : List UInt8) : List Int := uDecF l.length l
theorem uDecF_more : ∀ (f g : Nat) (l : List UInt8), l.length ≤ f → l.length ≤ g → uDecF f l = uDecF g l := by
 intro f
 induction f with
 | zero =>
  intro g l h _
  have : l = [] := List.eq_nil_of_length_eq_zero (by omega)
  subst this
  cases g <;> rfl
 | succ f ih =>
  intro g l hf hg
  match l, g with
  | [], 0 => rfl
  | [], _ + 1 => rfl
  | a :: t, 0 => simp at hg
  | a :: t, g + 1 =>
   simp only [uDecF]
   refine congrArg (List.cons _) ?_
   have hl : ((a :: t).drop (max (dec1 (a :: t)).2 1)).length ≤ t.length := by rw [List.length_drop, List.length_cons]; omega
   simp only [List.length_cons] at hf hg
   exact ih g _ (by omega) (by omega)
theorem uDec_nil : uDec [] = [] := rfl
theorem uDec_step {l : List UInt8} (h : 0 < l.length) : uDec l = (dec1 l).1 :: uDec (l.drop (max (dec1 l).2 1)) := by
 match l, h with
 | a :: t, _ =>
  unfold uDec
  rw [List.length_cons]
  simp only [uDecF]
  refine congrArg (List.cons _) ?_
  refine uDecF_more _ _ _ ?_ (Nat.le_refl _)
  rw [List.length_drop, List.length_cons]; omega
theorem uDec_len_le (l : List UInt8) : (uDec l).length ≤ l.length := by
 suffices h : ∀ (n : Nat) (l : List UInt8), l.length ≤ n → (uDec l).length ≤ l.length from h _ l (Nat.le_refl _)
 intro n
 induction n with
 | zero => intro l h; rw [List.eq_nil_of_length_eq_zero (by omega : l.length = 0)]; simp [uDec_nil]
 | succ n ih =>
  intro l hl
  rcases Nat.eq_zero_or_pos l.length with h0 | h0
  · rw [List.eq_nil_of_length_eq_zero h0]; simp [uDec_nil]
  ·
   rw [uDec_step h0, List.length_cons]
   have := ih (l.drop (max (dec1 l).2 1)) (by rw [List.length_drop]; omega)
   rw [List.length_drop] at this
   omega
theorem dec1_enc0 {r : Int} (h : cpOk r = true) (t : List UInt8) : dec1 (enc0 r ++ t) = (r, cpSize r) := by
 rw [cpOk_iff] at h
 unfold enc0 cpSize
 by_cases h1 : r < 128
 ·
  have e0 : bt ([byteOf r] ++ t) 0 = r := byteOf_nat (by omega) (by omega)
  simp only [if_pos h1]
  unfold dec1
  rw [e0, if_pos h1]
 by_cases h2 : r < 2048
 ·
  simp only [if_neg h1, if_pos h2]
  have e0 : bt ([byteOf (192 + r / 64), byteOf (128 + r % 64)] ++ t) 0 = 192 + r / 64 := byteOf_nat (by omega) (by omega)
  have e1 : bt ([byteOf (192 + r / 64), byteOf (128 + r % 64)] ++ t) 1 = 128 + r % 64 := byteOf_nat (by omega) (by omega)
  unfold dec1 val2 cont
  rw [e0, e1, if_neg (by omega), if_pos (by simp only [List.length_append, List.length_cons]; omega)]
  congr 1
  omega
 by_cases h3 : r < 65536
 ·
  simp only [if_neg h1, if_neg h2, if_pos h3]
  have e0 : bt ([byteOf (224 + r / 4096), byteOf (128 + r / 64 % 64), byteOf (128 + r % 64)] ++ t) 0 = 224 + r / 4096 := byteOf_nat (by omega) (by omega)
  have e1 : bt ([byteOf (224 + r / 4096), byteOf (128 + r / 64 % 64), byteOf (128 + r % 64)] ++ t) 1 = 128 + r / 64 % 64 := byteOf_nat (by omega) (by omega)
  have e2 : bt ([byteOf (224 + r / 4096), byteOf (128 + r / 64 % 64), byteOf (128 + r % 64)] ++ t) 2 = 128 + r % 64 := byteOf_nat (by omega) (by omega)
  unfold dec1 val2 val3 cont
  rw [e0, e1, e2, if_neg (by omega), if_neg (by omega), if_pos (by simp only [List.length_append, List.length_cons]; omega)]
  congr 1
  omega
 ·
  simp only [if_neg h1, if_neg h2, if_neg h3]
  have e0 : bt ([byteOf (240 + r / 262144), byteOf (128 + r / 4096 % 64), byteOf (128 + r / 64 % 64), byteOf (128 + r % 64)] ++ t) 0 = 240 + r / 262144 := byteOf_nat (by omega) (by omega)
  have e1 : bt ([byteOf (240 + r / 262144), byteOf (128 + r / 4096 % 64), byteOf (128 + r / 64 % 64), byteOf (128 + r % 64)] ++ t) 1 = 128 + r / 4096 % 64 := byteOf_nat (by omega) (by omega)
  have e2 : bt ([byteOf (240 + r / 262144), byteOf (128 + r / 4096 % 64), byteOf (128 + r / 64 % 64), byteOf (128 + r % 64)] ++ t) 2 = 128 + r / 64 % 64 := byteOf_nat (by omega) (by omega)
  have e3 : bt ([byteOf (240 + r / 262144), byteOf (128 + r / 4096 % 64), byteOf (128 + r / 64 % 64), byteOf (128 + r % 64)] ++ t) 3 = 128 + r % 64 := byteOf_nat (by omega) (by omega)
  unfold dec1 val2 val3 val4 cont
  rw [e0, e1, e2, e3, if_neg (by omega), if_neg (by omega), if_neg (by omega), if_pos (by simp only [List.length_append, List.length_cons]; omega)]
  congr 1
  omega
theorem uDec_enc (l : List Int) (t : List UInt8) : uDec (uEnc l ++ t) = l.map cpFix ++ uDec t := by
 induction l with
 | nil => rfl
 | cons x l ih =>
  have e : uEnc (x :: l) ++ t = enc0 (cpFix x) ++ (uEnc l ++ t) := by simp [uEnc, enc1]
  have hs := cpSize_le (cpFix x)
  have hl := enc0_len (cpFix x)
  rw [e, uDec_step (by rw [List.length_append]; omega), dec1_enc0 (cpFix_ok x)]
  simp only [List.map_cons, List.cons_append]
  rw [Nat.max_eq_left hs.1, ← hl, List.drop_left, ih]
set_option maxRecDepth 20000 in
theorem ex1 {l : List UInt8} (h : 0 < l.length) : ∃ a t, l = a :: t := by
 cases l with
 | nil => simp at h
 | cons a t => exact ⟨a, t, rfl⟩
theorem ex2 {l : List UInt8} (h : 2 ≤ l.length) : ∃ a b t, l = a :: b :: t := by
 obtain ⟨a, t, rfl⟩ := ex1 (l := l) (by omega)
 obtain ⟨b, t, rfl⟩ := ex1 (l := t) (by simp at h; omega)
 exact ⟨a, b, t, rfl⟩
theorem ex3 {l : List UInt8} (h : 3 ≤ l.length) : ∃ a b c t, l = a :: b :: c :: t := by
 obtain ⟨a, b, t, rfl⟩ := ex2 (l := l) (by omega)
 obtain ⟨c, t, rfl⟩ := ex1 (l := t) (by simp at h; omega)
 exact ⟨a, b, c, t, rfl⟩
theorem ex4 {l : List UInt8} (h : 4 ≤ l.length) : ∃ a b c d t, l = a :: b :: c :: d :: t := by
 obtain ⟨a, b, c, t, rfl⟩ := ex3 (l := l) (by omega)
 obtain ⟨d, t, rfl⟩ := ex1 (l := t) (by simp at h; omega)
 exact ⟨a, b, c, d, t, rfl⟩
theorem take_dec1 {l : List UInt8} (h : 0 < (dec1 l).2) (hl : 0 < l.length) : l.take (dec1 l).2 = enc1 (dec1 l).1 := by
 have ho := dec1_ok l
 unfold enc1
 rw [cpFix_of ho]
 have b0 := bt_range l 0
 have b1 := bt_range l 1
 have b2 := bt_range l 2
 have b3 := bt_range l 3
 by_cases c1 : bt l 0 < 128
 ·
  have e : dec1 l = (bt l 0, 1) := by unfold dec1; rw [if_pos c1]
  rw [e]
  obtain ⟨a, t, rfl⟩ := ex1 hl
  have e0 : bt (a :: t) 0 = (a.toNat : Int) := rfl
  unfold enc0
  simp only []
  rw [if_pos c1, e0, byteOf_self]; rfl
 by_cases c2 : 2 ≤ l.length ∧ (192 ≤ bt l 0 ∧ bt l 0 < 224) ∧ cont (bt l 1) ∧ 128 ≤ val2 l
 ·
  have e : dec1 l = (val2 l, 2) := by unfold dec1; rw [if_neg c1, if_pos c2]
  rw [e]
  obtain ⟨a, b, t, rfl⟩ := ex2 c2.1
  have e0 : bt (a :: b :: t) 0 = (a.toNat : Int) := rfl
  have e1 : bt (a :: b :: t) 1 = (b.toNat : Int) := rfl
  unfold val2 cont at c2
  unfold enc0 val2
  rw [e0, e1] at c2 ⊢
  simp only []
  rw [if_neg (by omega), if_pos (by omega), show (192 : Int) + (((a.toNat : Int) - 192) * 64 + ((b.toNat : Int) - 128)) / 64 = (a.toNat : Int) from by omega,
   show (128 : Int) + (((a.toNat : Int) - 192) * 64 + ((b.toNat : Int) - 128)) % 64 = (b.toNat : Int) from by omega, byteOf_self, byteOf_self]
  rfl
 by_cases c3 : 3 ≤ l.length ∧ (224 ≤ bt l 0 ∧ bt l 0 < 240) ∧ cont (bt l 1) ∧ cont (bt l 2) ∧ 2048 ≤ val3 l ∧ (val3 l < 55296 ∨ 57343 < val3 l)
 ·
  have e : dec1 l = (val3 l, 3) := by unfold dec1; rw [if_neg c1, if_neg c2, if_pos c3]
  rw [e]
  clear c2
  obtain ⟨a, b, c, t, rfl⟩ := ex3 c3.1
  have e0 : bt (a :: b :: c :: t) 0 = (a.toNat : Int) := rfl
  have e1 : bt (a :: b :: c :: t) 1 = (b.toNat : Int) := rfl
  have e2 : bt (a :: b :: c :: t) 2 = (c.toNat : Int) := rfl
  unfold val3 cont at c3
  unfold enc0 val3
  rw [e0, e1, e2] at c3 ⊢
  simp only []
  rw [if_neg (by omega), if_neg (by omega), if_pos (by omega), show (224 : Int) + ((((a.toNat : Int) - 224) * 64 + ((b.toNat : Int) - 128)) * 64 + ((c.toNat : Int) - 128)) / 4096 = (a.toNat : Int) from by omega,
   show (128 : Int) + ((((a.toNat : Int) - 224) * 64 + ((b.toNat : Int) - 128)) * 64 + ((c.toNat : Int) - 128)) / 64 % 64 = (b.toNat : Int) from by omega,
   show (128 : Int) + ((((a.toNat : Int) - 224) * 64 + ((b.toNat : Int) - 128)) * 64 + ((c.toNat : Int) - 128)) % 64 = (c.toNat : Int) from by omega, byteOf_self, byteOf_self, byteOf_self]
  rfl
 by_cases c4 : 4 ≤ l.length ∧ (240 ≤ bt l 0 ∧ bt l 0 < 248) ∧ cont (bt l 1) ∧ cont (bt l 2) ∧ cont (bt l 3) ∧ 65536 ≤ val4 l ∧ val4 l ≤ 1114111
 ·
  have e : dec1 l = (val4 l, 4) := by unfold dec1; rw [if_neg c1, if_neg c2, if_neg c3, if_pos c4]
  rw [e]
  clear c2 c3
  obtain ⟨a, b, c, d, t, rfl⟩ := ex4 c4.1
  have e0 : bt (a :: b :: c :: d :: t) 0 = (a.toNat : Int) := rfl
  have e1 : bt (a :: b :: c :: d :: t) 1 = (b.toNat : Int) := rfl
  have e2 : bt (a :: b :: c :: d :: t) 2 = (c.toNat : Int) := rfl
  have e3 : bt (a :: b :: c :: d :: t) 3 = (d.toNat : Int) := rfl
  unfold val4 cont at c4
  unfold enc0 val4
  rw [e0, e1, e2, e3] at c4 ⊢
  simp only []
  rw [if_neg (by omega), if_neg (by omega), if_neg (by omega), show (240 : Int) + (((((a.toNat : Int) - 240) * 64 + ((b.toNat : Int) - 128)) * 64 + ((c.toNat : Int) - 128)) * 64 + ((d.toNat : Int) - 128)) / 262144 = (a.toNat : Int) from by omega,
   show (128 : Int) + (((((a.toNat : Int) - 240) * 64 + ((b.toNat : Int) - 128)) * 64 + ((c.toNat : Int) - 128)) * 64 + ((d.toNat : Int) - 128)) / 4096 % 64 = (b.toNat : Int) from by omega,
   show (128 : Int) + (((((a.toNat : Int) - 240) * 64 + ((b.toNat : Int) - 128)) * 64 + ((c.toNat : Int) - 128)) * 64 + ((d.toNat : Int) - 128)) / 64 % 64 = (c.toNat : Int) from by omega,
   show (128 : Int) + (((((a.toNat : Int) - 240) * 64 + ((b.toNat : Int) - 128)) * 64 + ((c.toNat : Int) - 128)) * 64 + ((d.toNat : Int) - 128)) % 64 = (d.toNat : Int) from by omega, byteOf_self, byteOf_self, byteOf_self, byteOf_self]
  rfl
 ·
  have e : dec1 l = (65533, 0) := by unfold dec1; rw [if_neg c1, if_neg c2, if_neg c3, if_neg c4]
  rw [e] at h
  simp at h
set_option maxRecDepth 20000 in
theorem uDec_ok (l : List UInt8) : ∀ r ∈ uDec l, cpOk r = true := by
 suffices h : ∀ (n : Nat) (l : List UInt8), l.length ≤ n → ∀ r ∈ uDec l, cpOk r = true from h _ l (Nat.le_refl _)
 intro n
 induction n with
 | zero => intro l h; rw [List.eq_nil_of_length_eq_zero (by omega : l.length = 0)]; simp [uDec_nil]
 | succ n ih =>
  intro l hl r hr
  rcases Nat.eq_zero_or_pos l.length with h0 | h0
  · rw [List.eq_nil_of_length_eq_zero h0] at hr; simp [uDec_nil] at hr
  ·
   rw [uDec_step h0, List.mem_cons] at hr
   rcases hr with rfl | hr
   · exact dec1_ok l
   · exact ih _ (by rw [List.length_drop]; omega) r hr
theorem map_cpFix {l : List Int} (h : ∀ r ∈ l, cpOk r = true) : l.map cpFix = l := by
 induction l with
 | nil => rfl
 | cons x l ih =>
  rw [List.map_cons, cpFix_of (h x (by simp)), ih fun r hr => h r (by simp [hr])]
end Go.Proofs.YtoapelcofjjdnaaGreatDoor
namespace Go.Proofs.YtoapelcofjjdnaaGreatDoor
set_option linter.all false
open Go.RowKit
def str (l : List UInt8) : ByteArray := ⟨l.toArray⟩
theorem str_data (l : List UInt8) : (str l).data.toList = l := by simp [str]
theorem str_size (l : List UInt8) : (str l).size = l.length := by simp [str, ByteArray.size]
theorem str_of (s : ByteArray) : str s.data.toList = s := by
 cases s; simp [str]
theorem str_inj {a b : List UInt8} (h : str a = str b) : a = b := by rw [← str_data a, h, str_data]
theorem run_str {P : Program} {w : World} {src dst e : TypeId} {B : Nat} {A : Option Addr} {c : Nat} {l : List UInt8} (hs : P.underlying src = some (.slice e)) (he : P.underlying e = some (.int .u8)) (hd : P.underlying dst = some .string)
  (hr : Rd w B A (bytes l)) : (convert src dst (.slice A l.length c)).run P w = .ok (.string (str l)) w := by
 rcases Nat.eq_zero_or_pos l.length with h0 | h0
 ·
  rw [run_convert_bytes_string w src dst e A l.length c hs he hd]
  have h00 : l = [] := List.eq_nil_of_length_eq_zero h0
  subst h00
  cases A <;> simp [Conv.bytesToString, Sem.run_pure, str, loadCells, loadCellsFrom] <;> rfl
 ·
  obtain ⟨b, off, rfl, _, hc⟩ := hr (by rw [bytes_len]; exact h0)
  refine run_convert_bytes_back w src dst e ⟨b, off, none⟩ c l hs he hd fun j hj => ?_
  rw [Addr.add_lit]
  refine hc j _ ?_
  unfold bytes
  rw [List.getElem?_map, List.getElem?_eq_getElem hj]; rfl
def Row (w : World) (g : Nat) (xs : List Value) : Prop :=
 (∀ j u, xs[j]? = some u → w.cell? ⟨g, j, none⟩ = some u) ∧ (∀ j, j < xs.length → w.frozen? ⟨g, j, none⟩ = false) ∧ g < w.heap.size
theorem Row.rd {w : World} {g : Nat} {xs : List Value} (h : Row w g xs) {B : Nat} (hB : g < B) : Rd w B (some ⟨g, 0, none⟩) xs := fun _ => ⟨g, 0, rfl, hB, fun j u hu => by rw [Nat.zero_add]; exact h.1 j u hu⟩
theorem Row.below {w w' : World} {g B : Nat} {xs : List Value} (h : Row w g xs) (hb : Below B w w') (hg : g < B) : Row w' g xs :=
 ⟨fun j u hu => (hb.cell (p := ⟨g, j, none⟩) hg).trans (h.1 j u hu), fun j hj => (hb.frozen (p := ⟨g, j, none⟩) hg).trans (h.2.1 j hj), Nat.lt_of_lt_of_le h.2.2 hb.size⟩
theorem Row.set {w : World} {g : Nat} {xs : List Value} (h : Row w g xs) {j : Nat} (hj : j < xs.length) (u : Value) : Row (w.setCell ⟨g, j, none⟩ u) g (xs.set j u) := by
 obtain ⟨h1, h2, h3⟩ := h
 refine ⟨fun i v hv => ?_, fun i hi => ?_, by simpa [World.setCell] using h3⟩
 ·
  by_cases hij : i = j
  ·
   subst hij
   rw [List.getElem?_set_self hj] at hv
   injection hv with hv
   subst hv
   have hc := h1 i xs[i] (List.getElem?_eq_getElem hj)
   exact World.cell?_setCell_same (w := w) (a := ⟨g, i, none⟩) u hc
  ·
   rw [List.getElem?_set_ne (fun e => hij e.symm)] at hv
   rw [World.cell?_setCell_other w _ _ u (by intro e; injection e with _ e; exact hij e.symm)]
   exact h1 i v hv
 ·
  rw [List.length_set] at hi
  rw [World.frozen?_setCell]
  exact h2 i hi
section
variable {P : Program} {w : World} {ops : Array Oper} {rest : List Oper} {o : Oper} {a : Act} {Q : Exit → Act → World → Prop}
end
end Go.Proofs.YtoapelcofjjdnaaGreatDoor
namespace Go.Proofs.YtoapelcofjjdnaaGreatDoor
set_option linter.all false
open Go.RowKit
def pLow (c : UInt8) : Bool := decide (c.toNat < 32 ∨ 126 < c.toNat)
def txt1 : List UInt8 := [32, 34, 60, 62, 96]
def txt2 : List UInt8 := [32, 34, 35, 60, 62]
def txt3 : List UInt8 := [32, 34, 35, 60, 62, 39]
def txt4 : List UInt8 := [32, 34, 35, 60, 62, 63, 94, 96, 123, 125]
def txt5 : List UInt8 := [32, 34, 35, 60, 62, 63, 94, 96, 123, 125, 47, 58, 59, 61, 64, 91, 92, 93, 124]
def txt6 : List UInt8 := [42, 45, 46, 95]
def alnum (c : UInt8) : Bool := decide ((97 ≤ c.toNat ∧ c.toNat ≤ 122) ∨ (65 ≤ c.toNat ∧ c.toNat ≤ 90) ∨ (48 ≤ c.toNat ∧ c.toNat ≤ 57))
def pForm (c : UInt8) : Bool := pLow c || (!alnum c && !txt6.contains c)
def pIn (s : Int) (c : UInt8) : Bool :=
 if s = 0 then pLow c
 else if s = 1 then pLow c || txt1.contains c
 else if s = 2 then pLow c || txt2.contains c
 else if s = 3 then pLow c || txt3.contains c
 else if s = 4 then pLow c || txt4.contains c
 else if s = 5 then pLow c || txt5.contains c
 else if s = 6 then pForm c
 else false
def hexU (n : Nat) : UInt8 := if n < 10 then UInt8.ofNat (48 + n) else UInt8.ofNat (55 + n)
def esc (c : UInt8) : List UInt8 := [37, hexU (c.toNat / 16), hexU (c.toNat % 16)]
def pEnc1 (s : Int) (c : UInt8) : List UInt8 := if s = 6 ∧ c = 32 then [43] else if pIn s c = true then esc c else [c]
def pEnc (s : Int) (l : List UInt8) : List UInt8 := l.flatMap (pEnc1 s)
def hexV (c : UInt8) : Int :=
 if 48 ≤ c.toNat ∧ c.toNat ≤ 57 then (c.toNat : Int) - 48
 else if 97 ≤ c.toNat ∧ c.toNat ≤ 102 then (c.toNat : Int) - 87
 else if 65 ≤ c.toNat ∧ c.toNat ≤ 70 then (c.toNat : Int) - 55
 else -1
theorem hexV_range (c : UInt8) : -1 ≤ hexV c ∧ hexV c < 16 := by unfold hexV; (repeat' split) <;> omega
def pStep (l : List UInt8) : UInt8 × Nat :=
 if 3 ≤ l.length ∧ l.getD 0 0 = 37 ∧ 0 ≤ hexV (l.getD 1 0) ∧ 0 ≤ hexV (l.getD 2 0) then (byteOf (hexV (l.getD 1 0) * 16 + hexV (l.getD 2 0)), 3) else (l.getD 0 0, 1)
theorem pStep_pos (l : List UInt8) : 1 ≤ (pStep l).2 ∧ (pStep l).2 ≤ 3 := by unfold pStep; split <;> simp
def pDecF : Nat → List UInt8 → List UInt8
 | 0, _ => []
 | _ + 1, [] => []
 | f + 1, a :: t => (pStep (a :: t)).1 :: pDecF f ((a :: t).drop (pStep (a :: t)).2)
def pDec (l : List UInt8) : List UInt8 := pDecF l.length l
theorem pDecF_more : ∀ (f g : Nat) (l : List UInt8), l.length ≤ f → l.length ≤ g → pDecF f l = pDecF g l := by
 intro f
 induction f with
 | zero =>
  intro g l h _
  have : l = [] := List.eq_nil_of_length_eq_zero (by omega)
  subst this
  cases g <;> rfl
 | succ f ih =>
  intro g l hf hg
  match l, g with
  | [], 0 => rfl
  | [], _ + 1 => rfl
  | a :: t, 0 => simp at hg
  | a :: t, g + 1 =>
   simp only [pDecF]
   refine congrArg (List.cons _) ?_
   have hp := pStep_pos (a :: t)
   have hl : ((a :: t).drop (pStep (a :: t)).2).length ≤ t.length := by rw [List.length_drop, List.length_cons]; omega
   simp only [List.length_cons] at hf hg
   exact ih g _ (by omega) (by omega)
theorem pDec_nil : pDec [] = [] := rfl
theorem pDec_step {l : List UInt8} (h : 0 < l.length) : pDec l = (pStep l).1 :: pDec (l.drop (pStep l).2) := by
 match l, h with
 | a :: t, _ =>
  unfold pDec
  rw [List.length_cons]
  simp only [pDecF]
  refine congrArg (List.cons _) ?_
  have hp := pStep_pos (a :: t)
  refine pDecF_more _ _ _ ?_ (Nat.le_refl _)
  rw [List.length_drop, List.length_cons]; omega
theorem pDec_len_le (l : List UInt8) : (pDec l).length ≤ l.length := by
 suffices h : ∀ (n : Nat) (l : List UInt8), l.length ≤ n → (pDec l).length ≤ l.length from h _ l (Nat.le_refl _)
 intro n
 induction n with
 | zero => intro l h; rw [List.eq_nil_of_length_eq_zero (by omega : l.length = 0)]; simp [pDec_nil]
 | succ n ih =>
  intro l hl
  rcases Nat.eq_zero_or_pos l.length with h0 | h0
  · rw [List.eq_nil_of_length_eq_zero h0]; simp [pDec_nil]
  ·
   have hp := pStep_pos l
   rw [pDec_step h0, List.length_cons]
   have := ih (l.drop (pStep l).2) (by rw [List.length_drop]; omega)
   rw [List.length_drop] at this
   omega
theorem pDec_plain {c : UInt8} (h : c ≠ 37) (t : List UInt8) : pDec (c :: t) = c :: pDec t := by
 have e : pStep (c :: t) = (c, 1) := by
  unfold pStep
  rw [if_neg (by rintro ⟨_, h1, _⟩; exact h h1)]; rfl
 rw [pDec_step (by simp), e]; rfl
theorem pEnc_cons (s : Int) (c : UInt8) (l : List UInt8) : pEnc s (c :: l) = pEnc1 s c ++ pEnc s l := by simp [pEnc]
theorem pEnc_append (s : Int) (a b : List UInt8) : pEnc s (a ++ b) = pEnc s a ++ pEnc s b := by simp [pEnc]
theorem pEnc1_len (s : Int) (c : UInt8) : 1 ≤ (pEnc1 s c).length ∧ (pEnc1 s c).length ≤ 3 := by unfold pEnc1 esc; (repeat' split) <;> simp
theorem pEnc_le (s : Int) (l : List UInt8) : (pEnc s l).length ≤ 3 * l.length := by
 induction l with
 | nil => simp [pEnc]
 | cons c l ih => rw [pEnc_cons, List.length_append, List.length_cons]; have := (pEnc1_len s c).2; omega
end Go.Proofs.YtoapelcofjjdnaaGreatDoor
namespace Go.Proofs.YtoapelcofjjdnaaGreatDoor
set_option linter.all false
open Go.RowKit
end Go.Proofs.YtoapelcofjjdnaaGreatDoor
namespace Go.Proofs.YtoapelcofjjdnaaGreatDoor
set_option linter.all false
open Go.RowKit
def edge (k bias : Int) : Int := max 1 (min (k - bias) 26)
theorem edge_range (k bias : Int) : 1 ≤ edge k bias ∧ edge k bias ≤ 26 := by unfold edge; omega
def adF : Nat → Int → Int → Int
 | 0, d, k => k + 36 * d / (d + 38)
 | f + 1, d, k => if 455 < d then adF f (d / 35) (k + 36) else k + 36 * d / (d + 38)
theorem adF_more : ∀ (f g : Nat) (d k : Int), d ≤ f → d ≤ g → adF f d k = adF g d k := by
 intro f
 induction f with
 | zero =>
  intro g d k h _
  cases g with
  | zero => rfl
  | succ g => unfold adF; rw [if_neg (by omega)]
 | succ f ih =>
  intro g d k hf hg
  cases g with
  | zero => unfold adF; rw [if_neg (by omega)]
  | succ g =>
   unfold adF
   by_cases h : 455 < d
   · rw [if_pos h, if_pos h]; exact ih g _ _ (by omega) (by omega)
   · rw [if_neg h, if_neg h]
def ad (d k : Int) : Int := adF d.toNat d k
theorem ad_step {d k : Int} (h : 455 < d) : ad d k = ad (d / 35) (k + 36) := by
 unfold ad
 obtain ⟨n, hn⟩ : ∃ n, d.toNat = n + 1 := ⟨d.toNat - 1, by omega⟩
 rw [hn]
 show (if 455 < d then adF n (d / 35) (k + 36) else _) = _
 rw [if_pos h]
 exact adF_more _ _ _ _ (by omega) (by omega)
theorem ad_end {d k : Int} (h : d ≤ 455) : ad d k = k + 36 * d / (d + 38) := by
 unfold ad
 cases d.toNat with
 | zero => rfl
 | succ n => show (if 455 < d then _ else _) = _; rw [if_neg (by omega)]
def pAdapt0 (delta : Int) (first : Bool) : Int := if first = true then delta / 700 else delta / 2
def pAdapt (delta points : Int) (first : Bool) : Int := ad (pAdapt0 delta first + pAdapt0 delta first / points) 0
def letter (n : Int) : UInt8 := if n < 26 then byteOf (97 + n) else byteOf (22 + n)
def digitOf (c : UInt8) : Int :=
 if 97 ≤ c.toNat ∧ c.toNat ≤ 122 then (c.toNat : Int) - 97
 else if 65 ≤ c.toNat ∧ c.toNat ≤ 90 then (c.toNat : Int) - 65
 else if 48 ≤ c.toNat ∧ c.toNat ≤ 57 then (c.toNat : Int) - 22
 else -1
theorem digitOf_range (c : UInt8) : -1 ≤ digitOf c ∧ digitOf c < 36 := by unfold digitOf; (repeat' split) <;> omega
theorem digit_letter {n : Int} (h0 : 0 ≤ n) (h1 : n < 36) : digitOf (letter n) = n := by
 unfold letter
 by_cases h : n < 26
 ·
  rw [if_pos h]
  have e := byteOf_nat (n := 97 + n) (by omega) (by omega)
  unfold digitOf; rw [if_pos (by omega)]; omega
 ·
  rw [if_neg h]
  have e := byteOf_nat (n := 22 + n) (by omega) (by omega)
  unfold digitOf; rw [if_neg (by omega), if_neg (by omega), if_pos (by omega)]; omega
def numF : Nat → Int → Int → Int → List UInt8
 | 0, q, _, _ => [letter q]
 | f + 1, q, k, bias => if q < edge k bias then [letter q] else letter (edge k bias + (q - edge k bias) % (36 - edge k bias)) :: numF f ((q - edge k bias) / (36 - edge k bias)) (k + 36) bias
theorem num_less {q t : Int} (h : t ≤ q) (t1 : 1 ≤ t) (t2 : t ≤ 26) : 0 ≤ (q - t) / (36 - t) ∧ (q - t) / (36 - t) < q := by
 constructor
 · exact Int.ediv_nonneg (by omega) (by omega)
 ·
  have : (q - t) / (36 - t) ≤ q - t := Int.ediv_le_self _ (by omega)
  omega
theorem numF_more : ∀ (f g : Nat) (q k bias : Int), q ≤ f → q ≤ g → numF f q k bias = numF g q k bias := by
 intro f
 induction f with
 | zero =>
  intro g q k bias h _
  have ht := edge_range k bias
  cases g with
  | zero => rfl
  | succ g => unfold numF; rw [if_pos (by omega)]
 | succ f ih =>
  intro g q k bias hf hg
  have ht := edge_range k bias
  cases g with
  | zero => unfold numF; rw [if_pos (by omega)]
  | succ g =>
   unfold numF
   by_cases h : q < edge k bias
   · rw [if_pos h, if_pos h]
   ·
    rw [if_neg h, if_neg h]
    have := num_less (q := q) (by omega) ht.1 ht.2
    rw [ih g _ _ _ (by omega) (by omega)]
def num (q k bias : Int) : List UInt8 := numF q.toNat q k bias
theorem num_end {q k bias : Int} (h : q < edge k bias) : num q k bias = [letter q] := by
 unfold num
 cases q.toNat with
 | zero => rfl
 | succ n => show (if q < edge k bias then _ else _) = _; rw [if_pos h]
theorem num_step {q k bias : Int} (h : edge k bias ≤ q) :
  num q k bias = letter (edge k bias + (q - edge k bias) % (36 - edge k bias)) :: num ((q - edge k bias) / (36 - edge k bias)) (k + 36) bias := by
 have ht := edge_range k bias
 have hl := num_less h ht.1 ht.2
 unfold num
 obtain ⟨n, hn⟩ : ∃ n, q.toNat = n + 1 := ⟨q.toNat - 1, by omega⟩
 rw [hn]
 show (if q < edge k bias then _ else _) = _
 rw [if_neg (by omega)]
 congr 1
 exact numF_more _ _ _ _ _ (by omega) (by omega)
structure ES where
 out : List UInt8
 delta : Int
 bias : Int
 done : Int
def eOne (n basic : Int) (s : ES) (r : Int) : ES :=
 if r < n then { s with delta := s.delta + 1 }
 else if r = n then { out := s.out ++ num s.delta 36 s.bias, delta := 0, bias := pAdapt s.delta (s.done + 1) (decide (s.done = basic)), done := s.done + 1 }
 else s
def ePass (n basic : Int) (s : ES) (l : List Int) : ES := l.foldl (eOne n basic) s
def least (n top : Int) (l : List Int) : Int := l.foldl (fun m r => if n ≤ r then min m r else m) top
def eRound (n basic : Int) (s : ES) (l : List Int) : ES :=
 let m := least n 1114111 l
 let s1 := ePass m basic { s with delta := s.delta + (m - n) * (s.done + 1) } l
 { s1 with delta := s1.delta + 1 }
def eLoop : Nat → Int → Int → ES → List Int → ES
 | 0, _, _, s, _ => s
 | f + 1, n, basic, s, l => if s.done < l.length then eLoop f (least n 1114111 l + 1) basic (eRound n basic s l) l else s
def basics (l : List Int) : List UInt8 := (l.filter (· < 128)).map byteOf
def eStart (l : List Int) : ES :=
 { out := if 0 < (basics l).length then basics l ++ [45] else [], delta := 0, bias := 72, done := (basics l).length }
def cpAll (l : List Int) : Bool := l.all cpOk
def puny (l : List Int) : Option (List UInt8) :=
 if l.length ≤ 63 ∧ cpAll l = true then some (eLoop l.length 128 (basics l).length (eStart l) l).out else none
end Go.Proofs.YtoapelcofjjdnaaGreatDoor
namespace Go.Proofs.YtoapelcofjjdnaaGreatDoor
set_option linter.all false
open Go.RowKit
def rdNum : List UInt8 → Int → Int → Int → Int → Option (Int × List UInt8)
 | [], _, _, _, _ => none
 | c :: s, k, bias, w, n =>
  if digitOf c < 0 then none
  else if digitOf c < edge k bias then some (n + digitOf c * w, s)
  else rdNum s (k + 36) bias (w * (36 - edge k bias)) (n + digitOf c * w)
theorem rdNum_shorter : ∀ (s : List UInt8) (k bias w n d : Int) (r : List UInt8), rdNum s k bias w n = some (d, r) → r.length < s.length := by
 intro s
 induction s with
 | nil => intro k bias w n d r h; simp [rdNum] at h
 | cons c s ih =>
  intro k bias w n d r h
  unfold rdNum at h
  split at h
  · cases h
  ·
   split at h
   · injection h with h; injection h with _ h; subst h; simp
   · have := ih _ _ _ _ _ _ h; simp; omega
theorem rdNum_num (m : Nat) : ∀ (q k bias w n : Int) (t : List UInt8), 0 ≤ q → q < m → rdNum (num q k bias ++ t) k bias w n = some (n + q * w, t) := by
 induction m with
 | zero => intro q k bias w n t h0 h1; omega
 | succ m ih =>
  intro q k bias w n t h0 h1
  have he := edge_range k bias
  by_cases h : q < edge k bias
  ·
   rw [num_end h, List.singleton_append]
   unfold rdNum
   rw [digit_letter h0 (by omega), if_neg (by omega), if_pos h]
  ·
   have hle : edge k bias ≤ q := by omega
   have hl := num_less hle he.1 he.2
   have hm0 := Int.emod_nonneg (q - edge k bias) (b := 36 - edge k bias) (by omega)
   have hm1 := Int.emod_lt_of_pos (q - edge k bias) (b := 36 - edge k bias) (by omega)
   rw [num_step hle, List.cons_append]
   unfold rdNum
   rw [digit_letter (by omega) (by omega), if_neg (by omega), if_neg (by omega), ih _ _ _ _ _ _ hl.1 (by omega)]
   have e := Int.emod_add_mul_ediv (q - edge k bias) (36 - edge k bias)
   congr 2
   generalize hA : (q - edge k bias) % (36 - edge k bias) = A at *
   generalize hB : (q - edge k bias) / (36 - edge k bias) = B at *
   generalize edge k bias = E at *
   have : q = E + A + (36 - E) * B := by omega
   rw [this]
   grind
def small (c : UInt8) : Bool := decide (c.toNat < 65 ∨ 90 < c.toNat)
structure DS where
 n : Int
 i : Int
 bias : Int
 first : Bool
 out : List Int
def dNext (σ : DS) (d : Int) : DS :=
  { n := σ.n + (σ.i + d) / (σ.out.length + 1), i := (σ.i + d) % (σ.out.length + 1) + 1, bias := pAdapt d (σ.out.length + 1) σ.first, first := false,
    out := σ.out.take ((σ.i + d) % (σ.out.length + 1)).toNat ++ (σ.n + (σ.i + d) / (σ.out.length + 1)) :: σ.out.drop ((σ.i + d) % (σ.out.length + 1)).toNat }
def dStep (σ : DS) (d : Int) : Option DS := if (dNext σ d).n ≤ 1114111 ∧ cpOk (dNext σ d).n = true then some (dNext σ d) else none
def decF : Nat → List UInt8 → DS → Option (List Int)
 | _, [], σ => some σ.out
 | 0, _ :: _, _ => none
 | f + 1, c :: s, σ => (rdNum (c :: s) 36 σ.bias 1 0).bind fun x => (dStep σ x.1).bind fun σ' => decF f x.2 σ'
theorem decF_succ (f : Nat) (c : UInt8) (s : List UInt8) (σ : DS) : decF (f + 1) (c :: s) σ = (rdNum (c :: s) 36 σ.bias 1 0).bind fun x => (dStep σ x.1).bind fun σ' => decF f x.2 σ' := rfl
theorem decF_more : ∀ (f g : Nat) (s : List UInt8) (σ : DS), s.length ≤ f → s.length ≤ g → decF f s σ = decF g s σ := by
 intro f
 induction f with
 | zero =>
  intro g s σ h _
  have : s = [] := List.eq_nil_of_length_eq_zero (by omega)
  subst this
  cases g <;> rfl
 | succ f ih =>
  intro g s σ hf hg
  match s, g with
  | [], 0 => rfl
  | [], _ + 1 => rfl
  | c :: s, 0 => simp at hg
  | c :: s, g + 1 =>
   unfold decF
   cases hr : rdNum (c :: s) 36 σ.bias 1 0 with
   | none => rfl
   | some x =>
    have hl := rdNum_shorter _ _ _ _ _ x.1 x.2 hr
    simp only [Option.bind_some]
    cases dStep σ x.1 with
    | none => rfl
    | some σ' =>
     simp only [Option.bind_some]
     exact ih g _ _ (by omega) (by omega)
def dec (s : List UInt8) (σ : DS) : Option (List Int) := decF s.length s σ
theorem dec_nil (σ : DS) : dec [] σ = some σ.out := rfl
theorem dec_step {s : List UInt8} (h : s ≠ []) (σ : DS) : dec s σ = (rdNum s 36 σ.bias 1 0).bind fun x => (dStep σ x.1).bind fun σ' => dec x.2 σ' := by
 match s, h with
 | c :: s, _ =>
  unfold dec
  rw [List.length_cons, decF_succ]
  cases hr : rdNum (c :: s) 36 σ.bias 1 0 with
  | none => rfl
  | some x =>
   have hl := rdNum_shorter _ _ _ _ _ x.1 x.2 hr
   simp only [Option.bind_some]
   cases dStep σ x.1 with
   | none => rfl
   | some σ' =>
    simp only [Option.bind_some]
    exact decF_more s.length x.2.length x.2 σ' (by rw [List.length_cons] at hl; omega) (Nat.le_refl _)
theorem num_ne_nil (q k bias : Int) : num q k bias ≠ [] := by
 unfold num; cases q.toNat <;> unfold numF
 · simp
 · split <;> simp
theorem dec_num {q : Int} (hq : 0 ≤ q) (t : List UInt8) {σ σ' : DS} (h : dStep σ q = some σ') : dec (num q 36 σ.bias ++ t) σ = dec t σ' := by
 rw [dec_step (by simp [num_ne_nil])]
 rw [rdNum_num (q.toNat + 1) q 36 σ.bias 1 0 t hq (by omega)]
 simp only [Option.bind_some]
 rw [show (0 : Int) + q * 1 = q from by omega, h]; rfl
def isLet (c : UInt8) : Bool := decide ((97 ≤ c.toNat ∧ c.toNat ≤ 122) ∨ (48 ≤ c.toNat ∧ c.toNat ≤ 57))
theorem letter_is {n : Int} (h0 : 0 ≤ n) (h1 : n < 36) : isLet (letter n) = true := by
 unfold isLet letter
 refine decide_eq_true ?_
 split
 · have := byteOf_nat (n := 97 + n) (by omega) (by omega); omega
 · have := byteOf_nat (n := 22 + n) (by omega) (by omega); omega
theorem num_let (m : Nat) : ∀ (q k bias : Int), 0 ≤ q → q < m → ∀ c ∈ num q k bias, isLet c = true := by
 induction m with
 | zero => intro q k bias h0 h1; omega
 | succ m ih =>
  intro q k bias h0 h1 c hc
  have he := edge_range k bias
  by_cases h : q < edge k bias
  ·
   rw [num_end h, List.mem_singleton] at hc
   subst hc
   exact letter_is h0 (by omega)
  ·
   have hle : edge k bias ≤ q := by omega
   have hl := num_less hle he.1 he.2
   have hm0 := Int.emod_nonneg (q - edge k bias) (b := 36 - edge k bias) (by omega)
   have hm1 := Int.emod_lt_of_pos (q - edge k bias) (b := 36 - edge k bias) (by omega)
   rw [num_step hle, List.mem_cons] at hc
   rcases hc with rfl | hc
   · exact letter_is (by omega) (by omega)
   · exact ih _ _ _ hl.1 (by omega) c hc
end Go.Proofs.YtoapelcofjjdnaaGreatDoor
namespace Go.Proofs.YtoapelcofjjdnaaGreatDoor
set_option linter.all false
open Go.RowKit
def Led (s : ES) (σ : DS) (s' : ES) (σ' : DS) : Prop := ∃ D : List UInt8, s'.out = s.out ++ D ∧ (∀ c ∈ D, isLet c = true) ∧ ∀ t, dec (D ++ t) σ = dec t σ'
theorem Led.refl (s : ES) (σ : DS) : Led s σ s σ := ⟨[], by simp, by simp, fun _ => rfl⟩
theorem Led.trans {s s' s'' : ES} {σ σ' σ'' : DS} (h : Led s σ s' σ') (k : Led s' σ' s'' σ'') : Led s σ s'' σ'' := by
 obtain ⟨D, h1, h2, h3⟩ := h
 obtain ⟨E, k1, k2, k3⟩ := k
 refine ⟨D ++ E, by rw [k1, h1, List.append_assoc], ?_, fun t => by rw [List.append_assoc, h3, k3]⟩
 intro c hc
 rcases List.mem_append.1 hc with hc | hc
 · exact h2 c hc
 · exact k2 c hc
theorem Led.same {s s' t t' : ES} {σ σ' : DS} (h : Led s σ s' σ') (e1 : t.out = s.out) (e2 : t'.out = s'.out) : Led t σ t' σ' := by
 obtain ⟨D, h1, h2, h3⟩ := h
 exact ⟨D, by rw [e2, h1, e1], h2, h3⟩
structure InPass (m basic : Int) (p q : List Int) (s : ES) (σ : DS) : Prop where
 out : σ.out = p.filter (fun r => decide (r ≤ m)) ++ q.filter (fun r => decide (r < m))
 done : s.done = σ.out.length
 bias : σ.bias = s.bias
 first : σ.first = decide (s.done = basic)
 base : basic ≤ s.done
 delta : 0 ≤ s.delta
 i0 : 0 ≤ σ.i
 nm : σ.n ≤ m
 at_ : σ.n * (s.done + 1) + σ.i + s.delta = m * (s.done + 1) + (p.filter (fun r => decide (r ≤ m))).length
theorem pass_step {m basic : Int} {p q : List Int} {r : Int} {s : ES} {σ : DS} (hm : 128 ≤ m) (hok : cpOk m = true) (h : InPass m basic p (r :: q) s σ) :
  ∃ σ', InPass m basic (p ++ [r]) q (eOne m basic s r) σ' ∧ Led s σ (eOne m basic s r) σ' := by
 obtain ⟨hout, hdone, hbias, hfirst, hbase, hdelta, hi0, hnm, hat⟩ := h
 have hok' := cpOk_iff.1 hok
 rcases Int.lt_trichotomy r m with hr | hr | hr
 ·
  -- a smaller one: one step more
  have e : eOne m basic s r = { s with delta := s.delta + 1 } := by unfold eOne; rw [if_pos hr]
  rw [e]
  refine ⟨σ, ⟨?_, hdone, hbias, hfirst, hbase, by simp; omega, hi0, hnm, ?_⟩, (Led.refl s σ).same rfl rfl⟩
  ·
   rw [hout, List.filter_append, List.filter_cons_of_pos (by simpa using hr), List.filter_cons_of_pos (by simp; omega)]
   simp
  ·
   simp only []
   rw [List.filter_append, List.filter_cons_of_pos (by simp; omega), List.filter_nil, List.length_append, List.length_singleton]
   omega
 ·
  -- the one itself: a number
  subst hr
  have e : eOne r basic s r = { out := s.out ++ num s.delta 36 s.bias, delta := 0, bias := pAdapt s.delta (s.done + 1) (decide (s.done = basic)), done := s.done + 1 } := by
   unfold eOne; rw [if_neg (by omega), if_pos rfl]
  have hfq : List.filter (fun x => decide (x < r)) (r :: q) = List.filter (fun x => decide (x < r)) q := List.filter_cons_of_neg (by simp)
  rw [hfq] at hout
  have hlen : σ.out.length = (p.filter (fun x => decide (x ≤ r))).length + (q.filter (fun x => decide (x < r))).length := by rw [hout, List.length_append]
  have hsum : σ.i + s.delta = (p.filter (fun x => decide (x ≤ r))).length + (σ.out.length + 1) * (r - σ.n) := by
   rw [hdone] at hat
   have e1 : σ.n * ((σ.out.length : Int) + 1) + ((σ.out.length : Int) + 1) * (r - σ.n) = r * ((σ.out.length : Int) + 1) := by grind
   omega
  have hmod : (σ.i + s.delta) % ((σ.out.length : Int) + 1) = (p.filter (fun x => decide (x ≤ r))).length := by
   rw [hsum, Int.add_mul_emod_self_left]
   exact Int.emod_eq_of_lt (by omega) (by omega)
  have hdiv : (σ.i + s.delta) / ((σ.out.length : Int) + 1) = r - σ.n := by
   rw [hsum, Int.add_mul_ediv_left _ _ (by omega), Int.ediv_eq_zero_of_lt (by omega) (by omega)]
   omega
  have hn : (dNext σ s.delta).n = r := by show σ.n + _ = r; rw [hdiv]; omega
  have hst : dStep σ s.delta = some (dNext σ s.delta) := by
   unfold dStep
   rw [if_pos ⟨by rw [hn]; omega, by rw [hn]; exact hok⟩]
  have hno : (dNext σ s.delta).out = (p ++ [r]).filter (fun x => decide (x ≤ r)) ++ q.filter (fun x => decide (x < r)) := by
   show σ.out.take _ ++ _ :: σ.out.drop _ = _
   rw [hmod, hdiv, hout, Int.toNat_natCast, List.take_left, List.drop_left, List.filter_append, List.filter_cons_of_pos (by simp), show σ.n + (r - σ.n) = r from by omega]
   simp
  rw [e]
  refine ⟨dNext σ s.delta, ⟨hno, ?_, ?_, ?_, ?_, Int.le_refl _, ?_, by rw [hn]; exact Int.le_refl _, ?_⟩, ⟨num s.delta 36 s.bias, rfl, num_let (s.delta.toNat + 1) _ _ _ hdelta (by omega), fun t => ?_⟩⟩
  ·
   simp only []
   rw [hno, List.length_append, List.filter_append, List.filter_cons_of_pos (by simp), List.length_append]
   simp
   try omega
  ·
   show pAdapt s.delta ((σ.out.length : Int) + 1) σ.first = pAdapt s.delta (s.done + 1) (decide (s.done = basic))
   rw [hdone, hfirst, hdone]
  ·
   show false = decide (s.done + 1 = basic)
   rw [decide_eq_false (by omega)]
  · simp only []; omega
  ·
   show 0 ≤ (σ.i + s.delta) % ((σ.out.length : Int) + 1) + 1
   rw [hmod]; omega
  ·
   simp only []
   rw [hn]
   show r * (s.done + 1 + 1) + ((σ.i + s.delta) % ((σ.out.length : Int) + 1) + 1) + 0 = _
   rw [hmod, List.filter_append, List.filter_cons_of_pos (by simp), List.length_append]
   simp
   try omega
  · rw [← hbias]; exact dec_num hdelta t hst
 ·
  -- a greater one: nothing
  have e : eOne m basic s r = s := by unfold eOne; rw [if_neg (by omega), if_neg (by omega)]
  rw [e]
  refine ⟨σ, ⟨?_, hdone, hbias, hfirst, hbase, hdelta, hi0, hnm, ?_⟩, Led.refl s σ⟩
  ·
   rw [hout, List.filter_append, List.filter_cons_of_neg (by simp; omega), List.filter_cons_of_neg (by simp; omega)]
   simp
  ·
   rw [List.filter_append, List.filter_cons_of_neg (by simp; omega), List.filter_nil, List.append_nil]
   exact hat
theorem pass_all {m basic : Int} (hm : 128 ≤ m) (hok : cpOk m = true) : ∀ (q p : List Int) (s : ES) (σ : DS), InPass m basic p q s σ →
  ∃ σ', InPass m basic (p ++ q) [] (ePass m basic s q) σ' ∧ Led s σ (ePass m basic s q) σ' := by
 intro q
 induction q with
 | nil => intro p s σ h; exact ⟨σ, by simpa [ePass] using h, Led.refl s σ⟩
 | cons r q ih =>
  intro p s σ h
  obtain ⟨σ1, h1, l1⟩ := pass_step hm hok h
  obtain ⟨σ2, h2, l2⟩ := ih _ _ _ h1
  refine ⟨σ2, ?_, ?_⟩
  · rw [List.append_assoc, List.singleton_append] at h2; exact h2
  · exact l1.trans l2
theorem least_spec (n top : Int) : ∀ (l : List Int), least n top l ≤ top ∧ (∀ r ∈ l, n ≤ r → least n top l ≤ r) ∧ (least n top l = top ∨ (n ≤ least n top l ∧ least n top l ∈ l)) := by
 suffices h : ∀ (l : List Int) (m0 : Int), (let m := l.foldl (fun m r => if n ≤ r then min m r else m) m0; m ≤ m0 ∧ (∀ r ∈ l, n ≤ r → m ≤ r) ∧ (m = m0 ∨ (n ≤ m ∧ m ∈ l))) from fun l => h l top
 intro l
 induction l with
 | nil => intro m0; simp
 | cons r l ih =>
  intro m0
  simp only [List.foldl_cons]
  by_cases h : n ≤ r
  ·
   rw [if_pos h]
   have ⟨h1, h2, h3⟩ := ih (min m0 r)
   refine ⟨by omega, ?_, ?_⟩
   ·
    intro x hx hn
    rcases List.mem_cons.1 hx with rfl | hx
    · omega
    · exact h2 x hx hn
   ·
    rcases h3 with h3 | ⟨h3, h4⟩
    ·
     rcases Int.le_total m0 r with hle | hle
     · left; omega
     · right; rw [h3, Int.min_eq_right hle]; exact ⟨h, by simp⟩
    · right; exact ⟨h3, by simp [h4]⟩
  ·
   rw [if_neg h]
   have ⟨h1, h2, h3⟩ := ih m0
   refine ⟨h1, ?_, ?_⟩
   ·
    intro x hx hn
    rcases List.mem_cons.1 hx with rfl | hx
    · omega
    · exact h2 x hx hn
   ·
    rcases h3 with h3 | ⟨h3, h4⟩
    · left; exact h3
    · right; exact ⟨h3, by simp [h4]⟩
structure AtRound (n basic : Int) (l : List Int) (s : ES) (σ : DS) : Prop where
 out : σ.out = l.filter (fun r => decide (r < n))
 done : s.done = σ.out.length
 bias : σ.bias = s.bias
 first : σ.first = decide (s.done = basic)
 base : basic ≤ s.done
 delta : 0 ≤ s.delta
 i0 : 0 ≤ σ.i
 nm : σ.n ≤ n
 at_ : σ.n * (s.done + 1) + σ.i + s.delta = n * (s.done + 1)
theorem filter_same {α : Type} {f g : α → Bool} : ∀ (l : List α), (∀ x ∈ l, f x = g x) → l.filter f = l.filter g := by
 intro l h
 exact List.filter_congr h
theorem filter_all_of_len {α : Type} {f : α → Bool} : ∀ {l : List α}, (l.filter f).length = l.length → l.filter f = l := by
 intro l h
 exact List.filter_eq_self.2 (List.length_filter_eq_length_iff.1 h)
theorem filt_le (M : Int) : ∀ (l : List Int), (l.filter (fun r => decide (r < M))).length ≤ (l.filter (fun r => decide (r ≤ M))).length := by
 intro l
 induction l with
 | nil => simp
 | cons a l ih =>
  rcases Int.lt_trichotomy a M with h | h | h
  · rw [List.filter_cons_of_pos (by simpa using h), List.filter_cons_of_pos (by simp; omega)]; simpa using ih
  · rw [List.filter_cons_of_neg (by simp; omega), List.filter_cons_of_pos (by simp; omega)]; simp; omega
  · rw [List.filter_cons_of_neg (by simp; omega), List.filter_cons_of_neg (by simp; omega)]; exact ih
theorem filt_lt {M : Int} : ∀ {l : List Int}, M ∈ l → (l.filter (fun r => decide (r < M))).length < (l.filter (fun r => decide (r ≤ M))).length := by
 intro l
 induction l with
 | nil => intro h; simp at h
 | cons a l ih =>
  intro hmem
  have hle := filt_le M l
  rcases Int.lt_trichotomy a M with h | h | h
  ·
   rw [List.filter_cons_of_pos (by simpa using h), List.filter_cons_of_pos (by simp; omega)]
   rcases List.mem_cons.1 hmem with h2 | h2
   · omega
   · simpa using ih h2
  · rw [List.filter_cons_of_neg (by simp; omega), List.filter_cons_of_pos (by simp; omega)]; simp; omega
  ·
   rw [List.filter_cons_of_neg (by simp; omega), List.filter_cons_of_neg (by simp; omega)]
   rcases List.mem_cons.1 hmem with h2 | h2
   · omega
   · exact ih h2
theorem round_all {n basic : Int} {l : List Int} {s : ES} {σ : DS} (hn : 128 ≤ n) (hl : cpAll l = true) (hs : s.done < l.length) (h : AtRound n basic l s σ) :
  ∃ σ', AtRound (least n 1114111 l + 1) basic l (eRound n basic s l) σ' ∧ Led s σ (eRound n basic s l) σ' ∧ s.done < (eRound n basic s l).done ∧ n ≤ least n 1114111 l := by
 obtain ⟨hout, hdone, hbias, hfirst, hbase, hdelta, hi0, hnm, hat⟩ := h
 have hl' := List.all_eq_true.1 hl
 -- there is one from n on
 obtain ⟨x, hx, hxn⟩ : ∃ x ∈ l, n ≤ x := by
  rcases Classical.em (∃ x ∈ l, n ≤ x) with h | h
  · exact h
  ·
   exfalso
   have : l.filter (fun r => decide (r < n)) = l := List.filter_eq_self.2 fun r hr => decide_eq_true (by
    rcases Int.lt_or_le r n with h1 | h1
    · exact h1
    · exact absurd ⟨r, hr, h1⟩ h)
   rw [hout, this] at hdone
   omega
 have hx2 := cpOk_iff.1 (hl' x hx)
 have ⟨m1, m2, m3⟩ := least_spec n 1114111 l
 have hmx := m2 x hx hxn
 have hmem : least n 1114111 l ∈ l ∧ n ≤ least n 1114111 l := by
  rcases m3 with h | h
  ·
   have e : x = least n 1114111 l := by omega
   rw [← e]; exact ⟨hx, hxn⟩
  · exact ⟨h.2, h.1⟩
 obtain ⟨hmem, hnm'⟩ := hmem
 have hmok := hl' _ hmem
 have hflt : l.filter (fun r => decide (r < n)) = l.filter (fun r => decide (r < least n 1114111 l)) := filter_same l fun r hr => by
  rcases Int.lt_or_le r n with h1 | h1
  · rw [decide_eq_true h1, decide_eq_true (by omega)]
  ·
   have := m2 r hr h1
   rw [decide_eq_false (by omega), decide_eq_false (by omega)]
 generalize hM : least n 1114111 l = M at *
 have hin : InPass M basic [] l { s with delta := s.delta + (M - n) * (s.done + 1) } σ := by
  refine ⟨?_, hdone, hbias, hfirst, hbase, ?_, hi0, by omega, ?_⟩
  · rw [hout, hflt]; simp
  ·
   have := Int.mul_nonneg (a := M - n) (b := s.done + 1) (by omega) (by omega)
   simp only []; omega
  ·
   simp only [List.filter_nil, List.length_nil]
   have e : n * (s.done + 1) + (M - n) * (s.done + 1) = M * (s.done + 1) := by grind
   omega
 obtain ⟨σ', hp, led⟩ := pass_all (by omega) hmok l [] _ σ hin
 have he : eRound n basic s l = { ePass M basic { s with delta := s.delta + (M - n) * (s.done + 1) } l with delta := (ePass M basic { s with delta := s.delta + (M - n) * (s.done + 1) } l).delta + 1 } := by
  unfold eRound; rw [hM]
 rw [he]
 obtain ⟨pout, pdone, pbias, pfirst, pbase, pdelta, pi0, pnm, pat⟩ := hp
 rw [List.nil_append, List.filter_nil, List.append_nil] at pout
 rw [List.nil_append] at pat
 have hle : l.filter (fun r => decide (r ≤ M)) = l.filter (fun r => decide (r < M + 1)) := filter_same l fun r _ => by
  rcases Int.lt_or_le M r with h1 | h1
  · rw [decide_eq_false (by omega), decide_eq_false (by omega)]
  · rw [decide_eq_true (by omega), decide_eq_true (by omega)]
 refine ⟨σ', ⟨by rw [pout, hle], pdone, pbias, pfirst, pbase, by simp only []; omega, pi0, by omega, ?_⟩, led.same rfl rfl, ?_, hnm'⟩
 ·
  simp only []
  rw [← pout, ← pdone] at pat
  have e : (M + 1) * ((ePass M basic { s with delta := s.delta + (M - n) * (s.done + 1) } l).done + 1) = M * ((ePass M basic { s with delta := s.delta + (M - n) * (s.done + 1) } l).done + 1) + ((ePass M basic { s with delta := s.delta + (M - n) * (s.done + 1) } l).done + 1) := by grind
  rw [e]; omega
 ·
  simp only []
  rw [pdone, pout, hdone, hout, hflt]
  have := filt_lt hmem
  omega
theorem loop_all {basic : Int} {l : List Int} (hl : cpAll l = true) : ∀ (f : Nat) (n : Int) (s : ES) (σ : DS), 128 ≤ n → l.length ≤ f + s.done → AtRound n basic l s σ →
  ∃ σ', σ'.out = l ∧ Led s σ (eLoop f n basic s l) σ' := by
 intro f
 induction f with
 | zero =>
  intro n s σ hn hf h
  refine ⟨σ, ?_, Led.refl s σ⟩
  rw [h.out]
  apply filter_all_of_len
  have h1 := h.done
  rw [h.out] at h1
  have := List.length_filter_le (fun r => decide (r < n)) l
  omega
 | succ f ih =>
  intro n s σ hn hf h
  unfold eLoop
  by_cases hs : s.done < l.length
  ·
   rw [if_pos hs]
   obtain ⟨σ1, h1, l1, d1, n1⟩ := round_all hn hl hs h
   obtain ⟨σ2, h2, l2⟩ := ih _ _ _ (by omega) (by omega) h1
   exact ⟨σ2, h2, l1.trans l2⟩
  ·
   rw [if_neg hs]
   refine ⟨σ, ?_, Led.refl s σ⟩
   rw [h.out]
   apply filter_all_of_len
   have h1 := h.done
   rw [h.out] at h1
   have := List.length_filter_le (fun r => decide (r < n)) l
   omega
def dStart (b : List Int) : DS := { n := 128, i := 0, bias := 72, first := true, out := b }
theorem basics_len (l : List Int) : (basics l).length = (l.filter (· < 128)).length := by unfold basics; rw [List.length_map]
theorem puny_led {l : List Int} {s : List UInt8} (h : puny l = some s) :
  ∃ D, s = (if 0 < (basics l).length then basics l ++ [45] else []) ++ D ∧ (∀ c ∈ D, isLet c = true) ∧ dec D (dStart (l.filter (· < 128))) = some l := by
 unfold puny at h
 split at h
 ·
  rename_i hc
  injection h with h
  have hst : AtRound 128 (basics l).length l (eStart l) (dStart (l.filter (· < 128))) := by
   refine ⟨rfl, by rw [show (eStart l).done = ((basics l).length : Int) from rfl, basics_len]; rfl, rfl, ?_, Int.le_refl _, Int.le_refl _, Int.le_refl _, Int.le_refl _, ?_⟩
   ·
    show true = decide (((basics l).length : Int) = (basics l).length)
    simp
   ·
    show 128 * (((basics l).length : Int) + 1) + 0 + 0 = _
    show _ = 128 * (((basics l).length : Int) + 1)
    omega
  obtain ⟨σ', ho, D, hD, hlet, hdec⟩ := loop_all hc.2 l.length 128 (eStart l) _ (by omega) (by show _ ≤ (l.length : Int) + ((basics l).length : Int); omega) hst
  refine ⟨D, by rw [← h, hD]; rfl, hlet, ?_⟩
  have := hdec []
  rw [List.append_nil, dec_nil, ho] at this
  exact this
 · cases h
end Go.Proofs.YtoapelcofjjdnaaGreatDoor
namespace Go.Proofs.YtoapelcofjjdnaaGreatDoor
set_option linter.all false
open Go.RowKit
def dashN (s : List UInt8) : Nat → Int
 | 0 => -1
 | k + 1 => if s.getD k 0 = 45 then (k : Int) else dashN s k
def dash (s : List UInt8) : Int := dashN s s.length
theorem dashN_range (s : List UInt8) : ∀ k, -1 ≤ dashN s k ∧ dashN s k < k ∨ dashN s k = -1 := by
 intro k
 induction k with
 | zero => right; rfl
 | succ k ih =>
  unfold dashN
  split
  · left; omega
  · omega
theorem dashN_none {s : List UInt8} : ∀ k, (∀ j, j < k → s.getD j 0 ≠ 45) → dashN s k = -1 := by
 intro k
 induction k with
 | zero => intro _; rfl
 | succ k ih =>
  intro h
  unfold dashN
  rw [if_neg (h k (by omega))]
  exact ih fun j hj => h j (by omega)
theorem dashN_at {s : List UInt8} {i : Nat} (hi : s.getD i 0 = 45) : ∀ k, i < k → (∀ j, i < j → j < k → s.getD j 0 ≠ 45) → dashN s k = i := by
 intro k
 induction k with
 | zero => intro h; omega
 | succ k ih =>
  intro h hj
  unfold dashN
  by_cases hik : i = k
  · subst hik; rw [if_pos hi]
  ·
   rw [if_neg (hj k (by omega) (by omega))]
   exact ih (by omega) fun j h1 h2 => hj j h1 (by omega)
theorem dashN_spec (s : List UInt8) : ∀ k, (dashN s k = -1 ∧ ∀ j, j < k → s.getD j 0 ≠ 45) ∨ ∃ i : Nat, i < k ∧ dashN s k = i ∧ s.getD i 0 = 45 ∧ ∀ j, i < j → j < k → s.getD j 0 ≠ 45 := by
 intro k
 induction k with
 | zero => left; exact ⟨rfl, fun j h => by omega⟩
 | succ k ih =>
  by_cases h : s.getD k 0 = 45
  ·
   right; refine ⟨k, by omega, ?_, h, fun j h1 h2 => by omega⟩
   show (if _ then _ else _) = _
   rw [if_pos h]
  ·
   have e : dashN s (k + 1) = dashN s k := by show (if _ then _ else _) = _; rw [if_neg h]
   rw [e]
   rcases ih with ⟨h1, h2⟩ | ⟨i, h1, h2, h3, h4⟩
   ·
    left; refine ⟨h1, fun j hj => ?_⟩
    rcases Nat.lt_or_ge j k with hlt | hge
    · exact h2 j hlt
    · rw [show j = k from by omega]; exact h
   ·
    right; refine ⟨i, by omega, h2, h3, fun j a b => ?_⟩
    rcases Nat.lt_or_ge j k with hlt | hge
    · exact h4 j a hlt
    · rw [show j = k from by omega]; exact h
def ints (l : List UInt8) : List Int := l.map fun c => (c.toNat : Int)
def dBase (s : List UInt8) : List UInt8 := if 0 < dash s then s.take (dash s).toNat else []
def dRest (s : List UInt8) : List UInt8 := if 0 < dash s then s.drop ((dash s).toNat + 1) else s
def unpuny (s : List UInt8) : Option (List Int) :=
 if 200 < s.length then none
 else if (dBase s).any (fun c => decide (128 ≤ c.toNat)) = true then none
 else (dec (dRest s) (dStart (ints (dBase s)))).bind fun l => if l.length ≤ 63 then some l else none
theorem isLet_ne {c : UInt8} (h : isLet c = true) : c ≠ 45 := by
 rintro rfl
 revert h; decide
theorem basics_ints {l : List Int} (h : cpAll l = true) : ints (basics l) = l.filter (· < 128) := by
 have hl := List.all_eq_true.1 h
 unfold ints basics
 rw [List.map_map]
 conv => rhs; rw [← List.map_id (l.filter (· < 128))]
 refine List.map_congr_left fun r hr => ?_
 have hm := List.mem_filter.1 hr
 have h1 := cpOk_iff.1 (hl r hm.1)
 have h2 : r < 128 := by simpa using hm.2
 exact byteOf_nat (by omega) (by omega)
theorem basics_low {l : List Int} (h : cpAll l = true) : ∀ c ∈ basics l, c.toNat < 128 := by
 intro c hc
 have hl := List.all_eq_true.1 h
 unfold basics at hc
 obtain ⟨r, hr, rfl⟩ := List.mem_map.1 hc
 have hm := List.mem_filter.1 hr
 have h1 := cpOk_iff.1 (hl r hm.1)
 have h2 : r < 128 := by simpa using hm.2
 rw [byteOf_toNat (by omega) (by omega)]; omega
theorem puny_some {l : List Int} {s : List UInt8} (h : puny l = some s) : l.length ≤ 63 ∧ cpAll l = true := by
 unfold puny at h
 split at h
 · assumption
 · cases h
theorem getD_right {a b : List UInt8} {j : Nat} (h : a.length ≤ j) : (a ++ b).getD j 0 = b.getD (j - a.length) 0 := by
 rw [List.getD_eq_getElem?_getD, List.getD_eq_getElem?_getD, List.getElem?_append_right h]
theorem noDash {D : List UInt8} (h : ∀ c ∈ D, isLet c = true) (j : Nat) : D.getD j 0 ≠ 45 := by
 rw [List.getD_eq_getElem?_getD]
 rcases Nat.lt_or_ge j D.length with hj | hj
 ·
  rw [List.getElem?_eq_getElem hj]
  exact isLet_ne (h _ (List.getElem_mem hj))
 · rw [List.getElem?_eq_none hj]; decide
theorem parts_of {B D : List UInt8} (hD : ∀ c ∈ D, isLet c = true) : dBase ((if 0 < B.length then B ++ [45] else []) ++ D) = B ∧ dRest ((if 0 < B.length then B ++ [45] else []) ++ D) = D := by
 by_cases hB : 0 < B.length
 ·
  rw [if_pos hB]
  have hd : dash (B ++ [45] ++ D) = B.length := by
   refine dashN_at (i := B.length) ?_ _ (by simp) fun j h1 _ => ?_
   · rw [List.append_assoc, getD_right (Nat.le_refl _), Nat.sub_self]; rfl
   ·
    rw [getD_right (by simp; omega)]
    exact noDash hD _
  unfold dBase dRest
  rw [hd, if_pos (by omega), if_pos (by omega), Int.toNat_natCast]
  constructor
  · rw [List.append_assoc, List.take_left]
  · rw [show B.length + 1 = (B ++ [45]).length from by simp, List.drop_left]
 ·
  rw [if_neg hB]
  have hB0 : B = [] := List.eq_nil_of_length_eq_zero (by omega)
  subst hB0
  have hd : dash ([] ++ D) = -1 := dashN_none _ fun j _ => noDash hD j
  unfold dBase dRest
  rw [hd]
  exact ⟨rfl, rfl⟩
theorem unpuny_puny {l : List Int} {s : List UInt8} (h : puny l = some s) (hs : s.length ≤ 200) : unpuny s = some l := by
 obtain ⟨h63, hok⟩ := puny_some h
 obtain ⟨D, he, hlet, hdec⟩ := puny_led h
 have hp := parts_of (B := basics l) hlet
 rw [← he] at hp
 unfold unpuny
 rw [if_neg (by omega), hp.1, hp.2, basics_ints hok, hdec, if_neg ?_]
 ·
  simp only [Option.bind_some]
  rw [if_pos h63]
 ·
  rw [List.any_eq_true]
  rintro ⟨c, hc, h2⟩
  have := basics_low hok c hc
  have := of_decide_eq_true h2
  omega
structure Top (σ : DS) : Prop where
 i0 : 0 ≤ σ.i
 il : σ.i ≤ σ.out.length
 low : ∀ x ∈ σ.out.take σ.i.toNat, x ≤ σ.n
 high : ∀ x ∈ σ.out.drop σ.i.toNat, x < σ.n
theorem Top.all {σ : DS} (h : Top σ) : ∀ x ∈ σ.out, x ≤ σ.n := by
 intro x hx
 rw [← List.take_append_drop σ.i.toNat σ.out] at hx
 rcases List.mem_append.1 hx with hx | hx
 · exact h.low x hx
 · exact Int.le_of_lt (h.high x hx)
theorem Top.next {σ : DS} (h : Top σ) {d : Int} (hd : 0 ≤ d) :
  ∃ a b : List Int, σ.out = a ++ b ∧ (dNext σ d).out = a ++ (dNext σ d).n :: b ∧ (dNext σ d).i = a.length + 1 ∧ σ.n ≤ (dNext σ d).n ∧
   (∀ x ∈ a, x ≤ (dNext σ d).n) ∧ (∀ x ∈ b, x < (dNext σ d).n) ∧ σ.i + d = ((dNext σ d).n - σ.n) * (σ.out.length + 1) + a.length := by
 have h0 := h.i0
 have hl := h.il
 have hm0 := Int.emod_nonneg (σ.i + d) (b := σ.out.length + 1) (by omega)
 have hm1 := Int.emod_lt_of_pos (σ.i + d) (b := σ.out.length + 1) (by omega)
 have hq0 : 0 ≤ (σ.i + d) / ((σ.out.length : Int) + 1) := Int.ediv_nonneg (by omega) (by omega)
 have hsum := Int.emod_add_mul_ediv (σ.i + d) (σ.out.length + 1)
 have en : (dNext σ d).n = σ.n + (σ.i + d) / ((σ.out.length : Int) + 1) := rfl
 have ei : (dNext σ d).i = (σ.i + d) % ((σ.out.length : Int) + 1) + 1 := rfl
 have eo : (dNext σ d).out = σ.out.take ((σ.i + d) % ((σ.out.length : Int) + 1)).toNat ++ (dNext σ d).n :: σ.out.drop ((σ.i + d) % ((σ.out.length : Int) + 1)).toNat := rfl
 generalize hJ : (σ.i + d) % ((σ.out.length : Int) + 1) = J at *
 generalize hQ : (σ.i + d) / ((σ.out.length : Int) + 1) = Q at *
 have hlen : (σ.out.take J.toNat).length = J.toNat := by rw [List.length_take]; omega
 have hall := h.all
 refine ⟨σ.out.take J.toNat, σ.out.drop J.toNat, (List.take_append_drop _ _).symm, eo, by rw [ei, hlen]; omega, by omega, ?_, ?_, ?_⟩
 ·
  intro x hx
  have := hall x (List.mem_of_mem_take hx)
  omega
 ·
  intro x hx
  rcases Int.lt_or_le 0 Q with hp | hp
  ·
   have := hall x (List.mem_of_mem_drop hx)
   omega
  ·
   have hQ0 : Q = 0 := by omega
   subst hQ0
   have hge : σ.i.toNat ≤ J.toNat := by
    have : ((σ.out.length : Int) + 1) * 0 = 0 := Int.mul_zero _
    omega
   have hx2 : x ∈ σ.out.drop σ.i.toNat := by
    have e : σ.out.drop J.toNat = (σ.out.drop σ.i.toNat).drop (J.toNat - σ.i.toNat) := by rw [List.drop_drop]; congr 1; omega
    rw [e] at hx
    exact List.mem_of_mem_drop hx
   have := h.high x hx2
   omega
 ·
  rw [hlen, en]
  have : (σ.n + Q - σ.n) * ((σ.out.length : Int) + 1) = ((σ.out.length : Int) + 1) * Q := by grind
  omega
theorem Top.step {σ : DS} (h : Top σ) {d : Int} (hd : 0 ≤ d) : Top (dNext σ d) := by
 obtain ⟨a, b, e1, e2, e3, _, e5, e6, _⟩ := h.next hd
 have ht : (dNext σ d).i.toNat = (a ++ [(dNext σ d).n]).length := by rw [e3]; simp
 have eo : (dNext σ d).out = (a ++ [(dNext σ d).n]) ++ b := by rw [e2]; simp
 refine ⟨by omega, by rw [e2, e3]; simp; omega, ?_, ?_⟩
 ·
  rw [ht, eo, List.take_left]
  intro x hx
  rcases List.mem_append.1 hx with hx | hx
  · exact e5 x hx
  · rw [List.mem_singleton] at hx; omega
 ·
  rw [ht, eo, List.drop_left]
  exact e6
def run (σ : DS) (ds : List Int) : DS := ds.foldl dNext σ
end Go.Proofs.YtoapelcofjjdnaaGreatDoor
namespace Go.Proofs.YtoapelcofjjdnaaGreatDoor
set_option linter.all false
open Go.RowKit
def mKeep (r : Int) : Bool := decide (r ≠ 173 ∧ r ≠ 8203 ∧ r ≠ 8204 ∧ r ≠ 8205 ∧ r ≠ 8288 ∧ r ≠ 65279)
def mBase (r : Int) : Int :=
 if (65 ≤ r ∧ r ≤ 90) ∨ (192 ≤ r ∧ r ≤ 222 ∧ r ≠ 215) ∨ (913 ≤ r ∧ r ≤ 937 ∧ r ≠ 930) ∨ (1040 ≤ r ∧ r ≤ 1071) then r + 32
 else if 1024 ≤ r ∧ r ≤ 1039 then r + 80
 else if 256 ≤ r ∧ r ≤ 303 ∧ r % 2 = 0 then r + 1
 else r
def mOut (r : Int) : Int :=
 if r = 173 ∨ r = 8203 ∨ r = 8204 ∨ r = 8205 ∨ r = 8288 ∨ r = 65279 then 0
 else if r = 12290 ∨ r = 65377 then 46
 else if 65281 ≤ r ∧ r ≤ 65374 then mBase (r - 65248)
 else mBase r
theorem mBase_fix {r : Int} : mBase (mBase r) = mBase r := by
 unfold mBase
 repeat' split
 all_goals omega
theorem mOut_stay {x : Int} (h1 : ¬ (x = 173 ∨ x = 8203 ∨ x = 8204 ∨ x = 8205 ∨ x = 8288 ∨ x = 65279)) (h2 : ¬ (x = 12290 ∨ x = 65377)) (h3 : ¬ (65281 ≤ x ∧ x ≤ 65374)) (h4 : mBase x = x) : mKeep x = true ∧ mOut x = x := by
 constructor
 · exact decide_eq_true (by omega)
 · unfold mOut; rw [if_neg h1, if_neg h2, if_neg h3, h4]
theorem mBase_same {y : Int} : mBase y = y ∨ (97 ≤ mBase y ∧ mBase y ≤ 122) ∨ (224 ≤ mBase y ∧ mBase y ≤ 303) ∨ (945 ≤ mBase y ∧ mBase y ≤ 1119) := by
 unfold mBase
 repeat' split
 all_goals omega
theorem mOut_fix {r : Int} (h : mKeep r = true) : mKeep (mOut r) = true ∧ mOut (mOut r) = mOut r := by
 have h := of_decide_eq_true h
 by_cases h2 : r = 12290 ∨ r = 65377
 ·
  have e : mOut r = 46 := by unfold mOut; rw [if_neg (by omega), if_pos h2]
  rw [e]; exact ⟨by decide, by decide⟩
 ·
  by_cases h3 : 65281 ≤ r ∧ r ≤ 65374
  ·
   have e : mOut r = mBase (r - 65248) := by unfold mOut; rw [if_neg (by omega), if_neg h2, if_pos h3]
   have m := @mBase_same (r - 65248)
   rw [e]
   exact mOut_stay (by omega) (by omega) (by omega) mBase_fix
  ·
   have e : mOut r = mBase r := by unfold mOut; rw [if_neg (by omega), if_neg h2, if_neg h3]
   have m := @mBase_same r
   rw [e]
   exact mOut_stay (by omega) (by omega) (by omega) mBase_fix
def fText (l : List Int) : List Int := (l.filter mKeep).map mOut
theorem fText_le (l : List Int) : (fText l).length ≤ l.length := by
 unfold fText; rw [List.length_map]; exact List.length_filter_le _ _
theorem fText_append (a b : List Int) : fText (a ++ b) = fText a ++ fText b := by
 unfold fText; rw [List.filter_append, List.map_append]
theorem fText_yes {l : List Int} {k : Nat} {x : Int} (hx : l[k]? = some x) (h : mKeep x = true) : fText (l.take (k + 1)) = fText (l.take k) ++ [mOut x] := by
 obtain ⟨hk, hx⟩ := List.getElem?_eq_some_iff.1 hx
 rw [take_snoc' l k hk, fText_append, hx]
 simp [fText, h]
theorem fText_no {l : List Int} {k : Nat} {x : Int} (hx : l[k]? = some x) (h : mKeep x = false) : fText (l.take (k + 1)) = fText (l.take k) := by
 obtain ⟨hk, hx⟩ := List.getElem?_eq_some_iff.1 hx
 rw [take_snoc' l k hk, fText_append, hx]
 simp [fText, h]
theorem fText_fix (l : List Int) : fText (fText l) = fText l := by
 induction l with
 | nil => rfl
 | cons x l ih =>
  unfold fText at ih ⊢
  by_cases h : mKeep x = true
  ·
   have ⟨h1, h2⟩ := mOut_fix h
   simp only [List.filter_cons, h, if_true, List.map_cons, h1, h2, ih]
  ·
   simp only [List.filter_cons, h]
   exact ih
theorem bits_or1 : ∀ n : Nat, n < 48 → bits .or .i32 ((n : Int) + 256) 1 = if n % 2 = 0 then (n : Int) + 257 else (n : Int) + 256 := by
 decide
theorem or1 {r : Int} (h1 : 256 ≤ r) (h2 : r ≤ 303) : bits .or .i32 r 1 = if r % 2 = 0 then r + 1 else r := by
 obtain ⟨n, rfl⟩ : ∃ n : Nat, r = (n : Int) + 256 := ⟨(r - 256).toNat, by omega⟩
 rw [bits_or1 n (by omega)]
 split <;> split <;> omega
end Go.Proofs.YtoapelcofjjdnaaGreatDoor
namespace Go.Proofs.YtoapelcofjjdnaaGreatDoor
set_option linter.all false
open Go.RowKit
theorem frac36 {d : Int} (h : 0 ≤ d) : 0 ≤ 36 * d / (d + 38) ∧ 36 * d / (d + 38) ≤ 35 := by
 refine ⟨Int.ediv_nonneg (by omega) (by omega), ?_⟩
 have : 36 * d / (d + 38) < 36 := Int.ediv_lt_of_lt_mul (by omega) (by omega)
 omega
theorem adF_range : ∀ (f : Nat) (d k : Int), 0 ≤ d → 0 ≤ k → 0 ≤ adF f d k ∧ adF f d k ≤ k + d + 36 := by
 intro f
 induction f with
 | zero => intro d k hd hk; have := frac36 hd; unfold adF; omega
 | succ f ih =>
  intro d k hd hk
  unfold adF
  split
  · have := ih (d / 35) (k + 36) (by omega) (by omega); omega
  · have := frac36 hd; omega
theorem pAdapt_range {d p : Int} (f : Bool) (hd : 0 ≤ d) (hp : 1 ≤ p) : 0 ≤ pAdapt d p f ∧ pAdapt d p f ≤ 2 * d + 36 := by
 unfold pAdapt ad
 have h0 : 0 ≤ pAdapt0 d f ∧ pAdapt0 d f ≤ d := by unfold pAdapt0; split <;> omega
 have h1 : 0 ≤ pAdapt0 d f / p := Int.ediv_nonneg h0.1 (by omega)
 have h2 : pAdapt0 d f / p ≤ pAdapt0 d f := Int.ediv_le_self _ h0.1
 have := adF_range (pAdapt0 d f + pAdapt0 d f / p).toNat (pAdapt0 d f + pAdapt0 d f / p) 0 (by omega) (by omega)
 omega
theorem num_len (m : Nat) : ∀ (q k b : Int), 0 ≤ q → q < (10 : Int) ^ m → (num q k b).length ≤ m + 1 := by
 induction m with
 | zero =>
  intro q k b h0 h
  have ht := edge_range k b
  rw [num_end (by simp at h; omega)]; simp
 | succ m ih =>
  intro q k b h0 h
  have ht := edge_range k b
  by_cases hlt : q < edge k b
  · rw [num_end hlt]; simp
  ·
   rw [num_step (by omega), List.length_cons]
   have hl := num_less (q := q) (t := edge k b) (by omega) ht.1 ht.2
   have h1 : (q - edge k b) / (36 - edge k b) * (36 - edge k b) ≤ q - edge k b := Int.ediv_mul_le _ (by omega)
   have h2 : (q - edge k b) / (36 - edge k b) * 10 ≤ (q - edge k b) / (36 - edge k b) * (36 - edge k b) := Int.mul_le_mul_of_nonneg_left (by omega) hl.1
   have := ih ((q - edge k b) / (36 - edge k b)) (k + 36) b hl.1 (by rw [Int.pow_succ] at h; omega)
   omega
def EB (s : ES) (D K : Int) (L : Nat) : Prop := 0 ≤ s.delta ∧ s.delta ≤ D ∧ 0 ≤ s.bias ∧ s.bias ≤ 100000000000 ∧ 0 ≤ s.done ∧ s.done ≤ K ∧ s.out.length ≤ L
theorem EB.one {s : ES} {D K : Int} {L : Nat} (h : EB s D K L) (hD : D ≤ 9000000000) (n bs r : Int) : EB (eOne n bs s r) (D + 1) (K + 1) (L + 11) := by
  obtain ⟨h1, h2, h3, h4, h5, h6, h7⟩ := h
  unfold eOne
  split
  · exact ⟨by simp only []; omega, by simp only []; omega, h3, h4, h5, by simp only []; omega, by simp only []; omega⟩
  · split
    · have hp := pAdapt_range (d := s.delta) (p := s.done + 1) (decide (s.done = bs)) h1 (by omega)
      have hn := num_len 10 s.delta 36 s.bias h1 (by have : (10 : Int) ^ 10 = 10000000000 := by decide
                                                     omega)
      exact ⟨by simp only []; omega, by simp only []; omega, hp.1, by simp only []; omega, by simp only []; omega, by simp only []; omega, by simp only [List.length_append]; omega⟩
    · exact ⟨h1, by omega, h3, h4, h5, by omega, by omega⟩
theorem ePass_snoc {n bs : Int} {s : ES} {l : List Int} {j : Nat} {x : Int} (h : l[j]? = some x) : ePass n bs s (l.take (j + 1)) = eOne n bs (ePass n bs s (l.take j)) x := by
 obtain ⟨hj, hx⟩ := List.getElem?_eq_some_iff.1 h
 unfold ePass
 rw [take_snoc' l j hj, hx, List.foldl_append]; rfl
theorem EB.pass {s : ES} {D K : Int} {L : Nat} (h : EB s D K L) (n bs : Int) (l : List Int) (hl : l.length ≤ 100) (hD : D ≤ 8000000000) : ∀ j : Nat, j ≤ l.length → EB (ePass n bs s (l.take j)) (D + j) (K + j) (L + 11 * j) := by
 intro j
 induction j with
 | zero => intro _; simpa [ePass] using h
 | succ j ih =>
  intro hj
  have h1 := ih (by omega)
  obtain ⟨x, hx⟩ : ∃ x, l[j]? = some x := ⟨l[j], List.getElem?_eq_getElem (by omega)⟩
  rw [ePass_snoc hx]
  have h2 := h1.one (by omega) n bs x
  obtain ⟨a1, a2, a3, a4, a5, a6, a7⟩ := h2
  exact ⟨a1, by push_cast; omega, a3, a4, a5, by push_cast; omega, by omega⟩
theorem least_snoc {n top : Int} {l : List Int} {j : Nat} {x : Int} (h : l[j]? = some x) : least n top (l.take (j + 1)) = (if n ≤ x then min (least n top (l.take j)) x else least n top (l.take j)) := by
 obtain ⟨hj, hx⟩ := List.getElem?_eq_some_iff.1 h
 unfold least
 rw [take_snoc' l j hj, hx, List.foldl_append]; rfl
end Go.Proofs.YtoapelcofjjdnaaGreatDoor
namespace Go.Proofs.YtoapelcofjjdnaaGreatDoor
set_option linter.all false
open Go.RowKit
def OL (s : ES) : Prop := (s.out.length : Int) ≤ 64 + 11 * s.done
theorem OL.one {s : ES} {D K : Int} {L : Nat} (ho : OL s) (h : EB s D K L) (hD : D ≤ 9000000000) (n bs r : Int) : OL (eOne n bs s r) := by
  obtain ⟨h1, h2, h3, h4, h5, h6, h7⟩ := h
  unfold OL at ho ⊢
  unfold eOne
  split
  · exact ho
  · split
    · have hn := num_len 10 s.delta 36 s.bias h1 (by have : (10 : Int) ^ 10 = 10000000000 := by decide
                                                     omega)
      simp only [List.length_append]; omega
    · exact ho
theorem OL.pass {s : ES} {D K : Int} {L : Nat} (ho : OL s) (h : EB s D K L) (n bs : Int) (l : List Int) (hl : l.length ≤ 100) (hD : D ≤ 8000000000) : ∀ j : Nat, j ≤ l.length → OL (ePass n bs s (l.take j)) := by
 intro j
 induction j with
 | zero => intro _; simpa [ePass] using ho
 | succ j ih =>
  intro hj
  have h1 := h.pass n bs l hl hD j (by omega)
  obtain ⟨x, hx⟩ : ∃ x, l[j]? = some x := ⟨l[j], List.getElem?_eq_getElem (by omega)⟩
  rw [ePass_snoc hx]
  exact (ih (by omega)).one h1 (by omega) n bs x
theorem eOne_delta {n bs r : Int} {s : ES} (h : 0 ≤ s.delta) : 0 ≤ (eOne n bs s r).delta ∧ (eOne n bs s r).delta ≤ s.delta + 1 := by
 unfold eOne; split
 · simp only []; omega
 ·
  split
  · simp only []; omega
  · omega
theorem pass_delta {n bs : Int} : ∀ (l : List Int) (s : ES), 0 ≤ s.delta → 0 ≤ (ePass n bs s l).delta ∧ (ePass n bs s l).delta ≤ s.delta + l.length ∧ (n ∈ l → (ePass n bs s l).delta ≤ l.length) := by
 intro l
 induction l with
 | nil => intro s h; exact ⟨h, by simp [ePass], by simp⟩
 | cons r q ih =>
  intro s h
  have h1 := eOne_delta (n := n) (bs := bs) (r := r) h
  have e : ePass n bs s (r :: q) = ePass n bs (eOne n bs s r) q := rfl
  rw [e]
  obtain ⟨a1, a2, a3⟩ := ih (eOne n bs s r) h1.1
  refine ⟨a1, by rw [List.length_cons]; omega, fun hm => ?_⟩
  rw [List.length_cons]
  rcases List.mem_cons.1 hm with rfl | hm
  ·
   have h0 : (eOne n bs s n).delta = 0 := by unfold eOne; rw [if_neg (by omega), if_pos rfl]
   omega
  · have := a3 hm; omega
def RB (l : List Int) (s : ES) : Prop := 0 ≤ s.delta ∧ s.delta ≤ 100 ∧ 0 ≤ s.bias ∧ s.bias ≤ 100000000000 ∧ 0 ≤ s.done ∧ s.done ≤ l.length ∧ OL s
theorem round_step {n bs : Int} {l : List Int} {s : ES} (hn : 128 ≤ n) (hl : cpAll l = true) (hlen : l.length ≤ 63) (hs : s.done < l.length) (h : ∃ σ, AtRound n bs l s σ) (hb : RB l s) :
  (∃ σ', AtRound (least n 1114111 l + 1) bs l (eRound n bs s l) σ') ∧ s.done < (eRound n bs s l).done ∧ n ≤ least n 1114111 l ∧ least n 1114111 l ≤ 1114111 ∧ RB l (eRound n bs s l) := by
 obtain ⟨σ, h⟩ := h
 obtain ⟨σ', h', _, hd, hnm⟩ := round_all hn hl hs h
 obtain ⟨hout, hdone, hbias, hfirst, hbase, hdelta, hi0, hnm', hat⟩ := h
 obtain ⟨b1, b2, b3, b4, b5, b6, b7⟩ := hb
 have hl' := List.all_eq_true.1 hl
 obtain ⟨x, hx, hxn⟩ : ∃ x ∈ l, n ≤ x := by
  rcases Classical.em (∃ x ∈ l, n ≤ x) with h | h
  · exact h
  ·
   exfalso
   have : l.filter (fun r => decide (r < n)) = l := List.filter_eq_self.2 fun r hr => decide_eq_true (by
    rcases Int.lt_or_le r n with h1 | h1
    · exact h1
    · exact absurd ⟨r, hr, h1⟩ h)
   rw [hout, this] at hdone
   omega
 have hx2 := cpOk_iff.1 (hl' x hx)
 have ⟨m1, m2, m3⟩ := least_spec n 1114111 l
 have hmx := m2 x hx hxn
 have hmem : least n 1114111 l ∈ l := by
  rcases m3 with h | h
  ·
   have e : x = least n 1114111 l := by omega
   rw [← e]; exact hx
  · exact h.2
 have hP : (least n 1114111 l - n) * (s.done + 1) ≤ 1113983 * (s.done + 1) := Int.mul_le_mul_of_nonneg_right (by omega) (by omega)
 have hP0 : 0 ≤ (least n 1114111 l - n) * (s.done + 1) := Int.mul_nonneg (by omega) (by omega)
 have hEB : EB { s with delta := s.delta + (least n 1114111 l - n) * (s.done + 1) } 1000000000 63 (64 + 11 * 63) := by
  unfold OL at b7
  exact ⟨by simp only []; omega, by simp only []; omega, b3, b4, b5, by simp only []; omega, by simp only []; omega⟩
 have hp := hEB.pass (least n 1114111 l) bs l (by omega) (by omega) l.length (Nat.le_refl _)
 have ho := OL.pass (s := { s with delta := s.delta + (least n 1114111 l - n) * (s.done + 1) }) b7 hEB (least n 1114111 l) bs l (by omega) (by omega) l.length (Nat.le_refl _)
 have hdl := pass_delta (n := least n 1114111 l) (bs := bs) l { s with delta := s.delta + (least n 1114111 l - n) * (s.done + 1) } (by simp only []; omega)
 rw [List.take_length] at hp ho
 obtain ⟨p1, p2, p3, p4, p5, p6, p7⟩ := hp
 obtain ⟨d1, d2, d3⟩ := hdl
 have d4 := d3 hmem
 have hdn : (eRound n bs s l).done ≤ l.length := by
  have e1 := h'.done
  rw [h'.out] at e1
  have := List.length_filter_le (fun r => decide (r < least n 1114111 l + 1)) l
  omega
 refine ⟨⟨σ', h'⟩, hd, hnm, m1, ?_, ?_, p3, p4, p5, hdn, ho⟩
 · show 0 ≤ (ePass _ bs _ l).delta + 1; omega
 · show (ePass _ bs _ l).delta + 1 ≤ 100; omega
theorem start_round {l : List Int} (hl : cpAll l = true) : (∃ σ, AtRound 128 (basics l).length l (eStart l) σ) ∧ RB l (eStart l) := by
 constructor
 ·
  refine ⟨dStart (l.filter (· < 128)), rfl, by rw [show (eStart l).done = ((basics l).length : Int) from rfl, basics_len]; rfl, rfl, ?_, Int.le_refl _, Int.le_refl _, Int.le_refl _, Int.le_refl _, ?_⟩
  ·
   show true = decide (((basics l).length : Int) = (basics l).length)
   simp
  ·
   show 128 * (((basics l).length : Int) + 1) + 0 + 0 = _
   show _ = 128 * (((basics l).length : Int) + 1)
   omega
 ·
  have h1 : (basics l).length ≤ l.length := by rw [basics_len]; exact List.length_filter_le _ _
  refine ⟨Int.le_refl _, by show (0 : Int) ≤ 100; omega, by show (0 : Int) ≤ 72; omega, by show (72 : Int) ≤ _; omega, by show (0 : Int) ≤ ((basics l).length : Int); omega, by show ((basics l).length : Int) ≤ _; omega, ?_⟩
  unfold OL eStart
  simp only []
  split
  · rw [List.length_append]; simp; omega
  · simp; omega
theorem eLoop_next {f : Nat} {n bs : Int} {s : ES} {l : List Int} (h : s.done < l.length) : eLoop (f + 1) n bs s l = eLoop f (least n 1114111 l + 1) bs (eRound n bs s l) l := by
 show (if _ then _ else _) = _
 rw [if_pos h]
theorem eLoop_end {f : Nat} {n bs : Int} {s : ES} {l : List Int} (h : ¬ s.done < l.length) : eLoop f n bs s l = s := by
 cases f with
 | zero => rfl
 | succ f => show (if _ then _ else _) = _; rw [if_neg h]
theorem basics_snoc {l : List Int} {j : Nat} {x : Int} (h : l[j]? = some x) : basics (l.take (j + 1)) = if x < 128 then basics (l.take j) ++ [byteOf x] else basics (l.take j) := by
 obtain ⟨hj, hx⟩ := List.getElem?_eq_some_iff.1 h
 unfold basics
 rw [take_snoc' l j hj, hx, List.filter_append, List.map_append]
 by_cases hx2 : x < 128
 · rw [if_pos hx2]; simp [hx2]
 · rw [if_neg hx2]; simp [hx2]
theorem cpAll_iff {l : List Int} : cpAll l = true ↔ ∀ x ∈ l, cpOk x = true := by unfold cpAll; exact List.all_eq_true
end Go.Proofs.YtoapelcofjjdnaaGreatDoor
namespace Go.Proofs.YtoapelcofjjdnaaGreatDoor
set_option linter.all false
open Go.RowKit
end Go.Proofs.YtoapelcofjjdnaaGreatDoor
