/- A part of the proof. -/
import Derived.Test.YtoapelcofjjdnaaGreatDoorR03
import Derived.Deep.RegionLaw
import Derived.RegionTactic
namespace Go.Proofs.YtoapelcofjjdnaaGreatDoor
set_option linter.all false
open Go.RowKit
section
variable {P : Program} {w : World} {ops : Array Oper} {o : Oper} {a : Act} {Q : Exit → Act → World → Prop} {K : Act → World → Prop} {E : Prop}
theorem step_append_cells (hgd : o.guard = none) (s x : Operand) (t : TypeId)
  (ho : o.op = .call { callee := .builtin .append, args := #[s, x], argTypes := #[t, t] })
  (base : Nat) (e : TypeId) (z : Value) (size bytes : Nat) (ht : P.underlying t = some (.slice e))
  (hinfo : (P.info? e).map (fun i => (i.zero, i.size, i.bytes)) = some (some z, size, bytes)) (hzs : z.cells.size = size) (hsz : 0 < size)
  (v : Value) (n : Nat) (xs : List Value) (hs : a.eval s = v) (hown : w.ownsRow base e size v n xs)
  (g : Nat) (us : Array Value) (m c : Nat) (e' : TypeId) (mk : Nat × Nat) (hx : a.eval x = .slice (some ⟨g, 0, none⟩) m c) (hblk : w.heap[g]? = some (.cells us e' mk)) (hl : us.size = m * size) (h1 : ∀ u ∈ us.toList, u.oneCell' = true)
  (h63 : n + m ≤ 1000000) (hb : bytes ≤ 1000) (hbase : base ≤ w.heap.size)
  (h : ∀ A' c' w', n + m ≤ c' → c' ≤ maxLen → w'.ownsRow base e size (.slice A' (n + m) c') (n + m) (xs ++ us.toList) → Below base w w' → w.grownBy w' v.ownBlock → K (a.put o.dst (.slice A' (n + m) c')) w') :
  if Region.wanted o (yielded ops a.tmps) = true then Oper.wp P o a w K Q else E := by
 obtain ⟨i, hi, hz, hsize, hby⟩ := info_parts hinfo
 have hbytes : (n + m) * bytes ≤ 140737488355328 := by
  calc (n + m) * bytes ≤ 1000000 * 1000 := Nat.mul_le_mul h63 hb
   _ ≤ 140737488355328 := by decide
 have hw : Region.wanted o (yielded ops a.tmps) = true := by simp [Region.wanted, hgd]
 rw [if_pos hw]
 obtain ⟨v', w', hrun, h2, h3, _⟩ := run_append_own_at (P := P) w base t o.type e i z size bytes ht hi hz hsize hby hzs hsz v n xs hown ⟨g, 0, none⟩ m c us.toList (by simpa using hl) (fun j u hu => by
  rw [Addr.add_lit, Nat.zero_add, cell_of_row w g j us e' mk hblk, ← hu]; simp) h1 (by simp only [maxLen]; omega) hbytes hbase
 obtain ⟨A', c', rfl, q1, q2⟩ := own_shape h2
 unfold Oper.wp execOp
 simp only [ho, resolve, invoke, builtin, Sem.run_bind, Sem.run_pure, Result.andThen_ok, List.map_toArray, List.map_cons, List.map_nil, hs, hx, hrun]
 exact h A' c' w' q1 q2 h2 ((Below.refl _ _).grown h3 hbase fun k hk => (hown.lt k hk).1) h3
theorem step_call (hgd : o.guard = none) (f : FuncId) (xs : Array Operand) (ts : Array TypeId) (ho : o.op = .call { callee := .value (.func f), args := xs, argTypes := ts })
  (hen : ∀ args w, (callFunc f args).run P w = .ok (.enter f args) w) (R : Ending → World → Prop) (hc : Calls P f (xs.map a.eval) w R)
  (h : ∀ e w', R e w' → ∃ v, e = .returned v ∧ K (a.put o.dst v) w') : if Region.wanted o (yielded ops a.tmps) = true then Oper.wp P o a w K Q else E := by
 have hw : Region.wanted o (yielded ops a.tmps) = true := by simp [Region.wanted, hgd]
 rw [if_pos hw]
 unfold Oper.wp
 have he : (execOp a.eval o).run P w = .ok (.enter f (xs.map a.eval)) w := by
  unfold execOp
  simp only [ho]
  simp [resolve, invoke, Act.eval, Deferred.ofValue, hen]
 rw [he, Oper.upon_enter]
 refine hc.mono fun e w' hr => ?_
 obtain ⟨v, rfl, hk⟩ := h e w' hr
 exact hk
theorem step_call2 (hgd : o.guard = none) (f : FuncId) (x y : Operand) (ts : Array TypeId) (ho : o.op = .call { callee := .value (.func f), args := #[x, y], argTypes := ts })
  (hen : ∀ args w, (callFunc f args).run P w = .ok (.enter f args) w) (u v : Value) (hx : a.eval x = u) (hy : a.eval y = v) (R : Ending → World → Prop) (hc : Calls P f #[u, v] w R)
  (h : ∀ e w', R e w' → ∃ v, e = .returned v ∧ K (a.put o.dst v) w') : if Region.wanted o (yielded ops a.tmps) = true then Oper.wp P o a w K Q else E :=
 step_call hgd f #[x, y] ts ho hen R (by simpa [hx, hy] using hc) h
end
end Go.Proofs.YtoapelcofjjdnaaGreatDoor
namespace Go.Proofs.YtoapelcofjjdnaaGreatDoor
set_option linter.all false
open Go.RowKit
section
variable {P : Program} {w : World} {ops : Array Oper} {rest : List Oper} {o : Oper} {a : Act} {Q : Exit → Act → World → Prop}
theorem wpList_append_litAt (hgd : o.guard = none) (s x : Operand) (t : TypeId)
  (ho : o.op = .call { callee := .builtin .append, args := #[s, x], argTypes := #[t, t] })
  (base : Nat) (e : TypeId) (z : Value) (size bytes : Nat) (ht : P.underlying t = some (.slice e))
  (hinfo : (P.info? e).map (fun i => (i.zero, i.size, i.bytes)) = some (some z, size, bytes)) (hzs : z.cells.size = size) (hsz : 0 < size)
  (v : Value) (n : Nat) (xs : List Value) (hs : a.eval s = v) (hown : w.ownsRow base e size v n xs)
  (us : Array Value) (m c : Nat) (e' : TypeId) (hx : a.eval x = .slice (some ⟨w.heap.size, 0, none⟩) m c) (hl : us.size = m * size) (h1 : ∀ u ∈ us.toList, u.oneCell' = true)
  (h63 : n + m ≤ 1000000) (hb : bytes ≤ 1000) (hbase : base ≤ w.heap.size)
  (h : ∀ A' c' w', n + m ≤ c' → c' ≤ maxLen → w'.ownsRow base e size (.slice A' (n + m) c') (n + m) (xs ++ us.toList) → Below base w w' → w.grownBy w' v.ownBlock →
   ((Value.slice A' (n + m) c').ownBlock = v.ownBlock ∨ (Value.slice A' (n + m) c').ownBlock = some (w.heap.size + 1)) → wpList P ops Q rest (a.put o.dst (.slice A' (n + m) c')) w') :
  wpList P ops Q (o :: rest) a (w.alloc (.cells us e')) := by
 obtain ⟨i, hi, hz, hsize, hby⟩ := info_parts hinfo
 refine wpList_append_own_at _ hgd s x t ho base e i z size bytes ht hi hz hsize hby hzs hsz v n xs hs (hown.alloc _) ⟨w.heap.size, 0, none⟩ m c us.toList hx (by simpa using hl) ?_ h1 (by simp only [maxLen]; omega) ?_ (by simp; omega) ?_
 ·
  intro j u hu
  rw [Addr.add_lit, Nat.zero_add]
  have hc := cell_of_row (w.alloc (.cells us e')) w.heap.size j us e' (0, 0) (heap_alloc_new w _)
  rw [hc, ← hu]; simp
 ·
  calc (n + m) * bytes ≤ 1000000 * 1000 := Nat.mul_le_mul h63 hb
   _ ≤ 140737488355328 := by decide
 ·
  intro v' w' hown' hg _ hat
  obtain ⟨A', c', rfl, h1, h2⟩ := own_shape hown'
  refine h A' c' w' h1 h2 hown' ?_ ?_ (by simpa using hat)
  · refine ((Below.refl _ _).alloc hbase _).grown hg (by simp; omega) fun k hk => (hown.lt k hk).1
  · exact ⟨hg.os, hg.tape, hg.output, by have := hg.size; simp at this; omega, fun k hk hne => (hg.block k (by simp; omega) hne).trans (Below.heap_alloc _ _ _ hk)⟩
end
section
variable {P : Program} {w : World} {ops : Array Oper} {o : Oper} {a : Act} {Q : Exit → Act → World → Prop} {K : Act → World → Prop} {E : Prop}
theorem step_append_cellsAt (hgd : o.guard = none) (s x : Operand) (t : TypeId)
  (ho : o.op = .call { callee := .builtin .append, args := #[s, x], argTypes := #[t, t] })
  (base : Nat) (e : TypeId) (z : Value) (size bytes : Nat) (ht : P.underlying t = some (.slice e))
  (hinfo : (P.info? e).map (fun i => (i.zero, i.size, i.bytes)) = some (some z, size, bytes)) (hzs : z.cells.size = size) (hsz : 0 < size)
  (v : Value) (n : Nat) (xs : List Value) (hs : a.eval s = v) (hown : w.ownsRow base e size v n xs)
  (g : Nat) (us : Array Value) (m c : Nat) (e' : TypeId) (mk : Nat × Nat) (hx : a.eval x = .slice (some ⟨g, 0, none⟩) m c) (hblk : w.heap[g]? = some (.cells us e' mk)) (hl : us.size = m * size) (h1 : ∀ u ∈ us.toList, u.oneCell' = true)
  (h63 : n + m ≤ 1000000) (hb : bytes ≤ 1000) (hbase : base ≤ w.heap.size)
  (h : ∀ A' c' w', n + m ≤ c' → c' ≤ maxLen → w'.ownsRow base e size (.slice A' (n + m) c') (n + m) (xs ++ us.toList) → Below base w w' → w.grownBy w' v.ownBlock →
   ((Value.slice A' (n + m) c').ownBlock = v.ownBlock ∨ (Value.slice A' (n + m) c').ownBlock = some w.heap.size) → K (a.put o.dst (.slice A' (n + m) c')) w') :
  if Region.wanted o (yielded ops a.tmps) = true then Oper.wp P o a w K Q else E := by
 obtain ⟨i, hi, hz, hsize, hby⟩ := info_parts hinfo
 have hbytes : (n + m) * bytes ≤ 140737488355328 := by
  calc (n + m) * bytes ≤ 1000000 * 1000 := Nat.mul_le_mul h63 hb
   _ ≤ 140737488355328 := by decide
 have hw : Region.wanted o (yielded ops a.tmps) = true := by simp [Region.wanted, hgd]
 rw [if_pos hw]
 obtain ⟨v', w', hrun, h2, h3, _, h4⟩ := run_append_own_at (P := P) w base t o.type e i z size bytes ht hi hz hsize hby hzs hsz v n xs hown ⟨g, 0, none⟩ m c us.toList (by simpa using hl) (fun j u hu => by
  rw [Addr.add_lit, Nat.zero_add, cell_of_row w g j us e' mk hblk, ← hu]; simp) h1 (by simp only [maxLen]; omega) hbytes hbase
 obtain ⟨A', c', rfl, q1, q2⟩ := own_shape h2
 unfold Oper.wp execOp
 simp only [ho, resolve, invoke, builtin, Sem.run_bind, Sem.run_pure, Result.andThen_ok, List.map_toArray, List.map_cons, List.map_nil, hs, hx, hrun]
 exact h A' c' w' q1 q2 h2 ((Below.refl _ _).grown h3 hbase fun k hk => (hown.lt k hk).1) h3 h4
end
theorem Rd.row {w w' : World} {g off : Nat} {xs : List Value} {row : Option Nat} (h : Rd w w.heap.size (some ⟨g, off, none⟩) xs) (hg : w.grownBy w' row) (hne : row ≠ some g) : Rd w' w'.heap.size (some ⟨g, off, none⟩) xs := fun hn => by
 obtain ⟨b, o, e, hb, hc⟩ := h hn
 injection e with e
 injection e with e1 e2
 subst e1 e2
 exact ⟨g, off, rfl, Nat.lt_of_lt_of_le hb hg.size, fun j u hu => hg.cell (hc j u hu) (fun e => hne e.symm)⟩
def ApartV (u v : Value) : Prop := ∀ b, u.ownBlock = some b → v.ownBlock ≠ some b
theorem ApartV.symm {u v : Value} (h : ApartV u v) : ApartV v u := fun b h1 h2 => h b h2 h1
theorem ApartV.none {u v : Value} (h : u.ownBlock = none) : ApartV u v := fun b h1 => by rw [h] at h1; cases h1
theorem ApartV.same {u v v' : Value} (h : ApartV u v) (e : v'.ownBlock = v.ownBlock) : ApartV u v' := fun b h1 h2 => h b h1 (e ▸ h2)
theorem own_apart {w w' : World} {base : Nat} {e : TypeId} {size n : Nat} {u v : Value} {xs : List Value} (h : w.ownsRow base e size u n xs) (hg : w.grownBy w' v.ownBlock) (ha : ApartV u v) : w'.ownsRow base e size u n xs := by
 refine h.kept hg ?_
 cases eu : u.ownBlock with
 | none => exact .inl rfl
 | some b => exact .inr fun e => ha b eu e.symm
theorem ApartV.grown {w : World} {base : Nat} {e : TypeId} {size n X : Nat} {u v v' : Value} {xs : List Value} (ha : ApartV u v) (h : w.ownsRow base e size u n xs) (hX : w.heap.size ≤ X) (hv : v'.ownBlock = v.ownBlock ∨ v'.ownBlock = some X) : ApartV u v' := by
 intro b h1 h2
 rcases hv with e | e
 · exact ha b h1 (e ▸ h2)
 ·
  rw [e] at h2
  injection h2 with h2
  have := (h.lt b h1).2
  omega
end Go.Proofs.YtoapelcofjjdnaaGreatDoor
