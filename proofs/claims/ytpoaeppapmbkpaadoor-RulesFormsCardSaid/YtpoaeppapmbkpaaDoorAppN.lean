/- append of a slice to what the call owns, however many cells an element has. -/
import Derived.Test.YtpoaeppapmbkpaaDoorLibB
namespace Go.Proofs.YtpoaeppapmbkpaaDoor
set_option linter.all false
open Go.RowKit

theorem takeAll {α : Type} {P : α → Prop} {l : List α} {j : Nat} {p : α} (h : l[j]? = some p) (ha : ∀ x ∈ l.take j, P x) (hp : P p) : ∀ x ∈ l.take (j + 1), P x := by
  obtain ⟨hj, e⟩ := List.getElem?_eq_some_iff.1 h
  intro x hx
  rw [take_snoc' l j hj, e] at hx
  rcases List.mem_append.1 hx with hx | hx
  · exact ha x hx
  · rw [List.mem_singleton.1 hx]; exact hp

section
variable {P : Program} {w : World} {ops : Array Oper} {rest : List Oper} {o : Oper} {a : Act} {Q : Exit → Act → World → Prop}
theorem wpList_append_rdN (hgd : o.guard = none) (s x : Operand) (t : TypeId)
    (ho : o.op = .call { callee := .builtin .append, args := #[s, x], argTypes := #[t, t] })
    (base : Nat) (e : TypeId) (z : Value) (size bytes : Nat) (ht : P.underlying t = some (.slice e))
    (hinfo : (P.info? e).map (fun i => (i.zero, i.size, i.bytes)) = some (some z, size, bytes)) (hzs : z.cells.size = size) (hsz : 0 < size)
    (v : Value) (n : Nat) (xs : List Value) (hs : a.eval s = v) (hown : w.ownsRow base e size v n xs)
    (B : Nat) (A : Option Addr) (m c : Nat) (news : List Value) (hx : a.eval x = .slice A m c) (hm : news.length = m * size) (hr : Rd w B A news) (h1 : ∀ u ∈ news, u.oneCell' = true)
    (h63 : n + m ≤ 1000000) (hb : bytes ≤ 1000) (hbase : base ≤ w.heap.size)
    (h : ∀ A' c' w', n + m ≤ c' → c' ≤ maxLen → w'.ownsRow base e size (.slice A' (n + m) c') (n + m) (xs ++ news) → Below base w w' → w.grownBy w' v.ownBlock → wpList P ops Q rest (a.put o.dst (.slice A' (n + m) c')) w') :
    wpList P ops Q (o :: rest) a w := by
  obtain ⟨i, hi, hz, hsize, hby⟩ := info_parts hinfo
  have hbytes : (n + m) * bytes ≤ 140737488355328 := by
    calc (n + m) * bytes ≤ 1000000 * 1000 := Nat.mul_le_mul h63 hb
      _ ≤ 140737488355328 := by decide
  have hbel : ∀ w', w.grownBy w' v.ownBlock → Below base w w' := fun w' hg => (Below.refl _ _).grown hg hbase fun k hk => (hown.lt k hk).1
  rcases A with _ | ad
  · have hm0 : news = [] := by
      rcases news with _ | ⟨y, ys⟩
      · rfl
      · obtain ⟨_, _, he, _⟩ := hr (by simp); cases he
    subst hm0
    have hm1 : m = 0 := by
      rcases Nat.eq_zero_or_pos m with h | h
      · exact h
      · have := Nat.mul_pos h hsz; simp at hm; omega
    subst hm1
    refine wpList_plain hgd fun K hK => ?_
    have hrun : (Builtin.append_ #[t, t] o.type #[v, .slice none 0 c]).run P w = .ok v w := by
      rcases hown.2 with ⟨rfl, rfl⟩ | ⟨g, cap, cur, rfl, _, _, hnc, _⟩
      · simp [Builtin.append_, run_underlying ht, sizeOf, typeInfo, hi, Builtin.lenOf, Builtin.firstCells]
      · simp [Builtin.append_, run_underlying ht, sizeOf, typeInfo, hi, Builtin.lenOf, Builtin.firstCells, hnc, storeCells]
    unfold Oper.wp execOp
    simp only [ho, resolve, invoke, builtin, Sem.run_bind, Sem.run_pure, Result.andThen_ok, List.map_toArray, List.map_cons, List.map_nil, hs, hx, hrun]
    obtain ⟨A', c', rfl, h2, h3⟩ := own_shape hown
    exact hK _ _ (h A' c' w (by omega) h3 (by simpa using hown) (Below.refl _ _) (World.grownBy.refl _ _))
  · refine wpList_append_own_at _ hgd s x t ho base e i z size bytes ht hi hz hsize hby hzs hsz v n xs hs hown ad m c news hx hm ?_ h1 (by simp only [maxLen]; omega) hbytes hbase ?_
    · intro j u hu
      have hj : j < news.length := by
        rcases Nat.lt_or_ge j news.length with h2 | h2
        · exact h2
        · rw [List.getElem?_eq_none h2] at hu; cases hu
      obtain ⟨b, off, e1, _, hc⟩ := hr (by omega)
      injection e1 with e1
      subst e1
      rw [Addr.add_lit]
      exact hc j u hu
    · intro v' w' hown' hg _ _
      obtain ⟨A', c', rfl, h2, h3⟩ := own_shape hown'
      exact h A' c' w' h2 h3 hown' (hbel _ hg) hg
end
end Go.Proofs.YtpoaeppapmbkpaaDoor

