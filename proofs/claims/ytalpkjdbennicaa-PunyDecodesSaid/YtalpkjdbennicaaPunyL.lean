/- What the walk of the reference's Unpuny asks: plain laws, and append of any reading inside a statement whose order is open. -/
import Derived.Test.YtalpkjdbennicaaPunyK
namespace Go.Proofs.Ytalpkjdbennicaa
set_option linter.all false
open Go.RowKit

theorem dr_cons {s : List UInt8} {p : Nat} (h : p < s.length) : dr s p = gb s p :: dr s (p + 1) := by
  unfold dr gb
  rw [List.drop_eq_getElem_cons h, List.getD_eq_getElem?_getD, List.getElem?_eq_getElem h]; rfl
theorem rdNum_end {s : List UInt8} {p : Nat} (h : ¬ p < s.length) (k b w n : Int) : rdNum (dr s p) k b w n = none := by
  rw [show dr s p = [] from List.drop_eq_nil_of_le (by omega)]; rfl
theorem rdNum_at {s : List UInt8} {p : Nat} (h : p < s.length) (k b w n : Int) : rdNum (dr s p) k b w n = (if digitOf (gb s p) < 0 then none
    else if digitOf (gb s p) < edge k b then some (n + digitOf (gb s p) * w, dr s (p + 1))
    else rdNum (dr s (p + 1)) (k + 36) b (w * (36 - edge k b)) (n + digitOf (gb s p) * w)) := by
  rw [dr_cons h]; rfl

theorem dec_longer (m : Nat) : ∀ (t : List UInt8) (σ : DS) (l : List Int), t.length ≤ m → dec t σ = some l → σ.out.length ≤ l.length := by
  induction m with
  | zero =>
    intro t σ l h hd
    rw [List.eq_nil_of_length_eq_zero (by omega : t.length = 0), dec_nil] at hd
    injection hd with hd; subst hd; exact Nat.le_refl _
  | succ m ih =>
    intro t σ l h hd
    cases t with
    | nil => rw [dec_nil] at hd; injection hd with hd; subst hd; exact Nat.le_refl _
    | cons c t =>
      rw [dec_step (by simp)] at hd
      cases hr : rdNum (c :: t) 36 σ.bias 1 0 with
      | none => rw [hr] at hd; cases hd
      | some x =>
        rw [hr, Option.bind_some] at hd
        cases hs : dStep σ x.1 with
        | none => rw [hs] at hd; cases hd
        | some σ' =>
          rw [hs, Option.bind_some] at hd
          have h1 := ih _ _ _ (by have := rdNum_shorter _ _ _ _ _ x.1 x.2 hr; omega) hd
          unfold dStep at hs
          split at hs
          · injection hs with hs
            have : (dNext σ x.1).out.length = σ.out.length + 1 := by
              show (_ ++ _ :: _).length = _
              rw [List.length_append, List.length_cons, List.length_take, List.length_drop]; omega
            rw [hs] at this; omega
          · cases hs
def fit63 (l : List Int) : Option (List Int) := if l.length ≤ 63 then some l else none
theorem dec_over {t : List UInt8} {σ : DS} (h : 63 < σ.out.length) : (dec t σ).bind fit63 = none := by
  cases hd : dec t σ with
  | none => rfl
  | some l =>
    have := dec_longer _ t σ l (Nat.le_refl _) hd
    exact if_neg (by omega)
theorem dec_full {t : List UInt8} {σ : DS} (h : 63 ≤ σ.out.length) (h0 : 0 < t.length) : (dec t σ).bind fit63 = none := by
  rw [dec_step (by intro e; rw [e] at h0; cases h0)]
  cases hr : rdNum t 36 σ.bias 1 0 with
  | none => rfl
  | some x =>
    rw [Option.bind_some]
    cases hs : dStep σ x.1 with
    | none => rfl
    | some σ' =>
      rw [Option.bind_some]
      refine dec_over ?_
      unfold dStep at hs
      split at hs
      · injection hs with hs
        have : (dNext σ x.1).out.length = σ.out.length + 1 := by
          show (_ ++ _ :: _).length = _
          rw [List.length_append, List.length_cons, List.length_take, List.length_drop]; omega
        rw [hs] at this; omega
      · cases hs

theorem digit_high {c : UInt8} (h : 128 ≤ c.toNat) : digitOf c < 0 := by unfold digitOf; (repeat' split) <;> omega
theorem rdNum_high : ∀ (t : List UInt8) (k b w n d : Int) (r : List UInt8) (c : UInt8), c ∈ t → 128 ≤ c.toNat → rdNum t k b w n = some (d, r) → c ∈ r := by
  intro t
  induction t with
  | nil => intro k b w n d r c hc; cases hc
  | cons x t ih =>
    intro k b w n d r c hc h1 h
    unfold rdNum at h
    by_cases h2 : digitOf x < 0
    · rw [if_pos h2] at h; cases h
    rw [if_neg h2] at h
    have hx : c ∈ t := by
      rcases List.mem_cons.1 hc with e | e
      · subst e; exact absurd (digit_high h1) h2
      · exact e
    split at h
    · injection h with h; injection h with h3 h4; subst h4; exact hx
    · exact ih _ _ _ _ _ _ _ hx h1 h
theorem dec_high (m : Nat) : ∀ (t : List UInt8) (σ : DS) (c : UInt8), t.length ≤ m → c ∈ t → 128 ≤ c.toNat → dec t σ = none := by
  induction m with
  | zero => intro t σ c h hc; rw [List.eq_nil_of_length_eq_zero (by omega : t.length = 0)] at hc; cases hc
  | succ m ih =>
    intro t σ c h hc h1
    rw [dec_step (by intro e; rw [e] at hc; cases hc)]
    cases hr : rdNum t 36 σ.bias 1 0 with
    | none => rfl
    | some x =>
      rw [Option.bind_some]
      cases hs : dStep σ x.1 with
      | none => rfl
      | some σ' =>
        rw [Option.bind_some]
        exact ih _ _ c (by have := rdNum_shorter _ _ _ _ _ x.1 x.2 hr; omega) (rdNum_high _ _ _ _ _ _ _ _ hc h1 hr) h1
theorem unpuny_high {s : List UInt8} {c : UInt8} (hc : c ∈ s) (h : 128 ≤ c.toNat) : unpuny s = none := by
  by_cases h200 : 200 < s.length
  · exact unpuny_long h200
  by_cases hw : (dBase s).any (fun c => decide (128 ≤ c.toNat)) = true
  · exact unpuny_wide hw
  rw [unpuny_is h200 (Bool.eq_false_iff.2 hw), dec_high _ _ _ c (Nat.le_refl _) ?_ h]
  · rfl
  unfold dRest
  by_cases hd : 0 < dash s
  · rw [if_pos hd]
    rcases dashN_spec s s.length with ⟨h1, _⟩ | ⟨i, hi, h1, h2, _⟩
    · have : dash s = -1 := h1
      omega
    · have hdi : dash s = i := h1
      rw [hdi, Int.toNat_natCast]
      have hB : dBase s = s.take i := by unfold dBase; rw [hdi, if_pos (by omega), Int.toNat_natCast]
      rw [hB] at hw
      have hs : s = s.take i ++ s[i] :: s.drop (i + 1) := by rw [← List.drop_eq_getElem_cons hi, List.take_append_drop]
      rw [hs] at hc
      rcases List.mem_append.1 hc with e | e
      · exact absurd (List.any_eq_true.2 ⟨c, e, decide_eq_true h⟩) hw
      · rcases List.mem_cons.1 e with e | e
        · exfalso
          rw [List.getD_eq_getElem?_getD, List.getElem?_eq_getElem hi] at h2
          have h2' : s[i] = 45 := h2
          rw [e, h2'] at h
          revert h; decide
        · exact e
  · rw [if_neg hd]; exact hc
theorem wide_low {s : List UInt8} (h : ∀ k, k < s.length → gb s k ≤ 127) : (dBase s).any (fun c => decide (128 ≤ c.toNat)) = false := by
  rw [Bool.eq_false_iff]
  intro hw
  obtain ⟨c, hc, h1⟩ := List.any_eq_true.1 hw
  have h1 := of_decide_eq_true h1
  have hm : c ∈ s := by
    unfold dBase at hc; split at hc
    · exact List.mem_of_mem_take hc
    · cases hc
  obtain ⟨k, hk⟩ := List.getElem?_of_mem hm
  have hl : k < s.length := (List.getElem?_eq_some_iff.1 hk).1
  have h2 := h k hl
  rw [gb_of hk] at h2
  have h3 : c.toNat ≤ (127 : UInt8).toNat := h2
  have : (127 : UInt8).toNat = 127 := rfl
  omega
theorem dashN_next (s : List UInt8) (j : Nat) : dashN s (j + 1) = if gb s j = 45 then (j : Int) else dashN s j := rfl
theorem dashN_lt (s : List UInt8) (j : Nat) : -1 ≤ dashN s j ∧ dashN s j < j + 1 := by
  rcases dashN_range s j with h | h <;> omega

section
variable {P : Program} {w : World} {ops : Array Oper} {o : Oper} {a : Act} {Q : Exit → Act → World → Prop} {K : Act → World → Prop} {E : Prop}
theorem step_append_any (hgd : o.guard = none) (s x : Operand) (t : TypeId)
    (ho : o.op = .call { callee := .builtin .append, args := #[s, x], argTypes := #[t, t] })
    (base : Nat) (e : TypeId) (z : Value) (size bytes : Nat) (ht : P.underlying t = some (.slice e))
    (hinfo : (P.info? e).map (fun i => (i.zero, i.size, i.bytes)) = some (some z, size, bytes)) (hzs : z.cells.size = size) (hsz : 0 < size)
    (v : Value) (n : Nat) (xs : List Value) (hs : a.eval s = v) (hown : w.ownsRow base e size v n xs)
    (A : Option Addr) (m c : Nat) (news : List Value) (hx : a.eval x = .slice A m c) (hl : news.length = m * size) (hnone : A = none → m = 0 ∧ c = 0)
    (hc : ∀ ad, A = some ad → ∀ j u, news[j]? = some u → w.cell? (ad.add j) = some u) (h1 : ∀ u ∈ news, u.oneCell' = true)
    (h63 : n + m ≤ 1000000) (hb : bytes ≤ 1000) (hbase : base ≤ w.heap.size)
    (h : ∀ A' c' w', n + m ≤ c' → c' ≤ maxLen → w'.ownsRow base e size (.slice A' (n + m) c') (n + m) (xs ++ news) → Below base w w' → w.grownBy w' v.ownBlock → K (a.put o.dst (.slice A' (n + m) c')) w') :
    if Region.wanted o (yielded ops a.tmps) = true then Oper.wp P o a w K Q else E := by
  obtain ⟨i, hi, hz, hsize, hby⟩ := info_parts hinfo
  have hbytes : (n + m) * bytes ≤ 140737488355328 := by
    calc (n + m) * bytes ≤ 1000000 * 1000 := Nat.mul_le_mul h63 hb
      _ ≤ 140737488355328 := by decide
  have hw : Region.wanted o (yielded ops a.tmps) = true := by simp [Region.wanted, hgd]
  rw [if_pos hw]
  cases A with
  | some ad =>
    obtain ⟨v', w', hrun, h2, h3, _⟩ := run_append_own_at (P := P) w base t o.type e i z size bytes ht hi hz hsize hby hzs hsz v n xs hown ad m c news hl (hc ad rfl) h1 (by simp only [maxLen]; omega) hbytes hbase
    obtain ⟨A', c', rfl, q1, q2⟩ := own_shape h2
    unfold Oper.wp execOp
    simp only [ho, resolve, invoke, builtin, Sem.run_bind, Sem.run_pure, Result.andThen_ok, List.map_toArray, List.map_cons, List.map_nil, hs, hx, hrun]
    exact h A' c' w' q1 q2 h2 ((Below.refl _ _).grown h3 hbase fun k hk => (hown.lt k hk).1) h3
  | none =>
    obtain ⟨rfl, rfl⟩ := hnone rfl
    have hn : news = [] := List.eq_nil_of_length_eq_zero (by omega)
    subst hn
    have hrun := run_append_owned_none (P := P) (w := w) base t o.type e i size ht hi v n xs hown
    obtain ⟨A', c', rfl, q1, q2⟩ := own_shape hown
    unfold Oper.wp execOp
    simp only [ho, resolve, invoke, builtin, Sem.run_bind, Sem.run_pure, Result.andThen_ok, List.map_toArray, List.map_cons, List.map_nil, hs, hx, hrun]
    exact h A' c' w q1 q2 (by rw [List.append_nil]; exact hown) (Below.refl _ _) (World.grownBy.refl w _)
end
theorem rd_any {w : World} {B : Nat} {A : Option Addr} {xs : List Value} (h : Rd w B A xs) : ∀ ad, A = some ad → ∀ j u, xs[j]? = some u → w.cell? (ad.add j) = some u := by
  intro ad e j u hu
  have hj : j < xs.length := (List.getElem?_eq_some_iff.1 hu).1
  obtain ⟨b, off, e2, _, hc⟩ := h (by omega)
  rw [e] at e2
  injection e2 with e2
  rw [e2, Addr.add_lit]
  exact hc j u hu
theorem own_nil {w : World} {base : Nat} {e : TypeId} {size : Nat} {A : Option Addr} {n c : Nat} {xs : List Value} (h : w.ownsRow base e size (.slice A n c) n xs) : A = none → n = 0 ∧ c = 0 := by
  intro hA
  rcases h.2 with ⟨h1, h2⟩ | ⟨g, cap, cur, h1, _⟩
  · injection h1 with _ h3 h4; exact ⟨h2, h4⟩
  · injection h1 with h3; rw [hA] at h3; cases h3
end Go.Proofs.Ytalpkjdbennicaa
