/- puny.Decode as a whole; both ways round. -/
import Derived.Test.YtalpkjdbennicaaPunyR
namespace Go.Proofs.Ytalpkjdbennicaa
set_option linter.all false
open Go.RowKit

/-- Where the last delimiter stands among the first k; below 0: nowhere. -/
def dashN (s : List UInt8) : Nat → Int
  | 0 => -1
  | k + 1 => if s.getD k 0 = 45 then (k : Int) else dashN s k
def dash (s : List UInt8) : Int := dashN s s.length

theorem dashN_range (s : List UInt8) : ∀ k, -1 ≤ dashN s k ∧ dashN s k < k ∨ dashN s k = -1 := by
  intro k
  induction k with
  | zero => right; rfl
  | succ k ih =>
    unfold dashN
    split
    · left; omega
    · omega
theorem dashN_none {s : List UInt8} : ∀ k, (∀ j, j < k → s.getD j 0 ≠ 45) → dashN s k = -1 := by
  intro k
  induction k with
  | zero => intro _; rfl
  | succ k ih =>
    intro h
    unfold dashN
    rw [if_neg (h k (by omega))]
    exact ih fun j hj => h j (by omega)
theorem dashN_at {s : List UInt8} {i : Nat} (hi : s.getD i 0 = 45) : ∀ k, i < k → (∀ j, i < j → j < k → s.getD j 0 ≠ 45) → dashN s k = i := by
  intro k
  induction k with
  | zero => intro h; omega
  | succ k ih =>
    intro h hj
    unfold dashN
    by_cases hik : i = k
    · subst hik; rw [if_pos hi]
    · rw [if_neg (hj k (by omega) (by omega))]
      exact ih (by omega) fun j h1 h2 => hj j h1 (by omega)
theorem dashN_spec (s : List UInt8) : ∀ k, (dashN s k = -1 ∧ ∀ j, j < k → s.getD j 0 ≠ 45) ∨ ∃ i : Nat, i < k ∧ dashN s k = i ∧ s.getD i 0 = 45 ∧ ∀ j, i < j → j < k → s.getD j 0 ≠ 45 := by
  intro k
  induction k with
  | zero => left; exact ⟨rfl, fun j h => by omega⟩
  | succ k ih =>
    by_cases h : s.getD k 0 = 45
    · right; refine ⟨k, by omega, ?_, h, fun j h1 h2 => by omega⟩
      show (if _ then _ else _) = _
      rw [if_pos h]
    · have e : dashN s (k + 1) = dashN s k := by show (if _ then _ else _) = _; rw [if_neg h]
      rw [e]
      rcases ih with ⟨h1, h2⟩ | ⟨i, h1, h2, h3, h4⟩
      · left; refine ⟨h1, fun j hj => ?_⟩
        rcases Nat.lt_or_ge j k with hlt | hge
        · exact h2 j hlt
        · rw [show j = k from by omega]; exact h
      · right; refine ⟨i, by omega, h2, h3, fun j a b => ?_⟩
        rcases Nat.lt_or_ge j k with hlt | hge
        · exact h4 j a hlt
        · rw [show j = k from by omega]; exact h

def ints (l : List UInt8) : List Int := l.map fun c => (c.toNat : Int)
def dBase (s : List UInt8) : List UInt8 := if 0 < dash s then s.take (dash s).toNat else []
def dRest (s : List UInt8) : List UInt8 := if 0 < dash s then s.drop ((dash s).toNat + 1) else s
/-- puny.Decode: the code points; none: ErrForm. -/
def unpuny (s : List UInt8) : Option (List Int) :=
  if 200 < s.length then none
  else if (dBase s).any (fun c => decide (128 ≤ c.toNat)) = true then none
  else (dec (dRest s) (dStart (ints (dBase s)))).bind fun l => if l.length ≤ 63 then some l else none

theorem isLet_ne {c : UInt8} (h : isLet c = true) : c ≠ 45 := by
  rintro rfl
  revert h; decide
theorem isLet_small {c : UInt8} (h : isLet c = true) : small c = true := by
  have := of_decide_eq_true h
  exact decide_eq_true (by omega)

theorem basics_ints {l : List Int} (h : cpAll l = true) : ints (basics l) = l.filter (· < 128) := by
  have hl := List.all_eq_true.1 h
  unfold ints basics
  rw [List.map_map]
  conv => rhs; rw [← List.map_id (l.filter (· < 128))]
  refine List.map_congr_left fun r hr => ?_
  have hm := List.mem_filter.1 hr
  have h1 := cpOk_iff.1 (hl r hm.1)
  have h2 : r < 128 := by simpa using hm.2
  exact byteOf_nat (by omega) (by omega)
theorem basics_low {l : List Int} (h : cpAll l = true) : ∀ c ∈ basics l, c.toNat < 128 := by
  intro c hc
  have hl := List.all_eq_true.1 h
  unfold basics at hc
  obtain ⟨r, hr, rfl⟩ := List.mem_map.1 hc
  have hm := List.mem_filter.1 hr
  have h1 := cpOk_iff.1 (hl r hm.1)
  have h2 : r < 128 := by simpa using hm.2
  rw [byteOf_toNat (by omega) (by omega)]; omega

theorem puny_some {l : List Int} {s : List UInt8} (h : puny l = some s) : l.length ≤ 63 ∧ cpAll l = true := by
  unfold puny at h
  split at h
  · assumption
  · cases h

theorem getD_right {a b : List UInt8} {j : Nat} (h : a.length ≤ j) : (a ++ b).getD j 0 = b.getD (j - a.length) 0 := by
  rw [List.getD_eq_getElem?_getD, List.getD_eq_getElem?_getD, List.getElem?_append_right h]

theorem noDash {D : List UInt8} (h : ∀ c ∈ D, isLet c = true) (j : Nat) : D.getD j 0 ≠ 45 := by
  rw [List.getD_eq_getElem?_getD]
  rcases Nat.lt_or_ge j D.length with hj | hj
  · rw [List.getElem?_eq_getElem hj]
    exact isLet_ne (h _ (List.getElem_mem hj))
  · rw [List.getElem?_eq_none hj]; decide

/-- The parts of what was put together. -/
theorem parts_of {B D : List UInt8} (hD : ∀ c ∈ D, isLet c = true) : dBase ((if 0 < B.length then B ++ [45] else []) ++ D) = B ∧ dRest ((if 0 < B.length then B ++ [45] else []) ++ D) = D := by
  by_cases hB : 0 < B.length
  · rw [if_pos hB]
    have hd : dash (B ++ [45] ++ D) = B.length := by
      refine dashN_at (i := B.length) ?_ _ (by simp) fun j h1 _ => ?_
      · rw [List.append_assoc, getD_right (Nat.le_refl _), Nat.sub_self]; rfl
      · rw [getD_right (by simp; omega)]
        exact noDash hD _
    unfold dBase dRest
    rw [hd, if_pos (by omega), if_pos (by omega), Int.toNat_natCast]
    constructor
    · rw [List.append_assoc, List.take_left]
    · rw [show B.length + 1 = (B ++ [45]).length from by simp, List.drop_left]
  · rw [if_neg hB]
    have hB0 : B = [] := List.eq_nil_of_length_eq_zero (by omega)
    subst hB0
    have hd : dash ([] ++ D) = -1 := dashN_none _ fun j _ => noDash hD j
    unfold dBase dRest
    rw [hd]
    exact ⟨rfl, rfl⟩

/-- What is encoded is decoded as it was. -/
theorem unpuny_puny {l : List Int} {s : List UInt8} (h : puny l = some s) (hs : s.length ≤ 200) : unpuny s = some l := by
  obtain ⟨h63, hok⟩ := puny_some h
  obtain ⟨D, he, hlet, hdec⟩ := puny_led h
  have hp := parts_of (B := basics l) hlet
  rw [← he] at hp
  unfold unpuny
  rw [if_neg (by omega), hp.1, hp.2, basics_ints hok, hdec, if_neg ?_]
  · simp only [Option.bind_some]
    rw [if_pos h63]
  · rw [List.any_eq_true]
    rintro ⟨c, hc, h2⟩
    have := basics_low hok c hc
    have := of_decide_eq_true h2
    omega

/-! ### The other way round -/

/-- Ahead of i none is greater than n, from i on all are less. -/
structure Top (σ : DS) : Prop where
  i0 : 0 ≤ σ.i
  il : σ.i ≤ σ.out.length
  low : ∀ x ∈ σ.out.take σ.i.toNat, x ≤ σ.n
  high : ∀ x ∈ σ.out.drop σ.i.toNat, x < σ.n

theorem Top.all {σ : DS} (h : Top σ) : ∀ x ∈ σ.out, x ≤ σ.n := by
  intro x hx
  rw [← List.take_append_drop σ.i.toNat σ.out] at hx
  rcases List.mem_append.1 hx with hx | hx
  · exact h.low x hx
  · exact Int.le_of_lt (h.high x hx)

/-- How the next state comes: what stands ahead of the new one, and behind it. -/
theorem Top.next {σ : DS} (h : Top σ) {d : Int} (hd : 0 ≤ d) :
    ∃ a b : List Int, σ.out = a ++ b ∧ (dNext σ d).out = a ++ (dNext σ d).n :: b ∧ (dNext σ d).i = a.length + 1 ∧ σ.n ≤ (dNext σ d).n ∧
      (∀ x ∈ a, x ≤ (dNext σ d).n) ∧ (∀ x ∈ b, x < (dNext σ d).n) ∧ σ.i + d = ((dNext σ d).n - σ.n) * (σ.out.length + 1) + a.length := by
  have h0 := h.i0
  have hl := h.il
  have hm0 := Int.emod_nonneg (σ.i + d) (b := σ.out.length + 1) (by omega)
  have hm1 := Int.emod_lt_of_pos (σ.i + d) (b := σ.out.length + 1) (by omega)
  have hq0 : 0 ≤ (σ.i + d) / ((σ.out.length : Int) + 1) := Int.ediv_nonneg (by omega) (by omega)
  have hsum := Int.emod_add_mul_ediv (σ.i + d) (σ.out.length + 1)
  have en : (dNext σ d).n = σ.n + (σ.i + d) / ((σ.out.length : Int) + 1) := rfl
  have ei : (dNext σ d).i = (σ.i + d) % ((σ.out.length : Int) + 1) + 1 := rfl
  have eo : (dNext σ d).out = σ.out.take ((σ.i + d) % ((σ.out.length : Int) + 1)).toNat ++ (dNext σ d).n :: σ.out.drop ((σ.i + d) % ((σ.out.length : Int) + 1)).toNat := rfl
  generalize hJ : (σ.i + d) % ((σ.out.length : Int) + 1) = J at *
  generalize hQ : (σ.i + d) / ((σ.out.length : Int) + 1) = Q at *
  have hlen : (σ.out.take J.toNat).length = J.toNat := by rw [List.length_take]; omega
  have hall := h.all
  refine ⟨σ.out.take J.toNat, σ.out.drop J.toNat, (List.take_append_drop _ _).symm, eo, by rw [ei, hlen]; omega, by omega, ?_, ?_, ?_⟩
  · intro x hx
    have := hall x (List.mem_of_mem_take hx)
    omega
  · intro x hx
    rcases Int.lt_or_le 0 Q with hp | hp
    · have := hall x (List.mem_of_mem_drop hx)
      omega
    · have hQ0 : Q = 0 := by omega
      subst hQ0
      have hge : σ.i.toNat ≤ J.toNat := by
        have : ((σ.out.length : Int) + 1) * 0 = 0 := Int.mul_zero _
        omega
      have hx2 : x ∈ σ.out.drop σ.i.toNat := by
        have e : σ.out.drop J.toNat = (σ.out.drop σ.i.toNat).drop (J.toNat - σ.i.toNat) := by rw [List.drop_drop]; congr 1; omega
        rw [e] at hx
        exact List.mem_of_mem_drop hx
      have := h.high x hx2
      omega
  · rw [hlen, en]
    have : (σ.n + Q - σ.n) * ((σ.out.length : Int) + 1) = ((σ.out.length : Int) + 1) * Q := by grind
    omega

theorem Top.step {σ : DS} (h : Top σ) {d : Int} (hd : 0 ≤ d) : Top (dNext σ d) := by
  obtain ⟨a, b, e1, e2, e3, _, e5, e6, _⟩ := h.next hd
  have ht : (dNext σ d).i.toNat = (a ++ [(dNext σ d).n]).length := by rw [e3]; simp
  have eo : (dNext σ d).out = (a ++ [(dNext σ d).n]) ++ b := by rw [e2]; simp
  refine ⟨by omega, by rw [e2, e3]; simp; omega, ?_, ?_⟩
  · rw [ht, eo, List.take_left]
    intro x hx
    rcases List.mem_append.1 hx with hx | hx
    · exact e5 x hx
    · rw [List.mem_singleton] at hx; omega
  · rw [ht, eo, List.drop_left]
    exact e6

theorem top_split {a a' b b' : List Int} {n n' : Int} (h : a ++ n :: b = a' ++ n' :: b') (ha : ∀ x ∈ a, x ≤ n) (hb : ∀ x ∈ b, x < n) (ha' : ∀ x ∈ a', x ≤ n') (hb' : ∀ x ∈ b', x < n') :
    a = a' ∧ n = n' ∧ b = b' := by
  have one : ∀ {a a' b b' : List Int} {n n' : Int}, a ++ n :: b = a' ++ n' :: b' → (∀ x ∈ a', x ≤ n') → (∀ x ∈ b', x < n') → n ≤ n' := by
    intro a a' b b' n n' h ha' hb'
    have hm : n ∈ a' ++ n' :: b' := by rw [← h]; simp
    rcases List.mem_append.1 hm with hm | hm
    · exact ha' n hm
    · rcases List.mem_cons.1 hm with hm | hm
      · omega
      · have := hb' n hm; omega
  have e : n = n' := Int.le_antisymm (one h ha' hb') (one h.symm ha hb)
  subst e
  rcases List.append_eq_append_iff.1 h with ⟨c, h1, h2⟩ | ⟨c, h1, h2⟩
  · match c, h1, h2 with
    | [], h1, h2 =>
      rw [List.nil_append] at h2
      injection h2 with _ h2
      exact ⟨by rw [h1, List.append_nil], rfl, h2⟩
    | x :: c, h1, h2 =>
      rw [List.cons_append] at h2
      injection h2 with _ h2
      have := hb n (by rw [h2]; simp)
      omega
  · match c, h1, h2 with
    | [], h1, h2 =>
      rw [List.nil_append] at h2
      injection h2 with _ h2
      exact ⟨by rw [h1, List.append_nil], rfl, h2.symm⟩
    | x :: c, h1, h2 =>
      rw [List.cons_append] at h2
      injection h2 with _ h2
      have := hb' n (by rw [h2]; simp)
      omega

def spell : DS → List Int → List UInt8
  | _, [] => []
  | σ, d :: ds => num d 36 σ.bias ++ spell (dNext σ d) ds
def run (σ : DS) (ds : List Int) : DS := ds.foldl dNext σ

theorem run_top : ∀ (ds : List Int) (σ : DS), Top σ → (∀ d ∈ ds, 0 ≤ d) → Top (run σ ds) := by
  intro ds
  induction ds with
  | nil => intro σ h _; exact h
  | cons d ds ih => intro σ h hd; exact ih _ (h.step (hd d (by simp))) fun x hx => hd x (by simp [hx])
theorem run_snoc (σ : DS) (ds : List Int) (d : Int) : run σ (ds ++ [d]) = dNext (run σ ds) d := by unfold run; rw [List.foldl_append]; rfl

theorem next_len {σ : DS} (h : Top σ) {d : Int} (hd : 0 ≤ d) : (dNext σ d).out.length = σ.out.length + 1 := by
  obtain ⟨a, b, e1, e2, _⟩ := h.next hd
  rw [e1, e2]; simp; omega
theorem run_len : ∀ (ds : List Int) (σ : DS), Top σ → (∀ d ∈ ds, 0 ≤ d) → (run σ ds).out.length = σ.out.length + ds.length := by
  intro ds
  induction ds with
  | nil => intro σ h _; rfl
  | cons d ds ih =>
    intro σ h hd
    have h1 := hd d (by simp)
    show (run (dNext σ d) ds).out.length = _
    rw [ih _ (h.step h1) fun x hx => hd x (by simp [hx]), next_len h h1]
    simp; omega

theorem snoc_of_len {α : Type} : ∀ {l : List α} {n : Nat}, l.length = n + 1 → ∃ a x, l = a ++ [x] ∧ a.length = n := by
  intro l n h
  have hne : l ≠ [] := by rintro rfl; simp at h
  exact ⟨l.dropLast, l.getLast hne, (List.dropLast_concat_getLast hne).symm, by rw [List.length_dropLast]; omega⟩

theorem run_inj {σ : DS} (hσ : Top σ) : ∀ (n : Nat) (ds es : List Int), ds.length = n → es.length = n → (∀ d ∈ ds, 0 ≤ d) → (∀ d ∈ es, 0 ≤ d) → (run σ ds).out = (run σ es).out → ds = es := by
  intro n
  induction n with
  | zero => intro ds es h1 h2 _ _ _; rw [List.eq_nil_of_length_eq_zero h1, List.eq_nil_of_length_eq_zero h2]
  | succ n ih =>
    intro ds es h1 h2 hd he h
    obtain ⟨ds', d, rfl, l1⟩ := snoc_of_len h1
    obtain ⟨es', e, rfl, l2⟩ := snoc_of_len h2
    rw [run_snoc, run_snoc] at h
    have hd' : ∀ x ∈ ds', 0 ≤ x := fun x hx => hd x (List.mem_append_left _ hx)
    have he' : ∀ x ∈ es', 0 ≤ x := fun x hx => he x (List.mem_append_left _ hx)
    have td := run_top ds' σ hσ hd'
    have te := run_top es' σ hσ he'
    obtain ⟨a, b, a1, a2, _, _, a5, a6, a7⟩ := td.next (hd d (by simp))
    obtain ⟨a', b', b1, b2, _, _, b5, b6, b7⟩ := te.next (he e (by simp))
    rw [a2, b2] at h
    obtain ⟨q1, q2, q3⟩ := top_split h a5 a6 b5 b6
    subst q1; subst q3
    have ho : (run σ ds').out = (run σ es').out := by rw [a1, b1]
    have := ih ds' es' l1 l2 hd' he' ho
    subst this
    rw [q2] at a7
    have : d = e := by omega
    rw [this]

theorem next_filter {σ : DS} (h : Top σ) {d : Int} (hd : 0 ≤ d) (hn : 128 ≤ σ.n) : (dNext σ d).out.filter (· < 128) = σ.out.filter (· < 128) := by
  obtain ⟨a, b, e1, e2, _, e4, _⟩ := h.next hd
  rw [e1, e2, List.filter_append, List.filter_append, List.filter_cons_of_neg (by simp; omega)]

theorem dec_spelled (m : Nat) : ∀ (D : List UInt8) (σ : DS) (l : List Int), D.length ≤ m → (∀ c ∈ D, small c = true) → Top σ → 128 ≤ σ.n → (∀ x ∈ σ.out, cpOk x = true) → dec D σ = some l →
    ∃ ds : List Int, (∀ d ∈ ds, 0 ≤ d) ∧ D = spell σ ds ∧ (run σ ds).out = l ∧ (∀ x ∈ l, cpOk x = true) ∧ l.filter (· < 128) = σ.out.filter (· < 128) := by
  induction m with
  | zero =>
    intro D σ l hm _ _ _ hok h
    have : D = [] := List.eq_nil_of_length_eq_zero (by omega)
    subst this
    rw [dec_nil] at h
    injection h with h
    subst h
    exact ⟨[], by simp, rfl, rfl, hok, rfl⟩
  | succ m ih =>
    intro D σ l hm hs hσ hn hok h
    by_cases hD : D = []
    · subst hD
      rw [dec_nil] at h
      injection h with h
      subst h
      exact ⟨[], by simp, rfl, rfl, hok, rfl⟩
    · rw [dec_step hD] at h
      cases hr : rdNum D 36 σ.bias 1 0 with
      | none => rw [hr] at h; cases h
      | some x =>
        obtain ⟨d, rest⟩ := x
        rw [hr] at h
        simp only [Option.bind_some] at h
        obtain ⟨q, hq, hdq, hDq⟩ := num_rdNum _ _ _ _ _ _ _ hs hr
        have hd : q = d := by omega
        subst hd
        have hl := rdNum_shorter _ _ _ _ _ _ _ hr
        unfold dStep at h
        split at h
        · rename_i hc
          simp only [Option.bind_some] at h
          obtain ⟨a, b, e1, e2, _, e4, _⟩ := hσ.next hq
          obtain ⟨ds, h1, h2, h3, h4, h5⟩ := ih rest (dNext σ q) l (by omega) (fun c hcm => hs c (by rw [hDq]; exact List.mem_append_right _ hcm)) (hσ.step hq) (by omega) (by
            intro x hx
            rw [e2] at hx
            rcases List.mem_append.1 hx with hx | hx
            · exact hok x (by rw [e1]; exact List.mem_append_left _ hx)
            · rcases List.mem_cons.1 hx with rfl | hx
              · exact hc.2
              · exact hok x (by rw [e1]; exact List.mem_append_right _ hx)) h
          refine ⟨q :: ds, ?_, ?_, h3, h4, by rw [h5, next_filter hσ hq hn]⟩
          · intro x hx
            rcases List.mem_cons.1 hx with rfl | hx
            · exact hq
            · exact h1 x hx
          · rw [hDq, h2]; rfl
        · cases h

theorem dStart_top {b : List Int} (h : ∀ x ∈ b, x < 128) : Top (dStart b) := ⟨Int.le_refl _, by show (0 : Int) ≤ _; omega, by intro x hx; exact absurd hx (by simp [dStart]), fun x hx => h x (by simpa [dStart] using hx)⟩

theorem ints_lt {s : List UInt8} (h : ¬ s.any (fun c => decide (128 ≤ c.toNat)) = true) : ∀ x ∈ ints s, 0 ≤ x ∧ x < 128 := by
  intro x hx
  obtain ⟨c, hc, rfl⟩ := List.mem_map.1 hx
  refine ⟨by omega, ?_⟩
  rcases Nat.lt_or_ge c.toNat 128 with h1 | h1
  · omega
  · exact absurd (List.any_eq_true.2 ⟨c, hc, by simpa using h1⟩) h

theorem cpOk_low {x : Int} (h : 0 ≤ x ∧ x < 128) : cpOk x = true := cpOk_iff.2 (by omega)

/-- What is decoded are code points; small letters that were decoded are encoded as they were. -/
theorem puny_unpuny {s : List UInt8} {l : List Int} (h : unpuny s = some l) (hs : ∀ c ∈ s, small c = true) (h0 : s.getD 0 0 ≠ 45) : puny l = some s := by
  unfold unpuny at h
  split at h
  · cases h
  split at h
  · cases h
  rename_i hany
  have hint := ints_lt hany
  have hbase : ∀ c ∈ dBase s, c ∈ s := by
    intro c hc; unfold dBase at hc; split at hc
    · exact List.mem_of_mem_take hc
    · cases hc
  have hrest : ∀ c ∈ dRest s, c ∈ s := by
    intro c hc; unfold dRest at hc; split at hc
    · exact List.mem_of_mem_drop hc
    · exact hc
  have htop : Top (dStart (ints (dBase s))) := dStart_top fun x hx => (hint x hx).2
  cases hd : dec (dRest s) (dStart (ints (dBase s))) with
  | none => rw [hd] at h; cases h
  | some l' =>
    rw [hd] at h
    simp only [Option.bind_some] at h
    split at h
    · rename_i h63
      injection h with h
      subst h
      obtain ⟨ds, d1, d2, d3, d4, d5⟩ := dec_spelled _ _ _ _ (Nat.le_refl _) (fun c hc => hs c (hrest c hc)) htop (Int.le_refl _) (fun x hx => cpOk_low (hint x hx)) hd
      have hall : cpAll l' = true := List.all_eq_true.2 d4
      have hf : l'.filter (· < 128) = ints (dBase s) := by
        rw [d5]; exact List.filter_eq_self.2 fun x hx => by simpa using (hint x hx).2
      have hb : basics l' = dBase s := by
        unfold basics
        rw [hf]
        unfold ints
        rw [List.map_map]
        conv => rhs; rw [← List.map_id (dBase s)]
        exact List.map_congr_left fun c _ => byteOf_self c
      obtain ⟨t, ht⟩ : ∃ t, puny l' = some t := ⟨_, if_pos ⟨h63, hall⟩⟩
      obtain ⟨E, e1, e2, e3⟩ := puny_led ht
      rw [hf] at e3
      obtain ⟨es, f1, f2, f3, _, _⟩ := dec_spelled _ _ _ _ (Nat.le_refl _) (fun c hc => isLet_small (e2 c hc)) htop (Int.le_refl _) (fun x hx => cpOk_low (hint x hx)) e3
      have hlen : ds.length = es.length := by
        have a := run_len ds _ htop d1
        have b := run_len es _ htop f1
        rw [d3] at a; rw [f3] at b
        omega
      have hde := run_inj htop es.length ds es hlen rfl d1 f1 (by rw [d3, f3])
      subst hde
      have hE : E = dRest s := by rw [f2, d2]
      rw [ht, e1, hb, hE]
      refine congrArg some ?_
      rcases dashN_spec s s.length with ⟨hd1, _⟩ | ⟨i, hi, hd1, hd2, _⟩
      · have hdi : dash s = -1 := hd1
        have hb1 : dBase s = [] := by unfold dBase; rw [hdi]; rfl
        have hr1 : dRest s = s := by unfold dRest; rw [hdi]; rfl
        rw [hb1, hr1]; rfl
      · have hdi : dash s = i := hd1
        by_cases hi0 : 0 < i
        · have hb1 : dBase s = s.take i := by unfold dBase; rw [hdi, if_pos (by omega), Int.toNat_natCast]
          have hr1 : dRest s = s.drop (i + 1) := by unfold dRest; rw [hdi, if_pos (by omega), Int.toNat_natCast]
          have hg : s[i]'hi = 45 := by rw [List.getD_eq_getElem?_getD, List.getElem?_eq_getElem hi] at hd2; exact hd2
          have e := List.drop_eq_getElem_cons hi
          rw [hb1, hr1, if_pos (by rw [List.length_take]; omega), List.append_assoc, List.singleton_append, ← hg, ← e, List.take_append_drop]
        · exfalso
          have : i = 0 := by omega
          subst this
          exact h0 hd2
    · cases h
end Go.Proofs.Ytalpkjdbennicaa
