/- What puny.Encode gives is taken back by puny.Decode: the encoder is followed number by number. -/
import Derived.Test.YtalpkjdbennicaaPunyQ
namespace Go.Proofs.Ytalpkjdbennicaa
set_option linter.all false
open Go.RowKit

/-- From where the encoder stood (s, the decoder at σ) to where it stands (s', the decoder at σ'): digits that lead the decoder along. -/
def Led (s : ES) (σ : DS) (s' : ES) (σ' : DS) : Prop := ∃ D : List UInt8, s'.out = s.out ++ D ∧ (∀ c ∈ D, isLet c = true) ∧ ∀ t, dec (D ++ t) σ = dec t σ'
theorem Led.refl (s : ES) (σ : DS) : Led s σ s σ := ⟨[], by simp, by simp, fun _ => rfl⟩
theorem Led.trans {s s' s'' : ES} {σ σ' σ'' : DS} (h : Led s σ s' σ') (k : Led s' σ' s'' σ'') : Led s σ s'' σ'' := by
  obtain ⟨D, h1, h2, h3⟩ := h
  obtain ⟨E, k1, k2, k3⟩ := k
  refine ⟨D ++ E, by rw [k1, h1, List.append_assoc], ?_, fun t => by rw [List.append_assoc, h3, k3]⟩
  intro c hc
  rcases List.mem_append.1 hc with hc | hc
  · exact h2 c hc
  · exact k2 c hc
theorem Led.same {s s' t t' : ES} {σ σ' : DS} (h : Led s σ s' σ') (e1 : t.out = s.out) (e2 : t'.out = s'.out) : Led t σ t' σ' := by
  obtain ⟨D, h1, h2, h3⟩ := h
  exact ⟨D, by rw [e2, h1, e1], h2, h3⟩

/-- In the pass for m: p is what has been passed, q what is still ahead. -/
structure InPass (m basic : Int) (p q : List Int) (s : ES) (σ : DS) : Prop where
  out : σ.out = p.filter (fun r => decide (r ≤ m)) ++ q.filter (fun r => decide (r < m))
  done : s.done = σ.out.length
  bias : σ.bias = s.bias
  first : σ.first = decide (s.done = basic)
  base : basic ≤ s.done
  delta : 0 ≤ s.delta
  i0 : 0 ≤ σ.i
  nm : σ.n ≤ m
  at_ : σ.n * (s.done + 1) + σ.i + s.delta = m * (s.done + 1) + (p.filter (fun r => decide (r ≤ m))).length

theorem pass_step {m basic : Int} {p q : List Int} {r : Int} {s : ES} {σ : DS} (hm : 128 ≤ m) (hok : cpOk m = true) (h : InPass m basic p (r :: q) s σ) :
    ∃ σ', InPass m basic (p ++ [r]) q (eOne m basic s r) σ' ∧ Led s σ (eOne m basic s r) σ' := by
  obtain ⟨hout, hdone, hbias, hfirst, hbase, hdelta, hi0, hnm, hat⟩ := h
  have hok' := cpOk_iff.1 hok
  rcases Int.lt_trichotomy r m with hr | hr | hr
  · -- a smaller one: one step more
    have e : eOne m basic s r = { s with delta := s.delta + 1 } := by unfold eOne; rw [if_pos hr]
    rw [e]
    refine ⟨σ, ⟨?_, hdone, hbias, hfirst, hbase, by simp; omega, hi0, hnm, ?_⟩, (Led.refl s σ).same rfl rfl⟩
    · rw [hout, List.filter_append, List.filter_cons_of_pos (by simpa using hr), List.filter_cons_of_pos (by simp; omega)]
      simp
    · simp only []
      rw [List.filter_append, List.filter_cons_of_pos (by simp; omega), List.filter_nil, List.length_append, List.length_singleton]
      omega
  · -- the one itself: a number
    subst hr
    have e : eOne r basic s r = { out := s.out ++ num s.delta 36 s.bias, delta := 0, bias := pAdapt s.delta (s.done + 1) (decide (s.done = basic)), done := s.done + 1 } := by
      unfold eOne; rw [if_neg (by omega), if_pos rfl]
    have hfq : List.filter (fun x => decide (x < r)) (r :: q) = List.filter (fun x => decide (x < r)) q := List.filter_cons_of_neg (by simp)
    rw [hfq] at hout
    have hlen : σ.out.length = (p.filter (fun x => decide (x ≤ r))).length + (q.filter (fun x => decide (x < r))).length := by rw [hout, List.length_append]
    have hsum : σ.i + s.delta = (p.filter (fun x => decide (x ≤ r))).length + (σ.out.length + 1) * (r - σ.n) := by
      rw [hdone] at hat
      have e1 : σ.n * ((σ.out.length : Int) + 1) + ((σ.out.length : Int) + 1) * (r - σ.n) = r * ((σ.out.length : Int) + 1) := by grind
      omega
    have hmod : (σ.i + s.delta) % ((σ.out.length : Int) + 1) = (p.filter (fun x => decide (x ≤ r))).length := by
      rw [hsum, Int.add_mul_emod_self_left]
      exact Int.emod_eq_of_lt (by omega) (by omega)
    have hdiv : (σ.i + s.delta) / ((σ.out.length : Int) + 1) = r - σ.n := by
      rw [hsum, Int.add_mul_ediv_left _ _ (by omega), Int.ediv_eq_zero_of_lt (by omega) (by omega)]
      omega
    have hn : (dNext σ s.delta).n = r := by show σ.n + _ = r; rw [hdiv]; omega
    have hst : dStep σ s.delta = some (dNext σ s.delta) := by
      unfold dStep
      rw [if_pos ⟨by rw [hn]; omega, by rw [hn]; exact hok⟩]
    have hno : (dNext σ s.delta).out = (p ++ [r]).filter (fun x => decide (x ≤ r)) ++ q.filter (fun x => decide (x < r)) := by
      show σ.out.take _ ++ _ :: σ.out.drop _ = _
      rw [hmod, hdiv, hout, Int.toNat_natCast, List.take_left, List.drop_left, List.filter_append, List.filter_cons_of_pos (by simp), show σ.n + (r - σ.n) = r from by omega]
      simp
    rw [e]
    refine ⟨dNext σ s.delta, ⟨hno, ?_, ?_, ?_, ?_, Int.le_refl _, ?_, by rw [hn]; exact Int.le_refl _, ?_⟩, ⟨num s.delta 36 s.bias, rfl, num_let (s.delta.toNat + 1) _ _ _ hdelta (by omega), fun t => ?_⟩⟩
    · simp only []
      rw [hno, List.length_append, List.filter_append, List.filter_cons_of_pos (by simp), List.length_append]
      simp
      try omega
    · show pAdapt s.delta ((σ.out.length : Int) + 1) σ.first = pAdapt s.delta (s.done + 1) (decide (s.done = basic))
      rw [hdone, hfirst, hdone]
    · show false = decide (s.done + 1 = basic)
      rw [decide_eq_false (by omega)]
    · simp only []; omega
    · show 0 ≤ (σ.i + s.delta) % ((σ.out.length : Int) + 1) + 1
      rw [hmod]; omega
    · simp only []
      rw [hn]
      show r * (s.done + 1 + 1) + ((σ.i + s.delta) % ((σ.out.length : Int) + 1) + 1) + 0 = _
      rw [hmod, List.filter_append, List.filter_cons_of_pos (by simp), List.length_append]
      simp
      try omega
    · rw [← hbias]; exact dec_num hdelta t hst
  · -- a greater one: nothing
    have e : eOne m basic s r = s := by unfold eOne; rw [if_neg (by omega), if_neg (by omega)]
    rw [e]
    refine ⟨σ, ⟨?_, hdone, hbias, hfirst, hbase, hdelta, hi0, hnm, ?_⟩, Led.refl s σ⟩
    · rw [hout, List.filter_append, List.filter_cons_of_neg (by simp; omega), List.filter_cons_of_neg (by simp; omega)]
      simp
    · rw [List.filter_append, List.filter_cons_of_neg (by simp; omega), List.filter_nil, List.append_nil]
      exact hat

theorem pass_all {m basic : Int} (hm : 128 ≤ m) (hok : cpOk m = true) : ∀ (q p : List Int) (s : ES) (σ : DS), InPass m basic p q s σ →
    ∃ σ', InPass m basic (p ++ q) [] (ePass m basic s q) σ' ∧ Led s σ (ePass m basic s q) σ' := by
  intro q
  induction q with
  | nil => intro p s σ h; exact ⟨σ, by simpa [ePass] using h, Led.refl s σ⟩
  | cons r q ih =>
    intro p s σ h
    obtain ⟨σ1, h1, l1⟩ := pass_step hm hok h
    obtain ⟨σ2, h2, l2⟩ := ih _ _ _ h1
    refine ⟨σ2, ?_, ?_⟩
    · rw [List.append_assoc, List.singleton_append] at h2; exact h2
    · exact l1.trans l2

theorem least_spec (n top : Int) : ∀ (l : List Int), least n top l ≤ top ∧ (∀ r ∈ l, n ≤ r → least n top l ≤ r) ∧ (least n top l = top ∨ (n ≤ least n top l ∧ least n top l ∈ l)) := by
  suffices h : ∀ (l : List Int) (m0 : Int), (let m := l.foldl (fun m r => if n ≤ r then min m r else m) m0; m ≤ m0 ∧ (∀ r ∈ l, n ≤ r → m ≤ r) ∧ (m = m0 ∨ (n ≤ m ∧ m ∈ l))) from fun l => h l top
  intro l
  induction l with
  | nil => intro m0; simp
  | cons r l ih =>
    intro m0
    simp only [List.foldl_cons]
    by_cases h : n ≤ r
    · rw [if_pos h]
      have ⟨h1, h2, h3⟩ := ih (min m0 r)
      refine ⟨by omega, ?_, ?_⟩
      · intro x hx hn
        rcases List.mem_cons.1 hx with rfl | hx
        · omega
        · exact h2 x hx hn
      · rcases h3 with h3 | ⟨h3, h4⟩
        · rcases Int.le_total m0 r with hle | hle
          · left; omega
          · right; rw [h3, Int.min_eq_right hle]; exact ⟨h, by simp⟩
        · right; exact ⟨h3, by simp [h4]⟩
    · rw [if_neg h]
      have ⟨h1, h2, h3⟩ := ih m0
      refine ⟨h1, ?_, ?_⟩
      · intro x hx hn
        rcases List.mem_cons.1 hx with rfl | hx
        · omega
        · exact h2 x hx hn
      · rcases h3 with h3 | ⟨h3, h4⟩
        · left; exact h3
        · right; exact ⟨h3, by simp [h4]⟩

/-- Ahead of the round for those from n on. -/
structure AtRound (n basic : Int) (l : List Int) (s : ES) (σ : DS) : Prop where
  out : σ.out = l.filter (fun r => decide (r < n))
  done : s.done = σ.out.length
  bias : σ.bias = s.bias
  first : σ.first = decide (s.done = basic)
  base : basic ≤ s.done
  delta : 0 ≤ s.delta
  i0 : 0 ≤ σ.i
  nm : σ.n ≤ n
  at_ : σ.n * (s.done + 1) + σ.i + s.delta = n * (s.done + 1)

theorem filter_same {α : Type} {f g : α → Bool} : ∀ (l : List α), (∀ x ∈ l, f x = g x) → l.filter f = l.filter g := by
  intro l h
  exact List.filter_congr h

theorem filter_all_of_len {α : Type} {f : α → Bool} : ∀ {l : List α}, (l.filter f).length = l.length → l.filter f = l := by
  intro l h
  exact List.filter_eq_self.2 (List.length_filter_eq_length_iff.1 h)

theorem filt_le (M : Int) : ∀ (l : List Int), (l.filter (fun r => decide (r < M))).length ≤ (l.filter (fun r => decide (r ≤ M))).length := by
  intro l
  induction l with
  | nil => simp
  | cons a l ih =>
    rcases Int.lt_trichotomy a M with h | h | h
    · rw [List.filter_cons_of_pos (by simpa using h), List.filter_cons_of_pos (by simp; omega)]; simpa using ih
    · rw [List.filter_cons_of_neg (by simp; omega), List.filter_cons_of_pos (by simp; omega)]; simp; omega
    · rw [List.filter_cons_of_neg (by simp; omega), List.filter_cons_of_neg (by simp; omega)]; exact ih
theorem filt_lt {M : Int} : ∀ {l : List Int}, M ∈ l → (l.filter (fun r => decide (r < M))).length < (l.filter (fun r => decide (r ≤ M))).length := by
  intro l
  induction l with
  | nil => intro h; simp at h
  | cons a l ih =>
    intro hmem
    have hle := filt_le M l
    rcases Int.lt_trichotomy a M with h | h | h
    · rw [List.filter_cons_of_pos (by simpa using h), List.filter_cons_of_pos (by simp; omega)]
      rcases List.mem_cons.1 hmem with h2 | h2
      · omega
      · simpa using ih h2
    · rw [List.filter_cons_of_neg (by simp; omega), List.filter_cons_of_pos (by simp; omega)]; simp; omega
    · rw [List.filter_cons_of_neg (by simp; omega), List.filter_cons_of_neg (by simp; omega)]
      rcases List.mem_cons.1 hmem with h2 | h2
      · omega
      · exact ih h2

theorem round_all {n basic : Int} {l : List Int} {s : ES} {σ : DS} (hn : 128 ≤ n) (hl : cpAll l = true) (hs : s.done < l.length) (h : AtRound n basic l s σ) :
    ∃ σ', AtRound (least n 1114111 l + 1) basic l (eRound n basic s l) σ' ∧ Led s σ (eRound n basic s l) σ' ∧ s.done < (eRound n basic s l).done ∧ n ≤ least n 1114111 l := by
  obtain ⟨hout, hdone, hbias, hfirst, hbase, hdelta, hi0, hnm, hat⟩ := h
  have hl' := List.all_eq_true.1 hl
  -- there is one from n on
  obtain ⟨x, hx, hxn⟩ : ∃ x ∈ l, n ≤ x := by
    rcases Classical.em (∃ x ∈ l, n ≤ x) with h | h
    · exact h
    · exfalso
      have : l.filter (fun r => decide (r < n)) = l := List.filter_eq_self.2 fun r hr => decide_eq_true (by
        rcases Int.lt_or_le r n with h1 | h1
        · exact h1
        · exact absurd ⟨r, hr, h1⟩ h)
      rw [hout, this] at hdone
      omega
  have hx2 := cpOk_iff.1 (hl' x hx)
  have ⟨m1, m2, m3⟩ := least_spec n 1114111 l
  have hmx := m2 x hx hxn
  have hmem : least n 1114111 l ∈ l ∧ n ≤ least n 1114111 l := by
    rcases m3 with h | h
    · have e : x = least n 1114111 l := by omega
      rw [← e]; exact ⟨hx, hxn⟩
    · exact ⟨h.2, h.1⟩
  obtain ⟨hmem, hnm'⟩ := hmem
  have hmok := hl' _ hmem
  have hflt : l.filter (fun r => decide (r < n)) = l.filter (fun r => decide (r < least n 1114111 l)) := filter_same l fun r hr => by
    rcases Int.lt_or_le r n with h1 | h1
    · rw [decide_eq_true h1, decide_eq_true (by omega)]
    · have := m2 r hr h1
      rw [decide_eq_false (by omega), decide_eq_false (by omega)]
  generalize hM : least n 1114111 l = M at *
  have hin : InPass M basic [] l { s with delta := s.delta + (M - n) * (s.done + 1) } σ := by
    refine ⟨?_, hdone, hbias, hfirst, hbase, ?_, hi0, by omega, ?_⟩
    · rw [hout, hflt]; simp
    · have := Int.mul_nonneg (a := M - n) (b := s.done + 1) (by omega) (by omega)
      simp only []; omega
    · simp only [List.filter_nil, List.length_nil]
      have e : n * (s.done + 1) + (M - n) * (s.done + 1) = M * (s.done + 1) := by grind
      omega
  obtain ⟨σ', hp, led⟩ := pass_all (by omega) hmok l [] _ σ hin
  have he : eRound n basic s l = { ePass M basic { s with delta := s.delta + (M - n) * (s.done + 1) } l with delta := (ePass M basic { s with delta := s.delta + (M - n) * (s.done + 1) } l).delta + 1 } := by
    unfold eRound; rw [hM]
  rw [he]
  obtain ⟨pout, pdone, pbias, pfirst, pbase, pdelta, pi0, pnm, pat⟩ := hp
  rw [List.nil_append, List.filter_nil, List.append_nil] at pout
  rw [List.nil_append] at pat
  have hle : l.filter (fun r => decide (r ≤ M)) = l.filter (fun r => decide (r < M + 1)) := filter_same l fun r _ => by
    rcases Int.lt_or_le M r with h1 | h1
    · rw [decide_eq_false (by omega), decide_eq_false (by omega)]
    · rw [decide_eq_true (by omega), decide_eq_true (by omega)]
  refine ⟨σ', ⟨by rw [pout, hle], pdone, pbias, pfirst, pbase, by simp only []; omega, pi0, by omega, ?_⟩, led.same rfl rfl, ?_, hnm'⟩
  · simp only []
    rw [← pout, ← pdone] at pat
    have e : (M + 1) * ((ePass M basic { s with delta := s.delta + (M - n) * (s.done + 1) } l).done + 1) = M * ((ePass M basic { s with delta := s.delta + (M - n) * (s.done + 1) } l).done + 1) + ((ePass M basic { s with delta := s.delta + (M - n) * (s.done + 1) } l).done + 1) := by grind
    rw [e]; omega
  · simp only []
    rw [pdone, pout, hdone, hout, hflt]
    have := filt_lt hmem
    omega

theorem loop_all {basic : Int} {l : List Int} (hl : cpAll l = true) : ∀ (f : Nat) (n : Int) (s : ES) (σ : DS), 128 ≤ n → l.length ≤ f + s.done → AtRound n basic l s σ →
    ∃ σ', σ'.out = l ∧ Led s σ (eLoop f n basic s l) σ' := by
  intro f
  induction f with
  | zero =>
    intro n s σ hn hf h
    refine ⟨σ, ?_, Led.refl s σ⟩
    rw [h.out]
    apply filter_all_of_len
    have h1 := h.done
    rw [h.out] at h1
    have := List.length_filter_le (fun r => decide (r < n)) l
    omega
  | succ f ih =>
    intro n s σ hn hf h
    unfold eLoop
    by_cases hs : s.done < l.length
    · rw [if_pos hs]
      obtain ⟨σ1, h1, l1, d1, n1⟩ := round_all hn hl hs h
      obtain ⟨σ2, h2, l2⟩ := ih _ _ _ (by omega) (by omega) h1
      exact ⟨σ2, h2, l1.trans l2⟩
    · rw [if_neg hs]
      refine ⟨σ, ?_, Led.refl s σ⟩
      rw [h.out]
      apply filter_all_of_len
      have h1 := h.done
      rw [h.out] at h1
      have := List.length_filter_le (fun r => decide (r < n)) l
      omega

def dStart (b : List Int) : DS := { n := 128, i := 0, bias := 72, first := true, out := b }

theorem basics_len (l : List Int) : (basics l).length = (l.filter (· < 128)).length := by unfold basics; rw [List.length_map]

/-- The letters of a list: its small ones, a delimiter if there are any, and digits that lead the decoder to it. -/
theorem puny_led {l : List Int} {s : List UInt8} (h : puny l = some s) :
    ∃ D, s = (if 0 < (basics l).length then basics l ++ [45] else []) ++ D ∧ (∀ c ∈ D, isLet c = true) ∧ dec D (dStart (l.filter (· < 128))) = some l := by
  unfold puny at h
  split at h
  · rename_i hc
    injection h with h
    have hst : AtRound 128 (basics l).length l (eStart l) (dStart (l.filter (· < 128))) := by
      refine ⟨rfl, by rw [show (eStart l).done = ((basics l).length : Int) from rfl, basics_len]; rfl, rfl, ?_, Int.le_refl _, Int.le_refl _, Int.le_refl _, Int.le_refl _, ?_⟩
      · show true = decide (((basics l).length : Int) = (basics l).length)
        simp
      · show 128 * (((basics l).length : Int) + 1) + 0 + 0 = _
        show _ = 128 * (((basics l).length : Int) + 1)
        omega
    obtain ⟨σ', ho, D, hD, hlet, hdec⟩ := loop_all hc.2 l.length 128 (eStart l) _ (by omega) (by show _ ≤ (l.length : Int) + ((basics l).length : Int); omega) hst
    refine ⟨D, by rw [← h, hD]; rfl, hlet, ?_⟩
    have := hdec []
    rw [List.append_nil, dec_nil, ho] at this
    exact this
  · cases h
end Go.Proofs.Ytalpkjdbennicaa
