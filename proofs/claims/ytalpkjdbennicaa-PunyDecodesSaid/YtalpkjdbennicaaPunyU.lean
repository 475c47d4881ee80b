/- What one round of puny.Encode keeps within bounds. -/
import Derived.Test.YtalpkjdbennicaaPunyT
namespace Go.Proofs.Ytalpkjdbennicaa
set_option linter.all false
open Go.RowKit

def OL (s : ES) : Prop := (s.out.length : Int) ≤ 64 + 11 * s.done
theorem OL.one {s : ES} {D K : Int} {L : Nat} (ho : OL s) (h : EB s D K L) (hD : D ≤ 9000000000) (n bs r : Int) : OL (eOne n bs s r) := by
  obtain ⟨h1, h2, h3, h4, h5, h6, h7⟩ := h
  unfold OL at ho ⊢
  unfold eOne
  split
  · exact ho
  · split
    · have hn := num_len 10 s.delta 36 s.bias h1 (by have : (10 : Int) ^ 10 = 10000000000 := by decide
                                                     omega)
      simp only [List.length_append]; omega
    · exact ho
theorem OL.pass {s : ES} {D K : Int} {L : Nat} (ho : OL s) (h : EB s D K L) (n bs : Int) (l : List Int) (hl : l.length ≤ 100) (hD : D ≤ 8000000000) : ∀ j : Nat, j ≤ l.length → OL (ePass n bs s (l.take j)) := by
  intro j
  induction j with
  | zero => intro _; simpa [ePass] using ho
  | succ j ih =>
    intro hj
    have h1 := h.pass n bs l hl hD j (by omega)
    obtain ⟨x, hx⟩ : ∃ x, l[j]? = some x := ⟨l[j], List.getElem?_eq_getElem (by omega)⟩
    rw [ePass_snoc hx]
    exact (ih (by omega)).one h1 (by omega) n bs x

theorem eOne_delta {n bs r : Int} {s : ES} (h : 0 ≤ s.delta) : 0 ≤ (eOne n bs s r).delta ∧ (eOne n bs s r).delta ≤ s.delta + 1 := by
  unfold eOne; split
  · simp only []; omega
  · split
    · simp only []; omega
    · omega
theorem pass_delta {n bs : Int} : ∀ (l : List Int) (s : ES), 0 ≤ s.delta → 0 ≤ (ePass n bs s l).delta ∧ (ePass n bs s l).delta ≤ s.delta + l.length ∧ (n ∈ l → (ePass n bs s l).delta ≤ l.length) := by
  intro l
  induction l with
  | nil => intro s h; exact ⟨h, by simp [ePass], by simp⟩
  | cons r q ih =>
    intro s h
    have h1 := eOne_delta (n := n) (bs := bs) (r := r) h
    have e : ePass n bs s (r :: q) = ePass n bs (eOne n bs s r) q := rfl
    rw [e]
    obtain ⟨a1, a2, a3⟩ := ih (eOne n bs s r) h1.1
    refine ⟨a1, by rw [List.length_cons]; omega, fun hm => ?_⟩
    rw [List.length_cons]
    rcases List.mem_cons.1 hm with rfl | hm
    · have h0 : (eOne n bs s n).delta = 0 := by unfold eOne; rw [if_neg (by omega), if_pos rfl]
      omega
    · have := a3 hm; omega

/-- Within these bounds each round begins. -/
def RB (l : List Int) (s : ES) : Prop := 0 ≤ s.delta ∧ s.delta ≤ 100 ∧ 0 ≤ s.bias ∧ s.bias ≤ 100000000000 ∧ 0 ≤ s.done ∧ s.done ≤ l.length ∧ OL s

theorem round_step {n bs : Int} {l : List Int} {s : ES} (hn : 128 ≤ n) (hl : cpAll l = true) (hlen : l.length ≤ 63) (hs : s.done < l.length) (h : ∃ σ, AtRound n bs l s σ) (hb : RB l s) :
    (∃ σ', AtRound (least n 1114111 l + 1) bs l (eRound n bs s l) σ') ∧ s.done < (eRound n bs s l).done ∧ n ≤ least n 1114111 l ∧ least n 1114111 l ≤ 1114111 ∧ RB l (eRound n bs s l) := by
  obtain ⟨σ, h⟩ := h
  obtain ⟨σ', h', _, hd, hnm⟩ := round_all hn hl hs h
  obtain ⟨hout, hdone, hbias, hfirst, hbase, hdelta, hi0, hnm', hat⟩ := h
  obtain ⟨b1, b2, b3, b4, b5, b6, b7⟩ := hb
  have hl' := List.all_eq_true.1 hl
  obtain ⟨x, hx, hxn⟩ : ∃ x ∈ l, n ≤ x := by
    rcases Classical.em (∃ x ∈ l, n ≤ x) with h | h
    · exact h
    · exfalso
      have : l.filter (fun r => decide (r < n)) = l := List.filter_eq_self.2 fun r hr => decide_eq_true (by
        rcases Int.lt_or_le r n with h1 | h1
        · exact h1
        · exact absurd ⟨r, hr, h1⟩ h)
      rw [hout, this] at hdone
      omega
  have hx2 := cpOk_iff.1 (hl' x hx)
  have ⟨m1, m2, m3⟩ := least_spec n 1114111 l
  have hmx := m2 x hx hxn
  have hmem : least n 1114111 l ∈ l := by
    rcases m3 with h | h
    · have e : x = least n 1114111 l := by omega
      rw [← e]; exact hx
    · exact h.2
  have hP : (least n 1114111 l - n) * (s.done + 1) ≤ 1113983 * (s.done + 1) := Int.mul_le_mul_of_nonneg_right (by omega) (by omega)
  have hP0 : 0 ≤ (least n 1114111 l - n) * (s.done + 1) := Int.mul_nonneg (by omega) (by omega)
  have hEB : EB { s with delta := s.delta + (least n 1114111 l - n) * (s.done + 1) } 1000000000 63 (64 + 11 * 63) := by
    unfold OL at b7
    exact ⟨by simp only []; omega, by simp only []; omega, b3, b4, b5, by simp only []; omega, by simp only []; omega⟩
  have hp := hEB.pass (least n 1114111 l) bs l (by omega) (by omega) l.length (Nat.le_refl _)
  have ho := OL.pass (s := { s with delta := s.delta + (least n 1114111 l - n) * (s.done + 1) }) b7 hEB (least n 1114111 l) bs l (by omega) (by omega) l.length (Nat.le_refl _)
  have hdl := pass_delta (n := least n 1114111 l) (bs := bs) l { s with delta := s.delta + (least n 1114111 l - n) * (s.done + 1) } (by simp only []; omega)
  rw [List.take_length] at hp ho
  obtain ⟨p1, p2, p3, p4, p5, p6, p7⟩ := hp
  obtain ⟨d1, d2, d3⟩ := hdl
  have d4 := d3 hmem
  have hdn : (eRound n bs s l).done ≤ l.length := by
    have e1 := h'.done
    rw [h'.out] at e1
    have := List.length_filter_le (fun r => decide (r < least n 1114111 l + 1)) l
    omega
  refine ⟨⟨σ', h'⟩, hd, hnm, m1, ?_, ?_, p3, p4, p5, hdn, ho⟩
  · show 0 ≤ (ePass _ bs _ l).delta + 1; omega
  · show (ePass _ bs _ l).delta + 1 ≤ 100; omega

theorem start_round {l : List Int} (hl : cpAll l = true) : (∃ σ, AtRound 128 (basics l).length l (eStart l) σ) ∧ RB l (eStart l) := by
  constructor
  · refine ⟨dStart (l.filter (· < 128)), rfl, by rw [show (eStart l).done = ((basics l).length : Int) from rfl, basics_len]; rfl, rfl, ?_, Int.le_refl _, Int.le_refl _, Int.le_refl _, Int.le_refl _, ?_⟩
    · show true = decide (((basics l).length : Int) = (basics l).length)
      simp
    · show 128 * (((basics l).length : Int) + 1) + 0 + 0 = _
      show _ = 128 * (((basics l).length : Int) + 1)
      omega
  · have h1 : (basics l).length ≤ l.length := by rw [basics_len]; exact List.length_filter_le _ _
    refine ⟨Int.le_refl _, by show (0 : Int) ≤ 100; omega, by show (0 : Int) ≤ 72; omega, by show (72 : Int) ≤ _; omega, by show (0 : Int) ≤ ((basics l).length : Int); omega, by show ((basics l).length : Int) ≤ _; omega, ?_⟩
    unfold OL eStart
    simp only []
    split
    · rw [List.length_append]; simp; omega
    · simp; omega
theorem eLoop_next {f : Nat} {n bs : Int} {s : ES} {l : List Int} (h : s.done < l.length) : eLoop (f + 1) n bs s l = eLoop f (least n 1114111 l + 1) bs (eRound n bs s l) l := by
  show (if _ then _ else _) = _
  rw [if_pos h]
theorem eLoop_end {f : Nat} {n bs : Int} {s : ES} {l : List Int} (h : ¬ s.done < l.length) : eLoop f n bs s l = s := by
  cases f with
  | zero => rfl
  | succ f => show (if _ then _ else _) = _; rw [if_neg h]
theorem basics_snoc {l : List Int} {j : Nat} {x : Int} (h : l[j]? = some x) : basics (l.take (j + 1)) = if x < 128 then basics (l.take j) ++ [byteOf x] else basics (l.take j) := by
  obtain ⟨hj, hx⟩ := List.getElem?_eq_some_iff.1 h
  unfold basics
  rw [take_snoc' l j hj, hx, List.filter_append, List.map_append]
  by_cases hx2 : x < 128
  · rw [if_pos hx2]; simp [hx2]
  · rw [if_neg hx2]; simp [hx2]
theorem cpAll_iff {l : List Int} : cpAll l = true ↔ ∀ x ∈ l, cpOk x = true := by unfold cpAll; exact List.all_eq_true
end Go.Proofs.Ytalpkjdbennicaa
