/- Bounds of what puny.Encode reckons. -/
import Derived.Test.YtalpkjdbennicaaPunyS
namespace Go.Proofs.Ytalpkjdbennicaa
set_option linter.all false
open Go.RowKit

theorem frac36 {d : Int} (h : 0 ≤ d) : 0 ≤ 36 * d / (d + 38) ∧ 36 * d / (d + 38) ≤ 35 := by
  refine ⟨Int.ediv_nonneg (by omega) (by omega), ?_⟩
  have : 36 * d / (d + 38) < 36 := Int.ediv_lt_of_lt_mul (by omega) (by omega)
  omega
theorem adF_range : ∀ (f : Nat) (d k : Int), 0 ≤ d → 0 ≤ k → 0 ≤ adF f d k ∧ adF f d k ≤ k + d + 36 := by
  intro f
  induction f with
  | zero => intro d k hd hk; have := frac36 hd; unfold adF; omega
  | succ f ih =>
    intro d k hd hk
    unfold adF
    split
    · have := ih (d / 35) (k + 36) (by omega) (by omega); omega
    · have := frac36 hd; omega
theorem pAdapt_range {d p : Int} (f : Bool) (hd : 0 ≤ d) (hp : 1 ≤ p) : 0 ≤ pAdapt d p f ∧ pAdapt d p f ≤ 2 * d + 36 := by
  unfold pAdapt ad
  have h0 : 0 ≤ pAdapt0 d f ∧ pAdapt0 d f ≤ d := by unfold pAdapt0; split <;> omega
  have h1 : 0 ≤ pAdapt0 d f / p := Int.ediv_nonneg h0.1 (by omega)
  have h2 : pAdapt0 d f / p ≤ pAdapt0 d f := Int.ediv_le_self _ h0.1
  have := adF_range (pAdapt0 d f + pAdapt0 d f / p).toNat (pAdapt0 d f + pAdapt0 d f / p) 0 (by omega) (by omega)
  omega
theorem num_len (m : Nat) : ∀ (q k b : Int), 0 ≤ q → q < (10 : Int) ^ m → (num q k b).length ≤ m + 1 := by
  induction m with
  | zero =>
    intro q k b h0 h
    have ht := edge_range k b
    rw [num_end (by simp at h; omega)]; simp
  | succ m ih =>
    intro q k b h0 h
    have ht := edge_range k b
    by_cases hlt : q < edge k b
    · rw [num_end hlt]; simp
    · rw [num_step (by omega), List.length_cons]
      have hl := num_less (q := q) (t := edge k b) (by omega) ht.1 ht.2
      have h1 : (q - edge k b) / (36 - edge k b) * (36 - edge k b) ≤ q - edge k b := Int.ediv_mul_le _ (by omega)
      have h2 : (q - edge k b) / (36 - edge k b) * 10 ≤ (q - edge k b) / (36 - edge k b) * (36 - edge k b) := Int.mul_le_mul_of_nonneg_left (by omega) hl.1
      have := ih ((q - edge k b) / (36 - edge k b)) (k + 36) b hl.1 (by rw [Int.pow_succ] at h; omega)
      omega

/-- Where the encoder stands, bounded. -/
def EB (s : ES) (D K : Int) (L : Nat) : Prop := 0 ≤ s.delta ∧ s.delta ≤ D ∧ 0 ≤ s.bias ∧ s.bias ≤ 100000000000 ∧ 0 ≤ s.done ∧ s.done ≤ K ∧ s.out.length ≤ L
theorem EB.one {s : ES} {D K : Int} {L : Nat} (h : EB s D K L) (hD : D ≤ 9000000000) (n bs r : Int) : EB (eOne n bs s r) (D + 1) (K + 1) (L + 11) := by
  obtain ⟨h1, h2, h3, h4, h5, h6, h7⟩ := h
  unfold eOne
  split
  · exact ⟨by simp only []; omega, by simp only []; omega, h3, h4, h5, by simp only []; omega, by simp only []; omega⟩
  · split
    · have hp := pAdapt_range (d := s.delta) (p := s.done + 1) (decide (s.done = bs)) h1 (by omega)
      have hn := num_len 10 s.delta 36 s.bias h1 (by have : (10 : Int) ^ 10 = 10000000000 := by decide
                                                     omega)
      exact ⟨by simp only []; omega, by simp only []; omega, hp.1, by simp only []; omega, by simp only []; omega, by simp only []; omega, by simp only [List.length_append]; omega⟩
    · exact ⟨h1, by omega, h3, h4, h5, by omega, by omega⟩
theorem ePass_snoc {n bs : Int} {s : ES} {l : List Int} {j : Nat} {x : Int} (h : l[j]? = some x) : ePass n bs s (l.take (j + 1)) = eOne n bs (ePass n bs s (l.take j)) x := by
  obtain ⟨hj, hx⟩ := List.getElem?_eq_some_iff.1 h
  unfold ePass
  rw [take_snoc' l j hj, hx, List.foldl_append]; rfl
theorem EB.pass {s : ES} {D K : Int} {L : Nat} (h : EB s D K L) (n bs : Int) (l : List Int) (hl : l.length ≤ 100) (hD : D ≤ 8000000000) : ∀ j : Nat, j ≤ l.length → EB (ePass n bs s (l.take j)) (D + j) (K + j) (L + 11 * j) := by
  intro j
  induction j with
  | zero => intro _; simpa [ePass] using h
  | succ j ih =>
    intro hj
    have h1 := ih (by omega)
    obtain ⟨x, hx⟩ : ∃ x, l[j]? = some x := ⟨l[j], List.getElem?_eq_getElem (by omega)⟩
    rw [ePass_snoc hx]
    have h2 := h1.one (by omega) n bs x
    obtain ⟨a1, a2, a3, a4, a5, a6, a7⟩ := h2
    exact ⟨a1, by push_cast; omega, a3, a4, a5, by push_cast; omega, by omega⟩
theorem least_snoc {n top : Int} {l : List Int} {j : Nat} {x : Int} (h : l[j]? = some x) : least n top (l.take (j + 1)) = (if n ≤ x then min (least n top (l.take j)) x else least n top (l.take j)) := by
  obtain ⟨hj, hx⟩ := List.getElem?_eq_some_iff.1 h
  unfold least
  rw [take_snoc' l j hj, hx, List.foldl_append]; rfl
end Go.Proofs.Ytalpkjdbennicaa
