/- puny.Decode in plain Lean: what its walk asks. -/
import Derived.Test.YtalpkjdbennicaaPunyG
import Derived.Lib.LastIndexByte
namespace Go.Proofs.Ytalpkjdbennicaa
set_option linter.all false
open Go.RowKit

theorem str_data_at (s : List UInt8) (k : Nat) : (str s).data[k]! = s.getD k 0 := by
  show s.toArray[k]! = _
  rw [getElem!_def, List.getElem?_toArray, List.getD_eq_getElem?_getD]
  cases s[k]? <;> rfl
theorem lastIdx_dash (s : List UInt8) : ∀ k, Lib.lastIdx (str s) 45 k = dashN s k := by
  intro k
  induction k with
  | zero => rfl
  | succ k ih =>
    unfold Lib.lastIdx dashN
    rw [ih, str_data_at]
    by_cases h : s.getD k 0 = 45
    · rw [if_pos h, h]; rfl
    · rw [if_neg h, if_neg]
      intro e
      exact h (byte_ext (by have : (45 : UInt8).toNat = 45 := rfl; omega))
theorem last_dash (s : List UInt8) : Lib.lastIndexByte (str s) 45 = dash s := by
  unfold Lib.lastIndexByte dash
  rw [lastIdx_dash, str_size]

theorem dec1_wide {l : List UInt8} (h : 128 ≤ bt l 0) : 128 ≤ (dec1 l).1 := by
  unfold dec1
  rw [if_neg (by omega)]
  split
  · rename_i h1; exact h1.2.2.2
  split
  · rename_i h1; have := h1.2.2.2.2.1; show 128 ≤ val3 l; omega
  split
  · rename_i h1; have := h1.2.2.2.2.2.1; show 128 ≤ val4 l; omega
  · decide
theorem uDec_wide : ∀ (n : Nat) (b : List UInt8), b.length ≤ n → ((uDec b).any wideR = b.any (fun c => decide (128 ≤ c.toNat))) ∧ (b.any (fun c => decide (128 ≤ c.toNat)) = false → uDec b = ints b) := by
  intro n
  induction n with
  | zero =>
    intro b h
    have : b = [] := List.eq_nil_of_length_eq_zero (by omega)
    subst this
    exact ⟨rfl, fun _ => rfl⟩
  | succ n ih =>
    intro b h
    cases b with
    | nil => exact ⟨rfl, fun _ => rfl⟩
    | cons c t =>
      have hbt : bt (c :: t) 0 = (c.toNat : Int) := rfl
      rw [uDec_step (l := c :: t) (by simp)]
      by_cases hc : 128 ≤ c.toNat
      · have h1 : wideR (dec1 (c :: t)).1 = true := decide_eq_true (dec1_wide (by rw [hbt]; omega))
        have h2 : (c :: t).any (fun c => decide (128 ≤ c.toNat)) = true := by simp [hc]
        rw [h2, List.any_cons, h1]
        exact ⟨rfl, fun h => by cases h⟩
      · have hd : dec1 (c :: t) = ((c.toNat : Int), 1) := by
          unfold dec1; rw [if_pos (by rw [hbt]; omega), hbt]
        rw [hd]
        show ((c.toNat : Int) :: uDec t).any wideR = _ ∧ (_ → (c.toNat : Int) :: uDec t = _)
        obtain ⟨i1, i2⟩ := ih t (by simp at h; omega)
        have h1 : wideR (c.toNat : Int) = false := decide_eq_false (by omega)
        have h2 : decide (128 ≤ c.toNat) = false := decide_eq_false hc
        refine ⟨by rw [List.any_cons, List.any_cons, h1, i1, h2], fun h => ?_⟩
        rw [List.any_cons, h2, Bool.false_or] at h
        rw [i2 h]; rfl

theorem dStep_big {σ : DS} {d : Int} (hd : 30000000000 ≤ d) (hi : 0 ≤ σ.i) (hn : 0 ≤ σ.n) (hl : σ.out.length ≤ 1000) : dStep σ d = none := by
  unfold dStep
  rw [if_neg]
  rintro ⟨h, _⟩
  have : 1114112 ≤ (σ.i + d) / ((σ.out.length : Int) + 1) := Int.le_ediv_of_mul_le (by omega) (by omega)
  have h2 : σ.n + (σ.i + d) / ((σ.out.length : Int) + 1) ≤ 1114111 := h
  omega
theorem pdec_none {s : List UInt8} {σ : DS} (h : 0 < s.length) (hi : 0 ≤ σ.i) (hn : 0 ≤ σ.n) (hl : σ.out.length ≤ 1000) (hb : ∀ d r, rdNum s 36 σ.bias 1 0 = some (d, r) → 30000000000 ≤ d) : dec s σ = none := by
  rw [dec_step (by intro e; rw [e] at h; cases h)]
  cases hr : rdNum s 36 σ.bias 1 0 with
  | none => rfl
  | some x =>
    rw [Option.bind_some, dStep_big (hb x.1 x.2 hr) hi hn hl]; rfl
theorem pdec_stuck {s : List UInt8} {σ : DS} {d : Int} {r : List UInt8} (h : 0 < s.length) (hr : rdNum s 36 σ.bias 1 0 = some (d, r)) (hd : dStep σ d = none) : dec s σ = none := by
  rw [dec_step (by intro e; rw [e] at h; cases h), hr, Option.bind_some, hd]; rfl
theorem pdec_go {s : List UInt8} {σ σ' : DS} {d : Int} {r : List UInt8} (h : 0 < s.length) (hr : rdNum s 36 σ.bias 1 0 = some (d, r)) (hd : dStep σ d = some σ') : dec s σ = dec r σ' := by
  rw [dec_step (by intro e; rw [e] at h; cases h), hr, Option.bind_some, hd, Option.bind_some]

/-- Where the loop of Decode stands: in its bounds. -/
structure DB (σ : DS) (L : Nat) : Prop where
  n0 : 0 ≤ σ.n
  n1 : σ.n ≤ 1114111
  i0 : 0 ≤ σ.i
  i1 : σ.i ≤ σ.out.length
  b0 : 0 ≤ σ.bias
  b1 : σ.bias ≤ 10000000000
  len : σ.out.length + L ≤ 200
theorem DB.step {σ σ' : DS} {d : Int} {L L' : Nat} (h : DB σ L) (hd : 0 ≤ d) (hs : dStep σ d = some σ') (hL : L' < L) : DB σ' L' := by
  obtain ⟨n0, n1, i0, i1, b0, b1, hl⟩ := h
  have hq : 0 ≤ (σ.i + d) / ((σ.out.length : Int) + 1) := Int.ediv_nonneg (by omega) (by omega)
  have hr0 : 0 ≤ (σ.i + d) % ((σ.out.length : Int) + 1) := Int.emod_nonneg _ (by omega)
  have hr1 : (σ.i + d) % ((σ.out.length : Int) + 1) < (σ.out.length : Int) + 1 := Int.emod_lt_of_pos _ (by omega)
  have hdb : d < 30000000000 := by
    rcases Int.lt_or_le d 30000000000 with h | h
    · exact h
    · rw [dStep_big h i0 n0 (by omega)] at hs; cases hs
  unfold dStep at hs
  split at hs
  · rename_i hc
    injection hs with hs
    have hc1 : σ.n + (σ.i + d) / ((σ.out.length : Int) + 1) ≤ 1114111 := hc.1
    have hlen : (dNext σ d).out.length = σ.out.length + 1 := by
      show (_ ++ _ :: _).length = _
      rw [List.length_append, List.length_cons, List.length_take, List.length_drop]; omega
    have hdq : d ≤ 300000000 := by
      rcases Int.lt_or_le 300000000 d with h | h
      · have : 1114112 ≤ (σ.i + d) / ((σ.out.length : Int) + 1) := Int.le_ediv_of_mul_le (by omega) (by omega)
        omega
      · exact h
    have hb := pAdapt_range (d := d) (p := (σ.out.length : Int) + 1) σ.first hd (by omega)
    subst hs
    refine ⟨?_, hc.1, ?_, ?_, ?_, ?_, by rw [hlen]; omega⟩
    · show 0 ≤ σ.n + (σ.i + d) / ((σ.out.length : Int) + 1); omega
    · show 0 ≤ (σ.i + d) % ((σ.out.length : Int) + 1) + 1; omega
    · show (σ.i + d) % ((σ.out.length : Int) + 1) + 1 ≤ ((dNext σ d).out.length : Int); rw [hlen]; omega
    · exact hb.1
    · have := hb.2; show pAdapt d ((σ.out.length : Int) + 1) σ.first ≤ _; omega
  · cases hs
theorem ints_len (b : List UInt8) : (ints b).length = b.length := List.length_map ..
theorem start_DB {s : List UInt8} (h : s.length ≤ 200) : DB (dStart (ints (dBase s))) (dRest s).length := by
  have : (ints (dBase s)).length + (dRest s).length ≤ 200 := by
    rw [ints_len]
    unfold dBase dRest
    split
    · rw [List.length_take, List.length_drop]; omega
    · simp; omega
  exact ⟨by show (0:Int) ≤ 128; decide, by show (128:Int) ≤ _; decide, Int.le_refl _, by show (0:Int) ≤ _; omega, by show (0:Int) ≤ 72; decide, by show (72:Int) ≤ _; decide, this⟩

theorem unpuny_long {s : List UInt8} (h : 200 < s.length) : unpuny s = none := if_pos h
theorem unpuny_wide {s : List UInt8} (h : (dBase s).any (fun c => decide (128 ≤ c.toNat)) = true) : unpuny s = none := by
  unfold unpuny
  split
  · rfl
  · first | rfl | exact if_pos h
theorem unpuny_is {s : List UInt8} (h : ¬ 200 < s.length) (hw : (dBase s).any (fun c => decide (128 ≤ c.toNat)) = false) :
    unpuny s = (dec (dRest s) (dStart (ints (dBase s)))).bind fun l => if l.length ≤ 63 then some l else none := by
  unfold unpuny
  rw [if_neg h, if_neg (by rw [hw]; decide)]
end Go.Proofs.Ytalpkjdbennicaa
