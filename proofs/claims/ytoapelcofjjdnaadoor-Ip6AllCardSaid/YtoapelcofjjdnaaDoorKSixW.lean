/- Long addresses: what is parsed has eight pieces of two bytes; plain laws. -/
import Derived.Test.YtoapelcofjjdnaaDoorK02
namespace Go.Proofs.YtoapelcofjjdnaaDoor
set_option linter.all false

theorem hexN_go : ∀ (l : List UInt8) (n : Nat), l.foldl (fun n c => n * 16 + (hexV c).toNat) n < (n + 1) * 16 ^ l.length := by
  intro l
  induction l with
  | nil => intro n; simp
  | cons c l ih =>
    intro n
    have h1 := ih (n * 16 + (hexV c).toNat)
    have h2 := hexV_range c
    have h3 : n * 16 + (hexV c).toNat + 1 ≤ (n + 1) * 16 := by omega
    have h4 := Nat.mul_le_mul_right (16 ^ l.length) h3
    rw [List.foldl_cons, List.length_cons, Nat.pow_succ, Nat.mul_comm (16 ^ l.length) 16, ← Nat.mul_assoc]
    omega
theorem rPiece_lt {p : List UInt8} {n : Nat} (h : rPiece p = some n) : n < 65536 := by
  unfold rPiece at h
  split at h
  · rename_i hc
    injection h with h
    have h1 := of_decide_eq_true hc.1
    have h2 := hexN_go p 0
    have h3 : 16 ^ p.length ≤ 16 ^ 4 := Nat.pow_le_pow_right (by decide) h1.2
    rw [← h]
    unfold hexN
    have h4 : (16 : Nat) ^ 4 = 65536 := by decide
    omega
  · cases h
theorem rBytes_lt : ∀ (L : List (List UInt8)) (r : List Nat), rBytes L = some r → ∀ x ∈ r, x < 256 := by
  intro L
  induction L with
  | nil => intro r h x hx; injection h with h; rw [← h] at hx; cases hx
  | cons a L ih =>
    intro r h x hx
    rw [rBytes] at h
    cases e1 : rByte a with
    | none => rw [e1] at h; cases h
    | some n =>
      rw [e1] at h
      cases e2 : rBytes L with
      | none => rw [e2] at h; cases h
      | some r2 =>
        rw [e2] at h
        injection h with h
        rw [← h] at hx
        rcases List.mem_cons.1 hx with rfl | hx
        · unfold rByte at e1
          split at e1
          · rename_i hc
            injection e1 with e1
            have := of_decide_eq_true hc.2
            omega
          · cases e1
        · exact ih r2 e2 x hx
theorem two_lt {r : List Nat} (h : ∀ x ∈ r, x < 256) : ∀ x ∈ two r, x < 65536 := by
  intro x hx
  unfold two at hx
  split at hx
  · rename_i a b c d
    have ha := h a (by simp)
    have hb := h b (by simp)
    have hc := h c (by simp)
    have hd := h d (by simp)
    rcases List.mem_cons.1 hx with rfl | hx
    · omega
    · rw [List.mem_singleton] at hx
      omega
  · cases hx
theorem rFour_lt {p : List UInt8} {m : List Nat} (h : rFour p = some m) : ∀ x ∈ m, x < 65536 := by
  unfold rFour at h
  split at h
  · cases e : rBytes (cuts 46 p) with
    | none => rw [e] at h; cases h
    | some r =>
      rw [e] at h
      injection h with h
      rw [← h]
      exact two_lt (rBytes_lt _ _ e)
  · cases h
theorem rGo_lt (tl : Bool) : ∀ (L : List (List UInt8)) (l : List Nat), rGo tl L = some l → ∀ x ∈ l, x < 65536 := by
  intro L
  induction L with
  | nil => intro l h x hx; injection h with h; subst h; cases hx
  | cons p r ih =>
    intro l h x hx
    rw [rGo] at h
    split at h
    · exact rFour_lt h x hx
    · cases e1 : rPiece p with
      | none => rw [e1] at h; cases h
      | some n =>
        rw [e1] at h
        cases e2 : rGo tl r with
        | none => rw [e2] at h; cases h
        | some r2 =>
          rw [e2] at h
          injection h with h
          rw [← h] at hx
          rcases List.mem_cons.1 hx with rfl | hx
          · exact rPiece_lt e1
          · exact ih r2 e2 x hx
theorem rPieces_lt {tl : Bool} {s : List UInt8} {l : List Nat} (h : rPieces tl s = some l) : ∀ x ∈ l, x < 65536 := by
  unfold rPieces at h
  split at h
  · injection h with h; subst h; intro x hx; cases hx
  · exact rGo_lt _ _ _ h
theorem rParse6_ok {s : List UInt8} {a : List Nat} (h : rParse6 s = some a) : a.length = 8 ∧ ∀ x ∈ a, x < 65536 := by
  unfold rParse6 at h
  cases hg : gap2 s with
  | none =>
    rw [hg] at h
    replace h : (match rPieces true s with | some l => if l.length = 8 then some l else none | none => none) = some a := h
    cases e : rPieces true s with
    | none => rw [e] at h; cases h
    | some l =>
      rw [e] at h
      replace h : (if l.length = 8 then some l else none) = some a := h
      split at h
      · rename_i h8
        injection h with h
        subst h
        exact ⟨h8, rPieces_lt e⟩
      · cases h
  | some q =>
    obtain ⟨x, y⟩ := q
    rw [hg] at h
    replace h : (match rPieces false x, rPieces true y with
      | some l, some m => if l.length + m.length ≤ 7 then some (l ++ noughts (8 - l.length - m.length) ++ m) else none
      | _, _ => none) = some a := h
    cases e1 : rPieces false x with
    | none => rw [e1] at h; cases h
    | some l =>
      cases e2 : rPieces true y with
      | none => rw [e1, e2] at h; cases h
      | some m =>
        rw [e1, e2] at h
        replace h : (if l.length + m.length ≤ 7 then some (l ++ noughts (8 - l.length - m.length) ++ m) else none) = some a := h
        split at h
        · injection h with h
          subst h
          refine ⟨by simp [noughts]; omega, fun z hz => ?_⟩
          rcases List.mem_append.1 hz with hz | hz
          · rcases List.mem_append.1 hz with hz | hz
            · exact rPieces_lt e1 z hz
            · unfold noughts at hz
              have := (List.mem_replicate.1 hz).2
              omega
          · exact rPieces_lt e2 z hz
        · cases h
theorem pParse6_ok {s : List UInt8} {a : List Nat} (h : pParse6 s = some a) : a.length = 8 ∧ ∀ x ∈ a, x < 65536 := by
  rw [parse6_eq] at h
  exact rParse6_ok h
theorem parse6_show {a : List Nat} (h8 : a.length = 8) (h : ∀ x ∈ a, x < 65536) : pParse6 (pShow6 a) = some a := by
  rw [parse6_eq]; exact show6_back spell_digs h h8
end Go.Proofs.YtoapelcofjjdnaaDoor
