/- Numbers as digits at a base, and what ip4 reads from them: plain laws. -/
import Derived.Test.YtaglbcniomcfnaaDoorIpP
namespace Go.Proofs.YtaglbcniomcfnaaDoor
set_option linter.all false
open Go.RowKit

def dch (n : Nat) : UInt8 := if n < 10 then UInt8.ofNat (48 + n) else UInt8.ofNat (87 + n)
theorem hexV_dch : ∀ n, n < 16 → hexV (dch n) = (n : Int) := by decide
theorem dch_plain : ∀ n, n < 16 → dch n ≠ 46 ∧ dch n ≠ 120 ∧ dch n ≠ 88 ∧ (dch n = 48 → n = 0) ∧ (n < 10 → 48 ≤ (dch n).toNat ∧ (dch n).toNat ≤ 57) := by decide
/-- The digits of u at base b. -/
def digs (b u : Nat) : List UInt8 := if h : u < b ∨ b < 2 then [dch u] else digs b (u / b) ++ [dch (u % b)]
termination_by u
decreasing_by exact Nat.div_lt_self (by omega) (by omega)
theorem digs_small {b u : Nat} (h : u < b) : digs b u = [dch u] := by rw [digs, dif_pos (.inl h)]
theorem digs_big {b u : Nat} (hb : 2 ≤ b) (h : b ≤ u) : digs b u = digs b (u / b) ++ [dch (u % b)] := by rw [digs, dif_neg (by omega)]
theorem digs_ten (u : Nat) : digs 10 u = Lib.decDigits u := by
  induction u using Nat.strongRecOn with
  | _ u ih =>
    by_cases h : u < 10
    · rw [digs_small h, Lib.decDigits, dif_pos h]; unfold dch; rw [if_pos h]
    · rw [digs_big (by decide) (by omega), Lib.decDigits, dif_neg h, ih _ (by omega)]; unfold dch; rw [if_pos (by omega)]
/-- The first digit. -/
theorem digs_head {b : Nat} (hb : 2 ≤ b) (u : Nat) : ∃ d t, digs b u = dch d :: t ∧ d < b ∧ (d = 0 → u = 0) ∧ (u < b → t = []) ∧ ∀ x ∈ t, ∃ m, m < b ∧ x = dch m := by
  induction u using Nat.strongRecOn with
  | _ u ih =>
    by_cases h : u < b
    · exact ⟨u, [], digs_small h, h, id, fun _ => rfl, by simp⟩
    · have hlt : u / b < u := Nat.div_lt_self (by omega) (by omega)
      have hp : 1 ≤ u / b := (Nat.le_div_iff_mul_le (by omega)).2 (by omega)
      obtain ⟨d, t, e, h1, h2, _, h3⟩ := ih _ hlt
      refine ⟨d, t ++ [dch (u % b)], by rw [digs_big hb (by omega), e]; rfl, h1, fun h0 => by have := h2 h0; omega, fun h' => absurd h' h, fun x hx => ?_⟩
      rcases List.mem_append.1 hx with hx | hx
      · exact h3 x hx
      · exact ⟨u % b, Nat.mod_lt _ (by omega), by simpa using hx⟩
theorem digs_mem {b : Nat} (hb : 2 ≤ b) (u : Nat) {x : UInt8} (hx : x ∈ digs b u) : ∃ m, m < b ∧ x = dch m := by
  obtain ⟨d, t, e, h1, _, _, h3⟩ := digs_head hb u
  rw [e] at hx
  rcases List.mem_cons.1 hx with rfl | hx
  · exact ⟨d, h1, rfl⟩
  · exact h3 x hx
theorem digs_ne {b : Nat} (hb : 2 ≤ b) (u : Nat) : digs b u ≠ [] := by
  obtain ⟨d, t, e, _⟩ := digs_head hb u
  rw [e]; simp
theorem digs_dot {b : Nat} (hb : 2 ≤ b) (h16 : b ≤ 16) (u : Nat) : (46 : UInt8) ∉ digs b u := by
  intro h
  obtain ⟨m, hm, e⟩ := digs_mem hb u h
  exact (dch_plain m (by omega)).1 e.symm
theorem digs_len {b : Nat} (hb : 2 ≤ b) : ∀ (k u : Nat), u < b ^ k → (digs b u).length ≤ max k 1 := by
  intro k
  induction k with
  | zero => intro u h; rw [digs_small (by simp at h; omega)]; simp
  | succ k ih =>
    intro u h
    by_cases hu : u < b
    · rw [digs_small hu]; simp
    · rw [digs_big hb (by omega), List.length_append]
      have h1 : u / b < b ^ k := by rw [Nat.div_lt_iff_lt_mul (by omega), ← Nat.pow_succ]; exact h
      have h2 := ih _ h1
      have h3 : k ≠ 0 := by rintro rfl; simp at h; omega
      simp; omega

theorem cnt_append (b : Nat) (t : List UInt8) : ∀ (s : List UInt8) (n : Nat), cntGo b n (s ++ t) = (cntGo b n s).bind fun m => cntGo b m t := by
  intro s
  induction s with
  | nil => intro n; rfl
  | cons c s ih =>
    intro n
    rw [List.cons_append, cntGo, cntGo]
    split
    · exact ih _
    · rfl
theorem cnt_one {b d : Nat} (h : d < b) (h16 : b ≤ 16) (n : Nat) : cntGo b n [dch d] = some (min (n * b + d) hugeN) := by
  have e := hexV_dch d (by omega)
  rw [cntGo, if_pos (by omega), e]; rfl
theorem cnt_digs {b : Nat} (hb : 2 ≤ b) (h16 : b ≤ 16) (u : Nat) : u ≤ hugeN → cntGo b 0 (digs b u) = some u := by
  induction u using Nat.strongRecOn with
  | _ u ih =>
    intro hu
    by_cases h : u < b
    · rw [digs_small h, cnt_one h h16, Nat.zero_mul, Nat.zero_add, Nat.min_eq_left hu]
    · have hlt : u / b < u := Nat.div_lt_self (by omega) (by omega)
      rw [digs_big hb (by omega), cnt_append, ih _ hlt (by omega)]
      show cntGo b (u / b) [dch (u % b)] = _
      rw [cnt_one (Nat.mod_lt _ (by omega)) h16, Nat.mul_comm, Nat.div_add_mod, Nat.min_eq_left hu]
theorem cnt_zero {b : Nat} (hb : 2 ≤ b) (t : List UInt8) : cntGo b 0 (48 :: t) = cntGo b 0 t := by
  have e : hexV 48 = 0 := by decide
  rw [cntGo, if_pos (by rw [e]; omega), e, Nat.zero_mul]; rfl

theorem num_ten {u : Nat} (h : u ≤ hugeN) : pNum (digs 10 u) = some u := by
  obtain ⟨d, t, e, h1, h2, h3, _⟩ := digs_head (b := 10) (by decide) u
  have hc := cnt_digs (b := 10) (by decide) (by decide) u h
  unfold pNum
  rw [if_neg (digs_ne (by decide) u)]
  by_cases h0 : u < 10
  · rw [digs_small h0] at *
    have : hexFront [dch u] = false := by simp [hexFront]
    rw [if_neg (by rw [this]; decide), if_neg (by show ¬ octFront [dch u] = true; simp [octFront]), hc]
  · have hd : dch d ≠ 48 := fun e => by have := (dch_plain d (by omega)).2.2.2.1 e; omega
    have hh : hexFront (digs 10 u) = false := by
      rw [e]; unfold hexFront; split
      · next e2 => injection e2 with e2; exact absurd e2 hd
      · rfl
    have ho : octFront (digs 10 u) = false := by
      rw [e]; unfold octFront; split
      · next e2 => injection e2 with e2; exact absurd e2 hd
      · rfl
    rw [hh, ho, hc]; rfl
theorem num_hex {u : Nat} (h : u ≤ hugeN) {c : UInt8} (hc : c = 120 ∨ c = 88) : pNum (48 :: c :: digs 16 u) = some u := by
  unfold pNum
  have hh : hexFront (48 :: c :: digs 16 u) = true := by unfold hexFront; rcases hc with rfl | rfl <;> rfl
  rw [if_neg (by simp), hh, if_pos rfl]
  exact cnt_digs (b := 16) (by decide) (by decide) u h
theorem num_oct {u : Nat} (h : u ≤ hugeN) : pNum (48 :: digs 8 u) = some u := by
  obtain ⟨d, t, e, h1, h2, h3, _⟩ := digs_head (b := 8) (by decide) u
  have hp := dch_plain d (by omega)
  have hc := cnt_digs (b := 8) (by decide) (by decide) u h
  unfold pNum
  have hh : hexFront (48 :: digs 8 u) = false := by
    rw [e]
    show (dch d == 120 || dch d == 88) = false
    rw [beq_false_of_ne hp.2.1, beq_false_of_ne hp.2.2.1]; rfl
  have ho : octFront (48 :: digs 8 u) = true := by rw [e]; rfl
  rw [if_neg (by simp), hh, ho]
  exact (cnt_zero (by decide) _).trans hc
theorem num_oct2 {u : Nat} (h : u ≤ hugeN) : pNum (48 :: 48 :: digs 8 u) = some u := by
  have hc := cnt_digs (b := 8) (by decide) (by decide) u h
  show cntGo 8 0 (48 :: 48 :: digs 8 u) = some u
  rw [cnt_zero (by decide), cnt_zero (by decide), hc]

theorem pParts_join {L : List (List UInt8)} (hne : L ≠ []) (hd : ∀ p ∈ L, (46 : UInt8) ∉ p ∧ p ≠ []) : pParts (Lib.join L [46]) = L := by
  unfold pParts
  rw [cuts_join hne fun p hp => (hd p hp).1, if_neg]
  rintro ⟨_, h⟩
  exact (hd [] (List.mem_of_getLast? h)).2 rfl
theorem pParts_dot {L : List (List UInt8)} (hne : L ≠ []) (hd : ∀ p ∈ L, (46 : UInt8) ∉ p ∧ p ≠ []) : pParts (Lib.join L [46] ++ [46]) = L := by
  unfold pParts
  have hp := List.length_pos_iff.2 hne
  rw [cuts_snoc_hit, cuts_join hne fun p hp => (hd p hp).1, if_pos ⟨by rw [List.length_append]; simp; omega, by simp⟩, List.dropLast_concat]
theorem pParts_more {L : List (List UInt8)} {x : List UInt8} (hne : L ≠ []) (hd : ∀ p ∈ L, (46 : UInt8) ∉ p ∧ p ≠ []) (hx : (46 : UInt8) ∉ x) (hx0 : x ≠ []) : pParts (Lib.join L [46] ++ 46 :: x) = L ++ [x] := by
  unfold pParts
  rw [cuts_append, cuts_join hne fun p hp => (hd p hp).1, cuts_whole hx, if_neg]
  rintro ⟨_, h⟩
  rw [List.getLast?_concat] at h
  injection h with h
  exact hx0 h

section
variable {p q r s : List UInt8} {x y z t : Nat}
theorem par1 (h1 : pNum p = some x) (hx : x < 2 ^ 32) : parGo 0 0 [p] = some x := by
  simp only [parGo, h1, if_pos]; rw [if_pos (by simpa using hx), Nat.zero_add]
theorem par2 (h1 : pNum p = some x) (hx : x < 256) (h2 : pNum q = some y) (hy : y < 2 ^ 24) : parGo 0 0 [p, q] = some (x * 2 ^ 24 + y) := by
  simp only [parGo, h1, h2]; rw [if_neg (by simp), if_pos hx, if_pos trivial, if_pos (by simpa using hy), Nat.zero_add]
theorem par3 (h1 : pNum p = some x) (hx : x < 256) (h2 : pNum q = some y) (hy : y < 256) (h3 : pNum r = some z) (hz : z < 2 ^ 16) : parGo 0 0 [p, q, r] = some (x * 2 ^ 24 + y * 2 ^ 16 + z) := by
  simp only [parGo, h1, h2, h3]; rw [if_neg (by simp), if_pos hx, if_neg (by simp), if_pos hy, if_pos trivial, if_pos (by simpa using hz), Nat.zero_add]
theorem par4 (h1 : pNum p = some x) (hx : x < 256) (h2 : pNum q = some y) (hy : y < 256) (h3 : pNum r = some z) (hz : z < 256) (h4 : pNum s = some t) (ht : t < 256) : parGo 0 0 [p, q, r, s] = some (x * 2 ^ 24 + y * 2 ^ 16 + z * 2 ^ 8 + t) := by
  simp only [parGo, h1, h2, h3, h4]; rw [if_neg (by simp), if_pos hx, if_neg (by simp), if_pos hy, if_neg (by simp), if_pos hz, if_pos trivial, if_pos (by simpa using ht), Nat.zero_add]
end

def fours (a : Nat) : List (List UInt8) := [digs 10 (a / 2 ^ 24 % 256), digs 10 (a / 2 ^ 16 % 256), digs 10 (a / 2 ^ 8 % 256), digs 10 (a % 256)]
theorem show4_fours (a : Nat) : pShow4 a = Lib.join (fours a) [46] := by unfold pShow4 fours; simp only [digs_ten]
theorem fours_ok (a : Nat) : ∀ p ∈ fours a, (46 : UInt8) ∉ p ∧ p ≠ [] := by
  intro p hp
  simp only [fours, List.mem_cons, List.not_mem_nil, or_false] at hp
  rcases hp with rfl | rfl | rfl | rfl <;> exact ⟨digs_dot (by decide) (by decide) _, digs_ne (by decide) _⟩
theorem fours_ne (a : Nat) : fours a ≠ [] := by simp [fours]
theorem small_huge {u : Nat} (h : u < 2 ^ 32) : u ≤ hugeN := by unfold hugeN; omega
theorem fours_sum {a : Nat} (h : a < 2 ^ 32) : parGo 0 0 (fours a) = some a := by
  unfold fours
  rw [par4 (num_ten (small_huge (by omega))) (by omega) (num_ten (small_huge (by omega))) (by omega) (num_ten (small_huge (by omega))) (by omega) (num_ten (small_huge (by omega))) (by omega)]
  congr 1; omega
theorem ip4_back {a : Nat} (h : a < 2 ^ 32) : pParse (pShow4 a) = some a := by
  unfold pParse
  rw [show4_fours, pParts_join (fours_ne a) (fours_ok a), if_neg (by simp [fours]), fours_sum h]
theorem ip4_back_dot {a : Nat} (h : a < 2 ^ 32) : pParse (pShow4 a ++ [46]) = some a := by
  unfold pParse
  rw [show4_fours, pParts_dot (fours_ne a) (fours_ok a), if_neg (by simp [fours]), fours_sum h]
theorem pEnds_last {s : List UInt8} {u : Nat} (hu : u ≤ hugeN) (h : pLast s = digs 10 u) : pEnds s = true := by
  unfold pEnds
  rw [h, cnt_digs (by decide) (by decide) u hu]
  have : (digs 10 u).isEmpty = false := by
    obtain ⟨d, t, e, _⟩ := digs_head (b := 10) (by decide) u
    rw [e]; rfl
  rw [this]; rfl
theorem ip4_ends {a : Nat} : pEnds (pShow4 a) = true := by
  refine pEnds_last (u := a % 256) (small_huge (by omega)) ?_
  unfold pLast
  rw [show4_fours, pParts_join (fours_ne a) (fours_ok a)]; rfl
theorem ip4_ends_dot {a : Nat} : pEnds (pShow4 a ++ [46]) = true := by
  refine pEnds_last (u := a % 256) (small_huge (by omega)) ?_
  unfold pLast
  rw [show4_fours, pParts_dot (fours_ne a) (fours_ok a)]; rfl
theorem ip4_five {a : Nat} : pParse (pShow4 a ++ [46, 48]) = none := by
  unfold pParse
  rw [show4_fours, pParts_more (x := [48]) (fours_ne a) (fours_ok a) (by decide) (by decide), if_pos (by simp [fours])]
theorem join_two (p q : List UInt8) : Lib.join [p, q] [46] = p ++ 46 :: q := by simp [Lib.join]
theorem join_three (p q r : List UInt8) : Lib.join [p, q, r] [46] = p ++ 46 :: (q ++ 46 :: r) := by simp [Lib.join]
theorem parse_one {p : List UInt8} {x : Nat} (hp : (46 : UInt8) ∉ p ∧ p ≠ []) (h : pNum p = some x) (hx : x < 2 ^ 32) : pParse p = some x := by
  have e : pParts p = [p] := by
    have := pParts_join (L := [p]) (by simp) (by intro y hy; rw [List.mem_singleton.1 hy]; exact hp)
    simpa [Lib.join] using this
  unfold pParse
  rw [e, if_neg (by simp), par1 h hx]
theorem parse_two {p q : List UInt8} {x y : Nat} (hp : (46 : UInt8) ∉ p ∧ p ≠ []) (hq : (46 : UInt8) ∉ q ∧ q ≠ []) (h1 : pNum p = some x) (hx : x < 256) (h2 : pNum q = some y) (hy : y < 2 ^ 24) : pParse (p ++ 46 :: q) = some (x * 2 ^ 24 + y) := by
  have e : pParts (p ++ 46 :: q) = [p, q] := by
    rw [← join_two]
    exact pParts_join (by simp) (by intro y hy; simp only [List.mem_cons, List.not_mem_nil, or_false] at hy; rcases hy with rfl | rfl; exact hp; exact hq)
  unfold pParse
  rw [e, if_neg (by simp), par2 h1 hx h2 hy]
theorem parse_three {p q r : List UInt8} {x y z : Nat} (hp : (46 : UInt8) ∉ p ∧ p ≠ []) (hq : (46 : UInt8) ∉ q ∧ q ≠ []) (hr : (46 : UInt8) ∉ r ∧ r ≠ []) (h1 : pNum p = some x) (hx : x < 256) (h2 : pNum q = some y) (hy : y < 256) (h3 : pNum r = some z) (hz : z < 2 ^ 16) : pParse (p ++ 46 :: (q ++ 46 :: r)) = some (x * 2 ^ 24 + y * 2 ^ 16 + z) := by
  have e : pParts (p ++ 46 :: (q ++ 46 :: r)) = [p, q, r] := by
    rw [← join_three]
    exact pParts_join (by simp) (by intro y hy; simp only [List.mem_cons, List.not_mem_nil, or_false] at hy; rcases hy with rfl | rfl | rfl; exact hp; exact hq; exact hr)
  unfold pParse
  rw [e, if_neg (by simp), par3 h1 hx h2 hy h3 hz]
/-- The six texts of Ip4Parts. -/
def tens (u : Nat) : List UInt8 := digs 10 u
theorem tens_ok (u : Nat) : (46 : UInt8) ∉ tens u ∧ tens u ≠ [] := ⟨digs_dot (by decide) (by decide) _, digs_ne (by decide) _⟩
theorem parts_all {a : Nat} (h : a < 2 ^ 32) : pParse (tens a) = some a ∧ pParse (tens (a / 2 ^ 24) ++ 46 :: tens (a % 2 ^ 24)) = some a ∧ pParse (tens (a / 2 ^ 24) ++ 46 :: (tens (a / 2 ^ 16 % 256) ++ 46 :: tens (a % 2 ^ 16))) = some a ∧
    pParse (48 :: digs 8 a) = some a ∧ pParse (48 :: 120 :: digs 16 a) = some a ∧ pParse (48 :: 88 :: (digs 16 (a / 2 ^ 24) ++ 46 :: 48 :: 48 :: digs 8 (a % 2 ^ 24))) = some a := by
  have d8 (u : Nat) : (46 : UInt8) ∉ digs 8 u := digs_dot (by decide) (by decide) u
  have d16 (u : Nat) : (46 : UInt8) ∉ digs 16 u := digs_dot (by decide) (by decide) u
  refine ⟨parse_one (tens_ok a) (num_ten (small_huge h)) h, ?_, ?_, ?_, ?_, ?_⟩
  · rw [parse_two (tens_ok _) (tens_ok _) (num_ten (small_huge (by omega))) (by omega) (num_ten (small_huge (by omega))) (by omega)]; congr 1; omega
  · rw [parse_three (tens_ok _) (tens_ok _) (tens_ok _) (num_ten (small_huge (by omega))) (by omega) (num_ten (small_huge (by omega))) (by omega) (num_ten (small_huge (by omega))) (by omega)]; congr 1; omega
  · exact parse_one ⟨by simp [d8], by simp⟩ (num_oct (small_huge h)) h
  · exact parse_one ⟨by simp [d16], by simp⟩ (num_hex (small_huge h) (.inl rfl)) h
  · have := parse_two (p := 48 :: 88 :: digs 16 (a / 2 ^ 24)) (q := 48 :: 48 :: digs 8 (a % 2 ^ 24)) ⟨by simp [d16], by simp⟩ ⟨by simp [d8], by simp⟩ (num_hex (small_huge (by omega)) (.inr rfl)) (by omega) (num_oct2 (small_huge (by omega))) (by omega)
    rw [show 48 :: 88 :: (digs 16 (a / 2 ^ 24) ++ 46 :: 48 :: 48 :: digs 8 (a % 2 ^ 24)) = (48 :: 88 :: digs 16 (a / 2 ^ 24)) ++ 46 :: (48 :: 48 :: digs 8 (a % 2 ^ 24)) from rfl, this]
    congr 1; omega
theorem order_bad (y z : Nat) (hy : y ≤ hugeN) : pParse ([50, 53, 54] ++ 46 :: (tens y ++ 46 :: tens z)) = none := by
  have e : pParts ([50, 53, 54] ++ 46 :: (tens y ++ 46 :: tens z)) = [[50, 53, 54], tens y, tens z] := by
    rw [← join_three]
    exact pParts_join (by simp) (by intro x hx; simp only [List.mem_cons, List.not_mem_nil, or_false] at hx; rcases hx with rfl | rfl | rfl; exact ⟨by decide, by decide⟩; exact tens_ok _; exact tens_ok _)
  have h256 : pNum [50, 53, 54] = some 256 := by decide
  unfold pParse
  rw [e, if_neg (by simp), parGo, h256]
  simp only []
  rw [if_neg (by simp), if_neg (by decide)]
theorem show4_of {x y z t : Nat} (hx : x < 256) (hy : y < 256) (hz : z < 256) (ht : t < 256) : pShow4 (x * 2 ^ 24 + y * 2 ^ 16 + z * 2 ^ 8 + t) = tens x ++ 46 :: (tens y ++ 46 :: (tens z ++ 46 :: tens t)) := by
  rw [show4_fours]
  unfold fours tens
  rw [show (x * 2 ^ 24 + y * 2 ^ 16 + z * 2 ^ 8 + t) / 2 ^ 24 % 256 = x by omega, show (x * 2 ^ 24 + y * 2 ^ 16 + z * 2 ^ 8 + t) / 2 ^ 16 % 256 = y by omega, show (x * 2 ^ 24 + y * 2 ^ 16 + z * 2 ^ 8 + t) / 2 ^ 8 % 256 = z by omega, show (x * 2 ^ 24 + y * 2 ^ 16 + z * 2 ^ 8 + t) % 256 = t by omega]
  simp [Lib.join]
end Go.Proofs.YtaglbcniomcfnaaDoor

