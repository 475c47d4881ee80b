/- A part of the proof. -/
import Derived.Test.YtoapelcofjjdnaaGreatDoorR00
import Derived.Test.YtoapelcofjjdnaaGreatDoorR01
import Derived.Lib.ItoaNum
namespace Go.Proofs.YtoapelcofjjdnaaGreatDoor
set_option linter.all false
open Go.RowKit
def hugeN : Nat := 1099511627776
def cntGo (b : Nat) : Nat → List UInt8 → Option Nat
 | n, [] => some n
 | n, c :: t => if 0 ≤ hexV c ∧ hexV c < (b : Int) then cntGo b (min (n * b + (hexV c).toNat) hugeN) t else none
theorem cntGo_le (b : Nat) : ∀ (s : List UInt8) (n m : Nat), n ≤ hugeN → cntGo b n s = some m → m ≤ hugeN := by
 intro s
 induction s with
 | nil => intro n m h e; injection e with e; omega
 | cons c t ih =>
  intro n m h e
  unfold cntGo at e
  split at e
  · exact ih _ _ (Nat.min_le_right _ _) e
  · cases e
def hexFront (s : List UInt8) : Bool := match s with
 | 48 :: c :: _ => c == 120 || c == 88
 | _ => false
def octFront (s : List UInt8) : Bool := match s with
 | 48 :: _ :: _ => true
 | _ => false
def pNum (s : List UInt8) : Option Nat :=
 if s = [] then none else if hexFront s then cntGo 16 0 (s.drop 2) else if octFront s then cntGo 8 0 s else cntGo 10 0 s
theorem pNum_le {s : List UInt8} {m : Nat} (h : pNum s = some m) : m ≤ hugeN := by
 unfold pNum at h
 split at h
 · cases h
 ·
  split at h
  · exact cntGo_le _ _ _ _ (by decide) h
  ·
   split at h
   · exact cntGo_le _ _ _ _ (by decide) h
   · exact cntGo_le _ _ _ _ (by decide) h
theorem cnt_nought (t : List UInt8) : cntGo 8 0 (48 :: t) = cntGo 8 0 t := by
 rw [cntGo, if_pos (by decide)]; rfl
def pParts (s : List UInt8) : List (List UInt8) := if 1 < (cuts 46 s).length ∧ (cuts 46 s).getLast? = some [] then (cuts 46 s).dropLast else cuts 46 s
theorem pParts_pos (s : List UInt8) : 0 < (pParts s).length := by
 unfold pParts
 have := cuts_pos 46 s
 split
 · rw [List.length_dropLast]; omega
 · exact this
def pLast (s : List UInt8) : List UInt8 := (pParts s).getLast?.getD []
def allTen (x : List UInt8) : Bool := x.all fun c => decide (48 ≤ c.toNat ∧ c.toNat ≤ 57)
def pEnds (s : List UInt8) : Bool := ((cntGo 10 0 (pLast s)).isSome && !(pLast s).isEmpty) || (pNum (pLast s)).isSome
theorem hexV_ten (c : UInt8) : (0 ≤ hexV c ∧ hexV c < 10) ↔ (48 ≤ c.toNat ∧ c.toNat ≤ 57) := by
 unfold hexV; (repeat' split) <;> omega
theorem cnt_ten : ∀ (s : List UInt8) (n : Nat), (cntGo 10 n s).isSome = allTen s := by
 intro s
 induction s with
 | nil => intro n; rfl
 | cons c t ih =>
  intro n
  unfold cntGo allTen
  rw [List.all_cons]
  split
  · next h => rw [ih, decide_eq_true ((hexV_ten c).1 h)]; rfl
  · next h => rw [decide_eq_false (fun e => h ((hexV_ten c).2 e))]; rfl
theorem cnt_eight : ∀ (s : List UInt8) (n : Nat), (cntGo 8 n s).isSome = true → allTen s = true := by
 intro s
 induction s with
 | nil => intro n _; rfl
 | cons c t ih =>
  intro n h
  unfold cntGo at h
  split at h
  ·
   next hc =>
   unfold allTen
   rw [List.all_cons, decide_eq_true ((hexV_ten c).1 (by omega)), Bool.true_and]
   exact ih _ h
  · cases h
def rEnds (s : List UInt8) : Bool := (!(pLast s).isEmpty && allTen (pLast s)) || ((pNum (pLast s)).isSome && hexX (pLast s))
where hexX (x : List UInt8) : Bool := match x with
 | _ :: c :: _ => c == 120 || c == 88
 | _ => false
theorem rEnds_eq (s : List UInt8) : rEnds s = pEnds s := by
 unfold rEnds pEnds
 rw [cnt_ten, Bool.and_comm (!_)]
 generalize pLast s = x
 by_cases ha : (allTen x && !x.isEmpty) = true
 · rw [ha]; rfl
 ·
  rw [Bool.eq_false_iff.2 ha]
  simp only [Bool.false_or]
  cases hn : (pNum x).isSome with
  | false => rfl
  | true =>
   rw [Bool.true_and]
   unfold pNum at hn
   split at hn
   · cases hn
   ·
    next hx =>
    have he : x.isEmpty = false := by cases x with | nil => exact absurd rfl hx | cons _ _ => rfl
    rw [he] at ha
    split at hn
    ·
     next hf =>
     unfold hexFront at hf
     split at hf
     · exact hf
     · cases hf
    ·
     split at hn
     · exact absurd (by rw [cnt_eight _ _ hn]; rfl) ha
     ·
      rw [cnt_ten] at hn
      exact absurd (by rw [hn]; rfl) ha
def parGo : Nat → Nat → List (List UInt8) → Option Nat
 | _, sum, [] => some sum
 | i, sum, p :: r => match pNum p with
  | none => none
  | some x => if r = [] then (if x < 2 ^ (8 * (4 - i)) then some (sum + x) else none) else if x < 256 then parGo (i + 1) (sum + x * 2 ^ (8 * (3 - i))) r else none
def pParse (s : List UInt8) : Option Nat := if 4 < (pParts s).length then none else parGo 0 0 (pParts s)
theorem parGo_lt : ∀ (l : List (List UInt8)) (i sum m : Nat), l.length + i ≤ 4 → l ≠ [] → sum + 2 ^ (8 * (4 - i)) ≤ 2 ^ 32 → parGo i sum l = some m → m < 2 ^ 32 := by
 intro l
 induction l with
 | nil => intro i sum m _ h; exact absurd rfl h
 | cons p r ih =>
  intro i sum m hl _ hs h
  rw [List.length_cons] at hl
  unfold parGo at h
  split at h
  · cases h
  ·
   next x hx =>
   split at h
   ·
    split at h
    · injection h with h; omega
    · cases h
   ·
    next hr =>
    split at h
    ·
     next hlt =>
     refine ih _ _ _ (by omega) hr ?_ h
     have hi : i ≤ 3 := by omega
     have : x * 2 ^ (8 * (3 - i)) + 2 ^ (8 * (4 - (i + 1))) ≤ 2 ^ (8 * (4 - i)) := by
      rw [show 4 - (i + 1) = 3 - i by omega, show 8 * (4 - i) = 8 + 8 * (3 - i) by omega, Nat.pow_add]
      have : (x + 1) * 2 ^ (8 * (3 - i)) ≤ 2 ^ 8 * 2 ^ (8 * (3 - i)) := Nat.mul_le_mul_right _ (by omega)
      rw [Nat.add_mul, Nat.one_mul] at this
      exact this
     omega
    · cases h
theorem pParse_lt {s : List UInt8} {m : Nat} (h : pParse s = some m) : m < 2 ^ 32 := by
 unfold pParse at h
 split at h
 · cases h
 · exact parGo_lt _ 0 0 m (by omega) (fun e => by have := pParts_pos s; rw [e] at this; cases this) (by decide) h
def pShow4 (a : Nat) : List UInt8 := Lib.join [Lib.decDigits (a / 2 ^ 24 % 256), Lib.decDigits (a / 2 ^ 16 % 256), Lib.decDigits (a / 2 ^ 8 % 256), Lib.decDigits (a % 256)] [46]
end Go.Proofs.YtoapelcofjjdnaaGreatDoor
namespace Go.Proofs.YtoapelcofjjdnaaGreatDoor
set_option linter.all false
open Go.RowKit
def dch (n : Nat) : UInt8 := if n < 10 then UInt8.ofNat (48 + n) else UInt8.ofNat (87 + n)
theorem hexV_dch : ∀ n, n < 16 → hexV (dch n) = (n : Int) := by decide
theorem dch_plain : ∀ n, n < 16 → dch n ≠ 46 ∧ dch n ≠ 120 ∧ dch n ≠ 88 ∧ (dch n = 48 → n = 0) ∧ (n < 10 → 48 ≤ (dch n).toNat ∧ (dch n).toNat ≤ 57) := by decide
def digs (b u : Nat) : List UInt8 := if h : u < b ∨ b < 2 then [dch u] else digs b (u / b) ++ [dch (u % b)]
termination_by u
decreasing_by exact Nat.div_lt_self (by omega) (by omega)
theorem digs_small {b u : Nat} (h : u < b) : digs b u = [dch u] := by rw [digs, dif_pos (.inl h)]
theorem digs_big {b u : Nat} (hb : 2 ≤ b) (h : b ≤ u) : digs b u = digs b (u / b) ++ [dch (u % b)] := by rw [digs, dif_neg (by omega)]
theorem digs_ten (u : Nat) : digs 10 u = Lib.decDigits u := by
 induction u using Nat.strongRecOn with
 | _ u ih =>
  by_cases h : u < 10
  · rw [digs_small h, Lib.decDigits, dif_pos h]; unfold dch; rw [if_pos h]
  · rw [digs_big (by decide) (by omega), Lib.decDigits, dif_neg h, ih _ (by omega)]; unfold dch; rw [if_pos (by omega)]
theorem digs_head {b : Nat} (hb : 2 ≤ b) (u : Nat) : ∃ d t, digs b u = dch d :: t ∧ d < b ∧ (d = 0 → u = 0) ∧ (u < b → t = []) ∧ ∀ x ∈ t, ∃ m, m < b ∧ x = dch m := by
 induction u using Nat.strongRecOn with
 | _ u ih =>
  by_cases h : u < b
  · exact ⟨u, [], digs_small h, h, id, fun _ => rfl, by simp⟩
  ·
   have hlt : u / b < u := Nat.div_lt_self (by omega) (by omega)
   have hp : 1 ≤ u / b := (Nat.le_div_iff_mul_le (by omega)).2 (by omega)
   obtain ⟨d, t, e, h1, h2, _, h3⟩ := ih _ hlt
   refine ⟨d, t ++ [dch (u % b)], by rw [digs_big hb (by omega), e]; rfl, h1, fun h0 => by have := h2 h0; omega, fun h' => absurd h' h, fun x hx => ?_⟩
   rcases List.mem_append.1 hx with hx | hx
   · exact h3 x hx
   · exact ⟨u % b, Nat.mod_lt _ (by omega), by simpa using hx⟩
theorem digs_mem {b : Nat} (hb : 2 ≤ b) (u : Nat) {x : UInt8} (hx : x ∈ digs b u) : ∃ m, m < b ∧ x = dch m := by
 obtain ⟨d, t, e, h1, _, _, h3⟩ := digs_head hb u
 rw [e] at hx
 rcases List.mem_cons.1 hx with rfl | hx
 · exact ⟨d, h1, rfl⟩
 · exact h3 x hx
theorem digs_ne {b : Nat} (hb : 2 ≤ b) (u : Nat) : digs b u ≠ [] := by
 obtain ⟨d, t, e, _⟩ := digs_head hb u
 rw [e]; simp
theorem digs_dot {b : Nat} (hb : 2 ≤ b) (h16 : b ≤ 16) (u : Nat) : (46 : UInt8) ∉ digs b u := by
 intro h
 obtain ⟨m, hm, e⟩ := digs_mem hb u h
 exact (dch_plain m (by omega)).1 e.symm
theorem digs_len {b : Nat} (hb : 2 ≤ b) : ∀ (k u : Nat), u < b ^ k → (digs b u).length ≤ max k 1 := by
 intro k
 induction k with
 | zero => intro u h; rw [digs_small (by simp at h; omega)]; simp
 | succ k ih =>
  intro u h
  by_cases hu : u < b
  · rw [digs_small hu]; simp
  ·
   rw [digs_big hb (by omega), List.length_append]
   have h1 : u / b < b ^ k := by rw [Nat.div_lt_iff_lt_mul (by omega), ← Nat.pow_succ]; exact h
   have h2 := ih _ h1
   have h3 : k ≠ 0 := by rintro rfl; simp at h; omega
   simp; omega
theorem cnt_append (b : Nat) (t : List UInt8) : ∀ (s : List UInt8) (n : Nat), cntGo b n (s ++ t) = (cntGo b n s).bind fun m => cntGo b m t := by
 intro s
 induction s with
 | nil => intro n; rfl
 | cons c s ih =>
  intro n
  rw [List.cons_append, cntGo, cntGo]
  split
  · exact ih _
  · rfl
theorem cnt_one {b d : Nat} (h : d < b) (h16 : b ≤ 16) (n : Nat) : cntGo b n [dch d] = some (min (n * b + d) hugeN) := by
 have e := hexV_dch d (by omega)
 rw [cntGo, if_pos (by omega), e]; rfl
theorem cnt_digs {b : Nat} (hb : 2 ≤ b) (h16 : b ≤ 16) (u : Nat) : u ≤ hugeN → cntGo b 0 (digs b u) = some u := by
 induction u using Nat.strongRecOn with
 | _ u ih =>
  intro hu
  by_cases h : u < b
  · rw [digs_small h, cnt_one h h16, Nat.zero_mul, Nat.zero_add, Nat.min_eq_left hu]
  ·
   have hlt : u / b < u := Nat.div_lt_self (by omega) (by omega)
   rw [digs_big hb (by omega), cnt_append, ih _ hlt (by omega)]
   show cntGo b (u / b) [dch (u % b)] = _
   rw [cnt_one (Nat.mod_lt _ (by omega)) h16, Nat.mul_comm, Nat.div_add_mod, Nat.min_eq_left hu]
theorem num_ten {u : Nat} (h : u ≤ hugeN) : pNum (digs 10 u) = some u := by
 obtain ⟨d, t, e, h1, h2, h3, _⟩ := digs_head (b := 10) (by decide) u
 have hc := cnt_digs (b := 10) (by decide) (by decide) u h
 unfold pNum
 rw [if_neg (digs_ne (by decide) u)]
 by_cases h0 : u < 10
 ·
  rw [digs_small h0] at *
  have : hexFront [dch u] = false := by simp [hexFront]
  rw [if_neg (by rw [this]; decide), if_neg (by show ¬ octFront [dch u] = true; simp [octFront]), hc]
 ·
  have hd : dch d ≠ 48 := fun e => by have := (dch_plain d (by omega)).2.2.2.1 e; omega
  have hh : hexFront (digs 10 u) = false := by
   rw [e]; unfold hexFront; split
   · next e2 => injection e2 with e2; exact absurd e2 hd
   · rfl
  have ho : octFront (digs 10 u) = false := by
   rw [e]; unfold octFront; split
   · next e2 => injection e2 with e2; exact absurd e2 hd
   · rfl
  rw [hh, ho, hc]; rfl
theorem pParts_join {L : List (List UInt8)} (hne : L ≠ []) (hd : ∀ p ∈ L, (46 : UInt8) ∉ p ∧ p ≠ []) : pParts (Lib.join L [46]) = L := by
 unfold pParts
 rw [cuts_join hne fun p hp => (hd p hp).1, if_neg]
 rintro ⟨_, h⟩
 exact (hd [] (List.mem_of_getLast? h)).2 rfl
section
variable {p q r s : List UInt8} {x y z t : Nat}
theorem par1 (h1 : pNum p = some x) (hx : x < 2 ^ 32) : parGo 0 0 [p] = some x := by
 simp only [parGo, h1, if_pos]; rw [if_pos (by simpa using hx), Nat.zero_add]
theorem par4 (h1 : pNum p = some x) (hx : x < 256) (h2 : pNum q = some y) (hy : y < 256) (h3 : pNum r = some z) (hz : z < 256) (h4 : pNum s = some t) (ht : t < 256) : parGo 0 0 [p, q, r, s] = some (x * 2 ^ 24 + y * 2 ^ 16 + z * 2 ^ 8 + t) := by
 simp only [parGo, h1, h2, h3, h4]; rw [if_neg (by simp), if_pos hx, if_neg (by simp), if_pos hy, if_neg (by simp), if_pos hz, if_pos trivial, if_pos (by simpa using ht), Nat.zero_add]
end
def fours (a : Nat) : List (List UInt8) := [digs 10 (a / 2 ^ 24 % 256), digs 10 (a / 2 ^ 16 % 256), digs 10 (a / 2 ^ 8 % 256), digs 10 (a % 256)]
theorem show4_fours (a : Nat) : pShow4 a = Lib.join (fours a) [46] := by unfold pShow4 fours; simp only [digs_ten]
theorem fours_ok (a : Nat) : ∀ p ∈ fours a, (46 : UInt8) ∉ p ∧ p ≠ [] := by
 intro p hp
 simp only [fours, List.mem_cons, List.not_mem_nil, or_false] at hp
 rcases hp with rfl | rfl | rfl | rfl <;> exact ⟨digs_dot (by decide) (by decide) _, digs_ne (by decide) _⟩
theorem fours_ne (a : Nat) : fours a ≠ [] := by simp [fours]
theorem small_huge {u : Nat} (h : u < 2 ^ 32) : u ≤ hugeN := by unfold hugeN; omega
theorem fours_sum {a : Nat} (h : a < 2 ^ 32) : parGo 0 0 (fours a) = some a := by
 unfold fours
 rw [par4 (num_ten (small_huge (by omega))) (by omega) (num_ten (small_huge (by omega))) (by omega) (num_ten (small_huge (by omega))) (by omega) (num_ten (small_huge (by omega))) (by omega)]
 congr 1; omega
theorem ip4_back {a : Nat} (h : a < 2 ^ 32) : pParse (pShow4 a) = some a := by
 unfold pParse
 rw [show4_fours, pParts_join (fours_ne a) (fours_ok a), if_neg (by simp [fours]), fours_sum h]
theorem pEnds_last {s : List UInt8} {u : Nat} (hu : u ≤ hugeN) (h : pLast s = digs 10 u) : pEnds s = true := by
 unfold pEnds
 rw [h, cnt_digs (by decide) (by decide) u hu]
 have : (digs 10 u).isEmpty = false := by
  obtain ⟨d, t, e, _⟩ := digs_head (b := 10) (by decide) u
  rw [e]; rfl
 rw [this]; rfl
theorem ip4_ends {a : Nat} : pEnds (pShow4 a) = true := by
 refine pEnds_last (u := a % 256) (small_huge (by omega)) ?_
 unfold pLast
 rw [show4_fours, pParts_join (fours_ne a) (fours_ok a)]; rfl
theorem parse_one {p : List UInt8} {x : Nat} (hp : (46 : UInt8) ∉ p ∧ p ≠ []) (h : pNum p = some x) (hx : x < 2 ^ 32) : pParse p = some x := by
 have e : pParts p = [p] := by
  have := pParts_join (L := [p]) (by simp) (by intro y hy; rw [List.mem_singleton.1 hy]; exact hp)
  simpa [Lib.join] using this
 unfold pParse
 rw [e, if_neg (by simp), par1 h hx]
end Go.Proofs.YtoapelcofjjdnaaGreatDoor
namespace Go.Proofs.YtoapelcofjjdnaaGreatDoor
set_option linter.all false
open Go.RowKit
def hexOk (c : UInt8) : Bool := decide (0 ≤ hexV c)
def hexN (l : List UInt8) : Nat := l.foldl (fun n c => n * 16 + (hexV c).toNat) 0
def decOk (c : UInt8) : Bool := decide (48 ≤ c.toNat ∧ c.toNat ≤ 57)
def decN (l : List UInt8) : Nat := l.foldl (fun n c => n * 10 + (c.toNat - 48)) 0
def okByte (d : List UInt8) : Bool := decide (d ≠ [] ∧ decN d < 256 ∧ (d = [48] ∨ d.head? ≠ some 48))
def sByte (s : List UInt8) : Option (Nat × List UInt8) := if okByte (s.takeWhile decOk) = true then some (decN (s.takeWhile decOk), s.dropWhile decOk) else none
def sBytes : Nat → List UInt8 → Option (List Nat)
 | 0, _ => none
 | 1, s => match sByte s with
  | none => none
  | some (n, r) => if r = [] then some [n] else none
 | k + 2, s => match sByte s with
  | none => none
  | some (n, r) => match r with
   | [] => none
   | c :: t => if c = 46 then (sBytes (k + 1) t).map (n :: ·) else none
def rByte (p : List UInt8) : Option Nat := if p.all decOk = true ∧ okByte p = true then some (decN p) else none
def rBytes : List (List UInt8) → Option (List Nat)
 | [] => some []
 | p :: r => match rByte p with
  | none => none
  | some n => (rBytes r).map (n :: ·)
theorem span_all {P : UInt8 → Bool} {p : List UInt8} (h : p.all P = true) : p.takeWhile P = p ∧ p.dropWhile P = [] := by
 induction p with
 | nil => exact ⟨rfl, rfl⟩
 | cons a t ih =>
  rw [List.all_cons, Bool.and_eq_true] at h
  rw [List.takeWhile_cons, List.dropWhile_cons, if_pos h.1, if_pos h.1, (ih h.2).1, (ih h.2).2]
  exact ⟨rfl, rfl⟩
theorem span_stop {P : UInt8 → Bool} {p t : List UInt8} {c : UInt8} (h : p.all P = true) (hc : P c = false) : (p ++ c :: t).takeWhile P = p ∧ (p ++ c :: t).dropWhile P = c :: t := by
 induction p with
 | nil => rw [List.nil_append, List.takeWhile_cons, List.dropWhile_cons, hc]; exact ⟨rfl, rfl⟩
 | cons a p ih =>
  rw [List.all_cons, Bool.and_eq_true] at h
  rw [List.cons_append, List.takeWhile_cons, List.dropWhile_cons, if_pos h.1, if_pos h.1, (ih h.2).1, (ih h.2).2]
  exact ⟨rfl, rfl⟩
theorem not_all {P : UInt8 → Bool} {p : List UInt8} (h : p.all P = false) : ∃ a c t, p = a ++ c :: t ∧ a.all P = true ∧ P c = false := by
 induction p with
 | nil => cases h
 | cons x p ih =>
  by_cases hx : P x = true
  ·
   rw [List.all_cons, hx, Bool.true_and] at h
   obtain ⟨a, c, t, e, h1, h2⟩ := ih h
   exact ⟨x :: a, c, t, by rw [e]; rfl, by rw [List.all_cons, hx, h1]; rfl, h2⟩
  · exact ⟨[], x, p, rfl, rfl, by simpa using hx⟩
theorem cuts_cases (c : UInt8) (s : List UInt8) : (c ∉ s ∧ cuts c s = [s]) ∨ ∃ a t, s = a ++ c :: t ∧ c ∉ a ∧ cuts c s = a :: cuts c t := by
 by_cases h : c ∈ s
 ·
  obtain ⟨a, t, e, ha⟩ := first_parts h
  exact .inr ⟨a, t, e, ha, by rw [e, cuts_at t ha]⟩
 · exact .inl ⟨h, cuts_whole h⟩
theorem decOk_dot : decOk 46 = false := by decide
theorem hexOk_colon : hexOk 58 = false := by decide
theorem all_no {P : UInt8 → Bool} {p : List UInt8} {c : UInt8} (h : p.all P = true) (hc : P c = false) : c ∉ p := fun hm => by
 rw [List.all_eq_true.1 h c hm] at hc; cases hc
theorem sByte_end (p : List UInt8) : sByte p = if p.all decOk = true then (rByte p).map fun n => (n, []) else sByte p := by
 split
 ·
  next h =>
  obtain ⟨h1, h2⟩ := span_all h
  unfold sByte rByte
  rw [h1, h2]
  by_cases hk : okByte p = true
  · rw [if_pos hk, if_pos ⟨h, hk⟩]; rfl
  · rw [if_neg hk, if_neg (fun e => hk e.2)]; rfl
 · rfl
theorem sByte_stop {p t : List UInt8} {c : UInt8} (h : p.all decOk = true) (hc : decOk c = false) : sByte (p ++ c :: t) = (rByte p).map fun n => (n, c :: t) := by
 obtain ⟨h1, h2⟩ := span_stop (t := t) h hc
 unfold sByte rByte
 rw [h1, h2]
 by_cases hk : okByte p = true
 · rw [if_pos hk, if_pos ⟨h, hk⟩]; rfl
 · rw [if_neg hk, if_neg (fun e => hk e.2)]; rfl
theorem rByte_no {p : List UInt8} (h : p.all decOk = false) : rByte p = none := by
 unfold rByte; rw [if_neg (by rw [h]; simp)]
theorem sBytes_eq : ∀ (k : Nat) (s : List UInt8), sBytes (k + 1) s = if (cuts 46 s).length = k + 1 then rBytes (cuts 46 s) else none := by
 intro k
 induction k with
 | zero =>
  intro s
  rcases cuts_cases 46 s with ⟨hno, e⟩ | ⟨a, t, e, ha, ec⟩
  ·
   rw [e, if_pos (show [s].length = 0 + 1 from rfl)]
   show (match sByte s with | none => none | some (n, r) => if r = [] then some [n] else none) = rBytes [s]
   by_cases h : s.all decOk = true
   ·
    rw [sByte_end, if_pos h, rBytes]
    cases rByte s with
    | none => rfl
    | some n => rfl
   ·
    have h' : s.all decOk = false := by simpa using h
    obtain ⟨x, c, y, e2, h1, h2⟩ := not_all h'
    rw [rBytes, rByte_no h', e2, sByte_stop h1 h2]
    cases rByte x with
    | none => rfl
    | some n => rfl
  ·
   have hl : ¬ (cuts 46 s).length = 0 + 1 := by
    have := cuts_pos 46 t
    rw [ec, List.length_cons]; omega
   rw [if_neg hl]
   show (match sByte s with | none => none | some (n, r) => if r = [] then some [n] else none) = none
   by_cases h : a.all decOk = true
   ·
    rw [e, sByte_stop h decOk_dot]
    cases rByte a with
    | none => rfl
    | some n => rfl
   ·
    have h' : a.all decOk = false := by simpa using h
    obtain ⟨x, c, y, e2, h1, h2⟩ := not_all h'
    rw [e, e2, List.append_assoc, List.cons_append, sByte_stop h1 h2]
    cases rByte x with
    | none => rfl
    | some n => rfl
 | succ k ih =>
  intro s
  show (match sByte s with | none => none | some (n, r) => match r with | [] => none | c :: t => if c = 46 then (sBytes (k + 1) t).map (n :: ·) else none) = _
  rcases cuts_cases 46 s with ⟨hno, e⟩ | ⟨a, t, e, ha, ec⟩
  ·
   rw [e, if_neg (by simp)]
   by_cases h : s.all decOk = true
   ·
    rw [sByte_end, if_pos h]
    cases rByte s with
    | none => rfl
    | some n => rfl
   ·
    have h' : s.all decOk = false := by simpa using h
    obtain ⟨x, c, y, e2, h1, h2⟩ := not_all h'
    have hc : c ≠ 46 := fun e3 => hno (by rw [e2, e3]; simp)
    rw [e2, sByte_stop h1 h2]
    cases rByte x with
    | none => rfl
    | some n => show (if c = 46 then _ else none) = none; rw [if_neg hc]
  ·
   rw [ec, List.length_cons]
   by_cases h : a.all decOk = true
   ·
    rw [e, sByte_stop h decOk_dot, rBytes]
    cases rByte a with
    | none => simp
    | some n =>
     show (if (46 : UInt8) = 46 then (sBytes (k + 1) t).map (n :: ·) else none) = _
     rw [if_pos rfl, ih t]
     by_cases hl : (cuts 46 t).length = k + 1
     · rw [if_pos hl, if_pos (by omega)]
     · rw [if_neg hl, if_neg (by omega)]; rfl
   ·
    have h' : a.all decOk = false := by simpa using h
    obtain ⟨x, c, y, e2, h1, h2⟩ := not_all h'
    have hc : c ≠ 46 := fun e3 => ha (by rw [e2, e3]; simp)
    rw [rBytes, rByte_no h', e, e2, List.append_assoc, List.cons_append, sByte_stop h1 h2, ite_self]
    cases rByte x with
    | none => rfl
    | some n => show (if c = 46 then _ else none) = none; rw [if_neg hc]
def two : List Nat → List Nat
 | [a, b, c, d] => [a * 256 + b, c * 256 + d]
 | _ => []
def sFour (s : List UInt8) : Option (List Nat) := (sBytes 4 s).map two
def rFour (s : List UInt8) : Option (List Nat) := if (cuts 46 s).length = 4 then (rBytes (cuts 46 s)).map two else none
theorem four_eq (s : List UInt8) : sFour s = rFour s := by
 unfold sFour rFour
 rw [show (4 : Nat) = 3 + 1 from rfl, sBytes_eq 3 s]
 split <;> rfl
def okPiece (d : List UInt8) : Bool := decide (1 ≤ d.length ∧ d.length ≤ 4)
def rPiece (p : List UInt8) : Option Nat := if okPiece p = true ∧ p.all hexOk = true then some (hexN p) else none
def rGo (tail : Bool) : List (List UInt8) → Option (List Nat)
 | [] => some []
 | p :: r => if tail = true ∧ r = [] ∧ (46 : UInt8) ∈ p then rFour p else match rPiece p with
  | none => none
  | some n => (rGo tail r).map (n :: ·)
def rPieces (tail : Bool) (s : List UInt8) : Option (List Nat) := if s = [] then some [] else rGo tail (cuts 58 s)
def gap2 : List UInt8 → Option (List UInt8 × List UInt8)
 | [] => none
 | c :: t => if c = 58 ∧ t.head? = some 58 then some ([], t.drop 1) else (gap2 t).map fun p => (c :: p.1, p.2)
def noughts (n : Nat) : List Nat := List.replicate n 0
def rParse6 (s : List UInt8) : Option (List Nat) := match gap2 s with
 | some (x, y) => match rPieces false x, rPieces true y with
  | some l, some m => if l.length + m.length ≤ 7 then some (l ++ noughts (8 - l.length - m.length) ++ m) else none
  | _, _ => none
 | none => match rPieces true s with
  | some l => if l.length = 8 then some l else none
  | none => none
def dotted (s : List UInt8) : Bool := decide ((46 : UInt8) ∈ s ∧ (58 : UInt8) ∉ s)
def sGo : Nat → List UInt8 → List Nat → Option Nat → Option (List Nat × Option Nat)
 | 0, _, _, _ => none
 | f + 1, s, l, g =>
  if 8 < l.length then none
  else if dotted s = true then (sFour s).map fun m => (l ++ m, g)
  else if okPiece (s.takeWhile hexOk) = true then
   match s.dropWhile hexOk with
   | [] => some (l ++ [hexN (s.takeWhile hexOk)], g)
   | c :: t => if c = 58 then
     (match t with
     | [] => none
     | d :: u => if d = 58 then
       (if g.isSome = true then none else if u = [] then some (l ++ [hexN (s.takeWhile hexOk)], some (l.length + 1)) else sGo f u (l ++ [hexN (s.takeWhile hexOk)]) (some (l.length + 1)))
      else sGo f (d :: u) (l ++ [hexN (s.takeWhile hexOk)]) g)
    else none
  else none
def sEnd : List Nat × Option Nat → Option (List Nat)
 | (l, none) => if l.length = 8 then some l else none
 | (l, some g) => if l.length ≤ 7 then some (l.take g ++ noughts (8 - l.length) ++ l.drop g) else none
def sAll (s : List UInt8) : Option (List Nat × Option Nat) := match s with
 | 58 :: 58 :: t => if t = [] then some ([], some 0) else sGo (s.length + 1) t [] (some 0)
 | [] => some ([], none)
 | _ => sGo (s.length + 1) s [] none
def pParse6 (s : List UInt8) : Option (List Nat) := (sAll s).bind sEnd
theorem sEnd_long {l : List Nat} {g : Option Nat} (h : 8 < l.length) : sEnd (l, g) = none := by
 cases g with
 | none => show (if _ then _ else _) = none; rw [if_neg (by omega)]
 | some g => show (if _ then _ else _) = none; rw [if_neg (by omega)]
theorem dotted_iff {s : List UInt8} (h : (58 : UInt8) ∉ s) : dotted s = decide ((46 : UInt8) ∈ s) := by unfold dotted; simp [h]
theorem dotted_no {s : List UInt8} (h : (58 : UInt8) ∈ s) : dotted s = false := by unfold dotted; simp [h]
theorem hex_dot : hexOk 46 = false := by decide
theorem rGo_no {tail : Bool} {p : List UInt8} {r : List (List UInt8)} (h : ¬ (tail = true ∧ r = [] ∧ (46 : UInt8) ∈ p)) : rGo tail (p :: r) = match rPiece p with | none => none | some n => (rGo tail r).map (n :: ·) := by
 rw [rGo, if_neg h]
theorem rGo_tail {p : List UInt8} (h : (46 : UInt8) ∈ p) : rGo true [p] = rFour p := by rw [rGo, if_pos ⟨rfl, rfl, h⟩]
theorem rPiece_no {p : List UInt8} (h : p.all hexOk = false) : rPiece p = none := by unfold rPiece; rw [if_neg (by rw [h]; simp)]
theorem go_rest (F : List Nat × Option Nat → Option (List Nat)) (hF : ∀ l g, 8 < l.length → F (l, g) = none) (g : Option Nat) : ∀ (f : Nat) (s : List UInt8) (l : List Nat), s.length < f → (g.isSome = true ∨ gap2 s = none) → s ≠ [] →
  (sGo f s l g).bind F = (rGo true (cuts 58 s)).bind fun m => F (l ++ m, g) := by
 intro f
 induction f with
 | zero => intro s l h; omega
 | succ f ih =>
  intro s l hf hg hs
  rw [sGo]
  by_cases hl : 8 < l.length
  ·
   rw [if_pos hl]
   cases rGo true (cuts 58 s) with
   | none => rfl
   | some m => exact (hF _ _ (by rw [List.length_append]; omega)).symm
  ·
   rw [if_neg hl]
   rcases cuts_cases 58 s with ⟨hno, e⟩ | ⟨a, t, e, ha, ec⟩
   ·
    rw [e, dotted_iff hno]
    by_cases hd : (46 : UInt8) ∈ s
    ·
     rw [if_pos (by simpa using hd), rGo_tail hd, four_eq]
     cases rFour s <;> rfl
    ·
     rw [if_neg (by simpa using hd), rGo_no (fun h => hd h.2.2)]
     by_cases h : s.all hexOk = true
     ·
      obtain ⟨h1, h2⟩ := span_all h
      rw [h1, h2]
      unfold rPiece
      by_cases hk : okPiece s = true
      · rw [if_pos hk, if_pos ⟨hk, h⟩]; rfl
      · rw [if_neg hk, if_neg (fun e => hk e.1)]; rfl
     ·
      have h' : s.all hexOk = false := by simpa using h
      obtain ⟨x, c, y, e2, h1, h2⟩ := not_all h'
      have hc : c ≠ 58 := fun e3 => hno (by rw [e2, e3]; simp)
      obtain ⟨h3, h4⟩ := span_stop (t := y) h1 h2
      rw [rPiece_no h', e2, h3, h4]
      simp only [if_neg hc]
      split <;> rfl
   ·
    have hin : (58 : UInt8) ∈ s := by rw [e]; simp
    rw [ec, dotted_no hin, if_neg (by decide), rGo_no (fun h => cuts_ne _ _ h.2.1)]
    by_cases h : a.all hexOk = true
    ·
     obtain ⟨h3, h4⟩ := span_stop (t := t) h hexOk_colon
     rw [e, h3, h4]
     unfold rPiece
     by_cases hk : okPiece a = true
     ·
      rw [if_pos hk, if_pos ⟨hk, h⟩]
      simp only [if_pos]
      cases t with
      | nil =>
       show (none : Option _) = ((rGo true (cuts 58 [])).map (hexN a :: ·)).bind _
       have : rGo true (cuts 58 []) = none := by decide
       rw [this]; rfl
      | cons d u =>
       by_cases h58 : d = 58
       ·
        subst h58
        have hgs : g.isSome = true := by
         rcases hg with hg | hg
         · exact hg
         ·
          exfalso
          have : ∀ (a : List UInt8), gap2 (a ++ 58 :: 58 :: u) ≠ none := by
           intro a
           induction a with
           | nil => rw [List.nil_append, gap2, if_pos ⟨rfl, rfl⟩]; simp
           | cons x a ih =>
            rw [List.cons_append, gap2]
            split
            · simp
            · intro h; exact ih (by simpa using h)
          exact this a (by rw [← e]; exact hg)
        simp only [if_pos, hgs]
        have : rGo true (cuts 58 (58 :: u)) = none := by
         rw [cuts_hit, rGo_no (fun h => cuts_ne _ _ h.2.1)]; rfl
        rw [this]; rfl
       ·
        simp only [if_neg h58]
        have hgu : g.isSome = true ∨ gap2 (d :: u) = none := by
         rcases hg with hg | hg
         · exact .inl hg
         ·
          refine .inr ?_
          have : ∀ (a : List UInt8), gap2 (a ++ 58 :: d :: u) = none → gap2 (d :: u) = none := by
           intro a
           induction a with
           | nil =>
            intro h
            rw [List.nil_append, gap2, if_neg (fun e => h58 (by simpa using e.2))] at h
            simpa using h
           | cons x a ih =>
            intro h
            rw [List.cons_append, gap2] at h
            split at h
            · cases h
            · exact ih (by simpa using h)
          exact this a (by rw [← e]; exact hg)
        have hlen : (d :: u).length < f := by
         have := congrArg List.length e
         rw [List.length_append, List.length_cons] at this
         omega
        rw [ih (d :: u) _ hlen hgu (by simp)]
        cases rGo true (cuts 58 (d :: u)) with
        | none => rfl
        | some m => show F (l ++ [hexN a] ++ m, g) = F (l ++ hexN a :: m, g); rw [List.append_assoc]; rfl
     · rw [if_neg hk, if_neg (fun e => hk e.1)]; rfl
    ·
     have h' : a.all hexOk = false := by simpa using h
     obtain ⟨x, c, y, e2, h1, h2⟩ := not_all h'
     have hc : c ≠ 58 := fun e3 => ha (by rw [e2, e3]; simp)
     obtain ⟨h3, h4⟩ := span_stop (t := y ++ 58 :: t) h1 h2
     rw [rPiece_no h', e, e2, List.append_assoc, List.cons_append, h3, h4]
     simp only [if_neg hc]
     split <;> rfl
theorem gap2_split : ∀ {s x y : List UInt8}, gap2 s = some (x, y) → s = x ++ 58 :: 58 :: y ∧ gap2 (x ++ [58]) = none := by
 intro s
 induction s with
 | nil => intro x y h; cases h
 | cons c t ih =>
  intro x y h
  rw [gap2] at h
  split at h
  ·
   next hc =>
   injection h with h
   injection h with h1 h2
   subst h1
   obtain ⟨rfl, hh⟩ := hc
   cases t with
   | nil => cases hh
   | cons d u =>
    injection hh with hh
    subst hh
    subst h2
    exact ⟨rfl, by decide⟩
  ·
   next hc =>
   cases hg : gap2 t with
   | none => rw [hg] at h; cases h
   | some p =>
    rw [hg] at h
    injection h with h
    injection h with h1 h2
    obtain ⟨x', y'⟩ := p
    subst h1; subst h2
    obtain ⟨e1, e2⟩ := ih hg
    refine ⟨by rw [e1]; rfl, ?_⟩
    rw [List.cons_append, gap2, e2, if_neg]
    · rfl
    ·
     rintro ⟨rfl, hh⟩
     refine hc ⟨rfl, ?_⟩
     rw [e1]
     cases x' with
     | nil => rfl
     | cons a x' => exact hh
theorem go_ahead (y : List UInt8) : ∀ (f : Nat) (x : List UInt8) (l : List Nat), x.length + y.length + 2 < f → gap2 (x ++ [58]) = none → x ≠ [] →
  (sGo f (x ++ 58 :: 58 :: y) l none).bind sEnd = (rGo false (cuts 58 x)).bind fun m => if y = [] then sEnd (l ++ m, some (l ++ m).length) else (rGo true (cuts 58 y)).bind fun k => sEnd (l ++ m ++ k, some (l ++ m).length) := by
 have tooLong : ∀ (l m : List Nat), 8 < l.length → (if y = [] then sEnd (l ++ m, some (l ++ m).length) else (rGo true (cuts 58 y)).bind fun k => sEnd (l ++ m ++ k, some (l ++ m).length)) = none := by
  intro l m h
  split
  · exact sEnd_long (by rw [List.length_append]; omega)
  ·
   cases rGo true (cuts 58 y) with
   | none => rfl
   | some k => show sEnd (l ++ m ++ k, some (l ++ m).length) = none; exact sEnd_long (by rw [List.length_append, List.length_append]; omega)
 intro f
 induction f with
 | zero => intro x l h; omega
 | succ f ih =>
  intro x l hf hg hx
  rw [sGo]
  by_cases hl : 8 < l.length
  ·
   rw [if_pos hl]
   cases rGo false (cuts 58 x) with
   | none => rfl
   | some m => exact (tooLong l m hl).symm
  ·
   rw [if_neg hl, dotted_no (by simp), if_neg (by decide)]
   rcases cuts_cases 58 x with ⟨hno, e⟩ | ⟨a, t, e, ha, ec⟩
   ·
    rw [e, rGo_no (fun h => by cases h.1)]
    by_cases h : x.all hexOk = true
    ·
     obtain ⟨h3, h4⟩ := span_stop (t := 58 :: y) h hexOk_colon
     rw [h3, h4]
     unfold rPiece
     by_cases hk : okPiece x = true
     ·
      rw [if_pos hk, if_pos ⟨hk, h⟩]
      simp only [if_pos, Option.isSome_none, Bool.false_eq_true, if_false]
      have hm : (rGo false []).map (hexN x :: ·) = some [hexN x] := rfl
      rw [hm, Option.bind_some]
      have hll : (l ++ [hexN x]).length = l.length + 1 := by simp
      by_cases hy : y = []
      · rw [if_pos hy, if_pos hy, hll]; rfl
      ·
       rw [if_neg hy, if_neg hy, ← hll]
       exact go_rest sEnd (fun l g h => sEnd_long h) (some _) f y _ (by omega) (.inl rfl) hy
     · rw [if_neg hk, if_neg (fun e => hk e.1)]; rfl
    ·
     have h' : x.all hexOk = false := by simpa using h
     obtain ⟨p, c, q, e2, h1, h2⟩ := not_all h'
     have hc : c ≠ 58 := fun e3 => hno (by rw [e2, e3]; simp)
     obtain ⟨h3, h4⟩ := span_stop (t := q ++ 58 :: 58 :: y) h1 h2
     rw [rPiece_no h', e2, List.append_assoc, List.cons_append, h3, h4]
     simp only [if_neg hc]
     split <;> rfl
   ·
    rw [ec, rGo_no (fun h => by cases h.1)]
    by_cases h : a.all hexOk = true
    ·
     obtain ⟨h3, h4⟩ := span_stop (t := t ++ 58 :: 58 :: y) h hexOk_colon
     rw [e, List.append_assoc, List.cons_append, h3, h4]
     unfold rPiece
     have ht : t ≠ [] ∧ t.head? ≠ some 58 ∧ gap2 (t ++ [58]) = none := by
      rw [e, List.append_assoc, List.cons_append] at hg
      have : ∀ (a : List UInt8), gap2 (a ++ 58 :: (t ++ [58])) = none → t ≠ [] ∧ t.head? ≠ some 58 ∧ gap2 (t ++ [58]) = none := by
       intro a
       induction a with
       | nil =>
        intro hh
        rw [List.nil_append, gap2] at hh
        split at hh
        · cases hh
        ·
         next hn =>
         refine ⟨?_, ?_, by simpa using hh⟩
         · rintro rfl; exact hn ⟨rfl, rfl⟩
         ·
          intro h5
          cases t with
          | nil => cases h5
          | cons d u => exact hn ⟨rfl, h5⟩
       | cons z a ih2 =>
        intro hh
        rw [List.cons_append, gap2] at hh
        split at hh
        · cases hh
        · exact ih2 (by simpa using hh)
      exact this a hg
     by_cases hk : okPiece a = true
     ·
      rw [if_pos hk, if_pos ⟨hk, h⟩]
      simp only [if_pos]
      cases t with
      | nil => exact absurd rfl ht.1
      | cons d u =>
       have h58 : d ≠ 58 := fun e3 => ht.2.1 (by rw [e3]; rfl)
       rw [List.cons_append]
       simp only [if_neg h58]
       have hlen : (d :: u).length + y.length + 2 < f := by
        have := congrArg List.length e
        rw [List.length_append, List.length_cons] at this
        omega
       have h6 := ih (d :: u) (l ++ [hexN a]) hlen ht.2.2 (by simp)
       rw [List.cons_append] at h6
       rw [h6]
       cases rGo false (cuts 58 (d :: u)) with
       | none => rfl
       | some m =>
        show (if y = [] then sEnd (l ++ [hexN a] ++ m, some (l ++ [hexN a] ++ m).length) else _) = (if y = [] then sEnd (l ++ hexN a :: m, some (l ++ hexN a :: m).length) else _)
        rw [show l ++ [hexN a] ++ m = l ++ hexN a :: m by simp]
     · rw [if_neg hk, if_neg (fun e => hk e.1)]; rfl
    ·
     have h' : a.all hexOk = false := by simpa using h
     obtain ⟨p, c, q, e2, h1, h2⟩ := not_all h'
     have hc : c ≠ 58 := fun e3 => ha (by rw [e2, e3]; simp)
     obtain ⟨h3, h4⟩ := span_stop (t := (q ++ 58 :: t) ++ 58 :: 58 :: y) h1 h2
     rw [rPiece_no h', e, e2]
     rw [show (p ++ c :: q ++ 58 :: t) ++ 58 :: 58 :: y = p ++ c :: ((q ++ 58 :: t) ++ 58 :: 58 :: y) by simp, h3, h4]
     simp only [if_neg hc]
     split <;> rfl
theorem sEnd_gap (l k : List Nat) : sEnd (l ++ k, some l.length) = if l.length + k.length ≤ 7 then some (l ++ noughts (8 - l.length - k.length) ++ k) else none := by
 show (if (l ++ k).length ≤ 7 then some ((l ++ k).take l.length ++ noughts (8 - (l ++ k).length) ++ (l ++ k).drop l.length) else none) = _
 rw [List.length_append, List.take_left, List.drop_left, Nat.sub_sub]
theorem sAll_one {s : List UInt8} (hs : s ≠ []) (h : ∀ t, s ≠ 58 :: 58 :: t) : sAll s = sGo (s.length + 1) s [] none := by
 unfold sAll
 split
 · next t => exact absurd rfl (h t)
 · exact absurd rfl hs
 · rfl
theorem parse6_eq (s : List UInt8) : pParse6 s = rParse6 s := by
 unfold pParse6 rParse6
 cases hg : gap2 s with
 | none =>
  show _ = match rPieces true s with | some l => if l.length = 8 then some l else none | none => none
  unfold rPieces
  by_cases hs : s = []
  · subst hs; decide
  ·
   rw [if_neg hs, sAll_one hs (fun t e => by rw [e, gap2, if_pos ⟨rfl, rfl⟩] at hg; cases hg), go_rest sEnd (fun l g h => sEnd_long h) none _ s [] (by omega) (.inr hg) hs]
   cases rGo true (cuts 58 s) with
   | none => rfl
   | some m => rfl
 | some p =>
  obtain ⟨x, y⟩ := p
  obtain ⟨e, hx⟩ := gap2_split hg
  show _ = match rPieces false x, rPieces true y with | some l, some m => (if l.length + m.length ≤ 7 then some (l ++ noughts (8 - l.length - m.length) ++ m) else none) | _, _ => none
  unfold rPieces
  by_cases hx0 : x = []
  ·
   subst hx0
   rw [if_pos rfl]
   rw [List.nil_append] at e
   have e1 : sAll s = if y = [] then some ([], some 0) else sGo (s.length + 1) y [] (some 0) := by rw [e]; rfl
   rw [e1]
   by_cases hy : y = []
   · rw [if_pos hy, if_pos hy]; exact sEnd_gap [] []
   ·
    rw [if_neg hy, if_neg hy, go_rest sEnd (fun l g h => sEnd_long h) (some 0) _ y [] (by rw [e]; simp; omega) (.inl rfl) hy]
    cases rGo true (cuts 58 y) with
    | none => rfl
    | some m => exact sEnd_gap [] m
  ·
   rw [if_neg hx0]
   have hne : ∀ t, s ≠ 58 :: 58 :: t := by
    intro t e2
    rw [e] at e2
    cases x with
    | nil => exact hx0 rfl
    | cons a x =>
     injection e2 with e3 e4
     subst e3
     cases x with
     | nil => revert hx; decide
     | cons b x =>
      injection e4 with e5 e6
      subst e5
      rw [List.cons_append, gap2, if_pos ⟨rfl, rfl⟩] at hx
      cases hx
   have hs : s ≠ [] := by rw [e]; simp
   rw [sAll_one hs hne]
   have h1 := go_ahead y (s.length + 1) x [] (by rw [e]; simp; omega) hx hx0
   rw [← e] at h1
   rw [h1]
   cases rGo false (cuts 58 x) with
   | none => rfl
   | some l =>
    simp only [Option.bind_some, List.nil_append]
    by_cases hy : y = []
    ·
     rw [if_pos hy, if_pos hy]
     have := sEnd_gap l []
     rw [List.append_nil] at this
     exact this
    ·
     rw [if_neg hy, if_neg hy]
     cases rGo true (cuts 58 y) with
     | none => rfl
     | some m => exact sEnd_gap l m
end Go.Proofs.YtoapelcofjjdnaaGreatDoor
namespace Go.Proofs.YtoapelcofjjdnaaGreatDoor
set_option linter.all false
open Go.RowKit
def Spell (D : Nat → List UInt8) : Prop := ∀ x, x < 65536 → okPiece (D x) = true ∧ (D x).all hexOk = true ∧ hexN (D x) = x
def hexs (D : Nat → List UInt8) (l : List Nat) : List UInt8 := Lib.join (l.map D) [58]
theorem hexs_nil (D : Nat → List UInt8) : hexs D [] = [] := rfl
theorem hexs_one (D : Nat → List UInt8) (x : Nat) : hexs D [x] = D x := Lib.join_one _ _
theorem hexs_more (D : Nat → List UInt8) (x y : Nat) (r : List Nat) : hexs D (x :: y :: r) = D x ++ 58 :: hexs D (y :: r) := by
 unfold hexs; simp [Lib.join, List.intercalate]
theorem hexs_snoc (D : Nat → List UInt8) (x : Nat) : ∀ (l : List Nat), l ≠ [] → hexs D (l ++ [x]) = hexs D l ++ 58 :: D x := by
 intro l
 induction l with
 | nil => intro h; exact absurd rfl h
 | cons y r ih =>
  intro _
  cases r with
  | nil => rw [List.singleton_append, hexs_more, hexs_one, hexs_one]
  | cons z r => rw [List.cons_append, List.cons_append, hexs_more, ← List.cons_append, ih (by simp), hexs_more, List.append_assoc]; rfl
section
variable {D : Nat → List UInt8} (hD : Spell D)
include hD
theorem spell_ne {x : Nat} (h : x < 65536) : D x ≠ [] := fun e => by
 have := (hD x h).1
 rw [e] at this; cases this
theorem spell_dot {x : Nat} (h : x < 65536) : (46 : UInt8) ∉ D x := all_no (hD x h).2.1 hex_dot
theorem spell_colon {x : Nat} (h : x < 65536) : (58 : UInt8) ∉ D x := all_no (hD x h).2.1 hexOk_colon
theorem rPiece_spell {x : Nat} (h : x < 65536) : rPiece (D x) = some x := by
 obtain ⟨h1, h2, h3⟩ := hD x h
 unfold rPiece; rw [if_pos ⟨h1, h2⟩, h3]
theorem rGo_spell (tail : Bool) (q : List (List UInt8)) : ∀ (l : List Nat), (∀ x ∈ l, x < 65536) → rGo tail (l.map D ++ q) = (rGo tail q).map (l ++ ·) := by
 intro l
 induction l with
 | nil => intro _; show rGo tail q = _; cases rGo tail q <;> rfl
 | cons x l ih =>
  intro h
  have hx := h x (by simp)
  rw [List.map_cons, List.cons_append, rGo, if_neg (fun e => spell_dot hD hx e.2.2), rPiece_spell hD hx, ih (fun y hy => h y (by simp [hy]))]
  cases rGo tail q <;> rfl
theorem hexs_ne {l : List Nat} (hl : l ≠ []) (h : ∀ x ∈ l, x < 65536) : hexs D l ≠ [] := by
 cases l with
 | nil => exact absurd rfl hl
 | cons x r =>
  unfold hexs
  rw [List.map_cons, Lib.join_cons]
  intro e
  exact spell_ne hD (h x (by simp)) (List.append_eq_nil_iff.1 e).1
theorem hexs_head {l : List Nat} (hl : l ≠ []) (h : ∀ x ∈ l, x < 65536) (t : List UInt8) : (hexs D l ++ t).head? ≠ some 58 := by
 cases l with
 | nil => exact absurd rfl hl
 | cons x r =>
  have hx := h x (by simp)
  unfold hexs
  rw [List.map_cons, Lib.join_cons]
  have h1 := spell_ne hD hx
  have h2 := spell_colon hD hx
  cases e : D x with
  | nil => exact absurd e h1
  | cons a u =>
   rw [e] at h2
   intro e2
   injection e2 with e2
   exact h2 (by rw [e2]; simp)
theorem hexs_cuts {l : List Nat} (hl : l ≠ []) (h : ∀ x ∈ l, x < 65536) : cuts 58 (hexs D l) = l.map D := by
 refine cuts_join (by simpa using hl) fun p hp => ?_
 obtain ⟨x, hx, rfl⟩ := List.mem_map.1 hp
 exact spell_colon hD (h x hx)
theorem rPieces_spell (tail : Bool) {l : List Nat} (h : ∀ x ∈ l, x < 65536) : rPieces tail (hexs D l) = some l := by
 unfold rPieces
 by_cases hl : l = []
 · subst hl; rfl
 ·
  rw [if_neg (hexs_ne hD hl h), hexs_cuts hD hl h]
  have := rGo_spell hD tail [] l h
  rw [List.append_nil] at this
  rw [this]
  show some (l ++ []) = some l
  rw [List.append_nil]
end
theorem gap2_free {p : List UInt8} (h : (58 : UInt8) ∉ p) (t : List UInt8) : gap2 (p ++ t) = (gap2 t).map fun q => (p ++ q.1, q.2) := by
 induction p with
 | nil => rw [List.nil_append]; cases gap2 t <;> rfl
 | cons c p ih =>
  have hc : c ≠ 58 := fun e => h (by rw [e]; simp)
  rw [List.cons_append, gap2, if_neg (fun e => hc e.1), ih (fun e => h (by simp [e]))]
  cases gap2 t <;> rfl
theorem gap2_colon {t : List UInt8} (h : t.head? ≠ some 58) : gap2 (58 :: t) = (gap2 t).map fun q => (58 :: q.1, q.2) := by
 rw [gap2, if_neg (fun e => h e.2)]
theorem gap2_hexs {D : Nat → List UInt8} (hD : Spell D) (t : List UInt8) : ∀ (l : List Nat), (∀ x ∈ l, x < 65536) → gap2 (hexs D l ++ t) = (gap2 t).map fun q => (hexs D l ++ q.1, q.2) := by
 intro l
 induction l with
 | nil => intro _; rw [hexs_nil, List.nil_append]; cases gap2 t <;> rfl
 | cons x l ih =>
  intro h
  have hx := spell_colon hD (h x (by simp))
  have hl : ∀ y ∈ l, y < 65536 := fun y hy => h y (by simp [hy])
  cases l with
  | nil => rw [hexs_one]; exact gap2_free hx t
  | cons y r =>
   rw [hexs_more, List.append_assoc, List.cons_append, gap2_free hx, gap2_colon (hexs_head hD (by simp) hl t), ih hl]
   cases gap2 t with
   | none => rfl
   | some q => simp
theorem gap2_at (u : List UInt8) : gap2 (58 :: 58 :: u) = some ([], u) := by rw [gap2, if_pos ⟨rfl, rfl⟩]; rfl
theorem parse_full {D : Nat → List UInt8} (hD : Spell D) {l : List Nat} (h : ∀ x ∈ l, x < 65536) (h8 : l.length = 8) : rParse6 (hexs D l) = some l := by
 have hg := gap2_hexs hD [] l h
 rw [List.append_nil] at hg
 have hg' : gap2 (hexs D l) = none := hg
 unfold rParse6
 rw [hg']
 show (match rPieces true (hexs D l) with | some l => if l.length = 8 then some l else none | none => none) = _
 rw [rPieces_spell hD true h]
 exact if_pos h8
theorem parse_gap {D : Nat → List UInt8} (hD : Spell D) {x y : List Nat} (hx : ∀ a ∈ x, a < 65536) (hy : ∀ a ∈ y, a < 65536) (h7 : x.length + y.length ≤ 7) :
  rParse6 (hexs D x ++ 58 :: 58 :: hexs D y) = some (x ++ noughts (8 - x.length - y.length) ++ y) := by
 have hg := gap2_hexs hD (58 :: 58 :: hexs D y) x hx
 rw [gap2_at] at hg
 have hg' : gap2 (hexs D x ++ 58 :: 58 :: hexs D y) = some (hexs D x, hexs D y) := by rw [hg]; simp
 unfold rParse6
 rw [hg']
 show (match rPieces false (hexs D x), rPieces true (hexs D y) with | some l, some m => (if l.length + m.length ≤ 7 then some (l ++ noughts (8 - l.length - m.length) ++ m) else none) | _, _ => none) = _
 rw [rPieces_spell hD false hx, rPieces_spell hD true hy]
 exact if_pos h7
def zrun : List Nat → Nat
 | 0 :: t => zrun t + 1
 | _ => 0
theorem zrun_take : ∀ (l : List Nat), l.take (zrun l) = noughts (zrun l) := by
 intro l
 induction l with
 | nil => rfl
 | cons x l ih =>
  cases x with
  | zero => show (0 :: l).take (zrun l + 1) = List.replicate (zrun l + 1) 0; rw [List.take_succ_cons, ih, List.replicate_succ]; rfl
  | succ n => rfl
theorem zrun_le (l : List Nat) : zrun l ≤ l.length := by
 have := congrArg List.length (zrun_take l)
 rw [List.length_take, noughts, List.length_replicate] at this
 omega
theorem zrun_hit {a : List Nat} {k : Nat} (h : a[k]? = some 0) : zrun (a.drop k) = zrun (a.drop (k + 1)) + 1 := by
 obtain ⟨hk, e⟩ := List.getElem?_eq_some_iff.1 h
 rw [List.drop_eq_getElem_cons hk, e]; rfl
theorem zrun_miss {a : List Nat} {k x : Nat} (h : a[k]? = some x) (hx : x ≠ 0) : zrun (a.drop k) = 0 := by
 obtain ⟨hk, e⟩ := List.getElem?_eq_some_iff.1 h
 rw [List.drop_eq_getElem_cons hk, e]
 cases x with
 | zero => exact absurd rfl hx
 | succ n => rfl
theorem zrun_end {a : List Nat} {k : Nat} (h : a.length ≤ k) : zrun (a.drop k) = 0 := by rw [List.drop_eq_nil_of_le h]; rfl
def rowI (a : List Nat) : Nat → Nat × Nat
 | 0 => (0, 0)
 | i + 1 => if (rowI a i).2 < zrun (a.drop i) then (i, zrun (a.drop i)) else rowI a i
theorem rowI_ok (a : List Nat) : ∀ i, (a.drop (rowI a i).1).take (rowI a i).2 = noughts (rowI a i).2 ∧ (rowI a i).1 ≤ i := by
 intro i
 induction i with
 | zero => exact ⟨rfl, Nat.le_refl _⟩
 | succ i ih =>
  rw [rowI]
  split
  · exact ⟨zrun_take _, by simp⟩
  · exact ⟨ih.1, by omega⟩
theorem rowI_parts (a : List Nat) (i : Nat) (h2 : 2 ≤ (rowI a i).2) : a = a.take (rowI a i).1 ++ noughts (rowI a i).2 ++ a.drop ((rowI a i).1 + (rowI a i).2) ∧ (rowI a i).1 + (rowI a i).2 ≤ a.length := by
 obtain ⟨h, _⟩ := rowI_ok a i
 generalize (rowI a i).1 = f at *
 generalize (rowI a i).2 = n at *
 have hl := congrArg List.length h
 rw [List.length_take, List.length_drop, noughts, List.length_replicate] at hl
 refine ⟨?_, by omega⟩
 rw [← h, List.append_assoc, ← List.drop_drop, List.take_append_drop, List.take_append_drop]
def pShowD (D : Nat → List UInt8) (a : List Nat) : List UInt8 :=
 if (rowI a 8).2 < 2 then hexs D a else hexs D (a.take (rowI a 8).1) ++ 58 :: 58 :: hexs D (a.drop ((rowI a 8).1 + (rowI a 8).2))
def pShow6 (a : List Nat) : List UInt8 := pShowD (digs 16) a
theorem show6_back {D : Nat → List UInt8} (hD : Spell D) {a : List Nat} (h : ∀ x ∈ a, x < 65536) (h8 : a.length = 8) : rParse6 (pShowD D a) = some a := by
 unfold pShowD
 by_cases h2 : (rowI a 8).2 < 2
 · rw [if_pos h2]; exact parse_full hD h h8
 ·
  rw [if_neg h2]
  obtain ⟨e, hl⟩ := rowI_parts a 8 (by omega)
  generalize (rowI a 8).1 = f at *
  generalize (rowI a 8).2 = n at *
  have l1 : (a.take f).length = f := by rw [List.length_take]; omega
  have l2 : (a.drop (f + n)).length = 8 - (f + n) := by rw [List.length_drop, h8]
  rw [parse_gap hD (fun x hx => h x (List.mem_of_mem_take hx)) (fun x hx => h x (List.mem_of_mem_drop hx)) (by omega), l1, l2, show 8 - f - (8 - (f + n)) = n by omega, ← e]
def rAt (s : Nat × Nat) : Int := if 2 ≤ s.2 then (s.1 : Int) else -1
def rLong (s : Nat × Nat) : Nat := max s.2 1
theorem rAt_hit {a : List Nat} {i : Nat} (h : rLong (rowI a i) < zrun (a.drop i)) : rAt (rowI a (i + 1)) = (i : Int) ∧ rLong (rowI a (i + 1)) = zrun (a.drop i) := by
 unfold rLong at h
 rw [rowI, if_pos (by omega)]
 unfold rAt rLong
 simp only []
 exact ⟨if_pos (by omega), by omega⟩
theorem rAt_miss {a : List Nat} {i : Nat} (h : ¬ rLong (rowI a i) < zrun (a.drop i)) : rAt (rowI a (i + 1)) = rAt (rowI a i) ∧ rLong (rowI a (i + 1)) = rLong (rowI a i) := by
 unfold rLong at h
 rw [rowI]
 split
 ·
  unfold rAt rLong
  simp only []
  exact ⟨by rw [if_neg (by omega), if_neg (by omega)], by omega⟩
 · exact ⟨rfl, rfl⟩
theorem hexN_snoc (l : List UInt8) (c : UInt8) : hexN (l ++ [c]) = hexN l * 16 + (hexV c).toNat := by unfold hexN; rw [List.foldl_append]; rfl
theorem hexN_digs (u : Nat) : hexN (digs 16 u) = u := by
 induction u using Nat.strongRecOn with
 | _ u ih =>
  by_cases h : u < 16
  ·
   rw [digs_small h]
   show 0 * 16 + (hexV (dch u)).toNat = u
   rw [hexV_dch u h]; omega
  · rw [digs_big (by decide) (by omega), hexN_snoc, ih _ (by omega), hexV_dch _ (by omega)]; omega
theorem hexOk_dch {n : Nat} (h : n < 16) : hexOk (dch n) = true := by unfold hexOk; rw [hexV_dch n h]; exact decide_eq_true (by omega)
theorem digs_hexOk (u : Nat) : (digs 16 u).all hexOk = true := List.all_eq_true.2 fun x hx => by
 obtain ⟨m, hm, rfl⟩ := digs_mem (by decide) u hx
 exact hexOk_dch hm
theorem spell_digs : Spell (digs 16) := by
 intro x hx
 refine ⟨decide_eq_true ⟨List.length_pos_iff.2 (digs_ne (by decide) x), ?_⟩, digs_hexOk x, hexN_digs x⟩
 have := digs_len (b := 16) (by decide) 4 x (by omega)
 omega
theorem decOk_dch : ∀ n, n < 10 → decOk (dch n) = true := by decide
theorem dec_dch : ∀ n, n < 10 → (dch n).toNat - 48 = n := by decide
theorem decN_snoc (l : List UInt8) (c : UInt8) : decN (l ++ [c]) = decN l * 10 + (c.toNat - 48) := by unfold decN; rw [List.foldl_append]; rfl
theorem decN_digs (u : Nat) : decN (digs 10 u) = u := by
 induction u using Nat.strongRecOn with
 | _ u ih =>
  by_cases h : u < 10
  ·
   rw [digs_small h]
   show 0 * 10 + ((dch u).toNat - 48) = u
   rw [dec_dch u h]; omega
  · rw [digs_big (by decide) (by omega), decN_snoc, ih _ (by omega), dec_dch _ (by omega)]; omega
theorem digs_decOk (u : Nat) : (digs 10 u).all decOk = true := List.all_eq_true.2 fun x hx => by
 obtain ⟨m, hm, rfl⟩ := digs_mem (by decide) u hx
 exact decOk_dch m hm
theorem rByte_digs {u : Nat} (h : u < 256) : rByte (digs 10 u) = some u := by
 have hk : okByte (digs 10 u) = true := by
  refine decide_eq_true ⟨digs_ne (by decide) u, by rw [decN_digs]; exact h, ?_⟩
  obtain ⟨d, t, e, h1, h2, h3, _⟩ := digs_head (b := 10) (by decide) u
  by_cases hd : dch d = 48
  ·
   have hu := h2 ((dch_plain d (by omega)).2.2.2.1 hd)
   subst hu
   exact .inl (by rw [digs_small (by decide)]; rfl)
  ·
   refine .inr ?_
   rw [e]
   intro e2
   injection e2 with e2
   exact hd e2
 unfold rByte
 rw [if_pos ⟨digs_decOk u, hk⟩, decN_digs]
theorem rFour_show {a : Nat} (h : a < 2 ^ 32) : rFour (pShow4 a) = some [a / 65536, a % 65536] := by
 unfold rFour
 have hc : cuts 46 (pShow4 a) = fours a := by
  rw [show4_fours]
  exact cuts_join (fours_ne a) fun p hp => (fours_ok a p hp).1
 rw [hc, if_pos (show (fours a).length = 4 from rfl)]
 unfold fours
 rw [rBytes, rByte_digs (by omega), rBytes, rByte_digs (by omega), rBytes, rByte_digs (by omega), rBytes, rByte_digs (by omega), rBytes]
 show some [_, _] = some [_, _]
 congr 1
 rw [List.cons.injEq, List.cons.injEq]
 exact ⟨by omega, by omega, rfl⟩
theorem digs_hexOk10 (u : Nat) : (digs 10 u).all hexOk = true := List.all_eq_true.2 fun x hx => by
 obtain ⟨m, hm, rfl⟩ := digs_mem (by decide) u hx
 exact hexOk_dch (by omega)
theorem show4_colon (a : Nat) : (58 : UInt8) ∉ pShow4 a := by
 rw [show4_fours]
 unfold fours
 intro h
 rw [Lib.join_cons] at h
 have hd : ∀ u, (58 : UInt8) ∉ digs 10 u := fun u => all_no (digs_hexOk10 u) hexOk_colon
 simp [Lib.joinTail, hd] at h
theorem show4_dot (a : Nat) : (46 : UInt8) ∈ pShow4 a := by
 rw [show4_fours]
 unfold fours
 rw [Lib.join_cons]
 simp [Lib.joinTail]
end Go.Proofs.YtoapelcofjjdnaaGreatDoor
namespace Go.Proofs.YtoapelcofjjdnaaGreatDoor
set_option linter.all false
theorem hexN_go : ∀ (l : List UInt8) (n : Nat), l.foldl (fun n c => n * 16 + (hexV c).toNat) n < (n + 1) * 16 ^ l.length := by
 intro l
 induction l with
 | nil => intro n; simp
 | cons c l ih =>
  intro n
  have h1 := ih (n * 16 + (hexV c).toNat)
  have h2 := hexV_range c
  have h3 : n * 16 + (hexV c).toNat + 1 ≤ (n + 1) * 16 := by omega
  have h4 := Nat.mul_le_mul_right (16 ^ l.length) h3
  rw [List.foldl_cons, List.length_cons, Nat.pow_succ, Nat.mul_comm (16 ^ l.length) 16, ← Nat.mul_assoc]
  omega
theorem rPiece_lt {p : List UInt8} {n : Nat} (h : rPiece p = some n) : n < 65536 := by
 unfold rPiece at h
 split at h
 ·
  rename_i hc
  injection h with h
  have h1 := of_decide_eq_true hc.1
  have h2 := hexN_go p 0
  have h3 : 16 ^ p.length ≤ 16 ^ 4 := Nat.pow_le_pow_right (by decide) h1.2
  rw [← h]
  unfold hexN
  have h4 : (16 : Nat) ^ 4 = 65536 := by decide
  omega
 · cases h
theorem rBytes_lt : ∀ (L : List (List UInt8)) (r : List Nat), rBytes L = some r → ∀ x ∈ r, x < 256 := by
 intro L
 induction L with
 | nil => intro r h x hx; injection h with h; rw [← h] at hx; cases hx
 | cons a L ih =>
  intro r h x hx
  rw [rBytes] at h
  cases e1 : rByte a with
  | none => rw [e1] at h; cases h
  | some n =>
   rw [e1] at h
   cases e2 : rBytes L with
   | none => rw [e2] at h; cases h
   | some r2 =>
    rw [e2] at h
    injection h with h
    rw [← h] at hx
    rcases List.mem_cons.1 hx with rfl | hx
    ·
     unfold rByte at e1
     split at e1
     ·
      rename_i hc
      injection e1 with e1
      have := of_decide_eq_true hc.2
      omega
     · cases e1
    · exact ih r2 e2 x hx
theorem two_lt {r : List Nat} (h : ∀ x ∈ r, x < 256) : ∀ x ∈ two r, x < 65536 := by
 intro x hx
 unfold two at hx
 split at hx
 ·
  rename_i a b c d
  have ha := h a (by simp)
  have hb := h b (by simp)
  have hc := h c (by simp)
  have hd := h d (by simp)
  rcases List.mem_cons.1 hx with rfl | hx
  · omega
  ·
   rw [List.mem_singleton] at hx
   omega
 · cases hx
theorem rFour_lt {p : List UInt8} {m : List Nat} (h : rFour p = some m) : ∀ x ∈ m, x < 65536 := by
 unfold rFour at h
 split at h
 ·
  cases e : rBytes (cuts 46 p) with
  | none => rw [e] at h; cases h
  | some r =>
   rw [e] at h
   injection h with h
   rw [← h]
   exact two_lt (rBytes_lt _ _ e)
 · cases h
theorem rGo_lt (tl : Bool) : ∀ (L : List (List UInt8)) (l : List Nat), rGo tl L = some l → ∀ x ∈ l, x < 65536 := by
 intro L
 induction L with
 | nil => intro l h x hx; injection h with h; subst h; cases hx
 | cons p r ih =>
  intro l h x hx
  rw [rGo] at h
  split at h
  · exact rFour_lt h x hx
  ·
   cases e1 : rPiece p with
   | none => rw [e1] at h; cases h
   | some n =>
    rw [e1] at h
    cases e2 : rGo tl r with
    | none => rw [e2] at h; cases h
    | some r2 =>
     rw [e2] at h
     injection h with h
     rw [← h] at hx
     rcases List.mem_cons.1 hx with rfl | hx
     · exact rPiece_lt e1
     · exact ih r2 e2 x hx
theorem rPieces_lt {tl : Bool} {s : List UInt8} {l : List Nat} (h : rPieces tl s = some l) : ∀ x ∈ l, x < 65536 := by
 unfold rPieces at h
 split at h
 · injection h with h; subst h; intro x hx; cases hx
 · exact rGo_lt _ _ _ h
theorem rParse6_ok {s : List UInt8} {a : List Nat} (h : rParse6 s = some a) : a.length = 8 ∧ ∀ x ∈ a, x < 65536 := by
 unfold rParse6 at h
 cases hg : gap2 s with
 | none =>
  rw [hg] at h
  replace h : (match rPieces true s with | some l => if l.length = 8 then some l else none | none => none) = some a := h
  cases e : rPieces true s with
  | none => rw [e] at h; cases h
  | some l =>
   rw [e] at h
   replace h : (if l.length = 8 then some l else none) = some a := h
   split at h
   ·
    rename_i h8
    injection h with h
    subst h
    exact ⟨h8, rPieces_lt e⟩
   · cases h
 | some q =>
  obtain ⟨x, y⟩ := q
  rw [hg] at h
  replace h : (match rPieces false x, rPieces true y with
   | some l, some m => if l.length + m.length ≤ 7 then some (l ++ noughts (8 - l.length - m.length) ++ m) else none
   | _, _ => none) = some a := h
  cases e1 : rPieces false x with
  | none => rw [e1] at h; cases h
  | some l =>
   cases e2 : rPieces true y with
   | none => rw [e1, e2] at h; cases h
   | some m =>
    rw [e1, e2] at h
    replace h : (if l.length + m.length ≤ 7 then some (l ++ noughts (8 - l.length - m.length) ++ m) else none) = some a := h
    split at h
    ·
     injection h with h
     subst h
     refine ⟨by simp [noughts]; omega, fun z hz => ?_⟩
     rcases List.mem_append.1 hz with hz | hz
     ·
      rcases List.mem_append.1 hz with hz | hz
      · exact rPieces_lt e1 z hz
      ·
       unfold noughts at hz
       have := (List.mem_replicate.1 hz).2
       omega
     · exact rPieces_lt e2 z hz
    · cases h
theorem pParse6_ok {s : List UInt8} {a : List Nat} (h : pParse6 s = some a) : a.length = 8 ∧ ∀ x ∈ a, x < 65536 := by
 rw [parse6_eq] at h
 exact rParse6_ok h
theorem parse6_show {a : List Nat} (h8 : a.length = 8) (h : ∀ x ∈ a, x < 65536) : pParse6 (pShow6 a) = some a := by
 rw [parse6_eq]; exact show6_back spell_digs h h8
end Go.Proofs.YtoapelcofjjdnaaGreatDoor
namespace Go.Proofs.YtoapelcofjjdnaaGreatDoor
set_option linter.all false
theorem taken_next {a : List Nat} {j x : Nat} (h : a[j]? = some x) : a.take (j + 1) = a.take j ++ [x] := by
 obtain ⟨hj, e⟩ := List.getElem?_eq_some_iff.1 h
 rw [List.take_succ, h]; rfl
def gapRow (D : Nat → List UInt8) (a : List Nat) (g n i : Nat) : List UInt8 := if i ≤ g then hexs D (a.take i) else hexs D (a.take g) ++ 58 :: 58 :: hexs D ((a.take i).drop (g + n))
section
variable {D : Nat → List UInt8} {a : List Nat} {g n i x : Nat}
theorem hexsD_next (l : List Nat) (x : Nat) : hexs D (l ++ [x]) = if l = [] then D x else hexs D l ++ 58 :: D x := by
 by_cases h : l = []
 · rw [if_pos h, h, List.nil_append, hexs_one]
 · rw [if_neg h, hexs_snoc _ _ _ h]
theorem gapRow_zero : gapRow D a g n 0 = [] := by
 unfold gapRow; rw [if_pos (Nat.zero_le _)]; rfl
theorem gapRow_first (h : a[0]? = some x) (hg : 0 < g) : gapRow D a g n 1 = D x := by
 unfold gapRow
 rw [if_pos (by omega), show 1 = 0 + 1 from rfl, taken_next h]
 simp [hexs_one]
theorem gapRow_lo (h : a[i]? = some x) (h0 : 0 < i) (hg : i < g) : gapRow D a g n (i + 1) = gapRow D a g n i ++ [58] ++ D x := by
 have hi := (List.getElem?_eq_some_iff.1 h).1
 unfold gapRow
 rw [if_pos (by omega), if_pos (by omega), taken_next h, hexsD_next, if_neg (fun e => by have := congrArg List.length e; rw [List.length_take, List.length_nil] at this; omega)]
 simp
theorem gapRow_gap (hn : 0 < n) (hl : g + n ≤ a.length) : gapRow D a g n (g + n) = gapRow D a g n g ++ [58, 58] := by
 unfold gapRow
 rw [if_neg (by omega), if_pos (Nat.le_refl g), List.drop_of_length_le (by rw [List.length_take]; omega), hexs_nil]
theorem gapRow_behind (h : a[g + n]? = some x) (hn : 0 < n) : gapRow D a g n (g + n + 1) = gapRow D a g n (g + n) ++ D x := by
 have hi := (List.getElem?_eq_some_iff.1 h).1
 unfold gapRow
 rw [if_neg (by omega), if_neg (by omega), taken_next h, List.drop_append_of_le_length (by rw [List.length_take]; omega), List.drop_of_length_le (by rw [List.length_take]; omega), List.nil_append, hexs_one, hexs_nil]
 simp
theorem gapRow_hi (h : a[i]? = some x) (hn : 0 < n) (hg : g + n < i) : gapRow D a g n (i + 1) = gapRow D a g n i ++ [58] ++ D x := by
 have hi := (List.getElem?_eq_some_iff.1 h).1
 unfold gapRow
 rw [if_neg (by omega), if_neg (by omega), taken_next h, List.drop_append_of_le_length (by rw [List.length_take]; omega), hexsD_next, if_neg (fun e => by have := congrArg List.length e; rw [List.length_drop, List.length_take, List.length_nil] at this; omega)]
 simp
theorem gapRow_none (hg : a.length ≤ g) : gapRow D a g n a.length = hexs D a := by
 unfold gapRow
 rw [if_pos hg, List.take_length]
theorem gapRow_some (hn : 0 < n) (hl : g + n ≤ a.length) : gapRow D a g n a.length = hexs D (a.take g) ++ 58 :: 58 :: hexs D (a.drop (g + n)) := by
 unfold gapRow
 rw [if_neg (by omega), List.take_length]
theorem hexs_last (hD : Spell D) {l : List Nat} (hl : l ≠ []) (h : ∀ x ∈ l, x < 65536) : ∃ p c, hexs D l = p ++ [c] ∧ c ≠ 58 := by
 obtain ⟨l', x, rfl⟩ : ∃ l' x, l = l' ++ [x] := ⟨l.dropLast, l.getLast hl, (List.dropLast_concat_getLast hl).symm⟩
 have hx := h x (by simp)
 have hne := spell_ne hD hx
 have hc := spell_colon hD hx
 have e : D x = (D x).dropLast ++ [(D x).getLast hne] := (List.dropLast_concat_getLast hne).symm
 have hm : (D x).getLast hne ≠ 58 := fun e => hc (e ▸ List.getLast_mem hne)
 rw [hexsD_next]
 by_cases h0 : l' = []
 · rw [if_pos h0]; exact ⟨_, _, e, hm⟩
 · rw [if_neg h0]; exact ⟨hexs D l' ++ 58 :: (D x).dropLast, _, by rw [List.append_assoc, List.cons_append, ← e], hm⟩
theorem gapRow_last_lo (hD : Spell D) (h : ∀ x ∈ a, x < 65536) (h0 : 0 < i) (hi : i ≤ a.length) (hg : i ≤ g) : ∃ p c, gapRow D a g n i = p ++ [c] ∧ c ≠ 58 := by
 unfold gapRow
 rw [if_pos hg]
 exact hexs_last hD (fun e => by have := congrArg List.length e; rw [List.length_take, List.length_nil] at this; omega) (fun x hx => h x (List.mem_of_mem_take hx))
theorem gapRow_last_hi (hD : Spell D) (h : ∀ x ∈ a, x < 65536) (hn : 0 < n) (hi : i ≤ a.length) (hg : g + n < i) : ∃ p c, gapRow D a g n i = p ++ [c] ∧ c ≠ 58 := by
 unfold gapRow
 rw [if_neg (by omega)]
 obtain ⟨p, c, e, hc⟩ := hexs_last hD (l := (a.take i).drop (g + n)) (fun e => by have := congrArg List.length e; rw [List.length_drop, List.length_take, List.length_nil] at this; omega) (fun x hx => h x (List.mem_of_mem_take (List.mem_of_mem_drop hx)))
 exact ⟨hexs D (a.take g) ++ 58 :: 58 :: p, c, by rw [e]; simp, hc⟩
end
def gapG (s : Nat × Nat) : Nat := if 2 ≤ s.2 then s.1 else 8
theorem gapG_at {s : Nat × Nat} {i : Nat} (h : i < 8) : (i : Int) = rAt s ↔ i = gapG s := by
 unfold rAt gapG
 split <;> omega
def rowT (a : List Nat) (i : Nat) : List UInt8 := gapRow (digs 16) a (gapG (rowI a 8)) (rLong (rowI a 8)) i
def rowG (a : List Nat) : Nat := gapG (rowI a 8)
def rowN (a : List Nat) : Nat := rLong (rowI a 8)
section
variable {a : List Nat} (h8 : a.length = 8)
include h8
theorem rowN_pos : 0 < rowN a := by unfold rowN rLong; omega
theorem rowG_in (h : rowG a < 8) : rowG a + rowN a ≤ 8 := by
 unfold rowG rowN rLong gapG at *
 by_cases h2 : 2 ≤ (rowI a 8).2
 · have := (rowI_parts a 8 h2).2; rw [if_pos h2] at *; omega
 · rw [if_neg h2] at h; omega
theorem rowG_le : rowG a ≤ 8 := by
 unfold rowG gapG
 by_cases h2 : 2 ≤ (rowI a 8).2
 · have := (rowI_parts a 8 h2).2; rw [if_pos h2]; omega
 · rw [if_neg h2]; exact Nat.le_refl _
theorem rowT_zero : rowT a 0 = [] := gapRow_zero
theorem rowT_end : rowT a 8 = pShow6 a := by
 have hg := rowG_in (a := a) h8
 have hp := rowN_pos (a := a) h8
 unfold rowT pShow6 pShowD
 unfold rowG rowN at hg hp
 unfold gapG at *
 by_cases h2 : 2 ≤ (rowI a 8).2
 ·
  rw [if_pos h2] at *
  have hi := (rowI_parts a 8 h2).2
  have e : rLong (rowI a 8) = (rowI a 8).2 := by unfold rLong; omega
  rw [if_neg (by omega), e]
  have := gapRow_some (D := digs 16) (a := a) (g := (rowI a 8).1) (n := (rowI a 8).2) (by omega) hi
  rw [h8] at this
  exact this
 ·
  rw [if_neg h2, if_pos (by omega)]
  have := gapRow_none (D := digs 16) (a := a) (g := 8) (n := rLong (rowI a 8)) (by omega)
  rw [h8] at this
  exact this
theorem rowT_gap (hg : rowG a < 8) : rowT a (rowG a + rowN a) = rowT a (rowG a) ++ [58, 58] :=
 gapRow_gap (rowN_pos h8) (by rw [h8]; exact rowG_in h8 hg)
theorem rowT_cases (h16 : ∀ x ∈ a, x < 65536) {i x : Nat} (hx : a[i]? = some x) (hne : i ≠ rowG a) (hin : i ≤ rowG a ∨ rowG a + rowN a ≤ i) :
  (rowT a i = [] ∧ rowT a (i + 1) = digs 16 x) ∨ (∃ p, rowT a i = p ++ [58] ∧ rowT a (i + 1) = rowT a i ++ digs 16 x) ∨ (∃ p c, rowT a i = p ++ [c] ∧ c ≠ 58 ∧ rowT a (i + 1) = rowT a i ++ [58] ++ digs 16 x) := by
 have hi := (List.getElem?_eq_some_iff.1 hx).1
 have hp := rowN_pos (a := a) h8
 by_cases h0 : i < rowG a
 ·
  by_cases hz : i = 0
  ·
   subst hz
   exact .inl ⟨gapRow_zero, gapRow_first hx h0⟩
  ·
   obtain ⟨p, c, e, hc⟩ := gapRow_last_lo (D := digs 16) (a := a) (g := rowG a) (n := rowN a) (i := i) spell_digs h16 (by omega) (by omega) (by omega)
   exact .inr (.inr ⟨p, c, e, hc, gapRow_lo hx (by omega) h0⟩)
 ·
  by_cases he : i = rowG a + rowN a
  ·
   subst he
   refine .inr (.inl ⟨rowT a (rowG a) ++ [58], ?_, gapRow_behind hx hp⟩)
   rw [rowT_gap h8 (by omega)]; simp
  ·
   obtain ⟨p, c, e, hc⟩ := gapRow_last_hi (D := digs 16) (a := a) (g := rowG a) (n := rowN a) (i := i) spell_digs h16 hp (by omega) (by omega)
   exact .inr (.inr ⟨p, c, e, hc, gapRow_hi hx hp (by show rowG a + rowN a < i; omega)⟩)
end
end Go.Proofs.YtoapelcofjjdnaaGreatDoor
