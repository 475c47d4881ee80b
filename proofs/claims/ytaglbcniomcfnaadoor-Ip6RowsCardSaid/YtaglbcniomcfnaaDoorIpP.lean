/- Short addresses: what ip4 and the reference compute, in plain Lean. -/
import Derived.Test.YtaglbcniomcfnaaDoorPctP
import Derived.Test.YtaglbcniomcfnaaDoorCutP
import Derived.Lib.ItoaNum
namespace Go.Proofs.YtaglbcniomcfnaaDoor
set_option linter.all false
open Go.RowKit

def hugeN : Nat := 1099511627776
/-- A part's digits at a base. -/
def cntGo (b : Nat) : Nat → List UInt8 → Option Nat
  | n, [] => some n
  | n, c :: t => if 0 ≤ hexV c ∧ hexV c < (b : Int) then cntGo b (min (n * b + (hexV c).toNat) hugeN) t else none
theorem cntGo_le (b : Nat) : ∀ (s : List UInt8) (n m : Nat), n ≤ hugeN → cntGo b n s = some m → m ≤ hugeN := by
  intro s
  induction s with
  | nil => intro n m h e; injection e with e; omega
  | cons c t ih =>
    intro n m h e
    unfold cntGo at e
    split at e
    · exact ih _ _ (Nat.min_le_right _ _) e
    · cases e
def hexFront (s : List UInt8) : Bool := match s with
  | 48 :: c :: _ => c == 120 || c == 88
  | _ => false
def octFront (s : List UInt8) : Bool := match s with
  | 48 :: _ :: _ => true
  | _ => false
def pNum (s : List UInt8) : Option Nat :=
  if s = [] then none else if hexFront s then cntGo 16 0 (s.drop 2) else if octFront s then cntGo 8 0 s else cntGo 10 0 s
theorem pNum_le {s : List UInt8} {m : Nat} (h : pNum s = some m) : m ≤ hugeN := by
  unfold pNum at h
  split at h
  · cases h
  · split at h
    · exact cntGo_le _ _ _ _ (by decide) h
    · split at h
      · exact cntGo_le _ _ _ _ (by decide) h
      · exact cntGo_le _ _ _ _ (by decide) h
/-- The reference leaves the nought out: the same. -/
theorem cnt_nought (t : List UInt8) : cntGo 8 0 (48 :: t) = cntGo 8 0 t := by
  rw [cntGo, if_pos (by decide)]; rfl

/-- The parts: a last empty one is left out, if there is another one. -/
def pParts (s : List UInt8) : List (List UInt8) := if 1 < (cuts 46 s).length ∧ (cuts 46 s).getLast? = some [] then (cuts 46 s).dropLast else cuts 46 s
theorem pParts_pos (s : List UInt8) : 0 < (pParts s).length := by
  unfold pParts
  have := cuts_pos 46 s
  split
  · rw [List.length_dropLast]; omega
  · exact this
def pLast (s : List UInt8) : List UInt8 := (pParts s).getLast?.getD []
def allTen (x : List UInt8) : Bool := x.all fun c => decide (48 ≤ c.toNat ∧ c.toNat ≤ 57)
def pEnds (s : List UInt8) : Bool := ((cntGo 10 0 (pLast s)).isSome && !(pLast s).isEmpty) || (pNum (pLast s)).isSome
theorem hexV_ten (c : UInt8) : (0 ≤ hexV c ∧ hexV c < 10) ↔ (48 ≤ c.toNat ∧ c.toNat ≤ 57) := by
  unfold hexV; (repeat' split) <;> omega
theorem cnt_ten : ∀ (s : List UInt8) (n : Nat), (cntGo 10 n s).isSome = allTen s := by
  intro s
  induction s with
  | nil => intro n; rfl
  | cons c t ih =>
    intro n
    unfold cntGo allTen
    rw [List.all_cons]
    split
    · next h => rw [ih, decide_eq_true ((hexV_ten c).1 h)]; rfl
    · next h => rw [decide_eq_false (fun e => h ((hexV_ten c).2 e))]; rfl
theorem cnt_eight : ∀ (s : List UInt8) (n : Nat), (cntGo 8 n s).isSome = true → allTen s = true := by
  intro s
  induction s with
  | nil => intro n _; rfl
  | cons c t ih =>
    intro n h
    unfold cntGo at h
    split at h
    · next hc =>
      unfold allTen
      rw [List.all_cons, decide_eq_true ((hexV_ten c).1 (by omega)), Bool.true_and]
      exact ih _ h
    · cases h
/-- The reference's answer. -/
def rEnds (s : List UInt8) : Bool := (!(pLast s).isEmpty && allTen (pLast s)) || ((pNum (pLast s)).isSome && hexX (pLast s))
where hexX (x : List UInt8) : Bool := match x with
  | _ :: c :: _ => c == 120 || c == 88
  | _ => false
theorem rEnds_eq (s : List UInt8) : rEnds s = pEnds s := by
  unfold rEnds pEnds
  rw [cnt_ten, Bool.and_comm (!_)]
  generalize pLast s = x
  by_cases ha : (allTen x && !x.isEmpty) = true
  · rw [ha]; rfl
  · rw [Bool.eq_false_iff.2 ha]
    simp only [Bool.false_or]
    cases hn : (pNum x).isSome with
    | false => rfl
    | true =>
      rw [Bool.true_and]
      unfold pNum at hn
      split at hn
      · cases hn
      · next hx =>
        have he : x.isEmpty = false := by cases x with | nil => exact absurd rfl hx | cons _ _ => rfl
        rw [he] at ha
        split at hn
        · next hf =>
          unfold hexFront at hf
          split at hf
          · exact hf
          · cases hf
        · split at hn
          · exact absurd (by rw [cnt_eight _ _ hn]; rfl) ha
          · rw [cnt_ten] at hn
            exact absurd (by rw [hn]; rfl) ha

/-- The parts' sum: part i of n parts. -/
def parGo : Nat → Nat → List (List UInt8) → Option Nat
  | _, sum, [] => some sum
  | i, sum, p :: r => match pNum p with
    | none => none
    | some x => if r = [] then (if x < 2 ^ (8 * (4 - i)) then some (sum + x) else none) else if x < 256 then parGo (i + 1) (sum + x * 2 ^ (8 * (3 - i))) r else none
def pParse (s : List UInt8) : Option Nat := if 4 < (pParts s).length then none else parGo 0 0 (pParts s)
theorem parGo_lt : ∀ (l : List (List UInt8)) (i sum m : Nat), l.length + i ≤ 4 → l ≠ [] → sum + 2 ^ (8 * (4 - i)) ≤ 2 ^ 32 → parGo i sum l = some m → m < 2 ^ 32 := by
  intro l
  induction l with
  | nil => intro i sum m _ h; exact absurd rfl h
  | cons p r ih =>
    intro i sum m hl _ hs h
    rw [List.length_cons] at hl
    unfold parGo at h
    split at h
    · cases h
    · next x hx =>
      split at h
      · split at h
        · injection h with h; omega
        · cases h
      · next hr =>
        split at h
        · next hlt =>
          refine ih _ _ _ (by omega) hr ?_ h
          have hi : i ≤ 3 := by omega
          have : x * 2 ^ (8 * (3 - i)) + 2 ^ (8 * (4 - (i + 1))) ≤ 2 ^ (8 * (4 - i)) := by
            rw [show 4 - (i + 1) = 3 - i by omega, show 8 * (4 - i) = 8 + 8 * (3 - i) by omega, Nat.pow_add]
            have : (x + 1) * 2 ^ (8 * (3 - i)) ≤ 2 ^ 8 * 2 ^ (8 * (3 - i)) := Nat.mul_le_mul_right _ (by omega)
            rw [Nat.add_mul, Nat.one_mul] at this
            exact this
          omega
        · cases h
theorem pParse_lt {s : List UInt8} {m : Nat} (h : pParse s = some m) : m < 2 ^ 32 := by
  unfold pParse at h
  split at h
  · cases h
  · exact parGo_lt _ 0 0 m (by omega) (fun e => by have := pParts_pos s; rw [e] at this; cases this) (by decide) h

def pShow4 (a : Nat) : List UInt8 := Lib.join [Lib.decDigits (a / 2 ^ 24 % 256), Lib.decDigits (a / 2 ^ 16 % 256), Lib.decDigits (a / 2 ^ 8 % 256), Lib.decDigits (a % 256)] [46]
end Go.Proofs.YtaglbcniomcfnaaDoor

