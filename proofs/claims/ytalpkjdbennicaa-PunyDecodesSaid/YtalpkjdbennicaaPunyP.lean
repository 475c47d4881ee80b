/- What puny.Encode and puny.Decode compute, in plain Lean. -/
import Derived.Test.YtalpkjdbennicaaUtfP
namespace Go.Proofs.Ytalpkjdbennicaa
set_option linter.all false
open Go.RowKit

def edge (k bias : Int) : Int := max 1 (min (k - bias) 26)
theorem edge_range (k bias : Int) : 1 ≤ edge k bias ∧ edge k bias ≤ 26 := by unfold edge; omega

def adF : Nat → Int → Int → Int
  | 0, d, k => k + 36 * d / (d + 38)
  | f + 1, d, k => if 455 < d then adF f (d / 35) (k + 36) else k + 36 * d / (d + 38)
theorem adF_more : ∀ (f g : Nat) (d k : Int), d ≤ f → d ≤ g → adF f d k = adF g d k := by
  intro f
  induction f with
  | zero =>
    intro g d k h _
    cases g with
    | zero => rfl
    | succ g => unfold adF; rw [if_neg (by omega)]
  | succ f ih =>
    intro g d k hf hg
    cases g with
    | zero => unfold adF; rw [if_neg (by omega)]
    | succ g =>
      unfold adF
      by_cases h : 455 < d
      · rw [if_pos h, if_pos h]; exact ih g _ _ (by omega) (by omega)
      · rw [if_neg h, if_neg h]
def ad (d k : Int) : Int := adF d.toNat d k
theorem ad_step {d k : Int} (h : 455 < d) : ad d k = ad (d / 35) (k + 36) := by
  unfold ad
  obtain ⟨n, hn⟩ : ∃ n, d.toNat = n + 1 := ⟨d.toNat - 1, by omega⟩
  rw [hn]
  show (if 455 < d then adF n (d / 35) (k + 36) else _) = _
  rw [if_pos h]
  exact adF_more _ _ _ _ (by omega) (by omega)
theorem ad_end {d k : Int} (h : d ≤ 455) : ad d k = k + 36 * d / (d + 38) := by
  unfold ad
  cases d.toNat with
  | zero => rfl
  | succ n => show (if 455 < d then _ else _) = _; rw [if_neg (by omega)]
def pAdapt0 (delta : Int) (first : Bool) : Int := if first = true then delta / 700 else delta / 2
def pAdapt (delta points : Int) (first : Bool) : Int := ad (pAdapt0 delta first + pAdapt0 delta first / points) 0

/-- The letter of a digit. -/
def letter (n : Int) : UInt8 := if n < 26 then byteOf (97 + n) else byteOf (22 + n)
/-- The digit of a letter; below 0: none. -/
def digitOf (c : UInt8) : Int :=
  if 97 ≤ c.toNat ∧ c.toNat ≤ 122 then (c.toNat : Int) - 97
  else if 65 ≤ c.toNat ∧ c.toNat ≤ 90 then (c.toNat : Int) - 65
  else if 48 ≤ c.toNat ∧ c.toNat ≤ 57 then (c.toNat : Int) - 22
  else -1
theorem digitOf_range (c : UInt8) : -1 ≤ digitOf c ∧ digitOf c < 36 := by unfold digitOf; (repeat' split) <;> omega
theorem digit_letter {n : Int} (h0 : 0 ≤ n) (h1 : n < 36) : digitOf (letter n) = n := by
  unfold letter
  by_cases h : n < 26
  · rw [if_pos h]
    have e := byteOf_nat (n := 97 + n) (by omega) (by omega)
    unfold digitOf; rw [if_pos (by omega)]; omega
  · rw [if_neg h]
    have e := byteOf_nat (n := 22 + n) (by omega) (by omega)
    unfold digitOf; rw [if_neg (by omega), if_neg (by omega), if_pos (by omega)]; omega

def numF : Nat → Int → Int → Int → List UInt8
  | 0, q, _, _ => [letter q]
  | f + 1, q, k, bias => if q < edge k bias then [letter q] else letter (edge k bias + (q - edge k bias) % (36 - edge k bias)) :: numF f ((q - edge k bias) / (36 - edge k bias)) (k + 36) bias
theorem num_less {q t : Int} (h : t ≤ q) (t1 : 1 ≤ t) (t2 : t ≤ 26) : 0 ≤ (q - t) / (36 - t) ∧ (q - t) / (36 - t) < q := by
  constructor
  · exact Int.ediv_nonneg (by omega) (by omega)
  · have : (q - t) / (36 - t) ≤ q - t := Int.ediv_le_self _ (by omega)
    omega
theorem numF_more : ∀ (f g : Nat) (q k bias : Int), q ≤ f → q ≤ g → numF f q k bias = numF g q k bias := by
  intro f
  induction f with
  | zero =>
    intro g q k bias h _
    have ht := edge_range k bias
    cases g with
    | zero => rfl
    | succ g => unfold numF; rw [if_pos (by omega)]
  | succ f ih =>
    intro g q k bias hf hg
    have ht := edge_range k bias
    cases g with
    | zero => unfold numF; rw [if_pos (by omega)]
    | succ g =>
      unfold numF
      by_cases h : q < edge k bias
      · rw [if_pos h, if_pos h]
      · rw [if_neg h, if_neg h]
        have := num_less (q := q) (by omega) ht.1 ht.2
        rw [ih g _ _ _ (by omega) (by omega)]
def num (q k bias : Int) : List UInt8 := numF q.toNat q k bias
theorem num_end {q k bias : Int} (h : q < edge k bias) : num q k bias = [letter q] := by
  unfold num
  cases q.toNat with
  | zero => rfl
  | succ n => show (if q < edge k bias then _ else _) = _; rw [if_pos h]
theorem num_step {q k bias : Int} (h : edge k bias ≤ q) :
    num q k bias = letter (edge k bias + (q - edge k bias) % (36 - edge k bias)) :: num ((q - edge k bias) / (36 - edge k bias)) (k + 36) bias := by
  have ht := edge_range k bias
  have hl := num_less h ht.1 ht.2
  unfold num
  obtain ⟨n, hn⟩ : ∃ n, q.toNat = n + 1 := ⟨q.toNat - 1, by omega⟩
  rw [hn]
  show (if q < edge k bias then _ else _) = _
  rw [if_neg (by omega)]
  congr 1
  exact numF_more _ _ _ _ _ (by omega) (by omega)

/-- Where the encoder stands. -/
structure ES where
  out : List UInt8
  delta : Int
  bias : Int
  done : Int

def eOne (n basic : Int) (s : ES) (r : Int) : ES :=
  if r < n then { s with delta := s.delta + 1 }
  else if r = n then { out := s.out ++ num s.delta 36 s.bias, delta := 0, bias := pAdapt s.delta (s.done + 1) (decide (s.done = basic)), done := s.done + 1 }
  else s
def ePass (n basic : Int) (s : ES) (l : List Int) : ES := l.foldl (eOne n basic) s
/-- The least one from n on, at most top. -/
def least (n top : Int) (l : List Int) : Int := l.foldl (fun m r => if n ≤ r then min m r else m) top
def eRound (n basic : Int) (s : ES) (l : List Int) : ES :=
  let m := least n 1114111 l
  let s1 := ePass m basic { s with delta := s.delta + (m - n) * (s.done + 1) } l
  { s1 with delta := s1.delta + 1 }
def eLoop : Nat → Int → Int → ES → List Int → ES
  | 0, _, _, s, _ => s
  | f + 1, n, basic, s, l => if s.done < l.length then eLoop f (least n 1114111 l + 1) basic (eRound n basic s l) l else s

def basics (l : List Int) : List UInt8 := (l.filter (· < 128)).map byteOf
def eStart (l : List Int) : ES :=
  { out := if 0 < (basics l).length then basics l ++ [45] else [], delta := 0, bias := 72, done := (basics l).length }
def cpAll (l : List Int) : Bool := l.all cpOk
/-- puny.Encode: the letters; none: ErrArg. -/
def puny (l : List Int) : Option (List UInt8) :=
  if l.length ≤ 63 ∧ cpAll l = true then some (eLoop l.length 128 (basics l).length (eStart l) l).out else none
end Go.Proofs.Ytalpkjdbennicaa
