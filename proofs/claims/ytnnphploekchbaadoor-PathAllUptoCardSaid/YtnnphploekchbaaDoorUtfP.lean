/- What utf.Decode, utf.Encode and utf.Valid compute, in plain Lean; what is encoded is decoded, and right bytes are encoded as they were. -/
import Derived.Test.YtnnphploekchbaaDoorPre
namespace Go.Proofs.YtnnphploekchbaaDoor
set_option linter.all false
open Go.RowKit

def byteOf (n : Int) : UInt8 := UInt8.ofNat n.toNat
theorem byteOf_nat {n : Int} (h0 : 0 ≤ n) (h1 : n < 256) : ((byteOf n).toNat : Int) = n := by
  unfold byteOf
  rw [UInt8.toNat_ofNat']
  omega
theorem byteOf_toNat {n : Int} (h0 : 0 ≤ n) (h1 : n < 256) : (byteOf n).toNat = n.toNat := by have := byteOf_nat h0 h1; omega
theorem byteOf_self (c : UInt8) : byteOf (c.toNat : Int) = c := by
  unfold byteOf; simp
theorem byte_lt (c : UInt8) : c.toNat < 256 := UInt8.toNat_lt c
theorem byte_ext {a b : UInt8} (h : a.toNat = b.toNat) : a = b := UInt8.toNat_inj.1 h

def cpOk (r : Int) : Bool := decide (0 ≤ r ∧ r ≤ 1114111 ∧ (r < 55296 ∨ 57343 < r))
def cpFix (r : Int) : Int := if cpOk r = true then r else 65533
def cpSize (r : Int) : Nat := if r < 128 then 1 else if r < 2048 then 2 else if r < 65536 then 3 else 4

theorem cpOk_iff {r : Int} : cpOk r = true ↔ 0 ≤ r ∧ r ≤ 1114111 ∧ (r < 55296 ∨ 57343 < r) := decide_eq_true_iff
theorem cpFix_ok (r : Int) : cpOk (cpFix r) = true := by
  unfold cpFix; split
  · assumption
  · decide
theorem cpFix_of {r : Int} (h : cpOk r = true) : cpFix r = r := if_pos h

def enc0 (r : Int) : List UInt8 :=
  if r < 128 then [byteOf r]
  else if r < 2048 then [byteOf (192 + r / 64), byteOf (128 + r % 64)]
  else if r < 65536 then [byteOf (224 + r / 4096), byteOf (128 + r / 64 % 64), byteOf (128 + r % 64)]
  else [byteOf (240 + r / 262144), byteOf (128 + r / 4096 % 64), byteOf (128 + r / 64 % 64), byteOf (128 + r % 64)]
def enc1 (r : Int) : List UInt8 := enc0 (cpFix r)
def uEnc (l : List Int) : List UInt8 := l.flatMap enc1

theorem enc0_len (r : Int) : (enc0 r).length = cpSize r := by
  unfold enc0 cpSize; repeat' split
  all_goals rfl
theorem cpSize_le (r : Int) : 1 ≤ cpSize r ∧ cpSize r ≤ 4 := by unfold cpSize; (repeat' split) <;> omega
theorem uEnc_le (l : List Int) : (uEnc l).length ≤ 4 * l.length := by
  induction l with
  | nil => simp [uEnc]
  | cons x l ih =>
    unfold uEnc at ih ⊢
    rw [List.flatMap_cons, List.length_append, List.length_cons]
    have : (enc1 x).length ≤ 4 := by unfold enc1; rw [enc0_len]; exact (cpSize_le _).2
    omega

/-- The number at place j; 0 behind the end. -/
def bt (l : List UInt8) (j : Nat) : Int := ((l.getD j 0).toNat : Int)
theorem bt_range (l : List UInt8) (j : Nat) : 0 ≤ bt l j ∧ bt l j < 256 := by unfold bt; have := byte_lt (l.getD j 0); omega

def val2 (l : List UInt8) : Int := (bt l 0 - 192) * 64 + (bt l 1 - 128)
def val3 (l : List UInt8) : Int := ((bt l 0 - 224) * 64 + (bt l 1 - 128)) * 64 + (bt l 2 - 128)
def val4 (l : List UInt8) : Int := (((bt l 0 - 240) * 64 + (bt l 1 - 128)) * 64 + (bt l 2 - 128)) * 64 + (bt l 3 - 128)
def cont (x : Int) : Prop := 128 ≤ x ∧ x < 192
instance (x : Int) : Decidable (cont x) := inferInstanceAs (Decidable (_ ∧ _))

def dec1 (l : List UInt8) : Int × Nat :=
  if bt l 0 < 128 then (bt l 0, 1)
  else if 2 ≤ l.length ∧ (192 ≤ bt l 0 ∧ bt l 0 < 224) ∧ cont (bt l 1) ∧ 128 ≤ val2 l then (val2 l, 2)
  else if 3 ≤ l.length ∧ (224 ≤ bt l 0 ∧ bt l 0 < 240) ∧ cont (bt l 1) ∧ cont (bt l 2) ∧ 2048 ≤ val3 l ∧ (val3 l < 55296 ∨ 57343 < val3 l) then (val3 l, 3)
  else if 4 ≤ l.length ∧ (240 ≤ bt l 0 ∧ bt l 0 < 248) ∧ cont (bt l 1) ∧ cont (bt l 2) ∧ cont (bt l 3) ∧ 65536 ≤ val4 l ∧ val4 l ≤ 1114111 then (val4 l, 4)
  else (65533, 0)

/-- The same of the numbers alone. -/
def dec4 (n : Nat) (a b c d : Int) : Int × Nat :=
  if a < 128 then (a, 1)
  else if 2 ≤ n ∧ (192 ≤ a ∧ a < 224) ∧ cont b ∧ 128 ≤ (a - 192) * 64 + (b - 128) then ((a - 192) * 64 + (b - 128), 2)
  else if 3 ≤ n ∧ (224 ≤ a ∧ a < 240) ∧ cont b ∧ cont c ∧ 2048 ≤ ((a - 224) * 64 + (b - 128)) * 64 + (c - 128) ∧ (((a - 224) * 64 + (b - 128)) * 64 + (c - 128) < 55296 ∨ 57343 < ((a - 224) * 64 + (b - 128)) * 64 + (c - 128)) then (((a - 224) * 64 + (b - 128)) * 64 + (c - 128), 3)
  else if 4 ≤ n ∧ (240 ≤ a ∧ a < 248) ∧ cont b ∧ cont c ∧ cont d ∧ 65536 ≤ (((a - 240) * 64 + (b - 128)) * 64 + (c - 128)) * 64 + (d - 128) ∧ (((a - 240) * 64 + (b - 128)) * 64 + (c - 128)) * 64 + (d - 128) ≤ 1114111 then ((((a - 240) * 64 + (b - 128)) * 64 + (c - 128)) * 64 + (d - 128), 4)
  else (65533, 0)
theorem dec1_eq (l : List UInt8) : dec1 l = dec4 l.length (bt l 0) (bt l 1) (bt l 2) (bt l 3) := rfl

theorem dec1_le (l : List UInt8) : (dec1 l).2 ≤ 4 := by unfold dec1; (repeat' split) <;> simp
theorem dec1_len {l : List UInt8} (h : 0 < l.length) : (dec1 l).2 ≤ l.length := by
  unfold dec1; repeat' split
  all_goals simp only []
  all_goals omega
theorem dec1_ok (l : List UInt8) : cpOk (dec1 l).1 = true := by
  have h0 := bt_range l 0
  have h1 := bt_range l 1
  have h2 := bt_range l 2
  rw [cpOk_iff]
  unfold dec1; repeat' split
  all_goals simp only [val2, val3, val4, cont] at *
  all_goals omega

def uDecF : Nat → List UInt8 → List Int
  | 0, _ => []
  | _ + 1, [] => []
  | f + 1, a :: t => (dec1 (a :: t)).1 :: uDecF f ((a :: t).drop (max (dec1 (a :: t)).2 1))
def uDec (l : List UInt8) : List Int := uDecF l.length l

theorem uDecF_more : ∀ (f g : Nat) (l : List UInt8), l.length ≤ f → l.length ≤ g → uDecF f l = uDecF g l := by
  intro f
  induction f with
  | zero =>
    intro g l h _
    have : l = [] := List.eq_nil_of_length_eq_zero (by omega)
    subst this
    cases g <;> rfl
  | succ f ih =>
    intro g l hf hg
    match l, g with
    | [], 0 => rfl
    | [], _ + 1 => rfl
    | a :: t, 0 => simp at hg
    | a :: t, g + 1 =>
      simp only [uDecF]
      refine congrArg (List.cons _) ?_
      have hl : ((a :: t).drop (max (dec1 (a :: t)).2 1)).length ≤ t.length := by rw [List.length_drop, List.length_cons]; omega
      simp only [List.length_cons] at hf hg
      exact ih g _ (by omega) (by omega)

theorem uDec_nil : uDec [] = [] := rfl
theorem uDec_step {l : List UInt8} (h : 0 < l.length) : uDec l = (dec1 l).1 :: uDec (l.drop (max (dec1 l).2 1)) := by
  match l, h with
  | a :: t, _ =>
    unfold uDec
    rw [List.length_cons]
    simp only [uDecF]
    refine congrArg (List.cons _) ?_
    refine uDecF_more _ _ _ ?_ (Nat.le_refl _)
    rw [List.length_drop, List.length_cons]; omega

def uValF : Nat → List UInt8 → Bool
  | 0, _ => true
  | _ + 1, [] => true
  | f + 1, a :: t => decide (0 < (dec1 (a :: t)).2) && uValF f ((a :: t).drop (max (dec1 (a :: t)).2 1))
def uVal (l : List UInt8) : Bool := uValF l.length l
theorem uValF_more : ∀ (f g : Nat) (l : List UInt8), l.length ≤ f → l.length ≤ g → uValF f l = uValF g l := by
  intro f
  induction f with
  | zero =>
    intro g l h _
    have : l = [] := List.eq_nil_of_length_eq_zero (by omega)
    subst this
    cases g <;> rfl
  | succ f ih =>
    intro g l hf hg
    match l, g with
    | [], 0 => rfl
    | [], _ + 1 => rfl
    | a :: t, 0 => simp at hg
    | a :: t, g + 1 =>
      simp only [uValF]
      have hl : ((a :: t).drop (max (dec1 (a :: t)).2 1)).length ≤ t.length := by rw [List.length_drop, List.length_cons]; omega
      simp only [List.length_cons] at hf hg
      rw [ih g _ (by omega) (by omega)]
theorem uVal_nil : uVal [] = true := rfl
theorem uVal_step {l : List UInt8} (h : 0 < l.length) : uVal l = (decide (0 < (dec1 l).2) && uVal (l.drop (max (dec1 l).2 1))) := by
  match l, h with
  | a :: t, _ =>
    unfold uVal
    rw [List.length_cons]
    simp only [uValF]
    rw [uValF_more _ _ ((a :: t).drop (max (dec1 (a :: t)).2 1)) (by rw [List.length_drop, List.length_cons]; omega) (Nat.le_refl _)]

theorem uDec_len_le (l : List UInt8) : (uDec l).length ≤ l.length := by
  suffices h : ∀ (n : Nat) (l : List UInt8), l.length ≤ n → (uDec l).length ≤ l.length from h _ l (Nat.le_refl _)
  intro n
  induction n with
  | zero => intro l h; rw [List.eq_nil_of_length_eq_zero (by omega : l.length = 0)]; simp [uDec_nil]
  | succ n ih =>
    intro l hl
    rcases Nat.eq_zero_or_pos l.length with h0 | h0
    · rw [List.eq_nil_of_length_eq_zero h0]; simp [uDec_nil]
    · rw [uDec_step h0, List.length_cons]
      have := ih (l.drop (max (dec1 l).2 1)) (by rw [List.length_drop]; omega)
      rw [List.length_drop] at this
      omega

/-- What stands in front is what was encoded. -/
theorem dec1_enc0 {r : Int} (h : cpOk r = true) (t : List UInt8) : dec1 (enc0 r ++ t) = (r, cpSize r) := by
  rw [cpOk_iff] at h
  unfold enc0 cpSize
  by_cases h1 : r < 128
  · have e0 : bt ([byteOf r] ++ t) 0 = r := byteOf_nat (by omega) (by omega)
    simp only [if_pos h1]
    unfold dec1
    rw [e0, if_pos h1]
  by_cases h2 : r < 2048
  · simp only [if_neg h1, if_pos h2]
    have e0 : bt ([byteOf (192 + r / 64), byteOf (128 + r % 64)] ++ t) 0 = 192 + r / 64 := byteOf_nat (by omega) (by omega)
    have e1 : bt ([byteOf (192 + r / 64), byteOf (128 + r % 64)] ++ t) 1 = 128 + r % 64 := byteOf_nat (by omega) (by omega)
    unfold dec1 val2 cont
    rw [e0, e1, if_neg (by omega), if_pos (by simp only [List.length_append, List.length_cons]; omega)]
    congr 1
    omega
  by_cases h3 : r < 65536
  · simp only [if_neg h1, if_neg h2, if_pos h3]
    have e0 : bt ([byteOf (224 + r / 4096), byteOf (128 + r / 64 % 64), byteOf (128 + r % 64)] ++ t) 0 = 224 + r / 4096 := byteOf_nat (by omega) (by omega)
    have e1 : bt ([byteOf (224 + r / 4096), byteOf (128 + r / 64 % 64), byteOf (128 + r % 64)] ++ t) 1 = 128 + r / 64 % 64 := byteOf_nat (by omega) (by omega)
    have e2 : bt ([byteOf (224 + r / 4096), byteOf (128 + r / 64 % 64), byteOf (128 + r % 64)] ++ t) 2 = 128 + r % 64 := byteOf_nat (by omega) (by omega)
    unfold dec1 val2 val3 cont
    rw [e0, e1, e2, if_neg (by omega), if_neg (by omega), if_pos (by simp only [List.length_append, List.length_cons]; omega)]
    congr 1
    omega
  · simp only [if_neg h1, if_neg h2, if_neg h3]
    have e0 : bt ([byteOf (240 + r / 262144), byteOf (128 + r / 4096 % 64), byteOf (128 + r / 64 % 64), byteOf (128 + r % 64)] ++ t) 0 = 240 + r / 262144 := byteOf_nat (by omega) (by omega)
    have e1 : bt ([byteOf (240 + r / 262144), byteOf (128 + r / 4096 % 64), byteOf (128 + r / 64 % 64), byteOf (128 + r % 64)] ++ t) 1 = 128 + r / 4096 % 64 := byteOf_nat (by omega) (by omega)
    have e2 : bt ([byteOf (240 + r / 262144), byteOf (128 + r / 4096 % 64), byteOf (128 + r / 64 % 64), byteOf (128 + r % 64)] ++ t) 2 = 128 + r / 64 % 64 := byteOf_nat (by omega) (by omega)
    have e3 : bt ([byteOf (240 + r / 262144), byteOf (128 + r / 4096 % 64), byteOf (128 + r / 64 % 64), byteOf (128 + r % 64)] ++ t) 3 = 128 + r % 64 := byteOf_nat (by omega) (by omega)
    unfold dec1 val2 val3 val4 cont
    rw [e0, e1, e2, e3, if_neg (by omega), if_neg (by omega), if_neg (by omega), if_pos (by simp only [List.length_append, List.length_cons]; omega)]
    congr 1
    omega

theorem uDec_enc (l : List Int) (t : List UInt8) : uDec (uEnc l ++ t) = l.map cpFix ++ uDec t := by
  induction l with
  | nil => rfl
  | cons x l ih =>
    have e : uEnc (x :: l) ++ t = enc0 (cpFix x) ++ (uEnc l ++ t) := by simp [uEnc, enc1]
    have hs := cpSize_le (cpFix x)
    have hl := enc0_len (cpFix x)
    rw [e, uDec_step (by rw [List.length_append]; omega), dec1_enc0 (cpFix_ok x)]
    simp only [List.map_cons, List.cons_append]
    rw [Nat.max_eq_left hs.1, ← hl, List.drop_left, ih]

theorem uVal_enc (l : List Int) (t : List UInt8) : uVal (uEnc l ++ t) = uVal t := by
  induction l with
  | nil => rfl
  | cons x l ih =>
    have e : uEnc (x :: l) ++ t = enc0 (cpFix x) ++ (uEnc l ++ t) := by simp [uEnc, enc1]
    have hs := cpSize_le (cpFix x)
    have hl := enc0_len (cpFix x)
    rw [e, uVal_step (by rw [List.length_append]; omega), dec1_enc0 (cpFix_ok x)]
    simp only []
    rw [Nat.max_eq_left hs.1, decide_eq_true (by omega : 0 < cpSize (cpFix x)), Bool.true_and, ← hl, List.drop_left, ih]

theorem getD_eq_of_bt {l : List UInt8} {j : Nat} {n : Int} (h : bt l j = n) : l.getD j 0 = byteOf n := by
  rw [← h]; unfold bt; exact (byteOf_self _).symm

set_option maxRecDepth 20000 in
theorem ex1 {l : List UInt8} (h : 0 < l.length) : ∃ a t, l = a :: t := by
  cases l with
  | nil => simp at h
  | cons a t => exact ⟨a, t, rfl⟩
theorem ex2 {l : List UInt8} (h : 2 ≤ l.length) : ∃ a b t, l = a :: b :: t := by
  obtain ⟨a, t, rfl⟩ := ex1 (l := l) (by omega)
  obtain ⟨b, t, rfl⟩ := ex1 (l := t) (by simp at h; omega)
  exact ⟨a, b, t, rfl⟩
theorem ex3 {l : List UInt8} (h : 3 ≤ l.length) : ∃ a b c t, l = a :: b :: c :: t := by
  obtain ⟨a, b, t, rfl⟩ := ex2 (l := l) (by omega)
  obtain ⟨c, t, rfl⟩ := ex1 (l := t) (by simp at h; omega)
  exact ⟨a, b, c, t, rfl⟩
theorem ex4 {l : List UInt8} (h : 4 ≤ l.length) : ∃ a b c d t, l = a :: b :: c :: d :: t := by
  obtain ⟨a, b, c, t, rfl⟩ := ex3 (l := l) (by omega)
  obtain ⟨d, t, rfl⟩ := ex1 (l := t) (by simp at h; omega)
  exact ⟨a, b, c, d, t, rfl⟩

/-- Where a code point stands, its bytes are those that it is encoded as. -/
theorem take_dec1 {l : List UInt8} (h : 0 < (dec1 l).2) (hl : 0 < l.length) : l.take (dec1 l).2 = enc1 (dec1 l).1 := by
  have ho := dec1_ok l
  unfold enc1
  rw [cpFix_of ho]
  have b0 := bt_range l 0
  have b1 := bt_range l 1
  have b2 := bt_range l 2
  have b3 := bt_range l 3
  by_cases c1 : bt l 0 < 128
  · have e : dec1 l = (bt l 0, 1) := by unfold dec1; rw [if_pos c1]
    rw [e]
    obtain ⟨a, t, rfl⟩ := ex1 hl
    have e0 : bt (a :: t) 0 = (a.toNat : Int) := rfl
    unfold enc0
    simp only []
    rw [if_pos c1, e0, byteOf_self]; rfl
  by_cases c2 : 2 ≤ l.length ∧ (192 ≤ bt l 0 ∧ bt l 0 < 224) ∧ cont (bt l 1) ∧ 128 ≤ val2 l
  · have e : dec1 l = (val2 l, 2) := by unfold dec1; rw [if_neg c1, if_pos c2]
    rw [e]
    obtain ⟨a, b, t, rfl⟩ := ex2 c2.1
    have e0 : bt (a :: b :: t) 0 = (a.toNat : Int) := rfl
    have e1 : bt (a :: b :: t) 1 = (b.toNat : Int) := rfl
    unfold val2 cont at c2
    unfold enc0 val2
    rw [e0, e1] at c2 ⊢
    simp only []
    rw [if_neg (by omega), if_pos (by omega), show (192 : Int) + (((a.toNat : Int) - 192) * 64 + ((b.toNat : Int) - 128)) / 64 = (a.toNat : Int) from by omega,
      show (128 : Int) + (((a.toNat : Int) - 192) * 64 + ((b.toNat : Int) - 128)) % 64 = (b.toNat : Int) from by omega, byteOf_self, byteOf_self]
    rfl
  by_cases c3 : 3 ≤ l.length ∧ (224 ≤ bt l 0 ∧ bt l 0 < 240) ∧ cont (bt l 1) ∧ cont (bt l 2) ∧ 2048 ≤ val3 l ∧ (val3 l < 55296 ∨ 57343 < val3 l)
  · have e : dec1 l = (val3 l, 3) := by unfold dec1; rw [if_neg c1, if_neg c2, if_pos c3]
    rw [e]
    clear c2
    obtain ⟨a, b, c, t, rfl⟩ := ex3 c3.1
    have e0 : bt (a :: b :: c :: t) 0 = (a.toNat : Int) := rfl
    have e1 : bt (a :: b :: c :: t) 1 = (b.toNat : Int) := rfl
    have e2 : bt (a :: b :: c :: t) 2 = (c.toNat : Int) := rfl
    unfold val3 cont at c3
    unfold enc0 val3
    rw [e0, e1, e2] at c3 ⊢
    simp only []
    rw [if_neg (by omega), if_neg (by omega), if_pos (by omega), show (224 : Int) + ((((a.toNat : Int) - 224) * 64 + ((b.toNat : Int) - 128)) * 64 + ((c.toNat : Int) - 128)) / 4096 = (a.toNat : Int) from by omega,
      show (128 : Int) + ((((a.toNat : Int) - 224) * 64 + ((b.toNat : Int) - 128)) * 64 + ((c.toNat : Int) - 128)) / 64 % 64 = (b.toNat : Int) from by omega,
      show (128 : Int) + ((((a.toNat : Int) - 224) * 64 + ((b.toNat : Int) - 128)) * 64 + ((c.toNat : Int) - 128)) % 64 = (c.toNat : Int) from by omega, byteOf_self, byteOf_self, byteOf_self]
    rfl
  by_cases c4 : 4 ≤ l.length ∧ (240 ≤ bt l 0 ∧ bt l 0 < 248) ∧ cont (bt l 1) ∧ cont (bt l 2) ∧ cont (bt l 3) ∧ 65536 ≤ val4 l ∧ val4 l ≤ 1114111
  · have e : dec1 l = (val4 l, 4) := by unfold dec1; rw [if_neg c1, if_neg c2, if_neg c3, if_pos c4]
    rw [e]
    clear c2 c3
    obtain ⟨a, b, c, d, t, rfl⟩ := ex4 c4.1
    have e0 : bt (a :: b :: c :: d :: t) 0 = (a.toNat : Int) := rfl
    have e1 : bt (a :: b :: c :: d :: t) 1 = (b.toNat : Int) := rfl
    have e2 : bt (a :: b :: c :: d :: t) 2 = (c.toNat : Int) := rfl
    have e3 : bt (a :: b :: c :: d :: t) 3 = (d.toNat : Int) := rfl
    unfold val4 cont at c4
    unfold enc0 val4
    rw [e0, e1, e2, e3] at c4 ⊢
    simp only []
    rw [if_neg (by omega), if_neg (by omega), if_neg (by omega), show (240 : Int) + (((((a.toNat : Int) - 240) * 64 + ((b.toNat : Int) - 128)) * 64 + ((c.toNat : Int) - 128)) * 64 + ((d.toNat : Int) - 128)) / 262144 = (a.toNat : Int) from by omega,
      show (128 : Int) + (((((a.toNat : Int) - 240) * 64 + ((b.toNat : Int) - 128)) * 64 + ((c.toNat : Int) - 128)) * 64 + ((d.toNat : Int) - 128)) / 4096 % 64 = (b.toNat : Int) from by omega,
      show (128 : Int) + (((((a.toNat : Int) - 240) * 64 + ((b.toNat : Int) - 128)) * 64 + ((c.toNat : Int) - 128)) * 64 + ((d.toNat : Int) - 128)) / 64 % 64 = (c.toNat : Int) from by omega,
      show (128 : Int) + (((((a.toNat : Int) - 240) * 64 + ((b.toNat : Int) - 128)) * 64 + ((c.toNat : Int) - 128)) * 64 + ((d.toNat : Int) - 128)) % 64 = (d.toNat : Int) from by omega, byteOf_self, byteOf_self, byteOf_self, byteOf_self]
    rfl
  · have e : dec1 l = (65533, 0) := by unfold dec1; rw [if_neg c1, if_neg c2, if_neg c3, if_neg c4]
    rw [e] at h
    simp at h

theorem uEnc_dec (l : List UInt8) : uVal l = true → uEnc (uDec l) = l := by
  suffices h : ∀ (n : Nat) (l : List UInt8), l.length ≤ n → uVal l = true → uEnc (uDec l) = l from h _ l (Nat.le_refl _)
  intro n
  induction n with
  | zero => intro l h _; rw [List.eq_nil_of_length_eq_zero (by omega : l.length = 0)]; rfl
  | succ n ih =>
    intro l hl hv
    rcases Nat.eq_zero_or_pos l.length with h0 | h0
    · rw [List.eq_nil_of_length_eq_zero h0]; rfl
    · rw [uVal_step h0, Bool.and_eq_true] at hv
      have hp := of_decide_eq_true hv.1
      have ht := take_dec1 hp h0
      have := ih (l.drop (max (dec1 l).2 1)) (by rw [List.length_drop]; omega) hv.2
      rw [uDec_step h0]
      have e : uEnc ((dec1 l).1 :: uDec (l.drop (max (dec1 l).2 1))) = enc1 (dec1 l).1 ++ uEnc (uDec (l.drop (max (dec1 l).2 1))) := by simp [uEnc]
      rw [e, this, ← ht, Nat.max_eq_left (by omega), List.take_append_drop]

set_option maxRecDepth 20000 in
theorem uDec_ok (l : List UInt8) : ∀ r ∈ uDec l, cpOk r = true := by
  suffices h : ∀ (n : Nat) (l : List UInt8), l.length ≤ n → ∀ r ∈ uDec l, cpOk r = true from h _ l (Nat.le_refl _)
  intro n
  induction n with
  | zero => intro l h; rw [List.eq_nil_of_length_eq_zero (by omega : l.length = 0)]; simp [uDec_nil]
  | succ n ih =>
    intro l hl r hr
    rcases Nat.eq_zero_or_pos l.length with h0 | h0
    · rw [List.eq_nil_of_length_eq_zero h0] at hr; simp [uDec_nil] at hr
    · rw [uDec_step h0, List.mem_cons] at hr
      rcases hr with rfl | hr
      · exact dec1_ok l
      · exact ih _ (by rw [List.length_drop]; omega) r hr

theorem map_cpFix {l : List Int} (h : ∀ r ∈ l, cpOk r = true) : l.map cpFix = l := by
  induction l with
  | nil => rfl
  | cons x l ih =>
    rw [List.map_cons, cpFix_of (h x (by simp)), ih fun r hr => h r (by simp [hr])]

theorem uDec_append {a : List UInt8} (h : uVal a = true) (b : List UInt8) : uDec (a ++ b) = uDec a ++ uDec b := by
  have := uDec_enc (uDec a) b
  rwa [uEnc_dec a h, map_cpFix (uDec_ok a)] at this

theorem uVal_iff (b : List UInt8) : uVal b = decide (uEnc (uDec b) = b) := by
  by_cases h : uVal b = true
  · rw [h, decide_eq_true (uEnc_dec b h)]
  · rw [Bool.eq_false_iff.2 h, decide_eq_false]
    intro e
    apply h
    rw [← e]
    have := uVal_enc (uDec b) []
    rwa [List.append_nil] at this
end Go.Proofs.YtnnphploekchbaaDoor

