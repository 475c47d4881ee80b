/- The language's own reading of a text as code points is utf.Decode's. -/
import Derived.Test.YtalpkjdbennicaaStr
namespace Go.Proofs.Ytalpkjdbennicaa
set_option linter.all false
open Go.RowKit

theorem get_bt (s : ByteArray) (i k : Nat) : ((s.get! (i + k)).toNat : Int) = bt (s.data.toList.drop i) k := by
  unfold bt
  rw [List.getD_eq_getElem?_getD, List.getElem?_drop]
  show (((s.data[i + k]!).toNat : Nat) : Int) = _
  rw [getElem!_def, Array.getElem?_toList]
  cases s.data[i + k]? <;> rfl

theorem decode_is (s : ByteArray) {i : Nat} (h : i < s.size) :
    ((Utf8.decode s i).1 : Int) = (dec1 (s.data.toList.drop i)).1 ∧ (Utf8.decode s i).2 = max (dec1 (s.data.toList.drop i)).2 1 := by
  have g0 := get_bt s i 0
  have g1 := get_bt s i 1
  have g2 := get_bt s i 2
  have g3 := get_bt s i 3
  have hl : (s.data.toList.drop i).length = s.size - i := by rw [List.length_drop]; rfl
  generalize s.data.toList.drop i = l at *
  rw [Nat.add_zero] at g0
  have e0 : (s.get! (i + 0)) = s.get! i := rfl
  obtain ⟨a, ha⟩ : ∃ a, a = (s.get! i).toNat := ⟨_, rfl⟩
  obtain ⟨b, hb⟩ : ∃ a, a = (s.get! (i + 1)).toNat := ⟨_, rfl⟩
  obtain ⟨c, hc⟩ : ∃ a, a = (s.get! (i + 2)).toNat := ⟨_, rfl⟩
  obtain ⟨d, hd⟩ : ∃ a, a = (s.get! (i + 3)).toNat := ⟨_, rfl⟩
  have ra : a < 256 := by rw [ha]; exact byte_lt _
  have rb : b < 256 := by rw [hb]; exact byte_lt _
  have rc : c < 256 := by rw [hc]; exact byte_lt _
  have rd : d < 256 := by rw [hd]; exact byte_lt _
  have hdec : Utf8.decode s i =
      if a < 128 then (a, 1)
      else if a / 32 = 6 ∧ (i + 1 < s.size ∧ b / 64 = 2) then (if 128 ≤ a % 32 * 64 + b % 64 then (a % 32 * 64 + b % 64, 2) else (65533, 1))
      else if (a / 16 = 14 ∧ (i + 1 < s.size ∧ b / 64 = 2)) ∧ (i + 2 < s.size ∧ c / 64 = 2) then (if 2048 ≤ a % 16 * 4096 + b % 64 * 64 + c % 64 ∧ (a % 16 * 4096 + b % 64 * 64 + c % 64 < 55296 ∨ (57344 ≤ a % 16 * 4096 + b % 64 * 64 + c % 64 ∧ a % 16 * 4096 + b % 64 * 64 + c % 64 ≤ 1114111)) then (a % 16 * 4096 + b % 64 * 64 + c % 64, 3) else (65533, 1))
      else if ((a / 8 = 30 ∧ (i + 1 < s.size ∧ b / 64 = 2)) ∧ (i + 2 < s.size ∧ c / 64 = 2)) ∧ (i + 3 < s.size ∧ d / 64 = 2) then (if 65536 ≤ a % 8 * 262144 + b % 64 * 4096 + c % 64 * 64 + d % 64 ∧ (a % 8 * 262144 + b % 64 * 4096 + c % 64 * 64 + d % 64 < 55296 ∨ (57344 ≤ a % 8 * 262144 + b % 64 * 4096 + c % 64 * 64 + d % 64 ∧ a % 8 * 262144 + b % 64 * 4096 + c % 64 * 64 + d % 64 ≤ 1114111)) then (a % 8 * 262144 + b % 64 * 4096 + c % 64 * 64 + d % 64, 4) else (65533, 1))
      else (65533, 1) := by
    unfold Utf8.decode Utf8.valid Utf8.runeError
    simp only [Nat.add_zero, ← ha, ← hb, ← hc, ← hd, Bool.and_eq_true, Bool.or_eq_true, beq_iff_eq, decide_eq_true_eq, ge_iff_le]
    have q : ∀ x : Nat, (0 ≤ (x : Int) ∧ (x : Int) < 55296 ∨ 57344 ≤ (x : Int) ∧ (x : Int) ≤ 1114111) = (x < 55296 ∨ 57344 ≤ x ∧ x ≤ 1114111) := fun x => propext (by omega)
    simp only [q]
  rw [hdec]
  rw [← ha] at g0
  rw [← hb] at g1
  rw [← hc] at g2
  rw [← hd] at g3
  rw [dec1_eq, ← g0, ← g1, ← g2, ← g3, hl]
  clear hdec g0 g1 g2 g3 ha hb hc hd e0 hl
  by_cases c1 : a < 128
  · have e : dec4 (s.size - i) (a : Int) (b : Int) (c : Int) (d : Int) = ((a : Int), 1) := by unfold dec4; rw [if_pos (by omega)]
    rw [if_pos c1, e]; exact ⟨rfl, rfl⟩
  rw [if_neg c1]
  by_cases c2 : a / 32 = 6 ∧ (i + 1 < s.size ∧ b / 64 = 2)
  · rw [if_pos c2]
    by_cases v2 : 128 ≤ a % 32 * 64 + b % 64
    · have e : dec4 (s.size - i) (a : Int) (b : Int) (c : Int) (d : Int) = (((a : Int) - 192) * 64 + ((b : Int) - 128), 2) := by unfold dec4 cont; rw [if_neg (by omega), if_pos (by omega)]
      rw [if_pos v2, e]; exact ⟨by simp only []; omega, rfl⟩
    · have e : dec4 (s.size - i) (a : Int) (b : Int) (c : Int) (d : Int) = (65533, 0) := by unfold dec4 cont; rw [if_neg (by omega), if_neg (by omega), if_neg (by omega), if_neg (by omega)]
      rw [if_neg v2, e]; exact ⟨rfl, rfl⟩
  rw [if_neg c2]
  by_cases c3 : (a / 16 = 14 ∧ (i + 1 < s.size ∧ b / 64 = 2)) ∧ (i + 2 < s.size ∧ c / 64 = 2)
  · rw [if_pos c3]
    by_cases v3 : 2048 ≤ a % 16 * 4096 + b % 64 * 64 + c % 64 ∧ (a % 16 * 4096 + b % 64 * 64 + c % 64 < 55296 ∨ (57344 ≤ a % 16 * 4096 + b % 64 * 64 + c % 64 ∧ a % 16 * 4096 + b % 64 * 64 + c % 64 ≤ 1114111))
    · have e : dec4 (s.size - i) (a : Int) (b : Int) (c : Int) (d : Int) = ((((a : Int) - 224) * 64 + ((b : Int) - 128)) * 64 + ((c : Int) - 128), 3) := by unfold dec4 cont; rw [if_neg (by omega), if_neg (by omega), if_pos (by omega)]
      rw [if_pos v3, e]; exact ⟨by simp only []; omega, rfl⟩
    · have e : dec4 (s.size - i) (a : Int) (b : Int) (c : Int) (d : Int) = (65533, 0) := by unfold dec4 cont; rw [if_neg (by omega), if_neg (by omega), if_neg (by omega), if_neg (by omega)]
      rw [if_neg v3, e]; exact ⟨rfl, rfl⟩
  rw [if_neg c3]
  by_cases c4 : ((a / 8 = 30 ∧ (i + 1 < s.size ∧ b / 64 = 2)) ∧ (i + 2 < s.size ∧ c / 64 = 2)) ∧ (i + 3 < s.size ∧ d / 64 = 2)
  · rw [if_pos c4]
    by_cases v4 : 65536 ≤ a % 8 * 262144 + b % 64 * 4096 + c % 64 * 64 + d % 64 ∧ (a % 8 * 262144 + b % 64 * 4096 + c % 64 * 64 + d % 64 < 55296 ∨ (57344 ≤ a % 8 * 262144 + b % 64 * 4096 + c % 64 * 64 + d % 64 ∧ a % 8 * 262144 + b % 64 * 4096 + c % 64 * 64 + d % 64 ≤ 1114111))
    · have e : dec4 (s.size - i) (a : Int) (b : Int) (c : Int) (d : Int) = (((((a : Int) - 240) * 64 + ((b : Int) - 128)) * 64 + ((c : Int) - 128)) * 64 + ((d : Int) - 128), 4) := by unfold dec4 cont; rw [if_neg (by omega), if_neg (by omega), if_neg (by omega), if_pos (by omega)]
      rw [if_pos v4, e]; exact ⟨by simp only []; omega, rfl⟩
    · have e : dec4 (s.size - i) (a : Int) (b : Int) (c : Int) (d : Int) = (65533, 0) := by unfold dec4 cont; rw [if_neg (by omega), if_neg (by omega), if_neg (by omega), if_neg (by omega)]
      rw [if_neg v4, e]; exact ⟨rfl, rfl⟩
  · have e : dec4 (s.size - i) (a : Int) (b : Int) (c : Int) (d : Int) = (65533, 0) := by unfold dec4 cont; rw [if_neg (by omega), if_neg (by omega), if_neg (by omega), if_neg (by omega)]
    rw [if_neg c4, e]; exact ⟨rfl, rfl⟩

theorem runesFrom_is (s : ByteArray) : ∀ (f i : Nat) (acc : Array Value), s.size - i ≤ f → Conv.runesFrom s f i acc = acc ++ (runes (uDec (s.data.toList.drop i))).toArray := by
  intro f
  induction f with
  | zero =>
    intro i acc hf
    have hl : s.data.toList.drop i = [] := List.drop_eq_nil_of_le (by show s.size ≤ i; omega)
    rw [hl]
    simp [Conv.runesFrom, uDec_nil, runes]
  | succ f ih =>
    intro i acc hf
    unfold Conv.runesFrom
    by_cases h : i < s.size
    · rw [if_pos h]
      have hlen : (s.data.toList.drop i).length = s.size - i := by rw [List.length_drop]; rfl
      obtain ⟨h1, h2⟩ := decode_is s h
      have e : (Utf8.decode s i) = ((Utf8.decode s i).1, (Utf8.decode s i).2) := rfl
      rw [e]
      simp only []
      rw [h2, ih _ _ (by omega), uDec_step (l := s.data.toList.drop i) (by omega)]
      rw [List.drop_drop, show Int.ofNat (Utf8.decode s i).1 = (dec1 (s.data.toList.drop i)).1 from h1]
      simp [runes]
    · rw [if_neg h]
      have hl : s.data.toList.drop i = [] := List.drop_eq_nil_of_le (by show s.size ≤ i; omega)
      rw [hl]
      simp [uDec_nil, runes]

theorem runes_of_text (s : ByteArray) : Conv.runesFrom s s.size 0 #[] = (runes (uDec s.data.toList)).toArray := by
  have := runesFrom_is s s.size 0 #[] (by omega)
  simpa using this
end Go.Proofs.Ytalpkjdbennicaa
