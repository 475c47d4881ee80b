/- The walks of the reference's has, In, Percent, Hex, Plain. -/
import Derived.Test.YtnnphploekchbaaDoorPctC
import Derived.IntWalk
namespace Go.Proofs.YtnnphploekchbaaDoor
set_option linter.all false
open Go.RowKit

theorem beq_byte {a b : UInt8} (h : a = b) : ((a.toNat : Int) == (b.toNat : Int)) = true := by rw [h]; simp
theorem beq_byte_no {a b : UInt8} (h : a ≠ b) : ((a.toNat : Int) == (b.toNat : Int)) = false := by
  rw [beq_eq_false_iff_ne]; intro e; exact h (byte_ext (by omega))
theorem mem_of_gb {t : List UInt8} {j : Nat} (h : j < t.length) {c : UInt8} (e : gb t j = c) : t.contains c = true := by
  have := gb_some h
  rw [e] at this
  have hm := List.mem_of_getElem? this
  simpa using hm
theorem not_mem_gb {t : List UInt8} {c : UInt8} (h : ∀ k, k < t.length → gb t k ≠ c) : t.contains c = false := by
  rw [Bool.eq_false_iff]
  intro hc
  have hm : c ∈ t := by simpa using hc
  obtain ⟨k, hk⟩ := List.getElem?_of_mem hm
  have hl : k < t.length := (List.getElem?_eq_some_iff.1 hk).1
  exact h k hl (gb_of hk)

set_option maxRecDepth 100000 in
set_option maxHeartbeats 1000000 in
theorem rhas_any (t : List UInt8) (c : UInt8) (w : World) (ht : t.length ≤ 100000) : Calls Tryd.prog 87 #[.string (str t), .int .u8 (c.toNat : Int)] w fun e w' => e = .returned (.bool (t.contains c)) ∧ w = w' := by
  have hsz := str_size t
  have hg := str_get t
  go_enter Tryd.func87, Tryd.ntmps87
  go_wp2
  go_loopg [5] (t.length) (fun k i wr => ∃ j : Nat, k = t.length - j ∧ j ≤ t.length ∧ i = .int .i64 j ∧ Hid (∀ k, k < j → gb t k ≠ c) ∧ w = wr)
  case atStart => exact ⟨0, rfl, Nat.zero_le _, rfl, (fun k hk => by omega), rfl⟩
  case round =>
    obtain ⟨j, rfl, hj, rfl, hn, rfl⟩ := hrel
    by_cases hlt : j < t.length
    · have hlt1 : (j : Int) < (t.length : Int) := by omega
      have hj0 : (0 : Int) ≤ (j : Int) := by omega
      by_cases he : gb t j = c
      · have hb := beq_byte he
        have HE := Lib.hid he
        clear he
        go_wp2
        go_ret
        exact ⟨ret_bool (mem_of_gb hlt HE.out).symm, rfl⟩
      · have hb := beq_byte_no he
        have HE := Lib.hid he
        clear he
        go_wp2
        go_roundg (t.length - (j + 1))
        case measure => omega
        case rel =>
          refine ⟨j + 1, rfl, by omega, by go_num, fun k hk => ?_, rfl⟩
          by_cases e : k = j
          · rw [e]; exact HE.out
          · exact hn.out k (by omega)
    · obtain rfl : j = t.length := by omega
      go_wp2
      go_ret
      exact ⟨ret_bool (not_mem_gb hn.out).symm, rfl⟩

theorem pForm_alt_fin : ∀ k : Fin 256, pForm (UInt8.ofNat k.val) = !(alnum (UInt8.ofNat k.val) || txt6.contains (UInt8.ofNat k.val)) := by decide +kernel
theorem pForm_alt (c : UInt8) : pForm c = !(alnum c || txt6.contains c) := by
  have := pForm_alt_fin ⟨c.toNat, byte_lt c⟩
  simp only [UInt8.ofNat_toNat] at this
  exact this


set_option maxRecDepth 100000 in
set_option maxHeartbeats 4000000 in
theorem rin_any (s : Int) (c : UInt8) (w : World) : Calls Tryd.prog 70 #[.int .i64 s, .int .u8 (c.toNat : Int)] w fun e w' => e = .returned (.bool (pIn s c)) ∧ w = w' := by
  rcases s_cases s with rfl | rfl | rfl | rfl | rfl | rfl | rfl | ⟨h0, h1, h2, h3, h4, h5, h6⟩
  · have E := Lib.hid (show pIn 0 c = pLow c from rfl)
    rw [E.out]
    clear E
    go_enter Tryd.func70, Tryd.ntmps70
    go_wp2
    all_goals go_ret
    all_goals exact ⟨ret_bool (by unfold pLow; rw [Bool.eq_iff_iff]; simp; omega), rfl⟩
  · by_cases h : pLow c = true
    · have hl : (c.toNat : Int) < 32 ∨ 126 < (c.toNat : Int) := by unfold pLow at h; rw [decide_eq_true_eq] at h; omega
      have E := Lib.hid (show pIn 1 c = true from by unfold pIn; simp [h])
      rw [E.out]
      clear h E
      rcases hl with hl | hl
      all_goals
        go_enter Tryd.func70, Tryd.ntmps70
        go_wp2
        go_ret
        exact ⟨rfl, rfl⟩
    · have hl : ¬ (c.toNat : Int) < 32 ∧ ¬ 126 < (c.toNat : Int) := by unfold pLow at h; rw [decide_eq_true_eq] at h; omega
      obtain ⟨hl1, hl2⟩ := hl
      have E := Lib.hid (show pIn 1 c = txt1.contains c from by unfold pIn; simp [h])
      rw [E.out]
      clear h E
      go_enter Tryd.func70, Tryd.ntmps70
      go_wp2_with (go_at_call 87; go_must (go_fit (rhas_any txt1 c _ (by decide))); rintro e w1 ⟨rfl, rfl⟩)
      go_ret
      exact ⟨ret_bool (by first | rfl | simp), rfl⟩
  · by_cases h : pLow c = true
    · have hl : (c.toNat : Int) < 32 ∨ 126 < (c.toNat : Int) := by unfold pLow at h; rw [decide_eq_true_eq] at h; omega
      have E := Lib.hid (show pIn 2 c = true from by unfold pIn; simp [h])
      rw [E.out]
      clear h E
      rcases hl with hl | hl
      all_goals
        go_enter Tryd.func70, Tryd.ntmps70
        go_wp2
        go_ret
        exact ⟨rfl, rfl⟩
    · have hl : ¬ (c.toNat : Int) < 32 ∧ ¬ 126 < (c.toNat : Int) := by unfold pLow at h; rw [decide_eq_true_eq] at h; omega
      obtain ⟨hl1, hl2⟩ := hl
      have E := Lib.hid (show pIn 2 c = txt2.contains c from by unfold pIn; simp [h])
      rw [E.out]
      clear h E
      go_enter Tryd.func70, Tryd.ntmps70
      go_wp2_with (go_at_call 87; go_must (go_fit (rhas_any txt2 c _ (by decide))); rintro e w1 ⟨rfl, rfl⟩)
      go_ret
      exact ⟨ret_bool (by first | rfl | simp), rfl⟩
  · by_cases h : pLow c = true
    · have hl : (c.toNat : Int) < 32 ∨ 126 < (c.toNat : Int) := by unfold pLow at h; rw [decide_eq_true_eq] at h; omega
      have E := Lib.hid (show pIn 3 c = true from by unfold pIn; simp [h])
      rw [E.out]
      clear h E
      rcases hl with hl | hl
      all_goals
        go_enter Tryd.func70, Tryd.ntmps70
        go_wp2
        go_ret
        exact ⟨rfl, rfl⟩
    · have hl : ¬ (c.toNat : Int) < 32 ∧ ¬ 126 < (c.toNat : Int) := by unfold pLow at h; rw [decide_eq_true_eq] at h; omega
      obtain ⟨hl1, hl2⟩ := hl
      have E := Lib.hid (show pIn 3 c = txt3.contains c from by unfold pIn; simp [h])
      rw [E.out]
      clear h E
      go_enter Tryd.func70, Tryd.ntmps70
      go_wp2_with (go_at_call 87; go_must (go_fit (rhas_any txt3 c _ (by decide))); rintro e w1 ⟨rfl, rfl⟩)
      go_ret
      exact ⟨ret_bool (by first | rfl | simp), rfl⟩
  · by_cases h : pLow c = true
    · have hl : (c.toNat : Int) < 32 ∨ 126 < (c.toNat : Int) := by unfold pLow at h; rw [decide_eq_true_eq] at h; omega
      have E := Lib.hid (show pIn 4 c = true from by unfold pIn; simp [h])
      rw [E.out]
      clear h E
      rcases hl with hl | hl
      all_goals
        go_enter Tryd.func70, Tryd.ntmps70
        go_wp2
        go_ret
        exact ⟨rfl, rfl⟩
    · have hl : ¬ (c.toNat : Int) < 32 ∧ ¬ 126 < (c.toNat : Int) := by unfold pLow at h; rw [decide_eq_true_eq] at h; omega
      obtain ⟨hl1, hl2⟩ := hl
      have E := Lib.hid (show pIn 4 c = txt4.contains c from by unfold pIn; simp [h])
      rw [E.out]
      clear h E
      go_enter Tryd.func70, Tryd.ntmps70
      go_wp2_with (go_at_call 87; go_must (go_fit (rhas_any txt4 c _ (by decide))); rintro e w1 ⟨rfl, rfl⟩)
      go_ret
      exact ⟨ret_bool (by first | rfl | simp), rfl⟩
  · by_cases h : pLow c = true
    · have hl : (c.toNat : Int) < 32 ∨ 126 < (c.toNat : Int) := by unfold pLow at h; rw [decide_eq_true_eq] at h; omega
      have E := Lib.hid (show pIn 5 c = true from by unfold pIn; simp [h])
      rw [E.out]
      clear h E
      rcases hl with hl | hl
      all_goals
        go_enter Tryd.func70, Tryd.ntmps70
        go_wp2
        go_ret
        exact ⟨rfl, rfl⟩
    · have hl : ¬ (c.toNat : Int) < 32 ∧ ¬ 126 < (c.toNat : Int) := by unfold pLow at h; rw [decide_eq_true_eq] at h; omega
      obtain ⟨hl1, hl2⟩ := hl
      have E := Lib.hid (show pIn 5 c = txt5.contains c from by unfold pIn; simp [h])
      rw [E.out]
      clear h E
      go_enter Tryd.func70, Tryd.ntmps70
      go_wp2_with (go_at_call 87; go_must (go_fit (rhas_any txt5 c _ (by decide))); rintro e w1 ⟨rfl, rfl⟩)
      go_ret
      exact ⟨ret_bool (by first | rfl | simp), rfl⟩
  · have E := Lib.hid (show pIn 6 c = !(alnum c || txt6.contains c) from pForm_alt c)
    rw [E.out]
    clear E
    go_enter Tryd.func70, Tryd.ntmps70
    go_wp2_with (go_at_call 87; go_must (go_fit (rhas_any txt6 c _ (by decide))); rintro e w1 ⟨rfl, rfl⟩)
    all_goals go_ret
    all_goals refine ⟨ret_bool ?_, rfl⟩
    all_goals first
      | (have hx : alnum c = true := (by unfold alnum; rw [decide_eq_true_eq]; omega); rw [hx]; first | rfl | (simp; done) | (simp; intro _; omega))
      | (have hx : alnum c = false := (by unfold alnum; rw [decide_eq_false_iff_not]; omega); rw [hx]; first | rfl | (simp; done) | (simp; intro _; omega))
  · have e2 : pIn s c = false := by unfold pIn; rw [if_neg h0, if_neg h1, if_neg h2, if_neg h3, if_neg h4, if_neg h5, if_neg h6]
    rw [e2]
    have b0 : (s == 0) = false := beq_eq_false_iff_ne.2 h0
    have b1 : (s == 1) = false := beq_eq_false_iff_ne.2 h1
    have b2 : (s == 2) = false := beq_eq_false_iff_ne.2 h2
    have b3 : (s == 3) = false := beq_eq_false_iff_ne.2 h3
    have b4 : (s == 4) = false := beq_eq_false_iff_ne.2 h4
    have b5 : (s == 5) = false := beq_eq_false_iff_ne.2 h5
    have b6 : (s == 6) = false := beq_eq_false_iff_ne.2 h6
    clear e2 h0 h1 h2 h3 h4 h5 h6
    go_enter Tryd.func70, Tryd.ntmps70
    go_wp2
    all_goals go_ret
    all_goals exact ⟨rfl, rfl⟩

set_option maxRecDepth 100000 in
set_option maxHeartbeats 1000000 in
theorem rhex_any (c : UInt8) (w : World) : Calls Tryd.prog 99 #[.int .u8 (c.toNat : Int)] w fun e w' => e = .returned (.int .i64 (hexV c)) ∧ w = w' := by
  go_enter Tryd.func99, Tryd.ntmps99
  go_wp2
  all_goals go_ret
  all_goals exact ⟨ret_int (by unfold hexV; (repeat' split) <;> omega), rfl⟩
end Go.Proofs.YtnnphploekchbaaDoor

