/- The walk of puny.is. -/
import Derived.Test.YtalpkjdbennicaaPunyA
namespace Go.Proofs.Ytalpkjdbennicaa
set_option linter.all false
open Go.RowKit

theorem Rd.lit2 (w : World) (o : Obj) (us : Array Value) (e : TypeId) : Rd ((w.alloc o).alloc (.cells us e)) ((w.alloc o).alloc (.cells us e)).heap.size (some ⟨w.heap.size + 1, 0, none⟩) us.toList := by
  have := @Rd.lit (w.alloc o) us e (0, 0)
  have hs : (w.alloc o).heap.size = w.heap.size + 1 := by simp
  rwa [hs] at this
theorem uEnc_one_inj {r : Int} (h : cpOk r = true) (h2 : r ≠ 65533) : uEnc [r] ≠ uEnc [-1] := by
  intro e
  have e1 := uDec_enc [r] []
  have e2 := uDec_enc [-1] []
  rw [e, e2] at e1
  have : cpFix (-1) = cpFix r := by simpa using e1
  rw [cpFix_of h] at this
  exact h2 (this.symm.trans (by decide))
theorem uEnc_one_no {r : Int} (h : cpOk r = false) : uEnc [r] = uEnc [-1] := by
  unfold uEnc
  simp only [List.flatMap_cons, List.flatMap_nil]
  unfold enc1
  rw [cpFix_no h]; rfl
theorem is_plain (r : Int) : ((str (uEnc [r])).toList != (str (uEnc [-1])).toList || r == 65533) = cpOk r := by
  rw [str_toL, str_toL]
  by_cases h : cpOk r = true
  · rw [h]
    by_cases h2 : r = 65533
    · simp [h2]
    · have := uEnc_one_inj h h2
      simp [this]
  · have h := Bool.eq_false_iff.2 h
    rw [h, uEnc_one_no h]
    have h2 : r ≠ 65533 := by rintro rfl; exact absurd h (by decide)
    simp [h2]


set_option maxRecDepth 100000 in
set_option maxHeartbeats 8000000 in
theorem pis_any (r : Int) (w : World) : Calls Try.prog 66 #[.int .i32 r] w fun e w' => e = .returned (.bool (cpOk r)) ∧ Below w.heap.size w w' := by
  have hp := is_plain r
  by_cases hne : uEnc [r] = uEnc [-1]
  · have hb0 : ((str (uEnc [r])).toList != (str (uEnc [-1])).toList) = false := by rw [hne]; simp
    have hb : ((str (uEnc [r])).toList == (str (uEnc [-1])).toList) = true := by rw [hne]; simp
    rw [hb0, Bool.false_or] at hp
    have hq : (r == 65533) = cpOk r := hp
    have HF := Lib.hid hq
    clear hb0 hp hq hne
    have RA := Lib.hid (show Rd (w.alloc (.cells #[.int .i32 r] 21)).drew (w.alloc (.cells #[.int .i32 r] 21)).drew.heap.size (some ⟨w.heap.size, 0, none⟩) (runes [r]) from Rd.drew Rd.lit)
    have RB := Lib.hid (show Rd ((w.alloc (.cells #[.int .i32 r] 21)).alloc (.cells #[.int .i32 (-1)] 21)).drew ((w.alloc (.cells #[.int .i32 r] 21)).alloc (.cells #[.int .i32 (-1)] 21)).drew.heap.size (some ⟨w.heap.size, 0, none⟩) (runes [r]) from Rd.drew (Rd.new Rd.lit _))
    have RD := Lib.hid (show Rd ((w.alloc (.cells #[.int .i32 (-1)] 21)).alloc (.cells #[.int .i32 r] 21)).drew ((w.alloc (.cells #[.int .i32 (-1)] 21)).alloc (.cells #[.int .i32 r] 21)).drew.heap.size (some ⟨w.heap.size, 0, none⟩) (runes [-1]) from Rd.drew (Rd.new Rd.lit _))
    have R1 := Lib.hid (show Rd ((w.alloc (.cells #[.int .i32 r] 21)).alloc (.cells #[.int .i32 (-1)] 21)).drew ((w.alloc (.cells #[.int .i32 r] 21)).alloc (.cells #[.int .i32 (-1)] 21)).drew.heap.size (some ⟨w.heap.size + 1, 0, none⟩) (runes [-1]) from Rd.drew (Rd.lit2 w (.cells #[.int .i32 r] 21) #[.int .i32 (-1)] 21))
    have RC := Lib.hid (show Rd ((w.alloc (.cells #[.int .i32 (-1)] 21)).alloc (.cells #[.int .i32 r] 21)).drew ((w.alloc (.cells #[.int .i32 (-1)] 21)).alloc (.cells #[.int .i32 r] 21)).drew.heap.size (some ⟨w.heap.size + 1, 0, none⟩) (runes [r]) from Rd.drew (Rd.lit2 w (.cells #[.int .i32 (-1)] 21) #[.int .i32 r] 21))
    have RE := Lib.hid (show ∀ W : World, Rd (W.alloc (.cells #[.int .i32 (-1)] 21)) (W.alloc (.cells #[.int .i32 (-1)] 21)).heap.size (some ⟨W.heap.size, 0, none⟩) (runes [-1]) from fun W => Rd.lit)
    have K := Lib.hid fun (A : Option Addr) (c : Nat) (l : List UInt8) (w : World) (h : Rd w w.heap.size A (bytes l)) => run_strM (P := Try.prog) (src := 30) (dst := 9) (e := 5) (c := c) Try.underlying30 Try.underlying5 Try.underlying9 h rfl
    go_enter Try.func66, Try.ntmps66
    go_wp2
    first
      | (go_region_with (first
          | (go_at_call 32; refine (encode_any _ 1 [r] _ ?_ (Nat.le_refl 1) (by decide) (by simp)).mono ?_; (first | with_reducible exact RA.out | with_reducible exact RB.out | with_reducible exact RC.out); rintro e w5 ⟨v5, rfl, hown5, hb5⟩; rw [bytes_len] at hown5; obtain ⟨A5, c5, rfl, hc5, hm5, hx5⟩ := own_rd hown5; clear hown5; have hs5 := K.out A5 c5 _ w5 hx5; have hs5' := fun o => K.out A5 c5 _ (w5.alloc o) (Rd.new hx5 o); have hbw : Below w.heap.size w w5 := (by first | exact bnext (Below.drew (bnew (Below.refl _ _) _)) hb5 | exact bnext (Below.drew (bnew (bnew (Below.refl _ _) _) _)) hb5))
          | (go_at_call 32; refine (encode_any _ 1 [-1] _ ?_ (Nat.le_refl 1) (by decide) (by simp)).mono ?_; (first | with_reducible exact RE.out _ | with_reducible exact Rd.next R1.out hb5 | with_reducible exact Rd.next RD.out hb5); rintro e w6 ⟨v6, rfl, hown6, hb6⟩; rw [bytes_len] at hown6; obtain ⟨A6, c6, rfl, hc6, hm6, hx6⟩ := own_rd hown6; clear hown6; have hs6 := K.out A6 c6 _ w6 hx6; have hs56 := K.out A5 c5 _ w6 (Rd.next (by first | exact hx5 | exact Rd.new hx5 _) hb6); have hbz : Below w.heap.size w w6 := (by first | exact bnext hbw hb6 | exact bnext (bnew hbw _) hb6))))
      | fail
    all_goals
      go_wp2
      go_ret
      exact ⟨ret_bool HF.out, hbz⟩
  · have hb0 : ((str (uEnc [r])).toList != (str (uEnc [-1])).toList) = true := by rw [str_toL, str_toL]; simpa using hne
    have hb : ((str (uEnc [r])).toList == (str (uEnc [-1])).toList) = false := by rw [str_toL, str_toL]; simpa using hne
    have hb2 : (!((str (uEnc [r])).toList == (str (uEnc [-1])).toList)) = true := by rw [hb]; rfl
    rw [hb0, Bool.true_or] at hp
    have hq : true = cpOk r := hp
    have HF := Lib.hid hq
    clear hb0 hp hq hne
    have RA := Lib.hid (show Rd (w.alloc (.cells #[.int .i32 r] 21)).drew (w.alloc (.cells #[.int .i32 r] 21)).drew.heap.size (some ⟨w.heap.size, 0, none⟩) (runes [r]) from Rd.drew Rd.lit)
    have RB := Lib.hid (show Rd ((w.alloc (.cells #[.int .i32 r] 21)).alloc (.cells #[.int .i32 (-1)] 21)).drew ((w.alloc (.cells #[.int .i32 r] 21)).alloc (.cells #[.int .i32 (-1)] 21)).drew.heap.size (some ⟨w.heap.size, 0, none⟩) (runes [r]) from Rd.drew (Rd.new Rd.lit _))
    have RD := Lib.hid (show Rd ((w.alloc (.cells #[.int .i32 (-1)] 21)).alloc (.cells #[.int .i32 r] 21)).drew ((w.alloc (.cells #[.int .i32 (-1)] 21)).alloc (.cells #[.int .i32 r] 21)).drew.heap.size (some ⟨w.heap.size, 0, none⟩) (runes [-1]) from Rd.drew (Rd.new Rd.lit _))
    have R1 := Lib.hid (show Rd ((w.alloc (.cells #[.int .i32 r] 21)).alloc (.cells #[.int .i32 (-1)] 21)).drew ((w.alloc (.cells #[.int .i32 r] 21)).alloc (.cells #[.int .i32 (-1)] 21)).drew.heap.size (some ⟨w.heap.size + 1, 0, none⟩) (runes [-1]) from Rd.drew (Rd.lit2 w (.cells #[.int .i32 r] 21) #[.int .i32 (-1)] 21))
    have RC := Lib.hid (show Rd ((w.alloc (.cells #[.int .i32 (-1)] 21)).alloc (.cells #[.int .i32 r] 21)).drew ((w.alloc (.cells #[.int .i32 (-1)] 21)).alloc (.cells #[.int .i32 r] 21)).drew.heap.size (some ⟨w.heap.size + 1, 0, none⟩) (runes [r]) from Rd.drew (Rd.lit2 w (.cells #[.int .i32 (-1)] 21) #[.int .i32 r] 21))
    have RE := Lib.hid (show ∀ W : World, Rd (W.alloc (.cells #[.int .i32 (-1)] 21)) (W.alloc (.cells #[.int .i32 (-1)] 21)).heap.size (some ⟨W.heap.size, 0, none⟩) (runes [-1]) from fun W => Rd.lit)
    have K := Lib.hid fun (A : Option Addr) (c : Nat) (l : List UInt8) (w : World) (h : Rd w w.heap.size A (bytes l)) => run_strM (P := Try.prog) (src := 30) (dst := 9) (e := 5) (c := c) Try.underlying30 Try.underlying5 Try.underlying9 h rfl
    go_enter Try.func66, Try.ntmps66
    go_wp2
    first
      | (go_region_with (first
          | (go_at_call 32; refine (encode_any _ 1 [r] _ ?_ (Nat.le_refl 1) (by decide) (by simp)).mono ?_; (first | with_reducible exact RA.out | with_reducible exact RB.out | with_reducible exact RC.out); rintro e w5 ⟨v5, rfl, hown5, hb5⟩; rw [bytes_len] at hown5; obtain ⟨A5, c5, rfl, hc5, hm5, hx5⟩ := own_rd hown5; clear hown5; have hs5 := K.out A5 c5 _ w5 hx5; have hs5' := fun o => K.out A5 c5 _ (w5.alloc o) (Rd.new hx5 o); have hbw : Below w.heap.size w w5 := (by first | exact bnext (Below.drew (bnew (Below.refl _ _) _)) hb5 | exact bnext (Below.drew (bnew (bnew (Below.refl _ _) _) _)) hb5))
          | (go_at_call 32; refine (encode_any _ 1 [-1] _ ?_ (Nat.le_refl 1) (by decide) (by simp)).mono ?_; (first | with_reducible exact RE.out _ | with_reducible exact Rd.next R1.out hb5 | with_reducible exact Rd.next RD.out hb5); rintro e w6 ⟨v6, rfl, hown6, hb6⟩; rw [bytes_len] at hown6; obtain ⟨A6, c6, rfl, hc6, hm6, hx6⟩ := own_rd hown6; clear hown6; have hs6 := K.out A6 c6 _ w6 hx6; have hs56 := K.out A5 c5 _ w6 (Rd.next (by first | exact hx5 | exact Rd.new hx5 _) hb6); have hbz : Below w.heap.size w w6 := (by first | exact bnext hbw hb6 | exact bnext (bnew hbw _) hb6))))
      | fail
    all_goals
      go_wp2
      go_ret
      exact ⟨ret_bool HF.out, hbz⟩
end Go.Proofs.Ytalpkjdbennicaa
