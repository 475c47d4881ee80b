/- The walks of path.dots, Single, Double. -/
import Derived.Test.YtnnphploekchbaaDoorPathA
namespace Go.Proofs.YtnnphploekchbaaDoor
set_option linter.all false
open Go.RowKit

theorem dot3_tk (t : List UInt8) : dot3 (tk t 3) = dot3 t := by unfold dot3 tk; rw [List.take_take]; rfl
theorem dotN_map1 {t : List UInt8} {n : Nat} {o : Option Nat} (h : o = (dotN t).map (· + n)) {u : List UInt8} (e : dotN t = (dotN u).map (· + 1)) : o = (dotN u).map (· + (n + 1)) := by
  rw [h, e]
  cases dotN u with
  | none => rfl
  | some k => show some (k + 1 + n) = some (k + (n + 1)); congr 1; omega
set_option maxRecDepth 100000 in
set_option maxHeartbeats 4000000 in
theorem dots_any (s : List UInt8) (w : World) (hA : AF w) (hs : s.length ≤ 1000000) :
    Calls Tryd.prog 45 #[.string (str s)] w fun e w' => e = .returned (.int .i64 (((dotN s).getD 0 : Nat) : Int)) ∧ Below w.heap.size w w' := by
  go_enter Tryd.func45, Tryd.ntmps45
  go_wp2
  go_loopg [0, 3] s.length (fun g s0 s3 wr => ∃ (t : List UInt8) (n : Nat), g = t.length ∧ s0 = .string (str t) ∧ s3 = .int .i64 (n : Int) ∧ t.length + n ≤ s.length ∧ Hid (dotN s = (dotN t).map (· + n)) ∧ Below w.heap.size w wr)
  case atStart =>
    refine ⟨s, 0, rfl, rfl, rfl, by omega, ?_, Below.refl _ _⟩
    show dotN s = (dotN s).map (· + 0)
    cases dotN s <;> rfl
  case round =>
    obtain ⟨t, n, rfl, rfl, rfl, hl, hinv, hbel⟩ := hrel
    have hAr := hA.next hbel
    have hsz := str_size t
    have hgt := str_get t
    have htl := str_toL t
    cases t with
    | nil =>
      have hE : (dotN s).getD 0 = n := by rw [hinv.out, dotN_nil]; show 0 + n = n; omega
      go_wp2
      go_ret
      exact ⟨by rw [hE]; rfl, hbel⟩
    | cons c r =>
      have hte : (c :: r).isEmpty = false := rfl
      have hn : (c :: r = []) = False := eq_false (by simp)
      have hg0 : gb (c :: r) 0 = c := rfl
      have hll : (c :: r).length = r.length + 1 := rfl
      rw [hll] at hsz hl
      have hw1 : IntKind.i64.wrap ((n : Int) + 1) = (n : Int) + 1 := IntWalk.i64_in _ (by omega)
      have h1 : (1 : Int) ≤ ((r.length + 1 : Nat) : Int) := by omega
      have hd1 : (str (c :: r)).extract 1 (r.length + 1) = str r := by
        have := str_end (c :: r) 1
        rw [hll] at this
        exact this
      by_cases hc : c = 46
      · subst hc
        have HI := Lib.hid (dotN_map1 hinv.out (dotN_dot r))
        have h46 : ((46 : UInt8).toNat : Int) = 46 := rfl
        go_wp2
        go_roundg r.length
        case measure => simp
        case rel => exact ⟨r, n + 1, rfl, rfl, by go_num, by omega, HI.out, hbel⟩
      · have hc46 : ((c.toNat : Int) == 46) = false := by
          rw [beq_eq_false_iff_ne]
          exact fun e => hc (byte_ext (by show c.toNat = 46; omega))
        by_cases h3 : 2 < (c :: r).length
        · have h3I : (2 : Int) < ((r.length + 1 : Nat) : Int) := by rw [hll] at h3; omega
          have hf3 : (str (c :: r)).extract 0 3 = str (tk (c :: r) 3) := str_front (c :: r) 3
          have ht3 : (tk (c :: r) 3).length = 3 := by rw [tk_len]; omega
          have CE := Lib.hid fun w h => efold_any (tk (c :: r) 3) ht3 w h
          rw [dot3_tk] at CE
          have hd3 : (str (c :: r)).extract 3 (r.length + 1) = str (dr (c :: r) 3) := by
            have := str_end (c :: r) 3
            rw [hll] at this
            exact this
          have hd3l : (dr (c :: r) 3).length = r.length + 1 - 3 := by rw [dr_len, hll]
          rw [hll] at h3
          have e3 : esc3 = [37, 50, 101] := rfl
          by_cases hd : dot3 (c :: r) = true
          · have HI := Lib.hid (dotN_map1 hinv.out (dotN_esc hd))
            rw [hd] at CE
            clear hd hc
            go_wp2_with (go_at_call 69; go_must (go_fit (CE.out _ hAr)); rintro e w1 ⟨rfl, hb1⟩)
            go_roundg (dr (c :: r) 3).length
            case measure => rw [hd3l, hll]; omega
            case rel => exact ⟨dr (c :: r) 3, n + 1, rfl, rfl, by go_num, by omega, HI.out, hbel.trans (hb1.mono hbel.size)⟩
          · have hd' : dot3 (c :: r) = false := by simpa using hd
            rw [hd'] at CE
            have hE : (dotN s).getD 0 = 0 := by rw [hinv.out, dotN_none hc hd']; rfl
            clear hd hd' hc
            go_wp2_with (go_at_call 69; go_must (go_fit (CE.out _ hAr)); rintro e w1 ⟨rfl, hb1⟩)
            go_ret
            exact ⟨by rw [hE]; rfl, hbel.trans (hb1.mono hbel.size)⟩
        · have h3I : ¬ (2 : Int) < ((r.length + 1 : Nat) : Int) := by rw [hll] at h3; omega
          have hd' : dot3 (c :: r) = false := by
            rw [Bool.eq_false_iff]
            exact fun e => by have := dot3_len e; omega
          have hE : (dotN s).getD 0 = 0 := by rw [hinv.out, dotN_none hc hd']; rfl
          clear hd' h3 hc
          go_wp2
          go_ret
          exact ⟨rfl, hbel⟩
set_option maxRecDepth 100000 in
set_option maxHeartbeats 1000000 in
theorem single_any (s : List UInt8) (w : World) (hA : AF w) (hs : s.length ≤ 1000000) :
    Calls Tryd.prog 19 #[.string (str s)] w fun e w' => e = .returned (.bool (pSingle s)) ∧ Below w.heap.size w w' := by
  have C := Lib.hid (dots_any s w hA hs)
  have HB := Lib.hid (show ((((dotN s).getD 0 : Nat) : Int) == 1) = pSingle s by
    unfold pSingle
    cases e : dotN s with
    | none => rfl
    | some n =>
      show ((n : Int) == 1) = decide (some n = some 1)
      by_cases h : n = 1
      · subst h; rfl
      · rw [decide_eq_false (by simpa using h), beq_eq_false_iff_ne]; omega)
  go_enter Tryd.func19, Tryd.ntmps19
  go_wp2_with (go_at_call 45; go_must (go_fit C.out); rintro e w1 ⟨rfl, hb1⟩)
  go_ret
  exact ⟨by rw [← HB.out]; rfl, hb1⟩
set_option maxRecDepth 100000 in
set_option maxHeartbeats 1000000 in
theorem double_any (s : List UInt8) (w : World) (hA : AF w) (hs : s.length ≤ 1000000) :
    Calls Tryd.prog 21 #[.string (str s)] w fun e w' => e = .returned (.bool (pDouble s)) ∧ Below w.heap.size w w' := by
  have C := Lib.hid (dots_any s w hA hs)
  have HB := Lib.hid (show ((((dotN s).getD 0 : Nat) : Int) == 2) = pDouble s by
    unfold pDouble
    cases e : dotN s with
    | none => rfl
    | some n =>
      show ((n : Int) == 2) = decide (some n = some 2)
      by_cases h : n = 2
      · subst h; rfl
      · rw [decide_eq_false (by simpa using h), beq_eq_false_iff_ne]; omega)
  go_enter Tryd.func21, Tryd.ntmps21
  go_wp2_with (go_at_call 45; go_must (go_fit C.out); rintro e w1 ⟨rfl, hb1⟩)
  go_ret
  exact ⟨by rw [← HB.out]; rfl, hb1⟩
end Go.Proofs.YtnnphploekchbaaDoor

