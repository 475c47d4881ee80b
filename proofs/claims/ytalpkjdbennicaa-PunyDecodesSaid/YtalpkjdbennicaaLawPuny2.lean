/- The walk of the statement PunyOne. -/
import Derived.Test.YtalpkjdbennicaaLawPuny
namespace Go.Proofs.Ytalpkjdbennicaa
set_option linter.all false
open Go.RowKit

theorem unpuny_63 {s : List UInt8} {l : List Int} (h : unpuny s = some l) : l.length ≤ 63 := by
  unfold unpuny at h
  split at h
  · cases h
  split at h
  · cases h
  cases hd : dec (dRest s) (dStart (ints (dBase s))) with
  | none => rw [hd] at h; cases h
  | some m =>
    rw [hd] at h
    simp only [Option.bind_some] at h
    split at h
    · injection h with h; subst h; assumption
    · cases h

theorem smalls_take {s : List UInt8} {j : Nat} (hj : j < s.length) (h : ∀ c ∈ s.take j, small c = true) (hx : small (gb s j) = true) : ∀ c ∈ s.take (j + 1), small c = true := by
  intro c hc
  have hg := gb_some hj
  obtain ⟨h1, e1⟩ := List.getElem?_eq_some_iff.1 hg
  rw [take_snoc' s j h1, e1] at hc
  rcases List.mem_append.1 hc with hc | hc
  · exact h c hc
  · rw [List.mem_singleton.1 hc]; exact hx


set_option maxRecDepth 100000 in
set_option maxHeartbeats 8000000 in
theorem punyOne_walk (s : List UInt8) (w : World) (hsm : s.length ≤ 9223372036854775807) :
    Calls Try.prog 21 #[.string (str s)] w fun e w' => e = .returned (.bool true) ∧ Below w.heap.size w w' := by
  have hsz := str_size s
  have hgt := str_get s
  by_cases h60 : (s.length : Int) ≤ 60
  · by_cases hz : 0 < (s.length : Int)
    · by_cases h0 : ((gb s 0).toNat : Int) = 45
      · skip
        go_enter Try.func21, Try.ntmps21
        go_wp2_with (go_at_call 43; go_must (go_fit (begun5_any w)); rintro e w1 ⟨rfl, hb1⟩)
        go_ret
        exact ⟨rfl, hb1⟩
      · have H0 : Hid (s.getD 0 0 ≠ 45) := fun e => h0 (by rw [show gb s 0 = 45 from e]; rfl)
        have h0' : (((gb s 0).toNat : Int) == 45) = false := by rw [beq_eq_false_iff_ne]; exact h0
        clear h0
        go_enter Try.func21, Try.ntmps21
        go_wp2_with (go_at_call 43; go_must (go_fit (begun5_any w)); rintro e w1 ⟨rfl, hb1⟩)
        clear h0' hz
        go_loopg [3] (s.length) (fun k i wr => ∃ j : Nat, k = s.length - j ∧ j ≤ s.length ∧ i = .int .i64 j ∧ Hid (∀ c ∈ s.take j, small c = true) ∧ Below w.heap.size w wr)
        case atStart => exact ⟨0, rfl, Nat.zero_le _, rfl, (fun c hc => by rw [List.take_zero] at hc; cases hc), hb1⟩
        case round =>
          clear hb1
          obtain ⟨j, rfl, hj, rfl, hsm, hbel⟩ := hrel
          by_cases hlt : j < s.length
          · have hlt1 : (j : Int) < (s.length : Int) := by omega
            have hj0 : (0 : Int) ≤ (j : Int) := by omega
            try (exfalso; omega)
            all_goals
              by_cases hA : (65 : Int) ≤ ((gb s j).toNat : Int)
              · by_cases hZ : ((gb s j).toNat : Int) ≤ 90
                · go_wp2
                  go_ret
                  exact ⟨rfl, hbel⟩
                · have hZ' : (90 : Int) < ((gb s j).toNat : Int) := by omega
                  clear hZ
                  have HS := Lib.hid (smalls_take hlt hsm.out (by unfold small; exact decide_eq_true (by omega)))
                  go_wp2
                  go_roundg (s.length - (j + 1))
                  case measure => omega
                  case rel => exact ⟨j + 1, rfl, by omega, by go_num, HS.out, hbel⟩
              · have hA' : ((gb s j).toNat : Int) < 65 := by omega
                clear hA
                have HS := Lib.hid (smalls_take hlt hsm.out (by unfold small; exact decide_eq_true (by omega)))
                go_wp2
                go_roundg (s.length - (j + 1))
                case measure => omega
                case rel => exact ⟨j + 1, rfl, by omega, by go_num, HS.out, hbel⟩
          · obtain rfl : j = s.length := by omega
            have hall : ∀ c ∈ s, small c = true := by have h := hsm.out; rw [List.take_length] at h; exact h
            have C2 := Lib.hid fun w => pdecode_any s w (by omega)
            obtain ⟨o, ho⟩ : ∃ o, unpuny s = o := ⟨_, rfl⟩
            rw [ho] at C2
            clear hlt hj hsm
            rcases o with _ | l
            · clear ho hall
              go_wp2_with (go_at_call 46; go_must (go_fit (C2.out wr)); rintro e w3 ⟨hb3, rfl⟩)
              go_ret
              exact ⟨ret_bool (by decide), bnext hbel hb3⟩
            · have hl := unpuny_63 ho
              have C3 := Lib.hid fun A c w (h : Rd w w.heap.size A (runes l)) => pencode_any A c l w h (by omega)
              rw [puny_unpuny ho hall H0.out] at C3
              dsimp only [punyV] at C3
              have hfin : ((str s).toList == (str s).toList) = true := by simp
              clear ho hall
              go_wp2_with (first
                | (go_at_call 46; go_must (go_fit (C2.out wr)); rintro e w3 ⟨hb3, v3, rfl, hown3⟩; obtain ⟨A3, c3, rfl, hc3, hm3, hx3⟩ := own_rd hown3)
                | (go_at_call 44; go_must (go_fit (C3.out A3 c3 w3 hx3)); rintro e w4 ⟨rfl, hb4⟩; have hx4 := hx3.next hb4; have hbel4 := bnext (bnext hbel hb3) hb4))
              clear hbel hb3 hb4 hx3
              obtain ⟨wo, hwo⟩ : ∃ wo : World, wo = w4 := ⟨_, rfl⟩
              subst hwo
              go_loopg [8, 9] (l.length) (fun k hi i wr => ∃ (j : Nat) (b : Bool), k = l.length - j ∧ j ≤ l.length ∧ hi = .bool b ∧ i = .int .i64 j ∧ Below wo.heap.size wo wr)
              case atStart => exact ⟨0, false, rfl, Nat.zero_le _, rfl, rfl, Below.refl _ _⟩
              case round =>
                obtain ⟨j, b, rfl, hj, rfl, rfl, hbel⟩ := hrel
                by_cases hlt : j < l.length
                · obtain ⟨g, off, x, rfl, hg, hc, hx⟩ := (hx4.below hbel).rune_at hlt
                  have hlt1 : (j : Int) < (l.length : Int) := by omega
                  have hj0 : (0 : Int) ≤ (j : Int) := by omega
                  rcases b with _ | _
                  all_goals
                    go_wp2
                    go_roundg (l.length - (j + 1))
                    case measure => omega
                    case rel => exact ⟨j + 1, _, rfl, by omega, rfl, by go_num, hbel⟩
                · obtain rfl : j = l.length := by omega
                  rcases b with _ | _
                  all_goals
                    go_wp2
                    go_ret
                    exact ⟨ret_bool (by simp), hbel4.trans (hbel.mono hbel4.size)⟩
    · have hz' : (s.length : Int) ≤ 0 := by omega
      clear hz
      have H0 : Hid (s.getD 0 0 ≠ 45) := fun e => by
        have : s = [] := List.eq_nil_of_length_eq_zero (by omega)
        rw [this] at e; exact absurd e (by decide)
      go_enter Try.func21, Try.ntmps21
      go_wp2_with (go_at_call 43; go_must (go_fit (begun5_any w)); rintro e w1 ⟨rfl, hb1⟩)
      clear hz'
      go_loopg [3] (s.length) (fun k i wr => ∃ j : Nat, k = s.length - j ∧ j ≤ s.length ∧ i = .int .i64 j ∧ Hid (∀ c ∈ s.take j, small c = true) ∧ Below w.heap.size w wr)
      case atStart => exact ⟨0, rfl, Nat.zero_le _, rfl, (fun c hc => by rw [List.take_zero] at hc; cases hc), hb1⟩
      case round =>
        clear hb1
        obtain ⟨j, rfl, hj, rfl, hsm, hbel⟩ := hrel
        by_cases hlt : j < s.length
        · have hlt1 : (j : Int) < (s.length : Int) := by omega
          have hj0 : (0 : Int) ≤ (j : Int) := by omega
          try (exfalso; omega)
          all_goals
            by_cases hA : (65 : Int) ≤ ((gb s j).toNat : Int)
            · by_cases hZ : ((gb s j).toNat : Int) ≤ 90
              · go_wp2
                go_ret
                exact ⟨rfl, hbel⟩
              · have hZ' : (90 : Int) < ((gb s j).toNat : Int) := by omega
                clear hZ
                have HS := Lib.hid (smalls_take hlt hsm.out (by unfold small; exact decide_eq_true (by omega)))
                go_wp2
                go_roundg (s.length - (j + 1))
                case measure => omega
                case rel => exact ⟨j + 1, rfl, by omega, by go_num, HS.out, hbel⟩
            · have hA' : ((gb s j).toNat : Int) < 65 := by omega
              clear hA
              have HS := Lib.hid (smalls_take hlt hsm.out (by unfold small; exact decide_eq_true (by omega)))
              go_wp2
              go_roundg (s.length - (j + 1))
              case measure => omega
              case rel => exact ⟨j + 1, rfl, by omega, by go_num, HS.out, hbel⟩
        · obtain rfl : j = s.length := by omega
          have hall : ∀ c ∈ s, small c = true := by have h := hsm.out; rw [List.take_length] at h; exact h
          have C2 := Lib.hid fun w => pdecode_any s w (by omega)
          obtain ⟨o, ho⟩ : ∃ o, unpuny s = o := ⟨_, rfl⟩
          rw [ho] at C2
          clear hlt hj hsm
          rcases o with _ | l
          · clear ho hall
            go_wp2_with (go_at_call 46; go_must (go_fit (C2.out wr)); rintro e w3 ⟨hb3, rfl⟩)
            go_ret
            exact ⟨ret_bool (by decide), bnext hbel hb3⟩
          · have hl := unpuny_63 ho
            have C3 := Lib.hid fun A c w (h : Rd w w.heap.size A (runes l)) => pencode_any A c l w h (by omega)
            rw [puny_unpuny ho hall H0.out] at C3
            dsimp only [punyV] at C3
            have hfin : ((str s).toList == (str s).toList) = true := by simp
            clear ho hall
            go_wp2_with (first
              | (go_at_call 46; go_must (go_fit (C2.out wr)); rintro e w3 ⟨hb3, v3, rfl, hown3⟩; obtain ⟨A3, c3, rfl, hc3, hm3, hx3⟩ := own_rd hown3)
              | (go_at_call 44; go_must (go_fit (C3.out A3 c3 w3 hx3)); rintro e w4 ⟨rfl, hb4⟩; have hx4 := hx3.next hb4; have hbel4 := bnext (bnext hbel hb3) hb4))
            clear hbel hb3 hb4 hx3
            obtain ⟨wo, hwo⟩ : ∃ wo : World, wo = w4 := ⟨_, rfl⟩
            subst hwo
            go_loopg [8, 9] (l.length) (fun k hi i wr => ∃ (j : Nat) (b : Bool), k = l.length - j ∧ j ≤ l.length ∧ hi = .bool b ∧ i = .int .i64 j ∧ Below wo.heap.size wo wr)
            case atStart => exact ⟨0, false, rfl, Nat.zero_le _, rfl, rfl, Below.refl _ _⟩
            case round =>
              obtain ⟨j, b, rfl, hj, rfl, rfl, hbel⟩ := hrel
              by_cases hlt : j < l.length
              · obtain ⟨g, off, x, rfl, hg, hc, hx⟩ := (hx4.below hbel).rune_at hlt
                have hlt1 : (j : Int) < (l.length : Int) := by omega
                have hj0 : (0 : Int) ≤ (j : Int) := by omega
                rcases b with _ | _
                all_goals
                  go_wp2
                  go_roundg (l.length - (j + 1))
                  case measure => omega
                  case rel => exact ⟨j + 1, _, rfl, by omega, rfl, by go_num, hbel⟩
              · obtain rfl : j = l.length := by omega
                rcases b with _ | _
                all_goals
                  go_wp2
                  go_ret
                  exact ⟨ret_bool (by simp), hbel4.trans (hbel.mono hbel4.size)⟩
  · have h60' : 60 < (s.length : Int) := by omega
    clear h60
    go_enter Try.func21, Try.ntmps21
    go_wp2_with (go_at_call 43; go_must (go_fit (begun5_any w)); rintro e w1 ⟨rfl, hb1⟩)
    go_ret
    exact ⟨rfl, hb1⟩
end Go.Proofs.Ytalpkjdbennicaa
