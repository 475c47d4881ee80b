/- The walks of unicode.SimpleFold at a table's entry, and of strings.EqualFold at three bytes against '%2e'. -/
import Derived.Test.YtnnphploekchbaaDoorPathQ
import Derived.Test.YtnnphploekchbaaDoorTxt
import Derived.Test.YtnnphploekchbaaDoorRulP
import Derived.Lib.LaidTab
import Derived.ScopeJumps
import Derived.WalkMore
import Derived.Lib.OthersKept
import Derived.Deep.LoopGhost
namespace Go.Proofs.YtnnphploekchbaaDoor
set_option linter.all false
open Go.RowKit

/-- The library's table of ASCII's other letters: the four entries that are read. -/
def AF (w : World) : Prop := w.cell? ⟨0, 37, none⟩ = some (.int .u16 37) ∧ w.cell? ⟨0, 50, none⟩ = some (.int .u16 50) ∧ w.cell? ⟨0, 101, none⟩ = some (.int .u16 69) ∧ w.cell? ⟨0, 69, none⟩ = some (.int .u16 101)
theorem AF.next {w w' : World} (h : AF w) (hb : Below w.heap.size w w') : AF w' := by
  obtain ⟨h1, h2, h3, h4⟩ := h
  have hlt := World.block_lt_of_cell? _ _ h1
  exact ⟨cell_on hb h1 hlt, cell_on hb h2 hlt, cell_on hb h3 hlt, cell_on hb h4 hlt⟩

set_option maxRecDepth 100000 in
set_option maxHeartbeats 1000000 in
theorem sfold_any (r v : Nat) (hr : r < 128) (hv : v < 128) (w : World) (hc : w.cell? ⟨0, r, none⟩ = some (.int .u16 (v : Int))) :
    Calls Tryd.prog 86 #[.int .i32 (r : Int)] w fun e w' => e = .returned (.int .i32 (v : Int)) ∧ w = w' := by
  have h1 : IntKind.i64.wrap (r : Int) = (r : Int) := IntWalk.i64_in _ (by omega)
  have h2 : IntKind.i32.wrap (v : Int) = (v : Int) := IntWalk.i32_in _ (by omega)
  have h3 : ¬ (r : Int) < 0 := by omega
  have h4 : ¬ (1114111 : Int) < (r : Int) := by omega
  have h5 : (r : Int) < 128 := by omega
  have h6 : (0 : Int) ≤ (r : Int) := by omega
  go_enter Tryd.func86, Tryd.ntmps86
  go_wp2
  go_ret
  exact ⟨rfl, rfl⟩

set_option maxRecDepth 100000 in
set_option maxHeartbeats 1000000 in
theorem dru_any (t : List UInt8) (h0 : 0 < t.length) (h1 : (gb t 0).toNat < 128) (w : World) :
    Calls Tryd.prog 85 #[.string (str t)] w fun e w' => e = .returned (.tuple #[.int .i32 ((gb t 0).toNat : Int), .int .i64 1]) ∧ w = w' := by
  have hsz := str_size t
  have hgt := str_get t
  have hI : (0 : Int) < (t.length : Int) := by omega
  have h1I : ((gb t 0).toNat : Int) < 128 := by omega
  have hw : IntKind.i32.wrap ((gb t 0).toNat : Int) = ((gb t 0).toNat : Int) := IntWalk.i32_in _ (by omega)
  have htl := str_toL t
  have hn : (t = []) = False := eq_false (fun e => by rw [e] at h0; exact absurd h0 (by decide))
  have hte : t.isEmpty = false := by cases t with
    | nil => exact absurd h0 (by decide)
    | cons a b => rfl
  go_enter Tryd.func85, Tryd.ntmps85
  go_wp2
  go_ret2
  exact ⟨rfl, rfl⟩
theorem decode_hi {s : ByteArray} {pos : Nat} (h : 128 ≤ (s.get! pos).toNat) : 128 ≤ (Utf8.decode s pos).1 := by
  have hb : ∀ k, (s.get! (pos + k)).toNat < 256 := fun k => (s.get! (pos + k)).toNat_lt
  have h0 := hb 0; have h1 := hb 1; have h2 := hb 2; have h3 := hb 3
  simp only [Utf8.decode]
  repeat' split
  all_goals simp_all [Utf8.runeError]
  all_goals omega
section
variable {P : Program} {a : Act} {w : World} {Q : Exit → Act → World → Prop}
/-- A scope that the run leaves by one jump ahead, at the most once. -/
theorem wp_scope_ahead {c rest : Code} (l : Nat) (hf : findLabel c l = some rest)
    (first : c.wp P (Exit.jump l (fun a' w' => rest.wp P (Exit.noGoto Q) a' w') Q) a w) : (Code.scope c).wp P Q a w :=
  wp_scope_jumps l (fun a' w' => rest.wp P (Exit.noGoto Q) a' w') (fun _ _ => 0) hf first fun a' w' h =>
    Code.wp_mono (fun e a w q => by cases e <;> first | exact q | exact q.elim) h
theorem jump_normal {l : Nat} {J : Act → World → Prop} : Exit.jump l J Q .normal a w = Q .normal a w := rfl
theorem jump_ret {l : Nat} {J : Act → World → Prop} : Exit.jump l J Q .ret a w = Q .ret a w := rfl
theorem noGoto_ret : Exit.noGoto Q .ret a w = Q .ret a w := rfl
theorem jump_exit {l i : Nat} {J : Act → World → Prop} : Exit.jump l J Q (.exit i) a w = Q (.exit i) a w := rfl
theorem jump_goto {l : Nat} {J : Act → World → Prop} (h : J a w) : Exit.jump l J Q (.goto l) a w := ⟨rfl, h⟩
end

theorem u8_or_hi {a b : UInt8} (h : 128 ≤ a.toNat) : (128 : Int) ≤ bits .or .u8 (a.toNat : Int) (b.toNat : Int) := by
  have ha := byte_lt a
  have hb := byte_lt b
  rw [u8_or_nat _ _ (by omega) (by omega)]
  have : a.toNat ≤ a.toNat ||| b.toNat := Nat.left_le_or
  omega
theorem u8_or_lo {a b : UInt8} (h : a.toNat < 128) (h2 : b.toNat < 128) : bits .or .u8 (a.toNat : Int) (b.toNat : Int) < 128 := by
  rw [u8_or_nat _ _ (by omega) (by omega)]
  have := Nat.or_lt_two_pow (n := 7) h h2
  omega

theorem iter_below (w : World) (s : ByteArray) (n : Nat) : Below w.heap.size w (w.iter s n) := (Below.refl _ _).alloc (Nat.le_refl _) _
def esc3 : List UInt8 := [37, 50, 101]
theorem dot3_gb {s : List UInt8} (hs : s.length = 3) : dot3 s = true ↔ ∀ j, j < 3 → lowB (gb s j) = gb esc3 j := by
  match s, hs with
  | [a, b, c], _ =>
    unfold dot3
    rw [decide_eq_true_iff]
    show [lowB a, lowB b, lowB c] = [37, 50, 101] ↔ _
    constructor
    · intro h j hj
      injection h with h1 h
      injection h with h2 h
      injection h with h3 _
      match j, hj with
      | 0, _ => exact h1
      | 1, _ => exact h2
      | 2, _ => exact h3
    · intro h
      have h1 : lowB a = 37 := h 0 (by decide)
      have h2 : lowB b = 50 := h 1 (by decide)
      have h3 : lowB c = 101 := h 2 (by decide)
      rw [h1, h2, h3]
theorem esc3_at : ∀ j, j < 3 → (gb esc3 j).toNat < 128 ∧ ¬ (65 ≤ (gb esc3 j).toNat ∧ (gb esc3 j).toNat ≤ 90) ∧ (gb esc3 j = 37 ∨ gb esc3 j = 50 ∨ gb esc3 j = 101) := by decide
theorem lowB_up {c : UInt8} (h1 : 65 ≤ c.toNat) (h2 : c.toNat ≤ 90) : (lowB c).toNat = c.toNat + 32 := by
  unfold lowB
  rw [if_pos ⟨h1, h2⟩, UInt8.toNat_add]
  have : (32 : UInt8).toNat = 32 := rfl
  rw [this]; omega
theorem lowB_id {c : UInt8} (h : ¬ (65 ≤ c.toNat ∧ c.toNat ≤ 90)) : lowB c = c := if_neg h
theorem fold_yes {x y : UInt8} (hy : (y.toNat < 128 ∧ ¬ (65 ≤ y.toNat ∧ y.toNat ≤ 90))) (h : y.toNat = x.toNat ∨ (65 ≤ x.toNat ∧ x.toNat ≤ 90 ∧ y.toNat = x.toNat + 32)) : lowB x = y := by
  apply byte_ext
  rcases h with h | ⟨h1, h2, h3⟩
  · rw [lowB_id (by omega)]; omega
  · rw [lowB_up h1 h2]; omega
theorem fold_no {x y : UInt8} (hy : (y.toNat < 128 ∧ ¬ (65 ≤ y.toNat ∧ y.toNat ≤ 90))) (h : ¬ (y.toNat = x.toNat ∨ (65 ≤ x.toNat ∧ x.toNat ≤ 90 ∧ y.toNat = x.toNat + 32))) : ¬ lowB x = y := fun e => by
  subst e
  apply h
  by_cases hx : 65 ≤ x.toNat ∧ x.toNat ≤ 90
  · exact .inr ⟨hx.1, hx.2, lowB_up hx.1 hx.2⟩
  · exact .inl (by rw [lowB_id hx])
set_option maxRecDepth 100000 in
set_option maxHeartbeats 8000000 in
theorem efold_any (s : List UInt8) (hs : s.length = 3) (w : World) (hA : AF w) :
    Calls Tryd.prog 69 #[.string (str s), .string (str esc3)] w fun e w' => e = .returned (.bool (dot3 s)) ∧ Below w.heap.size w w' := by
  have hsz := str_size s
  have hgt := str_get s
  have hsz2 := str_size esc3
  have hgt2 := str_get esc3
  have he3 : esc3.length = 3 := rfl
  have HD := Lib.hid (dot3_gb hs)
  rw [he3] at hsz2
  rw [hs] at hsz
  go_enter Tryd.func69, Tryd.ntmps69
  go_wp2
  refine wp_scope_ahead 0 rfl ?_
  go_wp2
  go_loopg [5] 3 (fun g s5 wx => w = wx ∧ ∃ i : Nat, g = 3 - i ∧ i ≤ 3 ∧ s5 = .int .i64 i ∧ Hid (∀ j, j < i → lowB (gb s j) = gb esc3 j))
  case atStart => exact ⟨rfl, 0, rfl, by omega, rfl, fun j h => by omega⟩
  case round =>
    obtain ⟨rfl, i, rfl, hi, rfl, hinv⟩ := hrel
    by_cases hlt : i < 3
    · obtain ⟨hy1, hy2, hy3⟩ := esc3_at i hlt
      have hiI : (i : Int) < 3 := by omega
      have hi0 : (0 : Int) ≤ (i : Int) := by omega
      have HY := Lib.hid hy3
      have HYN := Lib.hid (show (gb esc3 i).toNat < 128 ∧ ¬ (65 ≤ (gb esc3 i).toNat ∧ (gb esc3 i).toNat ≤ 90) from ⟨hy1, hy2⟩)
      obtain ⟨y, hy⟩ : ∃ y, y = gb esc3 i := ⟨_, rfl⟩
      obtain ⟨x, hx⟩ : ∃ x, x = gb s i := ⟨_, rfl⟩
      by_cases hhi : 128 ≤ x.toNat
      · have hor := u8_or_hi (b := y) hhi
        clear hy1 hy2 hy3
        rw [hx, hy] at hor
        go_wp2
        obtain ⟨hy1, hy2⟩ := HYN.out
        have hy3 := HY.out
        refine wp_goto ?_
        refine ⟨rfl, ?_⟩
        clear hgt2 hsz2
        have e1 : (str s).extract i 3 = str (dr s i) := by have := str_end s i; rw [hs] at this; exact this
        have e2 : (str esc3).extract i (str esc3).size = str (dr esc3 i) := by rw [str_size]; exact str_end esc3 i
        obtain ⟨S, hS⟩ : ∃ S, S = dr s i := ⟨_, rfl⟩
        obtain ⟨T, hT⟩ : ∃ T, T = dr esc3 i := ⟨_, rfl⟩
        have hS0 : 0 < S.length := by rw [hS, dr_len]; omega
        have hT0 : 0 < T.length := by rw [hT, dr_len]; omega
        have hSg : gb S 0 = gb s i := by rw [hS]; unfold gb dr; rw [List.getD_eq_getElem?_getD, List.getD_eq_getElem?_getD, List.getElem?_drop]; rfl
        have hTg : gb T 0 = gb esc3 i := by rw [hT]; unfold gb dr; rw [List.getD_eq_getElem?_getD, List.getD_eq_getElem?_getD, List.getElem?_drop]; rfl
        rw [← hS] at e1
        rw [← hT] at e2
        have hS128 : 128 ≤ ((str S).get! 0).toNat := by
          have : (str S).get! 0 = gb S 0 := by
            cases S with
            | nil => exact absurd hS0 (by decide)
            | cons c r => rfl
          rw [this, hSg, ← hx]; exact hhi
        have hD1 := decode_hi (s := str S) (pos := 0) hS128
        have hD2 := decode_le (str S) 0
        have hrun := run_next_any (P := Tryd.prog) w (str S) 0 0 (by rw [str_size]; exact hS0)
        obtain ⟨D, hD⟩ : ∃ D, D = (Utf8.decode (str S) 0).1 := ⟨_, rfl⟩
        obtain ⟨N, hN⟩ : ∃ N, N = 0 + (Utf8.decode (str S) 0).2 := ⟨_, rfl⟩
        rw [← hD] at hD1 hD2 hrun
        rw [← hN] at hrun
        have hT128 : (gb T 0).toNat < 128 := by rw [hTg]; exact hy1
        have CT := Lib.hid fun w => dru_any T hT0 hT128 w
        have hTs := str_size T
        have hbI := iter_below w (str S) N
        have hAN := hA.next hbI
        have hF : dot3 s = false := by
          rw [Bool.eq_false_iff]
          intro hd
          have := HD.out.1 hd i hlt
          rw [lowB_id (by rw [← hx]; omega)] at this
          rw [← this, ← hx] at hy1
          omega
        have hdr : (str T).extract 1 T.length = str (dr T 1) := str_end T 1
        clear hS hT hD hN hSg hS128 hS0
        rw [← hTg] at hy3
        have HY3 := Lib.hid hy3
        clear hy1 hy2 hy3 hT128 hor hx hy hhi
        rcases HY3.out with e | e | e
        all_goals rw [e] at CT
        · have C1 := Lib.hid fun w h => sfold_any 37 37 (by decide) (by decide) w h
          go_wp2
          go_loopg [1] 0 (fun g s1 wr => g = 0 ∧ s1 = .string (str T) ∧ wr = w.iter (str S) 0)
          case atStart => exact ⟨rfl, rfl, rfl⟩
          case round =>
            obtain ⟨rfl, rfl, rfl⟩ := hrel
            go_wp2_with (first
              | (go_at_call 85; go_must (go_fit (CT.out _)); rintro e w1 ⟨rfl, rfl⟩)
              | (go_at_call 86; go_must (go_fit (C1.out _ hAN.1)); rintro e w1 ⟨rfl, rfl⟩))
            go_loopg [13] 0 (fun g s13 wr => g = 0 ∧ s13 = .int .i32 37 ∧ wr = w.iter (str S) N)
            case atStart => exact ⟨rfl, rfl, rfl⟩
            case round =>
              obtain ⟨rfl, rfl, rfl⟩ := hrel
              go_wp2
              rw [noGoto_ret]
              go_ret
              exact ⟨by rw [hF]; rfl, hbI⟩
        · have C1 := Lib.hid fun w h => sfold_any 50 50 (by decide) (by decide) w h
          go_wp2
          go_loopg [1] 0 (fun g s1 wr => g = 0 ∧ s1 = .string (str T) ∧ wr = w.iter (str S) 0)
          case atStart => exact ⟨rfl, rfl, rfl⟩
          case round =>
            obtain ⟨rfl, rfl, rfl⟩ := hrel
            go_wp2_with (first
              | (go_at_call 85; go_must (go_fit (CT.out _)); rintro e w1 ⟨rfl, rfl⟩)
              | (go_at_call 86; go_must (go_fit (C1.out _ hAN.2.1)); rintro e w1 ⟨rfl, rfl⟩))
            go_loopg [13] 0 (fun g s13 wr => g = 0 ∧ s13 = .int .i32 50 ∧ wr = w.iter (str S) N)
            case atStart => exact ⟨rfl, rfl, rfl⟩
            case round =>
              obtain ⟨rfl, rfl, rfl⟩ := hrel
              go_wp2
              rw [noGoto_ret]
              go_ret
              exact ⟨by rw [hF]; rfl, hbI⟩
        · have C1 := Lib.hid fun w h => sfold_any 101 69 (by decide) (by decide) w h
          have C2 := Lib.hid fun w h => sfold_any 69 101 (by decide) (by decide) w h
          go_wp2
          go_loopg [1] 0 (fun g s1 wr => g = 0 ∧ s1 = .string (str T) ∧ wr = w.iter (str S) 0)
          case atStart => exact ⟨rfl, rfl, rfl⟩
          case round =>
            obtain ⟨rfl, rfl, rfl⟩ := hrel
            go_wp2_with (first
              | (go_at_call 85; go_must (go_fit (CT.out _)); rintro e w1 ⟨rfl, rfl⟩)
              | (go_at_call 86; go_must (go_fit (C1.out _ hAN.2.2.1)); rintro e w1 ⟨rfl, rfl⟩))
            have h69 : (69 : Int) < (D : Int) := by omega
            go_loopg [13] 1 (fun g s13 wr => ((g = 1 ∧ s13 = .int .i32 69) ∨ (g = 0 ∧ s13 = .int .i32 101)) ∧ wr = w.iter (str S) N)
            case atStart => exact ⟨.inl ⟨rfl, rfl⟩, rfl⟩
            case round =>
              obtain ⟨⟨rfl, rfl⟩ | ⟨rfl, rfl⟩, rfl⟩ := hrel
              · go_wp2_with (go_at_call 86; go_must (go_fit (C2.out _ hAN.2.2.2)); rintro e w1 ⟨rfl, rfl⟩)
                go_roundg 0
                case measure => omega
                case rel => exact ⟨.inr ⟨rfl, rfl⟩, rfl⟩
              · go_wp2
                rw [noGoto_ret]
                go_ret
                exact ⟨by rw [hF]; rfl, hbI⟩
      · have hlo : x.toNat < 128 := by omega
        have hor := u8_or_lo (b := y) hlo (by rw [hy]; exact hy1)
        rw [hx, hy] at hor
        have hx128 := hlo
        rw [hx] at hx128
        have hbx := byte_lt (gb s i)
        have HN := Lib.hid fun (h : lowB (gb s i) = gb esc3 i) => (show ∀ j, j < i + 1 → lowB (gb s j) = gb esc3 j from fun j hj => by
          rcases Nat.lt_or_ge j i with h1 | h1
          · exact hinv.out j h1
          · rw [show j = i by omega]; exact h)
        have HF := Lib.hid fun (h : ¬ lowB (gb s i) = gb esc3 i) => (show dot3 s = false by
          rw [Bool.eq_false_iff]
          exact fun hd => h (HD.out.1 hd i hlt))
        clear hy2 hy3 hx hy hlo hhi
        go_wp2
        all_goals (try simp only [beq_iff_eq, beq_eq_false_iff_ne, ne_eq] at *)
        all_goals first
          | (exfalso; have := HYN.out; omega)
          | (go_roundg (3 - (i + 1))
             case measure => omega
             case rel => exact ⟨rfl, i + 1, rfl, by omega, by go_num, HN.out (fold_yes HYN.out (by omega))⟩)
          | (rw [jump_ret]
             go_ret
             exact ⟨by rw [HF.out (fold_no HYN.out (by omega))]; rfl, Below.refl _ _⟩)
    · obtain rfl : i = 3 := by omega
      have hE : dot3 s = true := HD.out.2 hinv.out
      go_wp2
      rw [jump_ret]
      go_ret
      exact ⟨by rw [hE]; rfl, Below.refl _ _⟩
end Go.Proofs.YtnnphploekchbaaDoor

