/- strconv.ParseUint at base 16, texts of hex digits; what it says of texts that are none, and of too great ones. -/
import Derived.Test.YtaglbcniomcfnaaDoorSixQ
import Derived.Test.YtaglbcniomcfnaaDoorIpI
import Derived.Deep.LoopGhost
namespace Go.Proofs.YtaglbcniomcfnaaDoor
set_option linter.all false
open Go.RowKit

/-- The library's variables ErrSyntax and ErrRange hold errors. -/
def EV (w : World) : Prop := (∃ ev, w.cell? ⟨2, 0, none⟩ = some ev ∧ (ev = .nilIface ∨ ∃ te pe, ev = .iface te pe)) ∧ ∃ ev, w.cell? ⟨3, 0, none⟩ = some ev ∧ (ev = .nilIface ∨ ∃ te pe, ev = .iface te pe)
theorem EV.next {w w' : World} (h : EV w) (hb : Below w.heap.size w w') : EV w' := by
  obtain ⟨⟨e1, h1, k1⟩, e2, h2, k2⟩ := h
  exact ⟨⟨e1, (hb.cell (p := ⟨_, 0, none⟩) (World.block_lt_of_cell? _ _ h1)).trans h1, k1⟩, e2, (hb.cell (p := ⟨_, 0, none⟩) (World.block_lt_of_cell? _ _ h2)).trans h2, k2⟩

/-- A text of hex digits as a number of 64 bits; none: it is too great. -/
def hexG : Nat → List UInt8 → Option Nat
  | acc, [] => some acc
  | acc, c :: t => if 1152921504606846976 ≤ acc then none else hexG (acc * 16 + (hexV c).toNat) t
def numV : Option Nat → Nat | some n => n | none => 18446744073709551615
def numE : Option Nat → Value | some _ => .nilIface | none => .iface 115 (.int .i64 1)

theorem hex_cases (c : UInt8) (h : hexOk c = true) :
    (48 ≤ c.toNat ∧ c.toNat ≤ 57 ∧ (hexV c).toNat = c.toNat - 48) ∨ ((97 ≤ c.toNat ∧ c.toNat ≤ 102 ∨ 65 ≤ c.toNat ∧ c.toNat ≤ 70) ∧ ∃ v : Nat, bits .or .u8 (c.toNat : Int) 32 = (v : Int) ∧ 97 ≤ v ∧ v ≤ 102 ∧ (hexV c).toNat = v - 87) := by
  have key : ∀ n, n < 256 → hexOk (UInt8.ofNat n) = true → (48 ≤ (UInt8.ofNat n).toNat ∧ (UInt8.ofNat n).toNat ≤ 57 ∧ (hexV (UInt8.ofNat n)).toNat = (UInt8.ofNat n).toNat - 48) ∨ ((97 ≤ (UInt8.ofNat n).toNat ∧ (UInt8.ofNat n).toNat ≤ 102 ∨ 65 ≤ (UInt8.ofNat n).toNat ∧ (UInt8.ofNat n).toNat ≤ 70) ∧ (bits .or .u8 ((UInt8.ofNat n).toNat : Int) 32 = (((UInt8.ofNat n).toNat ||| 32 : Nat) : Int) ∧ 97 ≤ ((UInt8.ofNat n).toNat ||| 32) ∧ ((UInt8.ofNat n).toNat ||| 32) ≤ 102 ∧ (hexV (UInt8.ofNat n)).toNat = ((UInt8.ofNat n).toNat ||| 32) - 87)) := by decide +kernel
  have := key c.toNat (byte_lt c)
  rw [UInt8.ofNat_toNat] at this
  rcases this h with h | ⟨h1, h2⟩
  · exact .inl h
  · exact .inr ⟨h1, _, h2⟩
theorem hexV16 {c : UInt8} (h : hexOk c = true) : (hexV c).toNat < 16 := by
  rcases hex_cases c h with ⟨_, _, e⟩ | ⟨_, v, _, _, _, e⟩ <;> omega
theorem hexG_small : ∀ (s : List UInt8) (acc k : Nat), s.all hexOk = true → acc < 16 ^ k → k + s.length ≤ 15 → hexG acc s = some (s.foldl (fun n c => n * 16 + (hexV c).toNat) acc) := by
  intro s
  induction s with
  | nil => intro acc k _ _ _; rfl
  | cons c t ih =>
    intro acc k hs ha hk
    rw [List.all_cons, Bool.and_eq_true] at hs
    simp only [List.length_cons] at hk
    have h16 := hexV16 hs.1
    have hp : (16 : Nat) ^ k ≤ 16 ^ 14 := Nat.pow_le_pow_right (by decide) (by omega)
    rw [hexG, if_neg (by have : (16 : Nat) ^ 14 < 1152921504606846976 := by decide
                         omega), ih _ (k + 1) hs.2 (by rw [Nat.pow_succ]; omega) (by omega)]
    rfl

theorem hexG_at {acc j : Nat} {s : List UInt8} {o : Option Nat} (h : o = hexG acc (s.drop j)) (hj : j < s.length) : o = if 1152921504606846976 ≤ acc then none else hexG (acc * 16 + (hexV (gb s j)).toNat) (s.drop (j + 1)) := by
  obtain ⟨hj', e⟩ := List.getElem?_eq_some_iff.1 (gb_some hj)
  rw [h, List.drop_eq_getElem_cons hj', e, hexG]
theorem hexG_end {acc : Nat} {s : List UInt8} {o : Option Nat} (h : o = hexG acc (s.drop s.length)) : o = some acc := by
  rw [h, List.drop_length]; rfl
theorem hex_in {s : List UInt8} (h : s.all hexOk = true) {j : Nat} (hj : j < s.length) : hexOk (gb s j) = true :=
  List.all_eq_true.1 h _ (List.mem_of_getElem? (gb_some hj))

theorem lower_any (c v : Int) (h : bits .or .u8 c 32 = v) (w : World) : Calls Tryd.prog 90 #[.int .u8 c] w fun e w' => e = .returned (.int .u8 v) ∧ w = w' := by
  refine (Tryd.internal_strconv_lower c w).mono fun e w' ⟨he, hw⟩ => ⟨?_, hw.symm⟩
  rw [he, h]

set_option maxRecDepth 100000 in
set_option maxHeartbeats 16000000 in
theorem puHex_in (s : List UInt8) (hne : s.isEmpty = false) (hs : s.all hexOk = true) (hl : s.length ≤ 100000) (w : World) :
    Calls Tryd.prog 77 #[.string (str s), .int .i64 16, .int .i64 64] w fun e w' => e = .returned (.tuple #[.int .u64 (numV (hexG 0 s) : Int), numE (hexG 0 s)]) ∧ Below w.heap.size w w' := by
  have hsz := str_size s
  have hL := str_toL s
  have HS := Lib.hid hs
  clear hs
  have hmv : IntKind.u64.wrap (IntKind.u64.wrap 18446744073709551616 - 1) = 18446744073709551615 := by
    rw [IntKind.wrap_u64, IntKind.wrap_u64]
    decide
  obtain ⟨o, ho⟩ : ∃ o, o = hexG 0 s := ⟨_, rfl⟩
  rw [← ho]
  have HO := Lib.hid (show o = hexG 0 (s.drop 0) from ho)
  clear ho
  go_enter Tryd.func77, Tryd.ntmps77
  go_wp2_with (refine wpList_bytesL rfl _ _ _ _ rfl Tryd.underlying9 Tryd.underlying44 Tryd.underlying5 s rfl (by omega) ?_; intro c3 w3 hc3 hm3 hrow3 hr3 hb3 hz3)
  go_loopg [12, 13, 101] (s.length) (fun k s12 s13 s101 wr => ∃ (j acc : Nat) (a : Int), k = s.length - j ∧ j ≤ s.length ∧ s12 = .bool false ∧ s13 = .int .u64 a ∧ s101 = .int .i64 j ∧ 0 ≤ a ∧ a < 18446744073709551616 ∧ Hid (a = (acc : Int) ∧ o = hexG acc (s.drop j)) ∧ w3 = wr)
  case atStart => exact ⟨0, 0, 0, rfl, Nat.zero_le _, rfl, rfl, rfl, Int.le_refl _, by decide, ⟨rfl, HO.out⟩, rfl⟩
  case round =>
    obtain ⟨j, acc, a, rfl, hj, rfl, rfl, rfl, ha0, ha1, hh, rfl⟩ := hrel
    by_cases hlt : j < s.length
    · have hc : w3.cell? ⟨w.heap.size, j, none⟩ = some (.int .u8 ((gb s j).toNat : Int)) := hrow3.1 j _ (by unfold bytes; rw [List.getElem?_map, gb_some hlt]; rfl)
      have hj0 : (0 : Int) ≤ (j : Int) := by omega
      have hE := hexG_at hh.out.2 hlt
      have hcc := hex_cases _ (hex_in HS.out hlt)
      have hacc := hh.out.1
      obtain ⟨c, hcE⟩ : ∃ c : Nat, c = (gb s j).toNat := ⟨_, rfl⟩
      obtain ⟨d, hdE⟩ : ∃ d : Nat, d = (hexV (gb s j)).toNat := ⟨_, rfl⟩
      rw [← hcE] at hcc hc
      rw [← hdE] at hE hcc
      have hd16 : d < 16 := by rw [hdE]; exact hexV16 (hex_in HS.out hlt)
      clear hcE hdE hh
      by_cases hcut : 1152921504606846976 ≤ a
      · rw [if_pos (by omega)] at hE
        subst hE
        clear hacc
        rcases hcc with ⟨h1, h2, h3⟩ | ⟨h0, v, hv, h1, h2, h3⟩
        · have q1 : IntKind.u8.wrap ((c : Int) - 48) = (d : Int) := by rw [IntWalk.u8_in _ (by omega)]; omega
          clear h3
          go_wp2
          go_ret2
          exact ⟨rfl, hb3⟩
        · have q1 : IntKind.u8.wrap ((v : Int) - 97) = (v : Int) - 97 := IntWalk.u8_in _ (by omega)
          have q2 : IntKind.u8.wrap ((v : Int) - 97 + 10) = (d : Int) := by rw [IntWalk.u8_in _ (by omega)]; omega
          have CL := Lib.hid fun w => lower_any (c : Int) (v : Int) hv w
          clear h3 hv
          rcases h0 with h0 | h0
          all_goals
            obtain ⟨h4, h5⟩ := h0
            go_wp2_with (go_at_call 90; go_must (go_fit (CL.out _)); rintro e w1 ⟨rfl, rfl⟩)
            go_ret2
            exact ⟨rfl, hb3⟩
      · rw [if_neg (by omega)] at hE
        have hcut' : a < 1152921504606846976 := by omega
        have q3 : IntKind.u64.wrap (a * 16) = a * 16 := IntWalk.u64_in _ (by omega)
        have q4 : IntKind.u64.wrap (d : Int) = (d : Int) := IntWalk.u64_in _ (by omega)
        have q5 : IntKind.u64.wrap (a * 16 + (d : Int)) = a * 16 + (d : Int) := IntWalk.u64_in _ (by omega)
        have q6 : (a * 16 + (d : Int) < a * 16) = False := eq_false (by omega)
        have q7 : (18446744073709551615 < a * 16 + (d : Int)) = False := eq_false (by omega)
        have HN := Lib.hid (show a * 16 + (d : Int) = ((acc * 16 + d : Nat) : Int) ∧ o = hexG (acc * 16 + d) (s.drop (j + 1)) from ⟨by omega, hE⟩)
        clear hE hacc hcut
        rcases hcc with ⟨h1, h2, h3⟩ | ⟨h0, v, hv, h1, h2, h3⟩
        · have q1 : IntKind.u8.wrap ((c : Int) - 48) = (d : Int) := by rw [IntWalk.u8_in _ (by omega)]; omega
          clear h3
          go_wp2
          go_roundg (s.length - (j + 1))
          case measure => omega
          case rel => exact ⟨j + 1, acc * 16 + d, a * 16 + (d : Int), rfl, by omega, rfl, rfl, by go_num, by omega, by omega, HN, rfl⟩
        · have q1 : IntKind.u8.wrap ((v : Int) - 97) = (v : Int) - 97 := IntWalk.u8_in _ (by omega)
          have q2 : IntKind.u8.wrap ((v : Int) - 97 + 10) = (d : Int) := by rw [IntWalk.u8_in _ (by omega)]; omega
          have CL := Lib.hid fun w => lower_any (c : Int) (v : Int) hv w
          clear h3 hv
          rcases h0 with h0 | h0
          all_goals
            obtain ⟨h4, h5⟩ := h0
            go_wp2_with (go_at_call 90; go_must (go_fit (CL.out _)); rintro e w1 ⟨rfl, rfl⟩)
            go_roundg (s.length - (j + 1))
            case measure => omega
            case rel => exact ⟨j + 1, acc * 16 + d, a * 16 + (d : Int), rfl, by omega, rfl, rfl, by go_num, by omega, by omega, HN, rfl⟩
    · obtain rfl : j = s.length := by omega
      have hE := hexG_end hh.out.2
      have HA := Lib.hid hh.out.1
      subst hE
      clear hh
      go_wp2
      go_ret2
      exact ⟨by rw [HA.out]; rfl, hb3⟩
end Go.Proofs.YtaglbcniomcfnaaDoor

