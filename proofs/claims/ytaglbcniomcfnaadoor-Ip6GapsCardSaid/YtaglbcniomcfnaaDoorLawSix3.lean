/- The walk of the statement Ip6Long. -/
import Derived.Test.YtaglbcniomcfnaaDoorLawSix
import Derived.StillTailTactics
namespace Go.Proofs.YtaglbcniomcfnaaDoor
set_option linter.all false
open Go.RowKit

theorem sign16_fin : ∀ k : Fin 16, (⟨#[48, 49, 50, 51, 52, 53, 54, 55, 56, 57, 97, 98, 99, 100, 101, 102]⟩ : ByteArray).data[k.val]? = some (dch k.val) := by decide +kernel
theorem sign16_at {d : Nat} (h1 : d < 16) (h : d < (⟨#[48, 49, 50, 51, 52, 53, 54, 55, 56, 57, 97, 98, 99, 100, 101, 102]⟩ : ByteArray).size) : (⟨#[48, 49, 50, 51, 52, 53, 54, 55, 56, 57, 97, 98, 99, 100, 101, 102]⟩ : ByteArray)[d]'h = dch d := by
  have h1 := sign16_fin ⟨d, h1⟩
  have h2 : (⟨#[48, 49, 50, 51, 52, 53, 54, 55, 56, 57, 97, 98, 99, 100, 101, 102]⟩ : ByteArray).data[d]? = some _ := Array.getElem?_eq_getElem (i := d) h
  rw [h2] at h1
  exact Option.some.inj h1
theorem u16_and15 {x : Nat} (h : x < 65536) : bits .and .u16 (x : Int) 15 = ((x % 16 : Nat) : Int) := by
  show IntKind.u16.wrap ((BitVec.ofInt 16 (x : Int) &&& BitVec.ofInt 16 ((15 : Nat) : Int)).toNat : Int) = _
  have e1 : BitVec.ofInt 16 (x : Int) = BitVec.ofNat 16 x := BitVec.ofInt_natCast ..
  have e2 : BitVec.ofInt 16 ((15 : Nat) : Int) = BitVec.ofNat 16 15 := BitVec.ofInt_natCast ..
  rw [e1, e2, BitVec.toNat_and, BitVec.toNat_ofNat, BitVec.toNat_ofNat, Nat.mod_eq_of_lt (show x < 2 ^ 16 by omega), Nat.mod_eq_of_lt (show 15 < 2 ^ 16 by decide), show (15 : Nat) = 2 ^ 4 - 1 from rfl, Nat.and_two_pow_sub_one_eq_mod, u16_wrapN, Nat.mod_eq_of_lt (by omega)]
theorem u32_orN {a b : Nat} (ha : a < 65536) (hb : b < 65536) : bits .or .u32 ((a * 65536 : Nat) : Int) (b : Int) = ((a * 65536 + b : Nat) : Int) := by
  have he : a * 65536 ||| b = a * 65536 + b := by
    have := Nat.shiftLeft_add_eq_or_of_lt (show b < 2 ^ 16 from hb) a
    rw [Nat.shiftLeft_eq] at this
    exact this.symm
  show IntKind.u32.wrap ((BitVec.ofInt 32 ((a * 65536 : Nat) : Int) ||| BitVec.ofInt 32 (b : Int)).toNat : Int) = _
  have e1 : BitVec.ofInt 32 ((a * 65536 : Nat) : Int) = BitVec.ofNat 32 (a * 65536) := BitVec.ofInt_natCast ..
  have e2 : BitVec.ofInt 32 (b : Int) = BitVec.ofNat 32 b := BitVec.ofInt_natCast ..
  rw [e1, e2, BitVec.toNat_or, BitVec.toNat_ofNat, BitVec.toNat_ofNat, Nat.mod_eq_of_lt (by omega), Nat.mod_eq_of_lt (by omega), he, u32_wrapN (by omega)]
/-- The pieces, each with a colon behind. -/
def colons (l : List Nat) : List UInt8 := l.flatMap fun x => dig4 x ++ [58]
theorem colons_snoc (l : List Nat) (x : Nat) : colons (l ++ [x]) = colons l ++ dig4 x ++ [58] := by
  unfold colons; rw [List.flatMap_append]; simp
theorem colons_hexs : ∀ (l : List Nat), l ≠ [] → colons l = hexs dig4 l ++ [58] := by
  intro l
  induction l with
  | nil => intro h; exact absurd rfl h
  | cons x l ih =>
    intro _
    cases l with
    | nil => rw [hexs_one]; simp [colons]
    | cons y r =>
      rw [hexs_more]
      have := ih (by simp)
      unfold colons at this ⊢
      rw [List.flatMap_cons, this]; simp
theorem dig4_len (x : Nat) : (dig4 x).length = 4 := rfl
theorem hexs4_snoc (l : List Nat) (x : Nat) : hexs dig4 (l ++ [x]) = if l = [] then dig4 x else hexs dig4 l ++ [58] ++ dig4 x := by
  by_cases h : l = []
  · rw [if_pos h, h, List.nil_append, hexs_one]
  · rw [if_neg h, hexs_snoc _ _ _ h]; simp
theorem take_next {a : List Nat} {j x : Nat} (h : a[j]? = some x) : a.take (j + 1) = a.take j ++ [x] := by
  obtain ⟨hj, e⟩ := List.getElem?_eq_some_iff.1 h
  rw [take_snoc' _ j hj, e]

-- One piece as four digits.
set_option maxRecDepth 100000 in
set_option maxHeartbeats 16000000 in
theorem ip6Long_walk (a : List Nat) (a0 a1 a2 a3 a4 a5 a6 a7 : Nat) (ha : a = [a0, a1, a2, a3, a4, a5, a6, a7]) (h16 : ∀ x ∈ a, x < 65536) (w : World) (hq : L8 w) :
    Calls Tryd.prog 10 #[.agg #[.int .u16 (a0 : Int), .int .u16 (a1 : Int), .int .u16 (a2 : Int), .int .u16 (a3 : Int), .int .u16 (a4 : Int), .int .u16 (a5 : Int), .int .u16 (a6 : Int), .int .u16 (a7 : Int)]] w fun e w' => e = .returned (.bool true) ∧ Below w.heap.size w w' := by
  have hl8 : a.length = 8 := by rw [ha]; rfl
  have p1 : pParse6 (hexs dig4 a) = some a := by rw [parse6_eq]; exact parse_full spell_four h16 hl8
  have h6 := h16 a6 (by rw [ha]; simp)
  have h7 := h16 a7 (by rw [ha]; simp)
  have p2 : pParse6 (colons (a.take 6) ++ pShow4 (a6 * 65536 + a7)) = some a := by
    rw [parse6_eq, colons_hexs _ (by rw [ha]; simp), List.append_assoc, List.singleton_append, parse_long spell_four (fun x hx => h16 x (List.mem_of_mem_take hx)) (by rw [List.length_take, hl8]; rfl) (by omega), show (a6 * 65536 + a7) / 65536 = a6 by omega, show (a6 * 65536 + a7) % 65536 = a7 by omega, ha]; rfl
  have hb0 : Below w.heap.size w (w.alloc (.cells #[.int .u16 (a0 : Int), .int .u16 (a1 : Int), .int .u16 (a2 : Int), .int .u16 (a3 : Int), .int .u16 (a4 : Int), .int .u16 (a5 : Int), .int .u16 (a6 : Int), .int .u16 (a7 : Int)] 39)) := (Below.refl _ _).alloc (Nat.le_refl _) _
  have hR0 : Row (w.alloc (.cells #[.int .u16 (a0 : Int), .int .u16 (a1 : Int), .int .u16 (a2 : Int), .int .u16 (a3 : Int), .int .u16 (a4 : Int), .int .u16 (a5 : Int), .int .u16 (a6 : Int), .int .u16 (a7 : Int)] 39)) w.heap.size (u16s a) := by rw [ha]; exact Row.made w #[.int .u16 (a0 : Int), .int .u16 (a1 : Int), .int .u16 (a2 : Int), .int .u16 (a3 : Int), .int .u16 (a4 : Int), .int .u16 (a5 : Int), .int .u16 (a6 : Int), .int .u16 (a7 : Int)] 39
  have H16 := Lib.hid h16
  have HA := Lib.hid ha
  have P1 := Lib.hid p1
  have P2 := Lib.hid p2
  clear ha h16 p1 p2
  go_enter Tryd.func10, Tryd.ntmps10
  go_wp2_with (go_at_call 23; go_must (go_fit (begun8_any _ (hq.next hb0))); rintro e w1 ⟨rfl, hb1⟩; have hbA := bnext hb0 hb1; have hR1 := Row.below hR0 hb1 hR0.2.2)
  go_loopg [3, 4, 5] 8 (fun k s3 s4 s5 wr => ∃ (j : Nat) (S T : List UInt8), k = 8 - j ∧ j ≤ 8 ∧ s5 = .int .i64 j ∧ s3 = .string (str S) ∧ s4 = .string (str T) ∧ S.length ≤ 5 * j ∧ T.length ≤ 5 * j ∧ Hid (S = hexs dig4 (a.take j) ∧ T = colons ((a.take 6).take j)) ∧ Row wr w.heap.size (u16s a) ∧ Below w.heap.size w wr)
  case atStart => exact ⟨0, [], [], rfl, by omega, rfl, rfl, rfl, by simp, by simp, ⟨rfl, rfl⟩, hR1, hbA⟩
  case round =>
    obtain ⟨j, S, T, rfl, hj, rfl, rfl, rfl, hSl, hTl, HST, hR, hbel⟩ := hrel
    by_cases hlt : j < 8
    · obtain ⟨x, hx⟩ : ∃ x, a[j]? = some x := ⟨_, List.getElem?_eq_getElem (by omega)⟩
      have hx16 := H16.out x (List.mem_of_getElem? hx)
      have hc := hR.1 j _ (u16s_get hx)
      have hj0 : (0 : Int) ≤ (j : Int) := by omega
      have hj8 : (j : Int) < 8 := by omega
      have HT1 := Lib.hid (take_next hx)
      have HX := Lib.hid hx
      clear hx
      obtain ⟨d0, hd0⟩ : ∃ d0 : Nat, d0 = x / 4096 := ⟨_, rfl⟩
      obtain ⟨q1, hq1⟩ : ∃ q1 : Nat, q1 = x / 256 := ⟨_, rfl⟩
      obtain ⟨q2, hq2⟩ : ∃ q2 : Nat, q2 = x / 16 := ⟨_, rfl⟩
      obtain ⟨d1, hd1⟩ : ∃ d1 : Nat, d1 = q1 % 16 := ⟨_, rfl⟩
      obtain ⟨d2, hd2⟩ : ∃ d2 : Nat, d2 = q2 % 16 := ⟨_, rfl⟩
      obtain ⟨d3, hd3⟩ : ∃ d3 : Nat, d3 = x % 16 := ⟨_, rfl⟩
      have i0 : (x : Int) / 4096 = (d0 : Int) := by rw [hd0]; rfl
      have i1 : (x : Int) / 256 = (q1 : Int) := by rw [hq1]; rfl
      have i2 : (x : Int) / 16 = (q2 : Int) := by rw [hq2]; rfl
      have b1 := u16_and15 (x := q1) (by omega)
      have b2 := u16_and15 (x := q2) (by omega)
      have b3 := u16_and15 (x := x) hx16
      rw [← hd1] at b1
      rw [← hd2] at b2
      rw [← hd3] at b3
      have g0 := fun h => sign16_at (d := d0) (by omega) h
      have g1 := fun h => sign16_at (d := d1) (by omega) h
      have g2 := fun h => sign16_at (d := d2) (by omega) h
      have g3 := fun h => sign16_at (d := d3) (by omega) h
      have l0 : (d0 : Int) < 16 := by omega
      have l1 : (d1 : Int) < 16 := by omega
      have l2 : (d2 : Int) < 16 := by omega
      have l3 : (d3 : Int) < 16 := by omega
      have m0 : d0 < 16 := by omega
      have m1 : d1 < 16 := by omega
      have m2 : d2 < 16 := by omega
      have m3 : d3 < 16 := by omega
      obtain ⟨P, hP⟩ : ∃ P, P = [dch d0, dch d1, dch d2, dch d3] := ⟨_, rfl⟩
      have HPD := Lib.hid (show dig4 x = P by rw [hP]; unfold dig4; rw [hd0, hd1, hd2, hd3, hq1, hq2])
      have hPl : P.length = 4 := by rw [hP]; rfl
      have hst := str_atN (w := (wr.alloc (.cells #[.int .u8 ((dch d0).toNat : Int), .int .u8 ((dch d1).toNat : Int), .int .u8 ((dch d2).toNat : Int), .int .u8 ((dch d3).toNat : Int)] 5)).drew) (n := 4) (c := 4) (l := P) (by have := @Rd.lit wr #[.int .u8 ((dch d0).toNat : Int), .int .u8 ((dch d1).toNat : Int), .int .u8 ((dch d2).toNat : Int), .int .u8 ((dch d3).toNat : Int)] 5 (0, 0); rw [hP]; exact this) hPl.symm
      have hyP := str_size P
      have hyS := str_size S
      have hyT := str_size T
      clear hd0 hd1 hd2 hd3 hq1 hq2 hP
      have hbN := (hbel.alloc hbel.size (.cells #[.int .u8 ((dch d0).toNat : Int), .int .u8 ((dch d1).toNat : Int), .int .u8 ((dch d2).toNat : Int), .int .u8 ((dch d3).toNat : Int)] 5)).drew
      have hRN := (hR.far (.cells #[.int .u8 ((dch d0).toNat : Int), .int .u8 ((dch d1).toNat : Int), .int .u8 ((dch d2).toNat : Int), .int .u8 ((dch d3).toNat : Int)] 5))
      have kP : (9223372036854775807 < S.length + 4) = False := eq_false (by omega)
      have kT : (9223372036854775807 < T.length + 4) = False := eq_false (by omega)
      by_cases h0 : j = 0
      · have hS0 : S = [] := by rw [HST.out.1, h0]; rfl
        have hT0 : T = [] := by rw [HST.out.2, h0]; rfl
        obtain ⟨S2, hS2⟩ : ∃ Z0, Z0 = S ++ P := ⟨_, rfl⟩
        have eS2 : str S ++ str P = str S2 := (str_app S P).trans (by rw [hS2])
        have nS2 : S2.length ≤ 40 := by rw [hS2, List.length_append]; omega
        have yS2 := str_size S2
        have kS2 : (9223372036854775807 < S.length + P.length) = False := eq_false (by omega)
        obtain ⟨T1, hT1⟩ : ∃ Z0, Z0 = T ++ P := ⟨_, rfl⟩
        have eT1 : str T ++ str P = str T1 := (str_app T P).trans (by rw [hT1])
        have nT1 : T1.length ≤ 40 := by rw [hT1, List.length_append]; omega
        have yT1 := str_size T1
        have kT1 : (9223372036854775807 < T.length + P.length) = False := eq_false (by omega)
        obtain ⟨T2, hT2⟩ : ∃ Z0, Z0 = T1 ++ [58] := ⟨_, rfl⟩
        have eT2 : str T1 ++ { data := #[58] } = str T2 := (str_app T1 [58]).trans (by rw [hT2])
        have nT2 : T2.length ≤ 41 := by rw [hT2, List.length_append]; simp only [List.length_cons, List.length_nil]; omega
        have yT2 := str_size T2
        have kT2 : (9223372036854775807 < T1.length + 1) = False := eq_false (by omega)
        have HR1 := Lib.hid (show S2 = hexs dig4 (a.take (j + 1)) by rw [hS2, hS0, HT1.out, hexs4_snoc, if_pos (by rw [h0]; rfl), HPD.out]; rfl)
        have HR2 := Lib.hid (show T2 = colons ((a.take 6).take (j + 1)) by rw [hT2, hT1, hT0, List.take_take, Nat.min_eq_left (by omega), HT1.out, colons_snoc, h0, HPD.out]; rfl)
        have HL2 := Lib.hid (show S2.length ≤ 5 * (j + 1) ∧ T2.length ≤ 5 * (j + 1) by rw [hT2, hT1, hS2]; simp only [List.length_append, List.length_cons, List.length_nil]; omega)
        have hj1 : ¬ (0 : Int) < (j : Int) := by omega
        have hj6 : (j : Int) < 6 := by omega
        clear hS2 hT1 hT2 hS0 hT0 h0
        go_wp2
        refine wp_region_still_tail 22 (by kernel_rfl) (by kernel_rfl) ?_
        change wpStill _ _ wr.drew _ _ _
        simp only [List.take_succ_cons, List.take_zero, List.drop_succ_cons, List.drop_zero]
        repeat still_step
        refine wpStill_nil ?_
        change wpList _ _ _ _ _ wr.drew
        go_wp2
        go_roundg (8 - (j + 1))
        case measure => omega
        case rel => exact ⟨j + 1, S2, T2, rfl, by omega, by go_num, rfl, rfl, HL2.out.1, HL2.out.2, ⟨HR1.out, HR2.out⟩, hRN, hbN⟩
      · have hj1 : (0 : Int) < (j : Int) := by omega
        obtain ⟨S1, hS1⟩ : ∃ Z0, Z0 = S ++ [58] := ⟨_, rfl⟩
        have eS1 : str S ++ { data := #[58] } = str S1 := (str_app S [58]).trans (by rw [hS1])
        have nS1 : S1.length ≤ 50 := by rw [hS1, List.length_append]; simp only [List.length_cons, List.length_nil]; omega
        have yS1 := str_size S1
        have kS1 : (9223372036854775807 < S.length + 1) = False := eq_false (by omega)
        obtain ⟨S2, hS2⟩ : ∃ Z0, Z0 = S1 ++ P := ⟨_, rfl⟩
        have eS2 : str S1 ++ str P = str S2 := (str_app S1 P).trans (by rw [hS2])
        have nS2 : S2.length ≤ 60 := by rw [hS2, List.length_append]; omega
        have yS2 := str_size S2
        have kS2 : (9223372036854775807 < S1.length + P.length) = False := eq_false (by omega)
        have kS2 : (9223372036854775807 < S1.length + 4) = False := eq_false (by omega)
        have HR1 := Lib.hid (show S2 = hexs dig4 (a.take (j + 1)) by rw [hS2, hS1, HT1.out, hexs4_snoc, if_neg (fun e => by have := congrArg List.length e; rw [List.length_take, hl8] at this; simp at this; omega), HPD.out, HST.out.1])
        have HL2 := Lib.hid (show S2.length ≤ 5 * (j + 1) by rw [hS2, hS1]; simp only [List.length_append, List.length_cons, List.length_nil]; omega)
        by_cases h6' : j < 6
        · have hj6 : (j : Int) < 6 := by omega
          obtain ⟨T1, hT1⟩ : ∃ Z0, Z0 = T ++ P := ⟨_, rfl⟩
          have eT1 : str T ++ str P = str T1 := (str_app T P).trans (by rw [hT1])
          have nT1 : T1.length ≤ 50 := by rw [hT1, List.length_append]; omega
          have yT1 := str_size T1
          have kT1 : (9223372036854775807 < T.length + P.length) = False := eq_false (by omega)
          obtain ⟨T2, hT2⟩ : ∃ Z0, Z0 = T1 ++ [58] := ⟨_, rfl⟩
          have eT2 : str T1 ++ { data := #[58] } = str T2 := (str_app T1 [58]).trans (by rw [hT2])
          have nT2 : T2.length ≤ 51 := by rw [hT2, List.length_append]; simp only [List.length_cons, List.length_nil]; omega
          have yT2 := str_size T2
          have kT2 : (9223372036854775807 < T1.length + 1) = False := eq_false (by omega)
          have HR2 := Lib.hid (show T2 = colons ((a.take 6).take (j + 1)) by rw [hT2, hT1, HST.out.2, List.take_take, List.take_take, Nat.min_eq_left (by omega), Nat.min_eq_left (by omega), HT1.out, colons_snoc, HPD.out])
          have HL3 := Lib.hid (show T2.length ≤ 5 * (j + 1) by rw [hT2, hT1]; simp only [List.length_append, List.length_cons, List.length_nil]; omega)
          clear hS1 hS2 hT1 hT2 h0 h6'
          go_wp2
          refine wp_region_still_tail 22 (by kernel_rfl) (by kernel_rfl) ?_
          change wpStill _ _ wr.drew _ _ _
          simp only [List.take_succ_cons, List.take_zero, List.drop_succ_cons, List.drop_zero]
          repeat still_step
          refine wpStill_nil ?_
          change wpList _ _ _ _ _ wr.drew
          go_wp2
          go_roundg (8 - (j + 1))
          case measure => omega
          case rel => exact ⟨j + 1, S2, T2, rfl, by omega, by go_num, rfl, rfl, HL2.out, HL3.out, ⟨HR1.out, HR2.out⟩, hRN, hbN⟩
        · have hj6 : ¬ (j : Int) < 6 := by omega
          have HR2 := Lib.hid (show T = colons ((a.take 6).take (j + 1)) by rw [HST.out.2, List.take_take, List.take_take, Nat.min_eq_right (by omega), Nat.min_eq_right (by omega)])
          clear hS1 hS2 h0 h6'
          go_wp2
          refine wp_region_still_tail 22 (by kernel_rfl) (by kernel_rfl) ?_
          change wpStill _ _ wr.drew _ _ _
          simp only [List.take_succ_cons, List.take_zero, List.drop_succ_cons, List.drop_zero]
          repeat still_step
          refine wpStill_nil ?_
          change wpList _ _ _ _ _ wr.drew
          go_wp2
          go_roundg (8 - (j + 1))
          case measure => omega
          case rel => exact ⟨j + 1, S2, T, rfl, by omega, by go_num, rfl, rfl, HL2.out, by omega, ⟨HR1.out, HR2.out⟩, hRN, hbN⟩
    · obtain rfl : j = 8 := by omega
      obtain ⟨b, hbE⟩ : ∃ b, b = a6 * 65536 + a7 := ⟨_, rfl⟩
      have hS8 : S = hexs dig4 a := by rw [HST.out.1, List.take_of_length_le (by omega)]
      have hT8 : T = colons (a.take 6) := by rw [HST.out.2, List.take_take]; rfl
      obtain ⟨V, hV⟩ : ∃ V, V = pShow4 b := ⟨_, rfl⟩
      have hVl : V.length ≤ 15 := by rw [hV]; exact show4_len
      have p1 := P1.out
      have p2 := P2.out
      rw [← hS8] at p1
      rw [← hT8, ← hbE, ← hV] at p2
      have C4 := Lib.hid fun w => rshow4_any b w (by omega)
      rw [← hV] at C4
      obtain ⟨U, hU⟩ : ∃ Z0, Z0 = T ++ V := ⟨_, rfl⟩
      have eU : str T ++ str V = str U := (str_app T V).trans (by rw [hU])
      have nU : U.length ≤ 60 := by rw [hU, List.length_append]; omega
      have yU := str_size U
      have kU : (9223372036854775807 < T.length + V.length) = False := eq_false (by omega)
      rw [← hU] at p2
      have ha := HA.out
      rw [ha] at p1 p2 hR
      have C1 := Lib.hid fun w hev => parse6_some S p1 w hev (by omega)
      have C2 := Lib.hid fun w hev => parse6_some U p2 w hev (by omega)
      have hyV := str_size V
      have hyT := str_size T
      obtain ⟨p6, hp6⟩ : ∃ p6 : Nat, p6 = a6 * 65536 := ⟨_, rfl⟩
      have c6 : wr.cell? ⟨w.heap.size, 6, none⟩ = some (.int .u16 (a6 : Int)) := hR.1 6 _ rfl
      have c7 : wr.cell? ⟨w.heap.size, 7, none⟩ = some (.int .u16 (a7 : Int)) := hR.1 7 _ rfl
      have v6 := u32_wrapN (x := a6) (by omega)
      have v7 := u32_wrapN (x := a7) (by omega)
      have v8 : IntKind.u32.wrap ((a6 : Int) * 65536) = (p6 : Int) := by rw [hp6, ← u32_wrapN (x := a6 * 65536) (by omega)]; simp
      have v9 := u32_orN h6 h7
      rw [← hbE, ← hp6] at v9
      have hqr := hq.next hbel
      have heq := eqA8 (a0 : Int) a1 a2 a3 a4 a5 a6 a7
      clear hS8 hT8 hV p1 p2 ha hU hbE hp6
      go_wp2_with (first
        | (go_at_call 20; go_must (go_fit (C4.out wr)); rintro e v1 ⟨rfl, hc1⟩; have hbB := bnext hbel hc1; have hqB := hq.next hbB; have hRB := hR.below hc1 hR.2.2)
        | (go_at_call 24; go_fit (C1.out _ hqB.1); rintro e w4 ⟨rfl, hb4⟩; have hRw4 := hRB.below hb4 hRB.2.2; have hbC := bnew (bnext hbB hb4) (.cells #[.int .u16 (a0 : Int), .int .u16 (a1 : Int), .int .u16 (a2 : Int), .int .u16 (a3 : Int), .int .u16 (a4 : Int), .int .u16 (a5 : Int), .int .u16 (a6 : Int), .int .u16 (a7 : Int)] 39); have hqC := hq.next hbC; have hR4 := Row.made w4 #[.int .u16 (a0 : Int), .int .u16 (a1 : Int), .int .u16 (a2 : Int), .int .u16 (a3 : Int), .int .u16 (a4 : Int), .int .u16 (a5 : Int), .int .u16 (a6 : Int), .int .u16 (a7 : Int)] 39)
        | (go_at_call 24; go_fit (C2.out _ hqC.1); rintro e w6 ⟨rfl, hb6⟩; have hRw6 := (hRw4.far _).below hb6 (hRw4.far (.cells #[.int .u16 (a0 : Int), .int .u16 (a1 : Int), .int .u16 (a2 : Int), .int .u16 (a3 : Int), .int .u16 (a4 : Int), .int .u16 (a5 : Int), .int .u16 (a6 : Int), .int .u16 (a7 : Int)] 39)).2.2; have hR46 := hR4.below hb6 hR4.2.2; have hR6 := Row.made w6 #[.int .u16 (a0 : Int), .int .u16 (a1 : Int), .int .u16 (a2 : Int), .int .u16 (a3 : Int), .int .u16 (a4 : Int), .int .u16 (a5 : Int), .int .u16 (a6 : Int), .int .u16 (a7 : Int)] 39; have x0 : ∀ o, (w6.alloc o).cell? ⟨w.heap.size, 0, none⟩ = some (.int .u16 (a0 : Int)) := fun o => (Row.far hRw6 o).1 0 _ rfl; have x1 : ∀ o, (w6.alloc o).cell? ⟨w.heap.size, 1, none⟩ = some (.int .u16 (a1 : Int)) := fun o => (Row.far hRw6 o).1 1 _ rfl; have x2 : ∀ o, (w6.alloc o).cell? ⟨w.heap.size, 2, none⟩ = some (.int .u16 (a2 : Int)) := fun o => (Row.far hRw6 o).1 2 _ rfl; have x3 : ∀ o, (w6.alloc o).cell? ⟨w.heap.size, 3, none⟩ = some (.int .u16 (a3 : Int)) := fun o => (Row.far hRw6 o).1 3 _ rfl; have x4 : ∀ o, (w6.alloc o).cell? ⟨w.heap.size, 4, none⟩ = some (.int .u16 (a4 : Int)) := fun o => (Row.far hRw6 o).1 4 _ rfl; have x5 : ∀ o, (w6.alloc o).cell? ⟨w.heap.size, 5, none⟩ = some (.int .u16 (a5 : Int)) := fun o => (Row.far hRw6 o).1 5 _ rfl; have x6 : ∀ o, (w6.alloc o).cell? ⟨w.heap.size, 6, none⟩ = some (.int .u16 (a6 : Int)) := fun o => (Row.far hRw6 o).1 6 _ rfl; have x7 : ∀ o, (w6.alloc o).cell? ⟨w.heap.size, 7, none⟩ = some (.int .u16 (a7 : Int)) := fun o => (Row.far hRw6 o).1 7 _ rfl; have y0 : ∀ o, (w6.alloc o).cell? ⟨w4.heap.size, 0, none⟩ = some (.int .u16 (a0 : Int)) := fun o => (Row.far hR46 o).1 0 _ rfl; have y1 : ∀ o, (w6.alloc o).cell? ⟨w4.heap.size, 1, none⟩ = some (.int .u16 (a1 : Int)) := fun o => (Row.far hR46 o).1 1 _ rfl; have y2 : ∀ o, (w6.alloc o).cell? ⟨w4.heap.size, 2, none⟩ = some (.int .u16 (a2 : Int)) := fun o => (Row.far hR46 o).1 2 _ rfl; have y3 : ∀ o, (w6.alloc o).cell? ⟨w4.heap.size, 3, none⟩ = some (.int .u16 (a3 : Int)) := fun o => (Row.far hR46 o).1 3 _ rfl; have y4 : ∀ o, (w6.alloc o).cell? ⟨w4.heap.size, 4, none⟩ = some (.int .u16 (a4 : Int)) := fun o => (Row.far hR46 o).1 4 _ rfl; have y5 : ∀ o, (w6.alloc o).cell? ⟨w4.heap.size, 5, none⟩ = some (.int .u16 (a5 : Int)) := fun o => (Row.far hR46 o).1 5 _ rfl; have y6 : ∀ o, (w6.alloc o).cell? ⟨w4.heap.size, 6, none⟩ = some (.int .u16 (a6 : Int)) := fun o => (Row.far hR46 o).1 6 _ rfl; have y7 : ∀ o, (w6.alloc o).cell? ⟨w4.heap.size, 7, none⟩ = some (.int .u16 (a7 : Int)) := fun o => (Row.far hR46 o).1 7 _ rfl; have z0 : (w6.alloc (.cells #[.int .u16 (a0 : Int), .int .u16 (a1 : Int), .int .u16 (a2 : Int), .int .u16 (a3 : Int), .int .u16 (a4 : Int), .int .u16 (a5 : Int), .int .u16 (a6 : Int), .int .u16 (a7 : Int)] 39)).cell? ⟨w6.heap.size, 0, none⟩ = some (.int .u16 (a0 : Int)) := hR6.1 0 _ rfl; have z1 : (w6.alloc (.cells #[.int .u16 (a0 : Int), .int .u16 (a1 : Int), .int .u16 (a2 : Int), .int .u16 (a3 : Int), .int .u16 (a4 : Int), .int .u16 (a5 : Int), .int .u16 (a6 : Int), .int .u16 (a7 : Int)] 39)).cell? ⟨w6.heap.size, 1, none⟩ = some (.int .u16 (a1 : Int)) := hR6.1 1 _ rfl; have z2 : (w6.alloc (.cells #[.int .u16 (a0 : Int), .int .u16 (a1 : Int), .int .u16 (a2 : Int), .int .u16 (a3 : Int), .int .u16 (a4 : Int), .int .u16 (a5 : Int), .int .u16 (a6 : Int), .int .u16 (a7 : Int)] 39)).cell? ⟨w6.heap.size, 2, none⟩ = some (.int .u16 (a2 : Int)) := hR6.1 2 _ rfl; have z3 : (w6.alloc (.cells #[.int .u16 (a0 : Int), .int .u16 (a1 : Int), .int .u16 (a2 : Int), .int .u16 (a3 : Int), .int .u16 (a4 : Int), .int .u16 (a5 : Int), .int .u16 (a6 : Int), .int .u16 (a7 : Int)] 39)).cell? ⟨w6.heap.size, 3, none⟩ = some (.int .u16 (a3 : Int)) := hR6.1 3 _ rfl; have z4 : (w6.alloc (.cells #[.int .u16 (a0 : Int), .int .u16 (a1 : Int), .int .u16 (a2 : Int), .int .u16 (a3 : Int), .int .u16 (a4 : Int), .int .u16 (a5 : Int), .int .u16 (a6 : Int), .int .u16 (a7 : Int)] 39)).cell? ⟨w6.heap.size, 4, none⟩ = some (.int .u16 (a4 : Int)) := hR6.1 4 _ rfl; have z5 : (w6.alloc (.cells #[.int .u16 (a0 : Int), .int .u16 (a1 : Int), .int .u16 (a2 : Int), .int .u16 (a3 : Int), .int .u16 (a4 : Int), .int .u16 (a5 : Int), .int .u16 (a6 : Int), .int .u16 (a7 : Int)] 39)).cell? ⟨w6.heap.size, 5, none⟩ = some (.int .u16 (a5 : Int)) := hR6.1 5 _ rfl; have z6 : (w6.alloc (.cells #[.int .u16 (a0 : Int), .int .u16 (a1 : Int), .int .u16 (a2 : Int), .int .u16 (a3 : Int), .int .u16 (a4 : Int), .int .u16 (a5 : Int), .int .u16 (a6 : Int), .int .u16 (a7 : Int)] 39)).cell? ⟨w6.heap.size, 6, none⟩ = some (.int .u16 (a6 : Int)) := hR6.1 6 _ rfl; have z7 : (w6.alloc (.cells #[.int .u16 (a0 : Int), .int .u16 (a1 : Int), .int .u16 (a2 : Int), .int .u16 (a3 : Int), .int .u16 (a4 : Int), .int .u16 (a5 : Int), .int .u16 (a6 : Int), .int .u16 (a7 : Int)] 39)).cell? ⟨w6.heap.size, 7, none⟩ = some (.int .u16 (a7 : Int)) := hR6.1 7 _ rfl))
      go_ret
      exact ⟨rfl, bnew (bnext hbC hb6) _⟩
end Go.Proofs.YtaglbcniomcfnaaDoor

