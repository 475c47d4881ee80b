/- The walk of puny.Decode. -/
import Derived.Test.YtfandijagdiggaaGreatDoorK14
import Derived.Test.YtfandijagdiggaaGreatDoorK10
import Derived.Test.YtfandijagdiggaaGreatDoorK06
import Derived.Test.YtfandijagdiggaaGreatDoorShelf
namespace Go.Proofs.YtfandijagdiggaaGreatDoor
set_option linter.all false
open Go.RowKit

/-- What a decoder of Punycode answers. -/
def DecP (w : World) (o : Option (List Int)) (e : Ending) (w' : World) : Prop :=
  Below w.heap.size w w' ∧ match o with
    | none => e = .returned (.tuple #[.slice none 0 0, .int .i64 2])
    | some l => ∃ v', e = .returned (.tuple #[v', .int .i64 0]) ∧ w'.ownsRow w.heap.size 21 1 v' l.length (runes l)

theorem runeRow_own (w : World) (l : List Int) {base : Nat} (hb : base ≤ w.heap.size) (hl : l.length ≤ 1000000) :
    (w.drew.alloc (runeRow w l 21)).ownsRow base 21 1 (.slice (some ⟨w.heap.size, 0, none⟩) l.length (grownCap w l.length 0 21)) l.length (runes l) := by
  have h1 := grownCap_ge w l.length 0 21
  have h2 := grownCap_le_maxLen w l.length 0 21 (by unfold maxLen; omega)
  have hrow : (w.drew.alloc (runeRow w l 21)).heap[w.heap.size]? = some (runeRow w l 21) := heap_alloc_new w.drew _
  refine ⟨by rw [runes_len, Nat.mul_one], .inr ⟨w.heap.size, _, _, rfl, hb, hrow, h1, h2, ?_, ?_⟩⟩
  · rw [Array.size_append, Array.size_replicate, List.size_toArray, runes_len]; omega
  · rw [Array.toList_append, Nat.mul_one, ← runes_len l, List.take_left]


set_option maxRecDepth 100000 in
set_option maxHeartbeats 16000000 in
theorem pdecode_any (s : List UInt8) (w : World) (hs : s.length ≤ 1000000) :
    Calls Tryz.prog 171 #[.string (str s)] w (DecP w (unpuny s)) := by
  have hsz := str_size s
  by_cases h200 : 200 < s.length
  · have h200' : (200 : Int) < (s.length : Int) := by omega
    have HU := Lib.hid (unpuny_long h200)
    clear h200
    go_enter Tryz.func171, Tryz.ntmps171
    go_wp2
    go_ret2
    rw [HU.out]
    exact ⟨Below.refl _ _, rfl⟩
  have h200' : (s.length : Int) ≤ 200 := by omega
  have CL := Lib.hid fun w => (Tryz.strings_LastIndexByte (str s) 45 (by rw [hsz]; omega) w).mono fun e w' h => (⟨h.1, h.2.symm⟩ : e = .returned (.int .i64 (Lib.lastIndexByte (str s) 45)) ∧ w = w')
  rw [last_dash] at CL
  by_cases hd : 0 < dash s
  · obtain ⟨n, hn, hdn, _, _⟩ : ∃ i : Nat, i < s.length ∧ dash s = i ∧ s.getD i 0 = 45 ∧ ∀ j, i < j → j < s.length → s.getD j 0 ≠ 45 := by
      rcases dashN_spec s s.length with ⟨h1, _⟩ | h
      · have : dash s = -1 := h1
        omega
      · exact h
    have hR : dRest s = dr s (n + 1) := by unfold dRest; rw [if_pos hd, hdn, Int.toNat_natCast]; rfl
    have hB : dBase s = tk s n := by unfold dBase; rw [if_pos hd, hdn, Int.toNat_natCast]; rfl
    have HR := Lib.hid hR
    have HB := Lib.hid hB
    rw [hdn] at CL hd
    clear hR hB hdn
    have hn1 : (n : Int) < (s.length : Int) := by omega
    have hw1 : IntKind.i64.wrap ((n : Int) + 1) = (n : Int) + 1 := by rw [IntKind.wrap_i64]; omega
    have hf := str_front s n
    have hend := str_end s (n + 1)
    have hlB : (tk s n).length ≤ 200 := by rw [tk_len]; omega
    have hkr := fun (w : World) => runes_at w (b := tk s n) (by omega)
    have hul := uDec_len_le (tk s n)
    have hown0 := runeRow_own w.drew (uDec (tk s n)) (base := w.heap.size) (Nat.le_refl _) (by omega)
    have hbel0 : Below w.heap.size w (w.drew.drew.alloc (runeRow w.drew (uDec (tk s n)) 21)) := ((Below.refl _ _).drew.drew).alloc (Nat.le_refl _) _
    obtain ⟨W1, hW1⟩ : ∃ W1, W1 = (w.alloc (runeRow w.drew (uDec (tk s n)) 21)).drew.drew := ⟨_, rfl⟩
    have hW1o : W1.ownsRow w.heap.size 21 1 (.slice (some ⟨w.heap.size, 0, none⟩) (uDec (tk s n)).length (grownCap w.drew (uDec (tk s n)).length 0 21)) (uDec (tk s n)).length (runes (uDec (tk s n))) := by rw [hW1]; exact hown0
    have hW1b : Below w.heap.size w W1 := by rw [hW1]; exact hbel0
    have HW1 := Lib.hid hW1
    clear hW1 hown0 hbel0
    have hW1r := Rd.own hW1o
    have hu1 := (uDec_wide _ (tk s n) (Nat.le_refl _)).1
    have hu2 := (uDec_wide _ (tk s n) (Nat.le_refl _)).2
    have CW := Lib.hid fun A c w h => hasWide A c (uDec (tk s n)) w h (by omega)
    by_cases hwide : (tk s n).any (fun c => decide (128 ≤ c.toNat)) = true
    · have HU := Lib.hid (unpuny_wide (s := s) (by rw [HB.out]; exact hwide))
      rw [hu1, hwide] at CW
      rw [HU.out]
      clear hu1 hu2 hwide HU
      go_enter Tryz.func171, Tryz.ntmps171
      go_wp2_with (go_at_call 193; go_must (go_fit (CL.out _)); rintro e w2 ⟨rfl, rfl⟩)
      go_region
      rw [← HW1.out]
      go_wp2_with (go_at_call 167; go_must (go_fit (CW.out _ _ W1 hW1r)); rintro e w2 ⟨rfl, hb2⟩)
      go_ret2
      exact ⟨bnext hW1b hb2, rfl⟩
    · have hwide := Bool.eq_false_iff.2 hwide
      have HW := Lib.hid (show (dBase s).any (fun c => decide (128 ≤ c.toNat)) = false by rw [HB.out]; exact hwide)
      have HUI := Lib.hid ((hu2 hwide).trans (by rw [HB.out] : ints (tk s n) = ints (dBase s)))
      rw [hu1, hwide] at CW
      clear hu1 hu2 hwide
      go_enter Tryz.func171, Tryz.ntmps171
      go_wp2_with (go_at_call 193; go_must (go_fit (CL.out _)); rintro e w2 ⟨rfl, rfl⟩)
      go_region
      rw [← HW1.out]
      go_wp2_with (go_at_call 167; go_must (go_fit (CW.out _ _ W1 hW1r)); rintro e w2 ⟨rfl, hb2⟩)
      have hownS := own_below hW1o hb2 (Nat.le_refl _)
      rw [HUI.out] at hownS
      have hbelS := bnext hW1b hb2
      clear hW1o hW1b hW1r
      clear hf hend hlB hkr hul
      rw [HUI.out]
      go_loopg [0, 4, 6, 7, 8, 9] (((dr s (n + 1))).length) (fun m s0 s4 s6 s7 s8 s9 wr => ∃ (t : List UInt8) (σ : DS), m = t.length ∧ s0 = .string (str t) ∧ s6 = .int .i64 σ.n ∧ s7 = .int .i64 σ.i ∧ s8 = .int .i64 σ.bias ∧ s9 = .bool σ.first ∧ Hid (DB σ t.length) ∧ Hid (dec (dRest s) (dStart (ints (dBase s))) = dec t σ) ∧ wr.ownsRow w.heap.size 21 1 s4 σ.out.length (runes σ.out) ∧ Below w.heap.size w wr)
      case atStart => exact ⟨(dr s (n + 1)), dStart (ints (dBase s)), rfl, rfl, rfl, rfl, rfl, rfl, by have h := start_DB (s := s) (by omega); rw [HR.out] at h; exact h, by rw [HR.out]; exact rfl, hownS, hbelS⟩
      case round =>
        obtain ⟨t, σ, rfl, rfl, rfl, rfl, rfl, rfl, hdb, hrec, hown, hbel⟩ := hrel
        clear hsz
        have hsz := str_size t
        have hq := hbel.size
        obtain ⟨n0, n1, i0, i1, b0, b1, hl⟩ := hdb.out
        by_cases h0 : 0 < t.length
        · have h0' : (0 : Int) < (t.length : Int) := by omega
          have HNR := Lib.hid (numL_rd t 36 σ.bias 1 1 0 (by omega) (by omega) (.inl rfl))
          have hnn := numL_nonneg t 36 σ.bias 1 0 (by omega) (by omega)
          have CN := Lib.hid fun w => pnumber_any t σ.bias w (by omega) b0 (by omega)
          obtain ⟨N, hN⟩ : ∃ N, N = numL t 36 σ.bias 1 0 := ⟨_, rfl⟩
          rw [← hN] at HNR hnn CN
          clear hN
          obtain ⟨d, r, ok⟩ := N
          cases ok with
          | false =>
            have HD := Lib.hid (pdec_none h0 i0 n0 (by omega) fun d r h => by have := HNR.out.2 rfl d r h; omega)
            have HU := Lib.hid (unpuny_is (by omega) HW.out)
            go_wp2_with (go_at_call 195; go_must (go_fit (CN.out _)); rintro e w2 ⟨rfl, rfl⟩)
            go_ret2
            rw [HU.out, hrec.out, HD.out]
            exact ⟨hbel, rfl⟩
          | true =>
            have HM := Lib.hid (HNR.out.1 rfl).1
            have hd1 := (HNR.out.1 rfl).2
            clear HNR
            simp only [] at hnn hd1
            obtain ⟨A4, c4, rfl, hc4, hm4⟩ := own_shape hown
            have CA := Lib.hid fun w => adapt_any d ((σ.out.length : Int) + 1) σ.first w hnn (by omega) (by omega) (by omega)
            have q0 : 0 ≤ (σ.i + d) / ((σ.out.length : Int) + 1) := Int.ediv_nonneg (by omega) (by omega)
            have q1 : (σ.i + d) / ((σ.out.length : Int) + 1) ≤ σ.i + d := Int.ediv_le_self _ (by omega)
            have r0 : 0 ≤ (σ.i + d) % ((σ.out.length : Int) + 1) := Int.emod_nonneg _ (by omega)
            have r1 : (σ.i + d) % ((σ.out.length : Int) + 1) < (σ.out.length : Int) + 1 := Int.emod_lt_of_pos _ (by omega)
            have t1 : (σ.i + d).tmod ((σ.out.length : Int) + 1) = (σ.i + d) % ((σ.out.length : Int) + 1) := Int.tmod_eq_emod_of_nonneg (by omega)
            have t2 : (σ.i + d).tdiv ((σ.out.length : Int) + 1) = (σ.i + d) / ((σ.out.length : Int) + 1) := Int.tdiv_eq_ediv_of_nonneg (by omega)
            have z0 : (((σ.out.length : Int) + 1) == 0) = false := by rw [beq_eq_false_iff_ne]; omega
            obtain ⟨X, hX⟩ : ∃ X, X = σ.n + (σ.i + d) / ((σ.out.length : Int) + 1) := ⟨_, rfl⟩
            have HX := Lib.hid hX
            have X0 : 0 ≤ X := by omega
            have X1 : X ≤ 2199023255552 + 1114111 := by omega
            have hXw := hX.symm
            clear hX
            by_cases htop : 1114111 < X
            · have HD := Lib.hid (pdec_stuck h0 HM.out (show dStep σ d = none from if_neg fun h => by have h1 : σ.n + (σ.i + d) / ((σ.out.length : Int) + 1) ≤ 1114111 := h.1; have := HX.out; omega))
              have HU := Lib.hid (unpuny_is (by omega) HW.out)
              go_wp2_with (first
                | (go_at_call 195; go_must (go_fit (CN.out _)); rintro e w2 ⟨rfl, rfl⟩)
                | (go_at_call 196; go_must (go_fit (CA.out _)); rintro e w2 ⟨rfl, rfl⟩))
              go_ret2
              rw [HU.out, hrec.out, HD.out]
              exact ⟨hbel, rfl⟩
            · have CI := Lib.hid fun w => pis_any X w
              by_cases hcp : cpOk X = true
              · have HD0 : dStep σ d = some (dNext σ d) := if_pos ⟨by show σ.n + (σ.i + d) / ((σ.out.length : Int) + 1) ≤ 1114111; have := HX.out; omega, by show cpOk (σ.n + (σ.i + d) / ((σ.out.length : Int) + 1)) = true; rw [← HX.out]; exact hcp⟩
                have HD := Lib.hid (pdec_go h0 HM.out HD0)
                have hsh := rdNum_shorter _ _ _ _ _ _ _ HM.out
                have HB := Lib.hid (hdb.out.step hnn HD0 hsh)
                rw [hcp] at CI
                clear hcp HD0
                obtain ⟨R, hR⟩ : ∃ R : Nat, (R : Int) = (σ.i + d) % ((σ.out.length : Int) + 1) := ⟨((σ.i + d) % ((σ.out.length : Int) + 1)).toNat, by omega⟩
                rw [← hR] at r0 r1
                have hRl : R ≤ σ.out.length := by omega
                have HRR := Lib.hid hR
                have HO := Lib.hid (show (dNext σ d).out = σ.out.take R ++ X :: σ.out.drop R by rw [HX.out]; unfold dNext; simp only []; rw [← hR, Int.toNat_natCast])
                have hRs := hR.symm
                clear hR
                go_wp2_with (first
                  | (go_at_call 195; go_must (go_fit (CN.out _)); rintro e w2 ⟨rfl, rfl⟩)
                  | (go_at_call 196; go_must (go_fit (CA.out _)); rintro e w2 ⟨rfl, rfl⟩)
                  | (go_at_call 191; go_must (go_fit (CI.out _)); rintro e w5 ⟨rfl, hb5⟩; have hown5 := own_below hown hb5 (Nat.le_refl _); have hbel5 := bnext hbel hb5; have hq5 := hbel5.size)
                  | (go_at_call 197; go_must (go_fit (insert_any w.heap.size w5.heap.size R _ σ.out X _ (hown5.alloc _) hRl (by omega) (heap_alloc_new w5 _) (fun e => by have := (hown5.lt _ e).2; omega) (by simp; omega))); rintro e w6 ⟨v6, rfl, hown6, hb6⟩))
                go_roundg (r.length)
                case measure => omega
                case rel =>
                  exact ⟨r, dNext σ d, rfl, rfl, by rw [HX.out]; rfl, by rw [HRR.out]; rfl, rfl, rfl, HB.out, hrec.out.trans HD.out,
                    own_as hown6 (by show _ = (_ ++ _ :: _).length; rw [List.length_append, List.length_cons, List.length_take, List.length_drop]; have := HRR.out; omega) (by rw [HO.out]), ((hbel5.alloc (by omega) _).trans hb6)⟩
              · have hcp := Bool.eq_false_iff.2 hcp
                have HD := Lib.hid (pdec_stuck h0 HM.out (show dStep σ d = none from if_neg fun h => by have h2 : cpOk (σ.n + (σ.i + d) / ((σ.out.length : Int) + 1)) = true := h.2; rw [← HX.out, hcp] at h2; cases h2))
                have HU := Lib.hid (unpuny_is (by omega) HW.out)
                rw [hcp] at CI
                clear hcp
                go_wp2_with (first
                  | (go_at_call 195; go_must (go_fit (CN.out _)); rintro e w2 ⟨rfl, rfl⟩)
                  | (go_at_call 196; go_must (go_fit (CA.out _)); rintro e w2 ⟨rfl, rfl⟩)
                  | (go_at_call 191; go_must (go_fit (CI.out _)); rintro e w5 ⟨rfl, hb5⟩; have hbel5 := bnext hbel hb5))
                go_ret2
                rw [HU.out, hrec.out, HD.out]
                exact ⟨hbel5, rfl⟩
        · have ht0 : t = [] := List.eq_nil_of_length_eq_zero (by omega)
          have HT := Lib.hid ht0
          clear ht0
          have HU := Lib.hid (unpuny_is (by omega) HW.out)
          obtain ⟨A4, c4, rfl, hc4, hm4⟩ := own_shape hown
          have HE : dec t σ = some σ.out := by rw [HT.out]; rfl
          by_cases h63 : 63 < σ.out.length
          · have h63' : (63 : Int) < (σ.out.length : Int) := by omega
            have HF := Lib.hid (if_neg (by omega) : (if σ.out.length ≤ 63 then some σ.out else none) = none)
            clear HE
            go_wp2
            go_ret2
            rw [HU.out, hrec.out, HT.out, dec_nil, Option.bind_some, HF.out]
            exact ⟨hbel, rfl⟩
          · have h63' : ¬ (63 : Int) < (σ.out.length : Int) := by omega
            have HF := Lib.hid (if_pos (by omega) : (if σ.out.length ≤ 63 then some σ.out else none) = some σ.out)
            clear HE
            go_wp2
            go_ret2
            rw [HU.out, hrec.out, HT.out, dec_nil, Option.bind_some, HF.out]
            exact ⟨hbel, _, rfl, hown⟩
  · have hB : dBase s = [] := if_neg hd
    have hW : (dBase s).any (fun c => decide (128 ≤ c.toNat)) = false := by rw [hB]; rfl
    have HB := Lib.hid hB
    have HW := Lib.hid hW
    have HR := Lib.hid (show dRest s = s from if_neg hd)
    clear hB hW
    go_enter Tryz.func171, Tryz.ntmps171
    go_wp2_with (go_at_call 193; go_must (go_fit (CL.out _)); rintro e w2 ⟨rfl, rfl⟩)
    go_loopg [0, 4, 6, 7, 8, 9] ((s).length) (fun m s0 s4 s6 s7 s8 s9 wr => ∃ (t : List UInt8) (σ : DS), m = t.length ∧ s0 = .string (str t) ∧ s6 = .int .i64 σ.n ∧ s7 = .int .i64 σ.i ∧ s8 = .int .i64 σ.bias ∧ s9 = .bool σ.first ∧ Hid (DB σ t.length) ∧ Hid (dec (dRest s) (dStart (ints (dBase s))) = dec t σ) ∧ wr.ownsRow w.heap.size 21 1 s4 σ.out.length (runes σ.out) ∧ Below w.heap.size w wr)
    case atStart => exact ⟨s, dStart (ints (dBase s)), rfl, rfl, rfl, rfl, rfl, rfl, by have h := start_DB (s := s) (by omega); rw [HR.out] at h; exact h, by rw [HR.out]; exact rfl, (by rw [HB.out]; exact World.ownsRow_nil _ _ _ _), (Below.refl _ _)⟩
    case round =>
      obtain ⟨t, σ, rfl, rfl, rfl, rfl, rfl, rfl, hdb, hrec, hown, hbel⟩ := hrel
      clear hsz
      have hsz := str_size t
      have hq := hbel.size
      obtain ⟨n0, n1, i0, i1, b0, b1, hl⟩ := hdb.out
      by_cases h0 : 0 < t.length
      · have h0' : (0 : Int) < (t.length : Int) := by omega
        have HNR := Lib.hid (numL_rd t 36 σ.bias 1 1 0 (by omega) (by omega) (.inl rfl))
        have hnn := numL_nonneg t 36 σ.bias 1 0 (by omega) (by omega)
        have CN := Lib.hid fun w => pnumber_any t σ.bias w (by omega) b0 (by omega)
        obtain ⟨N, hN⟩ : ∃ N, N = numL t 36 σ.bias 1 0 := ⟨_, rfl⟩
        rw [← hN] at HNR hnn CN
        clear hN
        obtain ⟨d, r, ok⟩ := N
        cases ok with
        | false =>
          have HD := Lib.hid (pdec_none h0 i0 n0 (by omega) fun d r h => by have := HNR.out.2 rfl d r h; omega)
          have HU := Lib.hid (unpuny_is (by omega) HW.out)
          go_wp2_with (go_at_call 195; go_must (go_fit (CN.out _)); rintro e w2 ⟨rfl, rfl⟩)
          go_ret2
          rw [HU.out, hrec.out, HD.out]
          exact ⟨hbel, rfl⟩
        | true =>
          have HM := Lib.hid (HNR.out.1 rfl).1
          have hd1 := (HNR.out.1 rfl).2
          clear HNR
          simp only [] at hnn hd1
          obtain ⟨A4, c4, rfl, hc4, hm4⟩ := own_shape hown
          have CA := Lib.hid fun w => adapt_any d ((σ.out.length : Int) + 1) σ.first w hnn (by omega) (by omega) (by omega)
          have q0 : 0 ≤ (σ.i + d) / ((σ.out.length : Int) + 1) := Int.ediv_nonneg (by omega) (by omega)
          have q1 : (σ.i + d) / ((σ.out.length : Int) + 1) ≤ σ.i + d := Int.ediv_le_self _ (by omega)
          have r0 : 0 ≤ (σ.i + d) % ((σ.out.length : Int) + 1) := Int.emod_nonneg _ (by omega)
          have r1 : (σ.i + d) % ((σ.out.length : Int) + 1) < (σ.out.length : Int) + 1 := Int.emod_lt_of_pos _ (by omega)
          have t1 : (σ.i + d).tmod ((σ.out.length : Int) + 1) = (σ.i + d) % ((σ.out.length : Int) + 1) := Int.tmod_eq_emod_of_nonneg (by omega)
          have t2 : (σ.i + d).tdiv ((σ.out.length : Int) + 1) = (σ.i + d) / ((σ.out.length : Int) + 1) := Int.tdiv_eq_ediv_of_nonneg (by omega)
          have z0 : (((σ.out.length : Int) + 1) == 0) = false := by rw [beq_eq_false_iff_ne]; omega
          obtain ⟨X, hX⟩ : ∃ X, X = σ.n + (σ.i + d) / ((σ.out.length : Int) + 1) := ⟨_, rfl⟩
          have HX := Lib.hid hX
          have X0 : 0 ≤ X := by omega
          have X1 : X ≤ 2199023255552 + 1114111 := by omega
          have hXw := hX.symm
          clear hX
          by_cases htop : 1114111 < X
          · have HD := Lib.hid (pdec_stuck h0 HM.out (show dStep σ d = none from if_neg fun h => by have h1 : σ.n + (σ.i + d) / ((σ.out.length : Int) + 1) ≤ 1114111 := h.1; have := HX.out; omega))
            have HU := Lib.hid (unpuny_is (by omega) HW.out)
            go_wp2_with (first
              | (go_at_call 195; go_must (go_fit (CN.out _)); rintro e w2 ⟨rfl, rfl⟩)
              | (go_at_call 196; go_must (go_fit (CA.out _)); rintro e w2 ⟨rfl, rfl⟩))
            go_ret2
            rw [HU.out, hrec.out, HD.out]
            exact ⟨hbel, rfl⟩
          · have CI := Lib.hid fun w => pis_any X w
            by_cases hcp : cpOk X = true
            · have HD0 : dStep σ d = some (dNext σ d) := if_pos ⟨by show σ.n + (σ.i + d) / ((σ.out.length : Int) + 1) ≤ 1114111; have := HX.out; omega, by show cpOk (σ.n + (σ.i + d) / ((σ.out.length : Int) + 1)) = true; rw [← HX.out]; exact hcp⟩
              have HD := Lib.hid (pdec_go h0 HM.out HD0)
              have hsh := rdNum_shorter _ _ _ _ _ _ _ HM.out
              have HB := Lib.hid (hdb.out.step hnn HD0 hsh)
              rw [hcp] at CI
              clear hcp HD0
              obtain ⟨R, hR⟩ : ∃ R : Nat, (R : Int) = (σ.i + d) % ((σ.out.length : Int) + 1) := ⟨((σ.i + d) % ((σ.out.length : Int) + 1)).toNat, by omega⟩
              rw [← hR] at r0 r1
              have hRl : R ≤ σ.out.length := by omega
              have HRR := Lib.hid hR
              have HO := Lib.hid (show (dNext σ d).out = σ.out.take R ++ X :: σ.out.drop R by rw [HX.out]; unfold dNext; simp only []; rw [← hR, Int.toNat_natCast])
              have hRs := hR.symm
              clear hR
              go_wp2_with (first
                | (go_at_call 195; go_must (go_fit (CN.out _)); rintro e w2 ⟨rfl, rfl⟩)
                | (go_at_call 196; go_must (go_fit (CA.out _)); rintro e w2 ⟨rfl, rfl⟩)
                | (go_at_call 191; go_must (go_fit (CI.out _)); rintro e w5 ⟨rfl, hb5⟩; have hown5 := own_below hown hb5 (Nat.le_refl _); have hbel5 := bnext hbel hb5; have hq5 := hbel5.size)
                | (go_at_call 197; go_must (go_fit (insert_any w.heap.size w5.heap.size R _ σ.out X _ (hown5.alloc _) hRl (by omega) (heap_alloc_new w5 _) (fun e => by have := (hown5.lt _ e).2; omega) (by simp; omega))); rintro e w6 ⟨v6, rfl, hown6, hb6⟩))
              go_roundg (r.length)
              case measure => omega
              case rel =>
                exact ⟨r, dNext σ d, rfl, rfl, by rw [HX.out]; rfl, by rw [HRR.out]; rfl, rfl, rfl, HB.out, hrec.out.trans HD.out,
                  own_as hown6 (by show _ = (_ ++ _ :: _).length; rw [List.length_append, List.length_cons, List.length_take, List.length_drop]; have := HRR.out; omega) (by rw [HO.out]), ((hbel5.alloc (by omega) _).trans hb6)⟩
            · have hcp := Bool.eq_false_iff.2 hcp
              have HD := Lib.hid (pdec_stuck h0 HM.out (show dStep σ d = none from if_neg fun h => by have h2 : cpOk (σ.n + (σ.i + d) / ((σ.out.length : Int) + 1)) = true := h.2; rw [← HX.out, hcp] at h2; cases h2))
              have HU := Lib.hid (unpuny_is (by omega) HW.out)
              rw [hcp] at CI
              clear hcp
              go_wp2_with (first
                | (go_at_call 195; go_must (go_fit (CN.out _)); rintro e w2 ⟨rfl, rfl⟩)
                | (go_at_call 196; go_must (go_fit (CA.out _)); rintro e w2 ⟨rfl, rfl⟩)
                | (go_at_call 191; go_must (go_fit (CI.out _)); rintro e w5 ⟨rfl, hb5⟩; have hbel5 := bnext hbel hb5))
              go_ret2
              rw [HU.out, hrec.out, HD.out]
              exact ⟨hbel5, rfl⟩
      · have ht0 : t = [] := List.eq_nil_of_length_eq_zero (by omega)
        have HT := Lib.hid ht0
        clear ht0
        have HU := Lib.hid (unpuny_is (by omega) HW.out)
        obtain ⟨A4, c4, rfl, hc4, hm4⟩ := own_shape hown
        have HE : dec t σ = some σ.out := by rw [HT.out]; rfl
        by_cases h63 : 63 < σ.out.length
        · have h63' : (63 : Int) < (σ.out.length : Int) := by omega
          have HF := Lib.hid (if_neg (by omega) : (if σ.out.length ≤ 63 then some σ.out else none) = none)
          clear HE
          go_wp2
          go_ret2
          rw [HU.out, hrec.out, HT.out, dec_nil, Option.bind_some, HF.out]
          exact ⟨hbel, rfl⟩
        · have h63' : ¬ (63 : Int) < (σ.out.length : Int) := by omega
          have HF := Lib.hid (if_pos (by omega) : (if σ.out.length ≤ 63 then some σ.out else none) = some σ.out)
          clear HE
          go_wp2
          go_ret2
          rw [HU.out, hrec.out, HT.out, dec_nil, Option.bind_some, HF.out]
          exact ⟨hbel, _, rfl, hown⟩
end Go.Proofs.YtfandijagdiggaaGreatDoor
