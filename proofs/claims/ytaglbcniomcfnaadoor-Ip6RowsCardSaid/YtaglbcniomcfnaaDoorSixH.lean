/- ip6's hex, row, Show. -/
import Derived.Test.YtaglbcniomcfnaaDoorSixG
namespace Go.Proofs.YtaglbcniomcfnaaDoor
set_option linter.all false
open Go.RowKit

set_option maxRecDepth 100000 in
set_option maxHeartbeats 2000000 in
theorem fuI_any (u : Nat) (hu : u < 65536) (w : World) (hd : DB w) : Calls Tryd.prog 66 #[.int .u64 (u : Int), .int .i64 16] w fun e w' => e = .returned (.string (str (digs 16 u))) ∧ Below w.heap.size w w' := by
  have C := Lib.hid (fbits_any u hu w hd)
  go_enter Tryd.func66, Tryd.ntmps66
  go_wp2_with (go_at_call 73; go_must (go_fit C.out); rintro e w1 ⟨rfl, hb1⟩)
  go_ret
  exact ⟨rfl, hb1⟩
set_option maxRecDepth 100000 in
set_option maxHeartbeats 2000000 in
theorem fu_any (u : Nat) (hu : u < 65536) (w : World) (hd : DB w) : Calls Tryd.prog 56 #[.int .u64 (u : Int), .int .i64 16] w fun e w' => e = .returned (.string (str (digs 16 u))) ∧ Below w.heap.size w w' := by
  have C := Lib.hid (fuI_any u hu w hd)
  go_enter Tryd.func56, Tryd.ntmps56
  go_wp2_with (go_at_call 66; go_must (go_fit C.out); rintro e w1 ⟨rfl, hb1⟩)
  go_ret
  exact ⟨rfl, hb1⟩

theorem digs16_len {u : Nat} (h : u < 65536) : (digs 16 u).length ≤ 4 := by
  have := digs_len (b := 16) (by decide) 4 u (by omega)
  omega
theorem hexs_len : ∀ (l : List Nat), (∀ x ∈ l, x < 65536) → (hexs (digs 16) l).length ≤ 5 * l.length := by
  intro l
  induction l with
  | nil => intro _; exact Nat.le_refl _
  | cons x l ih =>
    intro h
    have h1 := digs16_len (h x (by simp))
    have h2 := ih (fun y hy => h y (by simp [hy]))
    cases l with
    | nil => rw [hexs_one]; simp; omega
    | cons y r =>
      rw [hexs_more, List.length_append, List.length_cons]
      simp only [List.length_cons] at *
      omega
theorem u16s_get {l : List Nat} {j x : Nat} (h : l[j]? = some x) : (u16s l)[j]? = some (.int .u16 (x : Int)) := by
  unfold u16s; rw [List.getElem?_map, h]; rfl

set_option maxRecDepth 100000 in
set_option maxHeartbeats 4000000 in
theorem hex6_show (A : Option Addr) (c : Nat) (l : List Nat) (w : World) (hr : Rd w w.heap.size A (u16s l)) (hl16 : ∀ x ∈ l, x < 65536) (hl : l.length ≤ 8) (hd : DB w) :
    Calls Tryd.prog 39 #[.slice A l.length c] w fun e w' => e = .returned (.string (str (hexs (digs 16) l))) ∧ Below w.heap.size w w' := by
  have HL := Lib.hid hl16
  clear hl16
  go_enter Tryd.func39, Tryd.ntmps39
  go_wp2
  go_loopg [3, 8] l.length (fun k s3 s8 wr => ∃ j : Nat, k = l.length - j ∧ j ≤ l.length ∧ s8 = .int .i64 (j : Int) ∧ wr.ownsRow w.heap.size 9 1 s3 j (strs ((l.map (digs 16)).take j)) ∧ Below w.heap.size w wr)
  case atStart => exact ⟨0, rfl, Nat.zero_le _, rfl, World.ownsRow_nil _ _ _ _, Below.refl _ _⟩
  case round =>
    obtain ⟨j, rfl, hj, rfl, hown, hbel⟩ := hrel
    obtain ⟨A3, c3, rfl, hc3, hm3⟩ := own_shape hown
    have hq0 := hbel.size
    by_cases hlt : j < l.length
    · obtain ⟨x, hx⟩ : ∃ x, l[j]? = some x := ⟨_, List.getElem?_eq_getElem hlt⟩
      have hx16 := HL.out x (List.mem_of_getElem? hx)
      obtain ⟨b, off, rfl, hb, hcell⟩ := (hr.below hbel).at_ (k := j) (by rw [u16s_len]; exact hlt)
      have hcx : wr.cell? ⟨b, off + j, none⟩ = some (.int .u16 (x : Int)) := by
        rw [hcell]
        have := u16s_get hx
        rw [List.getElem?_eq_getElem (by rw [u16s_len]; exact hlt)] at this
        exact this
      clear hcell
      have hj0 : (0 : Int) ≤ (j : Int) := by omega
      have hlt1 : (j : Int) < (l.length : Int) := by omega
      have hw : IntKind.u64.wrap (x : Int) = (x : Int) := IntWalk.u64_in _ (by omega)
      have C1 := Lib.hid (fu_any x hx16 wr (hd.next hbel))
      have HT := Lib.hid (show (l.map (digs 16)).take (j + 1) = (l.map (digs 16)).take j ++ [digs 16 x] by
        obtain ⟨hj', e⟩ := List.getElem?_eq_some_iff.1 hx
        rw [take_snoc' _ j (by rw [List.length_map]; exact hlt)]
        simp [e])
      have hown' := fun w' (hb : Below wr.heap.size wr w') => own_below hown hb (Nat.le_refl _)
      have HW := Lib.hid hown'
      clear hown' hx
      go_wp2_with (first
        | (go_at_call 56; go_must (go_fit C1.out); rintro e w1 ⟨rfl, hb1⟩; have hown1 := HW.out w1 hb1; have hq1 := hb1.size)
        | (at_builtin; go_loud (refine wpList_append_lit rfl _ _ _ rfl w.heap.size _ _ 1 16 Tryd.underlying35 info_strU rfl (by decide) _ _ _ rfl hown1 _ 1 1 _ rfl rfl (by simp [Value.oneCell']) (by omega) (by decide) (by omega) ?_; intro A5 c5 w5 hc5 hm5 hown5 hb5 hg5)))
      go_roundg (l.length - (j + 1))
      case measure => omega
      case rel =>
        refine ⟨j + 1, rfl, by omega, by go_num, ?_, (hbel.trans (hb1.mono hq0)).trans hb5⟩
        rw [HT.out, strs_append]
        exact hown5
    · obtain rfl : j = l.length := by omega
      rw [List.take_of_length_le (by rw [List.length_map]; exact Nat.le_refl _)] at hown
      obtain ⟨A6, c6, e6, hc6, hm6, hx6⟩ := own_rdN hown
      injection e6 with e6 _ e7
      subst e6 e7
      have hll : (l.map (digs 16)).length = l.length := List.length_map ..
      have hxl := hexs_len l HL.out
      have CJ := Lib.hid (join_any 58 A3 c3 (l.map (digs 16)) wr hx6 (by rw [hll]; exact hc3) (by rw [hll]; omega) (by unfold hexs at hxl; omega))
      rw [hll] at CJ
      have CJ := Lib.hid (show Calls Tryd.prog 34 #[.slice A3 l.length c3, .string (str [58])] wr fun e w' => e = .returned (.string (str (hexs (digs 16) l))) ∧ Below wr.heap.size wr w' from CJ.out)
      go_wp2_with (go_at_call 34; go_must (go_fit CJ.out); rintro e w7 ⟨rfl, hb7⟩)
      go_ret
      exact ⟨rfl, hbel.trans (hb7.mono hbel.size)⟩

theorem rowI_le (a : List Nat) : ∀ i, (rowI a i).2 ≤ a.length := by
  intro i
  induction i with
  | zero => exact Nat.zero_le _
  | succ i ih =>
    unfold rowI
    split
    · have := zrun_le (a.drop i)
      rw [List.length_drop] at this
      simp only
      omega
    · exact ih
theorem row_yes {a : List Nat} {i f n d : Nat} (h : rowI a i = (f, n)) (hz : zrun (a.drop i) = d) (hn : n < d) : rowI a (i + 1) = (i, d) := by
  rw [rowI, h, hz, if_pos hn]
theorem row_no {a : List Nat} {i f n d : Nat} (h : rowI a i = (f, n)) (hz : zrun (a.drop i) = d) (hn : ¬ n < d) : rowI a (i + 1) = (f, n) := by
  rw [rowI, h, hz, if_neg hn]
-- The longest row of noughts.
set_option maxRecDepth 100000 in
set_option maxHeartbeats 8000000 in
theorem row6_any (a : List Nat) (a0 a1 a2 a3 a4 a5 a6 a7 : Nat) (ha : a = [a0, a1, a2, a3, a4, a5, a6, a7]) (w : World) :
    Calls Tryd.prog 38 #[.agg #[.int .u16 (a0 : Int), .int .u16 (a1 : Int), .int .u16 (a2 : Int), .int .u16 (a3 : Int), .int .u16 (a4 : Int), .int .u16 (a5 : Int), .int .u16 (a6 : Int), .int .u16 (a7 : Int)]] w fun e w' => e = .returned (.tuple #[.int .i64 ((rowI a 8).1 : Int), .int .i64 ((rowI a 8).2 : Int)]) ∧ Below w.heap.size w w' := by
  have hR := Row.made w #[.int .u16 (a0 : Int), .int .u16 (a1 : Int), .int .u16 (a2 : Int), .int .u16 (a3 : Int), .int .u16 (a4 : Int), .int .u16 (a5 : Int), .int .u16 (a6 : Int), .int .u16 (a7 : Int)] 39
  have hb0 : Below w.heap.size w (w.alloc (.cells #[.int .u16 (a0 : Int), .int .u16 (a1 : Int), .int .u16 (a2 : Int), .int .u16 (a3 : Int), .int .u16 (a4 : Int), .int .u16 (a5 : Int), .int .u16 (a6 : Int), .int .u16 (a7 : Int)] 39)) := (Below.refl _ _).alloc (Nat.le_refl _) _
  have hR2 : Row (w.alloc (.cells #[.int .u16 (a0 : Int), .int .u16 (a1 : Int), .int .u16 (a2 : Int), .int .u16 (a3 : Int), .int .u16 (a4 : Int), .int .u16 (a5 : Int), .int .u16 (a6 : Int), .int .u16 (a7 : Int)] 39)) w.heap.size (u16s a) := by rw [ha]; exact hR
  have hl8 : a.length = 8 := by rw [ha]; rfl
  have HA := Lib.hid ha
  clear ha hR
  have HO := Lib.hid (rowI_ok a)
  have HN := Lib.hid (rowI_le a)
  go_enter Tryd.func38, Tryd.ntmps38
  go_wp2
  generalize w.alloc (.cells #[.int .u16 (a0 : Int), .int .u16 (a1 : Int), .int .u16 (a2 : Int), .int .u16 (a3 : Int), .int .u16 (a4 : Int), .int .u16 (a5 : Int), .int .u16 (a6 : Int), .int .u16 (a7 : Int)] 39) = wA at *
  go_loopg [2, 3, 6] 8 (fun k s2 s3 s6 wr => ∃ (i f n : Nat), k = 8 - i ∧ i ≤ 8 ∧ s6 = .int .i64 (i : Int) ∧ s2 = .int .i64 (f : Int) ∧ s3 = .int .i64 (n : Int) ∧ n ≤ 8 ∧ Hid (rowI a i = (f, n)) ∧ wA = wr)
  case atStart => exact ⟨0, 0, 0, rfl, by omega, rfl, rfl, rfl, by omega, rfl, rfl⟩
  case round =>
    obtain ⟨i, f, n, rfl, hi, rfl, rfl, rfl, hn, hrow, rfl⟩ := hrel
    by_cases hlt : i < 8
    · have hi8 : (i : Int) < 8 := by omega
      go_wp2
      go_loopg [5] (8 - i) (fun k s5 wr => ∃ j : Nat, k = 8 - j ∧ j ≤ 8 ∧ i ≤ j ∧ s5 = .int .i64 (j : Int) ∧ Hid (zrun (a.drop i) = (j - i) + zrun (a.drop j)) ∧ wA = wr)
      case atStart => exact ⟨i, rfl, by omega, Nat.le_refl _, rfl, by show _ = i - i + _; omega, rfl⟩
      case round =>
        obtain ⟨j, rfl, hj, hij, rfl, hz, rfl⟩ := hrel
        by_cases hj8 : j < 8
        · obtain ⟨x, hx⟩ : ∃ x, a[j]? = some x := ⟨_, List.getElem?_eq_getElem (by omega)⟩
          have hc := hR2.1 j _ (u16s_get hx)
          have hj8' : (j : Int) < 8 := by omega
          have hj0 : (0 : Int) ≤ (j : Int) := by omega
          by_cases hx0 : x = 0
          · subst hx0
            have HZ := Lib.hid (show zrun (a.drop i) = (j + 1 - i) + zrun (a.drop (j + 1)) by rw [hz.out, zrun_hit hx]; omega)
            clear hx
            go_wp2
            go_roundg (8 - (j + 1))
            case measure => omega
            case rel => exact ⟨j + 1, rfl, by omega, by omega, by go_num, HZ.out, rfl⟩
          · have hxb : ((x : Int) == 0) = false := by rw [beq_eq_false_iff_ne]; omega
            have HZ := Lib.hid (show zrun (a.drop i) = j - i by rw [hz.out, zrun_miss hx hx0]; omega)
            clear hx hx0
            obtain ⟨d, hd⟩ : ∃ d, d = j - i := ⟨_, rfl⟩
            have hsub : ((j : Nat) : Int) - (i : Int) = (d : Int) := by omega
            have hdw : IntKind.i64.wrap (d : Int) = (d : Int) := IntWalk.i64_in _ (by omega)
            rw [← hd] at HZ
            have hd8 : d ≤ 8 := by omega
            clear hd
            by_cases hdn : n < d
            · have HR := Lib.hid (row_yes hrow.out HZ.out hdn)
              have hdnI : (n : Int) < (d : Int) := by omega
              go_wp2
              go_roundg (8 - (i + 1))
              case measure => omega
              case rel => exact ⟨i + 1, i, d, rfl, by omega, by go_num, rfl, by go_num, hd8, HR.out, rfl⟩
            · have HR := Lib.hid (row_no hrow.out HZ.out hdn)
              have hdnI : ¬ (n : Int) < (d : Int) := by omega
              go_wp2
              go_roundg (8 - (i + 1))
              case measure => omega
              case rel => exact ⟨i + 1, f, n, rfl, by omega, by go_num, rfl, rfl, hn, HR.out, rfl⟩
        · obtain rfl : j = 8 := by omega
          have HZ := Lib.hid (show zrun (a.drop i) = 8 - i by rw [hz.out, zrun_end (by omega)]; omega)
          obtain ⟨d, hd⟩ : ∃ d, d = 8 - i := ⟨_, rfl⟩
          have hsub : ((8 : Nat) : Int) - (i : Int) = (d : Int) := by omega
          have hdw : IntKind.i64.wrap (d : Int) = (d : Int) := IntWalk.i64_in _ (by omega)
          rw [← hd] at HZ
          have hd8 : d ≤ 8 := by omega
          clear hd
          by_cases hdn : n < d
          · have HR := Lib.hid (row_yes hrow.out HZ.out hdn)
            have hdnI : (n : Int) < (d : Int) := by omega
            go_wp2
            go_roundg (8 - (i + 1))
            case measure => omega
            case rel => exact ⟨i + 1, i, d, rfl, by omega, by go_num, rfl, by go_num, hd8, HR.out, rfl⟩
          · have HR := Lib.hid (row_no hrow.out HZ.out hdn)
            have hdnI : ¬ (n : Int) < (d : Int) := by omega
            go_wp2
            go_roundg (8 - (i + 1))
            case measure => omega
            case rel => exact ⟨i + 1, f, n, rfl, by omega, by go_num, rfl, rfl, hn, HR.out, rfl⟩
    · obtain rfl : i = 8 := by omega
      go_wp2
      go_ret2
      exact ⟨by rw [hrow.out]; rfl, hb0⟩

theorem Row.rdPart {w : World} {X : Nat} {xs : List Value} (h : Row w X xs) (k : Nat) : Rd w w.heap.size (some ⟨X, k, none⟩) (xs.drop k) := by
  have := (h.rd h.2.2).dropAt k
  rwa [Nat.zero_add] at this
theorem rowI_in (a : List Nat) (h2 : 2 ≤ (rowI a 8).2) (h8 : a.length = 8) : (rowI a 8).1 + (rowI a 8).2 ≤ 8 := by
  have := (rowI_parts a 8 h2).2
  omega
set_option maxRecDepth 100000 in
set_option maxHeartbeats 8000000 in
theorem show6_any (a : List Nat) (a0 a1 a2 a3 a4 a5 a6 a7 : Nat) (ha : a = [a0, a1, a2, a3, a4, a5, a6, a7]) (h16 : ∀ x ∈ a, x < 65536) (w : World) (hd : DB w) :
    Calls Tryd.prog 26 #[.agg #[.int .u16 (a0 : Int), .int .u16 (a1 : Int), .int .u16 (a2 : Int), .int .u16 (a3 : Int), .int .u16 (a4 : Int), .int .u16 (a5 : Int), .int .u16 (a6 : Int), .int .u16 (a7 : Int)]] w fun e w' => e = .returned (.string (str (pShow6 a))) ∧ Below w.heap.size w w' := by
  have hb0 : Below w.heap.size w (w.alloc (.cells #[.int .u16 (a0 : Int), .int .u16 (a1 : Int), .int .u16 (a2 : Int), .int .u16 (a3 : Int), .int .u16 (a4 : Int), .int .u16 (a5 : Int), .int .u16 (a6 : Int), .int .u16 (a7 : Int)] 39)) := (Below.refl _ _).alloc (Nat.le_refl _) _
  have hR2 : Row (w.alloc (.cells #[.int .u16 (a0 : Int), .int .u16 (a1 : Int), .int .u16 (a2 : Int), .int .u16 (a3 : Int), .int .u16 (a4 : Int), .int .u16 (a5 : Int), .int .u16 (a6 : Int), .int .u16 (a7 : Int)] 39)) w.heap.size (u16s a) := by rw [ha]; exact Row.made w #[.int .u16 (a0 : Int), .int .u16 (a1 : Int), .int .u16 (a2 : Int), .int .u16 (a3 : Int), .int .u16 (a4 : Int), .int .u16 (a5 : Int), .int .u16 (a6 : Int), .int .u16 (a7 : Int)] 39
  have hl8 : a.length = 8 := by rw [ha]; rfl
  have CR := Lib.hid fun w => row6_any a a0 a1 a2 a3 a4 a5 a6 a7 ha w
  have x0 : (w.alloc (.cells #[.int .u16 (a0 : Int), .int .u16 (a1 : Int), .int .u16 (a2 : Int), .int .u16 (a3 : Int), .int .u16 (a4 : Int), .int .u16 (a5 : Int), .int .u16 (a6 : Int), .int .u16 (a7 : Int)] 39)).cell? ⟨w.heap.size, 0, none⟩ = some (.int .u16 (a0 : Int)) := (Row.made w #[.int .u16 (a0 : Int), .int .u16 (a1 : Int), .int .u16 (a2 : Int), .int .u16 (a3 : Int), .int .u16 (a4 : Int), .int .u16 (a5 : Int), .int .u16 (a6 : Int), .int .u16 (a7 : Int)] 39).1 0 _ rfl
  have HL := Lib.hid h16
  have HD := Lib.hid (show pShow6 a = if (rowI a 8).2 < 2 then hexs (digs 16) a else hexs (digs 16) (a.take (rowI a 8).1) ++ 58 :: 58 :: hexs (digs 16) (a.drop ((rowI a 8).1 + (rowI a 8).2)) from rfl)
  have HI := Lib.hid (rowI_in a)
  obtain ⟨S, hS⟩ : ∃ S, S = pShow6 a := ⟨_, rfl⟩
  rw [← hS] at HD ⊢
  obtain ⟨f, hf⟩ : ∃ f, f = (rowI a 8).1 := ⟨_, rfl⟩
  obtain ⟨n, hn⟩ : ∃ n, n = (rowI a 8).2 := ⟨_, rfl⟩
  rw [← hf, ← hn] at HD CR HI
  clear hS hf hn ha h16 x0
  by_cases h2 : n < 2
  · have e := HD.out
    rw [if_pos h2] at e
    have HE := Lib.hid e
    have h2I : (n : Int) < 2 := by omega
    clear e h2
    go_enter Tryd.func26, Tryd.ntmps26
    go_wp2_with (first
      | (go_at_call 38; go_must (go_fit (CR.out _)); rintro e w1 ⟨rfl, hb1⟩; have hR3 := Row.below hR2 hb1 hR2.2.2; have CH := hex6_show (some ⟨w.heap.size, 0, none⟩) 8 a w1 (hR3.rdPart 0) HL.out (by omega) (hd.next (bnext hb0 hb1)); rw [hl8] at CH)
      | (go_at_call 39; go_must (go_fit CH); rintro e w2 ⟨rfl, hb2⟩))
    go_ret
    exact ⟨by rw [HE.out]; rfl, bnext (bnext hb0 hb1) hb2⟩
  · have e := HD.out
    rw [if_neg h2] at e
    have hfn := HI.out (by omega)
    have h2I : ¬ (n : Int) < 2 := by omega
    obtain ⟨o, ho⟩ : ∃ o, o = f + n := ⟨_, rfl⟩
    have hoI : (f : Int) + (n : Int) = (o : Int) := by omega
    have hwo : IntKind.i64.wrap (o : Int) = (o : Int) := IntWalk.i64_in _ (by omega)
    have hwo2 : IntKind.i64.wrap ((f : Int) + (n : Int)) = (o : Int) := by rw [IntWalk.i64_in _ (by omega)]; omega
    have hwo3 : wrap64 ((f : Int) + (n : Int)) = (o : Int) := by rw [IntWalk.wrap64_in _ (by omega)]; omega
    rw [← ho] at e hfn
    have hf8 : f ≤ 8 := by omega
    have hf8I : (f : Int) ≤ 8 := by omega
    have ho8I : (o : Int) ≤ 8 := by omega
    have hf0 : (0 : Int) ≤ (f : Int) := by omega
    have ho0 : (0 : Int) ≤ (o : Int) := by omega
    obtain ⟨P, hP⟩ : ∃ P, P = hexs (digs 16) (a.take f) := ⟨_, rfl⟩
    obtain ⟨Q, hQ⟩ : ∃ Q, Q = hexs (digs 16) (a.drop o) := ⟨_, rfl⟩
    have HP := Lib.hid hP
    have HQ := Lib.hid hQ
    rw [← hP, ← hQ] at e
    have hPl : P.length ≤ 40 := by
      have := hexs_len (a.take f) (fun x hx => HL.out x (List.mem_of_mem_take hx))
      rw [hP]; rw [List.length_take] at this; omega
    have hQl : Q.length ≤ 40 := by
      have := hexs_len (a.drop o) (fun x hx => HL.out x (List.mem_of_mem_drop hx))
      rw [hQ]; rw [List.length_drop] at this; omega
    clear hP hQ
    have e1 : str P ++ { data := #[58, 58] } = str (P ++ [58, 58]) := str_app P [58, 58]
    have e2 : str (P ++ [58, 58]) ++ str Q = str S := (str_app _ _).trans (by rw [e]; simp)
    have y1 := str_size P
    have y2 := str_size Q
    have y3 := str_size (P ++ [58, 58])
    rw [List.length_append] at y3
    have k1 : (9223372036854775807 < P.length + 2) = False := eq_false (by omega)
    have k2 : (9223372036854775807 < P.length + [58, 58].length + Q.length) = False := eq_false (by simp; omega)
    clear e ho h2
    by_cases ho8 : o = 8
    · have hc1 : (o = 8) = True := eq_true ho8
      have hc2 : (8 = o) = True := eq_true ho8.symm
      have HZ := Lib.hid (show a.drop o = [] from List.drop_eq_nil_of_le (by omega))
      have HO8 := Lib.hid ho8
      clear ho8
      go_enter Tryd.func26, Tryd.ntmps26
      go_wp2_with (go_at_call 38; go_must (go_fit (CR.out _)); rintro e w1 ⟨rfl, hb1⟩; have hR3 := Row.below hR2 hb1 hR2.2.2; have HB1 := Lib.hid (bnext hb0 hb1); have HC1 := Lib.hid fun w' (hb : Below w1.heap.size w1 w') => (show Calls Tryd.prog 39 #[.slice (some ⟨w.heap.size, 0, none⟩) f 8] w' fun e w2 => e = .returned (.string (str P)) ∧ Below w'.heap.size w' w2 by have h := hex6_show (some ⟨w.heap.size, 0, none⟩) 8 (a.take f) w' (by rw [← u16s_take]; exact ((Row.below hR3 hb hR3.2.2).rdPart 0).take f) (fun x hx => HL.out x (List.mem_of_mem_take hx)) (by rw [List.length_take]; omega) (hd.next (bnext HB1.out hb)); rw [List.length_take, Nat.min_eq_left (by omega), ← HP.out] at h; exact h); have HC2 := Lib.hid fun w' (hb : Below w1.heap.size w1 w') => (show Calls Tryd.prog 39 #[.slice (some ⟨w.heap.size, 0, none⟩) (8 - o) (8 - o)] w' fun e w2 => e = .returned (.string (str Q)) ∧ Below w'.heap.size w' w2 by have h := hex6_show (some ⟨w.heap.size, 0, none⟩) (8 - o) (a.drop o) w' (by rw [HZ.out]; exact Rd.nil) (fun x hx => HL.out x (List.mem_of_mem_drop hx)) (by rw [List.length_drop]; omega) (hd.next (bnext HB1.out hb)); rw [List.length_drop, hl8, ← HQ.out] at h; exact h))
      go_region_with (first
        | (go_at_call 39; go_fit (HC1.out w1.drew (Below.refl _ _).drew); rintro e w2 ⟨rfl, hb2⟩; have hc2 : Below w1.heap.size w1 w2 := ((Below.refl w1.heap.size w1).drew).trans hb2)
        | (go_at_call 39; go_fit (HC2.out w1.drew (Below.refl _ _).drew); rintro e w3 ⟨rfl, hb3⟩; have hc3 : Below w1.heap.size w1 w3 := ((Below.refl w1.heap.size w1).drew).trans hb3)
        | (go_at_call 39; go_fit (HC2.out w2 hc2); rintro e w4 ⟨rfl, hb4⟩)
        | (go_at_call 39; go_fit (HC1.out w3 hc3); rintro e w5 ⟨rfl, hb5⟩))
      all_goals go_wp2
      all_goals go_ret
      all_goals first
        | exact ⟨rfl, bnext (bnext HB1.out hc2) hb4⟩
        | exact ⟨rfl, bnext (bnext HB1.out hc3) hb5⟩
    · have hc1 : (o = 8) = False := eq_false ho8
      have hc2 : (8 = o) = False := eq_false (fun e => ho8 e.symm)
      clear ho8
      go_enter Tryd.func26, Tryd.ntmps26
      go_wp2_with (go_at_call 38; go_must (go_fit (CR.out _)); rintro e w1 ⟨rfl, hb1⟩; have hR3 := Row.below hR2 hb1 hR2.2.2; have HB1 := Lib.hid (bnext hb0 hb1); have HC1 := Lib.hid fun w' (hb : Below w1.heap.size w1 w') => (show Calls Tryd.prog 39 #[.slice (some ⟨w.heap.size, 0, none⟩) f 8] w' fun e w2 => e = .returned (.string (str P)) ∧ Below w'.heap.size w' w2 by have h := hex6_show (some ⟨w.heap.size, 0, none⟩) 8 (a.take f) w' (by rw [← u16s_take]; exact ((Row.below hR3 hb hR3.2.2).rdPart 0).take f) (fun x hx => HL.out x (List.mem_of_mem_take hx)) (by rw [List.length_take]; omega) (hd.next (bnext HB1.out hb)); rw [List.length_take, Nat.min_eq_left (by omega), ← HP.out] at h; exact h); have HC2 := Lib.hid fun w' (hb : Below w1.heap.size w1 w') => (show Calls Tryd.prog 39 #[.slice (some ⟨w.heap.size, o, none⟩) (8 - o) (8 - o)] w' fun e w2 => e = .returned (.string (str Q)) ∧ Below w'.heap.size w' w2 by have h := hex6_show (some ⟨w.heap.size, o, none⟩) (8 - o) (a.drop o) w' (by rw [← u16s_drop]; exact (Row.below hR3 hb hR3.2.2).rdPart o) (fun x hx => HL.out x (List.mem_of_mem_drop hx)) (by rw [List.length_drop]; omega) (hd.next (bnext HB1.out hb)); rw [List.length_drop, hl8, ← HQ.out] at h; exact h))
      go_region_with (first
        | (go_at_call 39; go_fit (HC1.out w1.drew (Below.refl _ _).drew); rintro e w2 ⟨rfl, hb2⟩; have hc2 : Below w1.heap.size w1 w2 := ((Below.refl w1.heap.size w1).drew).trans hb2)
        | (go_at_call 39; go_fit (HC2.out w1.drew (Below.refl _ _).drew); rintro e w3 ⟨rfl, hb3⟩; have hc3 : Below w1.heap.size w1 w3 := ((Below.refl w1.heap.size w1).drew).trans hb3)
        | (go_at_call 39; go_fit (HC2.out w2 hc2); rintro e w4 ⟨rfl, hb4⟩)
        | (go_at_call 39; go_fit (HC1.out w3 hc3); rintro e w5 ⟨rfl, hb5⟩))
      all_goals go_wp2
      all_goals go_ret
      all_goals first
        | exact ⟨rfl, bnext (bnext HB1.out hc2) hb4⟩
        | exact ⟨rfl, bnext (bnext HB1.out hc3) hb5⟩
end Go.Proofs.YtaglbcniomcfnaaDoor

