/- A part of the proof. -/
import Derived.Test.YtoapelcofjjdnaaGreatDoorR18
import Derived.Test.YtoapelcofjjdnaaGreatDoorR25
import Derived.Test.YtoapelcofjjdnaaGreatDoorR12
import Derived.Deep.CutBlock
import Derived.Deep.DeepCutAuto
import Derived.Laws.Tables
import Derived.Laws.Rows
namespace Go.Proofs.YtoapelcofjjdnaaGreatDoor
set_option linter.all false
open Go.RowKit
theorem sls_zero {sp : Bool} {s : List UInt8} {j : Nat} (h : j < s.length) : ((uSls sp (dr s j) : Int) == 0) = !uSl sp (gb s j) := by
 obtain ⟨hj, e⟩ := List.getElem?_eq_some_iff.1 (gb_some h)
 have e2 : dr s j = gb s j :: dr s (j + 1) := by unfold dr; rw [List.drop_eq_getElem_cons hj, e]
 unfold uSls
 rw [e2, List.takeWhile_cons]
 cases uSl sp (gb s j)
 · rfl
 ·
  rw [if_pos rfl, List.length_cons]
  show (((_ + 1 : Nat) : Int) == 0) = false
  rw [beq_eq_false_iff_ne]; omega
theorem ahead_lt (c : UInt8) (s : List UInt8) : decide ((ahead c s).length < s.length) = decide (c ∈ s) := by
 by_cases h : c ∈ s
 ·
  obtain ⟨a, t, rfl, ha⟩ := first_parts h
  rw [decide_eq_true h, (ahead_at t ha).1, List.length_append, List.length_cons, decide_eq_true (by omega)]
 · rw [decide_eq_false h, (ahead_whole h).1, decide_eq_false (by omega)]
theorem col_step {s : List UInt8} {i : Nat} {k : Int} {b : Bool} (h : i < s.length) : uColGo i k b (s.drop i) = if (gb s i).toNat = 91 then uColGo (i + 1) k true (s.drop (i + 1)) else if (gb s i).toNat = 93 then uColGo (i + 1) k false (s.drop (i + 1)) else if (gb s i).toNat = 58 ∧ b = false then uColGo (i + 1) i b (s.drop (i + 1)) else uColGo (i + 1) k b (s.drop (i + 1)) := by
 obtain ⟨hj, e⟩ := List.getElem?_eq_some_iff.1 (gb_some h)
 rw [List.drop_eq_getElem_cons hj, e]; rfl
theorem name_take {sp : Bool} {r : List UInt8} {j : Nat} (h : (r.take j).all (fun c => !uSl sp c) = true) (hj : j ≤ r.length) (hs : j = r.length ∨ (!uSl sp (gb r j)) = false) : uName sp r = tk r j := while_atU h hj hs
def AuthR (w w' : World) (g : Nat) (o : Uo) (r : Option Ua) (e : Ending) : Prop := match r with
 | none => (∃ n : Int, (n != 0) = true ∧ e = .returned (.int .i64 n)) ∧ Below g w w'
 | some a => e = .returned (.int .i64 0) ∧ (∃ A c B, UrAt w' g (o.withA a) (.slice A a.path.length c) ∧ g < B ∧ w'.ownsRow B 9 1 (.slice A a.path.length c) a.path.length (strs a.path)) ∧ Below g w w'
theorem auth_of {sch r a : List UInt8} {sp : Bool} {x p : Int} (h1 : sp = uSp sch) (h2 : a = uName sp r) (h3 : (64 : UInt8) ∉ a) (h4 : uCol a = x) (h5 : uRight sch a x = some p) :
  uAuth sch r = (uHost sp a x).map fun h => ⟨h, p, uWays sp (r.drop a.length)⟩ := by
 subst h1 h2 h4
 unfold uAuth
 rw [if_neg h3, h5]; rfl
theorem auth_port {sch r a : List UInt8} {sp : Bool} {x : Int} (h1 : sp = uSp sch) (h2 : a = uName sp r) (h3 : (64 : UInt8) ∉ a) (h4 : uCol a = x) (h5 : uRight sch a x = none) : uAuth sch r = none := by
 subst h1 h2 h4
 unfold uAuth
 rw [if_neg h3, h5]; rfl
theorem auth_sign {sch r a : List UInt8} {sp : Bool} (h1 : sp = uSp sch) (h2 : a = uName sp r) (h3 : (64 : UInt8) ∈ a) : uAuth sch r = none := by
 subst h1 h2
 unfold uAuth
 rw [if_pos h3]
theorem own_setS {w : World} {g base m j : Nat} {u z : Value} {xs : List Value} (hown : w.ownsRow base 9 1 u m xs) (hg : g < base) : (w.setCell ⟨g, j, none⟩ z).ownsRow base 9 1 u m xs := by
 refine hown.kept (row := some g) ⟨rfl, rfl, rfl, by simp [World.setCell], fun k _ hk => Below.heap_setCell _ _ _ _ (fun e => hk (by simp [e]))⟩ ?_
 right
 intro e
 have := (hown.lt g e).1
 omega
set_option maxRecDepth 100000 in
set_option maxHeartbeats 8000000 in
theorem uauth_any (g : Nat) (o : Uo) (r : List UInt8) (w : World) (h : UrAt w g o (.slice none 0 0)) (hr : r.length ≤ 500) (sp : Bool) (HSp : Hid (sp = uSp o.sch)) :
  Calls Tryz.prog 62 #[.pointer (some ⟨g, 0, none⟩), .string (str r), .bool sp] w fun e w' => AuthR w w' g o (uAuth o.sch r) e := by
 have hsz := str_size r
 have hen := str_end r
 have hfr := str_front r
 have hglt := h.lt
 have CS := Lib.hid fun j w => slashes_any (dr r j) sp w (by rw [dr_len]; omega)
 have HZ := Lib.hid fun (j : Nat) (hj : j < r.length) => sls_zero (sp := sp) hj
 obtain ⟨a, ha⟩ : ∃ a, a = uName sp r := ⟨_, rfl⟩
 have HA := Lib.hid ha
 have hal : a.length ≤ r.length := by rw [ha]; exact (List.takeWhile_prefix _).length_le
 have HAt := Lib.hid (show a = tk r a.length by rw [ha]; exact List.prefix_iff_eq_take.1 (List.takeWhile_prefix _))
 have HAd := Lib.hid (show (r.drop a.length) = dr r a.length from rfl)
 clear ha
 have hsa := str_size a
 have hga := str_get a
 have hea := str_end a
 have CF := Lib.hid fun w => first_any a 64 w (by omega)
 have HF := Lib.hid (ahead_lt 64 a)
 obtain ⟨f, hf⟩ : ∃ f, f = (ahead 64 a).length := ⟨_, rfl⟩
 rw [← hf] at CF HF
 clear hf
 go_enter Tryz.func62, Tryz.ntmps62
 go_upto_block 0 with (fail)
 go_cut [7] (fun s7 wq => s7 = .int .i64 (a.length : Int) ∧ w = wq)
 case first =>
  go_wp2
  go_loopg [7] (r.length) (fun k s7 wr => ∃ j : Nat, k = r.length - j ∧ j ≤ r.length ∧ s7 = .int .i64 j ∧ Hid ((r.take j).all (fun c => !uSl sp c) = true) ∧ w = wr)
  case atStart => exact ⟨0, rfl, Nat.zero_le _, rfl, rfl, rfl⟩
  case round =>
   obtain ⟨j, rfl, hj, rfl, hn, rfl⟩ := hrel
   by_cases hlt : j < r.length
   ·
    have hlt1 : (j : Int) < (r.length : Int) := by omega
    have hj1 : (j : Int) ≤ (r.length : Int) := by omega
    have hj0 : (0 : Int) ≤ (j : Int) := by omega
    have hz := HZ.out j hlt
    have C := Lib.hid fun w => CS.out j w
    cases hp : uSl sp (gb r j) with
    | true =>
     rw [hp] at hz
     have HN := Lib.hid (show a.length = j by rw [HA.out, name_take hn.out hj (.inr (by rw [hp]; rfl)), tk_len]; omega)
     obtain ⟨n, hnn⟩ : ∃ n, n = uSls sp (dr r j) := ⟨_, rfl⟩
     rw [← hnn] at C hz
     have hz' : ((n : Int) == 0) = false := hz
     clear hp hnn hz
     go_wp2_with (go_at_call 60; go_must (go_fit (C.out _)); rintro e w1 ⟨rfl, rfl⟩)
     go_meet
     case rel => exact ⟨by rw [HN.out], rfl⟩
    | false =>
     rw [hp] at hz
     have HN := Lib.hid (all_snocU (P := fun c => !uSl sp c) hn.out hlt (by rw [hp]; rfl))
     obtain ⟨n, hnn⟩ : ∃ n, n = uSls sp (dr r j) := ⟨_, rfl⟩
     rw [← hnn] at C hz
     have hz' : ((n : Int) == 0) = true := hz
     clear hp hnn hz
     go_wp2_with (go_at_call 60; go_must (go_fit (C.out _)); rintro e w1 ⟨rfl, rfl⟩)
     go_roundg (r.length - (j + 1))
     case measure => omega
     case rel => exact ⟨j + 1, rfl, by omega, by go_num, HN.out, rfl⟩
   ·
    obtain rfl : j = r.length := by omega
    have HN := Lib.hid (show a.length = r.length by rw [HA.out, name_take hn.out hj (.inl rfl), tk_len]; omega)
    clear hlt
    go_wp2
    go_meet
    case rel => exact ⟨by rw [HN.out], rfl⟩
 case rest =>
  obtain ⟨rfl, rfl⟩ := hcut
  have hfrA : (str r).extract 0 a.length = str a := by rw [str_front, ← HAt.out]
  obtain ⟨R, hR⟩ : ∃ R, R = dr r a.length := ⟨_, rfl⟩
  have henA : (str r).extract a.length r.length = str R := by rw [str_end, hR]
  have hRl : R.length ≤ 500 := by rw [hR, dr_len]; omega
  have HRd := Lib.hid (show r.drop a.length = R from hR.symm)
  have hsR := str_size R
  have heR := str_end R
  have htR := str_toL R
  clear hen hfr hR
  go_wp2
  go_quiet (fail)
  obtain ⟨w1, hw1⟩ : ∃ w1, w1 = w.drewN nq := ⟨_, rfl⟩
  have hB1 : Below w.heap.size w w1 := hw1 ▸ below_drewN (Below.refl _ _) nq
  have hu1 := h.next hB1
  have hb1 : Below g w w1 := hB1.mono (Nat.le_of_lt hglt)
  have d3 := hu1.c3
  have f3 := hu1.fr 3
  rw [← hw1]
  clear hw1 h
  by_cases hM : (64 : UInt8) ∈ a
  ·
   have hfI : (f : Int) < (a.length : Int) := by have h := HF.out; rw [decide_eq_true hM] at h; have := of_decide_eq_true h; omega
   have HN := Lib.hid (auth_sign HSp.out HA.out hM)
   clear hM
   go_wp2_with (go_at_call 58; go_must (go_fit (CF.out _)); rintro e w2 ⟨rfl, rfl⟩)
   go_ret
   rw [HN.out]
   exact ⟨⟨5, rfl, rfl⟩, hb1⟩
  ·
   have hfI : (a.length : Int) ≤ (f : Int) := by have h := HF.out; rw [decide_eq_false hM] at h; have := of_decide_eq_false h; omega
   have HM := Lib.hid hM
   have hfD : decide (f < a.length) = false := decide_eq_false (by omega)
   clear hM hfI
   go_wp2_with (go_at_call 58; go_must (go_fit (CF.out _)); rintro e w1 ⟨rfl, rfl⟩)
   go_loopg [10, 11, 12] (a.length) (fun k s10 s11 s12 wr => ∃ (j : Nat) (x : Int) (b : Bool), k = a.length - j ∧ j ≤ a.length ∧ s12 = .int .i64 j ∧ s10 = .int .i64 x ∧ s11 = .bool b ∧ -1 ≤ x ∧ x < (j : Int) ∧ Hid (uCol a = uColGo j x b (a.drop j)) ∧ w1 = wr)
   case atStart => exact ⟨0, -1, false, rfl, Nat.zero_le _, rfl, rfl, rfl, by omega, by omega, rfl, rfl⟩
   case round =>
    obtain ⟨j, x, b, rfl, hj, rfl, rfl, rfl, hx0, hx1, hn, rfl⟩ := hrel
    by_cases hlt : j < a.length
    ·
     have hlt1 : (j : Int) < (a.length : Int) := by omega
     have hj0 : (0 : Int) ≤ (j : Int) := by omega
     have HS := Lib.hid (hn.out.trans (col_step hlt))
     by_cases h91 : (gb a j).toNat = 91
     ·
      have q1 : (((gb a j).toNat : Int) == 91) = true := by rw [beq_iff_eq]; omega
      have HN := Lib.hid (HS.out.trans (if_pos h91))
      clear h91
      go_wp2
      go_roundg (a.length - (j + 1))
      case measure => omega
      case rel => exact ⟨j + 1, x, true, rfl, by omega, by go_num, by go_num, rfl, by omega, by omega, HN.out, rfl⟩
     ·
      have q1 : (((gb a j).toNat : Int) == 91) = false := by rw [beq_eq_false_iff_ne]; omega
      by_cases h93 : (gb a j).toNat = 93
      ·
       have q2 : (((gb a j).toNat : Int) == 93) = true := by rw [beq_iff_eq]; omega
       have HN := Lib.hid (HS.out.trans ((if_neg h91).trans (if_pos h93)))
       clear h91 h93
       go_wp2
       go_roundg (a.length - (j + 1))
       case measure => omega
       case rel => exact ⟨j + 1, x, false, rfl, by omega, by go_num, by go_num, rfl, by omega, by omega, HN.out, rfl⟩
      ·
       have q2 : (((gb a j).toNat : Int) == 93) = false := by rw [beq_eq_false_iff_ne]; omega
       by_cases h58 : (gb a j).toNat = 58
       ·
        have q3 : (((gb a j).toNat : Int) == 58) = true := by rw [beq_iff_eq]; omega
        cases b with
        | false =>
         have HN := Lib.hid (HS.out.trans ((if_neg h91).trans ((if_neg h93).trans (if_pos ⟨h58, rfl⟩))))
         clear h91 h93 h58
         go_wp2
         go_roundg (a.length - (j + 1))
         case measure => omega
         case rel => exact ⟨j + 1, j, false, rfl, by omega, by go_num, by go_num, rfl, by omega, by omega, HN.out, rfl⟩
        | true =>
         have HN := Lib.hid (HS.out.trans ((if_neg h91).trans ((if_neg h93).trans (if_neg (fun e => by cases e.2)))))
         clear h91 h93 h58
         go_wp2
         go_roundg (a.length - (j + 1))
         case measure => omega
         case rel => exact ⟨j + 1, x, true, rfl, by omega, by go_num, by go_num, rfl, by omega, by omega, HN.out, rfl⟩
       ·
        have q3 : (((gb a j).toNat : Int) == 58) = false := by rw [beq_eq_false_iff_ne]; omega
        have HN := Lib.hid (HS.out.trans ((if_neg h91).trans ((if_neg h93).trans (if_neg (fun e => h58 e.1)))))
        clear h91 h93 h58
        go_wp2
        go_roundg (a.length - (j + 1))
        case measure => omega
        case rel => exact ⟨j + 1, x, b, rfl, by omega, by go_num, by go_num, rfl, by omega, by omega, HN.out, rfl⟩
    ·
     obtain rfl : j = a.length := by omega
     have HK := Lib.hid (show uCol a = x by rw [hn.out, List.drop_length]; rfl)
     clear hlt
     have hx2 : x < (a.length : Int) := hx1
     by_cases hk : 0 ≤ x
     ·
      obtain ⟨K, hK⟩ : ∃ K : Nat, x = (K : Int) := ⟨x.toNat, by omega⟩
      subst hK
      have hKI : (K : Int) ≤ (a.length : Int) := by omega
      have hK1 : (K : Int) + 1 ≤ (a.length : Int) := by omega
      have hKw : IntKind.i64.wrap ((K : Int) + 1) = (K : Int) + 1 := IntWalk.i64_in _ (by omega)
      have hK2 : (0 : Int) ≤ (K : Int) + 1 := by omega
      have hK3 : ((K : Int) + 1).toNat = K + 1 := by omega
      have hP := uport_any g { o with port := -1 } (.slice none 0 0) (dr a (K + 1)) _ (hu1.s3 (-1)) rfl (by rw [dr_len]; omega)
      have HR := Lib.hid (show uRight o.sch a K = uPort o.sch (dr a (K + 1)) from if_pos (by omega))
      have hP0 : (w1.setCell ⟨g, 3, none⟩ (.int .i64 (-1))).heap.size = w1.heap.size := by simp
      cases ho : uPort o.sch (dr a (K + 1)) with
      | none =>
       have CP := Lib.hid (hP.mono fun e w' hh => (show e = .returned (.int .i64 6) ∧ w1.setCell ⟨g, 3, none⟩ (.int .i64 (-1)) = w' by rw [show ({ o with port := -1 } : Uo).sch = o.sch from rfl, ho] at hh; exact hh))
       have HN := Lib.hid (auth_port HSp.out HA.out HM.out HK.out (HR.out.trans ho))
       clear hP ho hk HR
       go_wp2_with (go_at_call 99; go_must (go_fit CP.out); rintro e w2 ⟨rfl, rfl⟩)
       go_ret
       rw [HN.out]
       exact ⟨⟨6, rfl, rfl⟩, hb1.setCell (p := ⟨g, 3, none⟩) (Nat.le_refl g) _⟩
      | some p =>
       have CP := Lib.hid (hP.mono fun e w' hh => (show e = .returned (.int .i64 0) ∧ UrAt w' g { o with port := p } (.slice none 0 0) ∧ (w1.setCell ⟨g, 3, none⟩ (.int .i64 (-1))).grownBy w' (some g) by rw [show ({ o with port := -1 } : Uo).sch = o.sch from rfl, ho] at hh; exact hh))
       have HUH := Lib.hid (auth_of HSp.out HA.out HM.out HK.out (HR.out.trans ho))
       clear hP ho HR
       obtain ⟨H, hH⟩ : ∃ H, H = tk a K := ⟨_, rfl⟩
       have hHl : H.length ≤ 1000 := by rw [hH, tk_len]; omega
       have HL := Lib.hid (show uLeft a K = H by rw [hH]; exact if_pos (by omega))
       have hfrK : (str a).extract 0 K = str H := by rw [hH]; exact str_front a K
       clear hH hk
       go_upto_region 22 with (go_at_call 99; go_must (go_fit CP.out); rintro e w2 ⟨rfl, hu2, hg2⟩)
       have hb2 : Below g w w2 := (hb1.setCell (p := ⟨g, 3, none⟩) (Nat.le_refl g) _).grown hg2 (by rw [hP0]; exact Nat.le_of_lt hu1.lt) (fun k e => by injection e with e; omega)
       clear CP hg2
       have hgle := Nat.le_of_lt hu2.lt
       have htH := str_toL H
       cases ht : hParse H sp with
       | none =>
        have CH := Lib.hid (show ∀ w, Calls Tryz.prog 31 #[.string (str H), .bool sp] w fun e w' => e = .returned (.tuple #[.string (str []), .int .i64 5]) ∧ Below w.heap.size w w' from fun w => by have := rhost_any H sp w hHl; rwa [ht] at this)
        have HN := Lib.hid (show uAuth o.sch r = none by rw [HUH.out]; unfold uHost; rw [HL.out, ht]; split <;> rfl)
        clear ht
        go_wp2_with (go_at_call 31; go_must (go_fit (CH.out _)); rintro e w3 ⟨rfl, hb3⟩)
        go_ret
        rw [HN.out]
        exact ⟨⟨5, rfl, rfl⟩, hb2.trans (hb3.mono hgle)⟩
       | some t =>
        have CH := Lib.hid (show ∀ w, Calls Tryz.prog 31 #[.string (str H), .bool sp] w fun e w' => e = .returned (.tuple #[.string (str t), .int .i64 0]) ∧ Below w.heap.size w w' from fun w => by have := rhost_any H sp w hHl; rwa [ht] at this)
        have HO0 := Lib.hid (show uAuth o.sch r = Option.map (fun h => (⟨h, p, uWays sp R⟩ : Ua)) (if H = [] ∧ (sp = true ∨ 0 ≤ (K : Int)) then none else some t) by rw [HUH.out]; unfold uHost; rw [HL.out, ht, HRd.out])
        clear ht
        by_cases hH : H = []
        ·
         have qh : (H == []) = true := by rw [hH]; rfl
         have HN := Lib.hid (show uAuth o.sch r = none by rw [HO0.out, if_pos ⟨hH, .inr (by omega)⟩]; rfl)
         clear hH HO0
         go_wp2_with (go_at_call 31; go_must (go_fit (CH.out _)); rintro e w3 ⟨rfl, hb3⟩)
         all_goals go_ret
         all_goals rw [HN.out]
         all_goals exact ⟨⟨5, rfl, rfl⟩, hb2.trans (hb3.mono hgle)⟩
        ·
         have qh : (H == []) = false := by rw [beq_eq_false_iff_ne]; exact hH
         have HO := Lib.hid (HO0.out.trans (by rw [if_neg fun e => hH e.1]; rfl : _ = some (⟨t, p, uWays sp R⟩ : Ua)))
         clear HO0 hH
         cases sp with
         | true =>
          skip
          by_cases hRR : R = []
          ·
           have qr : (R == []) = true := by rw [hRR]; rfl
           have qr' : (R != []) = false := by rw [hRR]; rfl
           have HN := Lib.hid (HO.out.trans (show some (⟨t, p, uWays true R⟩ : Ua) = some ⟨t, p, [[]]⟩ by unfold uWays; rw [if_neg (fun e => e hRR), if_pos rfl]))
           clear hRR HO
           go_wp2_with (go_at_call 31; go_must (go_fit (CH.out _)); rintro e w3 ⟨rfl, hb3⟩; have hu3 := (hu2.next hb3); have d1 := hu3.c1; have d2 := hu3.c2; have e1 := hu3.fr 1; have e2 := hu3.fr 2; have hu4 := ((hu3.s1 t).s2 true); have hu5 := hu4.next ((Below.refl _ _).alloc (Nat.le_refl _) (.cells #[.string (ByteArray.mk #[])] 9)); have d4 := hu5.c4; have e4 := hu5.fr 4)
           have hs4 : ((w3.setCell ⟨g, 1, none⟩ (.string (str t))).setCell ⟨g, 2, none⟩ (.bool true)).heap.size = w3.heap.size := by simp
           have hown : (((w3.setCell ⟨g, 1, none⟩ (.string (str t))).setCell ⟨g, 2, none⟩ (.bool true)).alloc (.cells #[.string (str [])] 9)).ownsRow ((w3.setCell ⟨g, 1, none⟩ (.string (str t))).setCell ⟨g, 2, none⟩ (.bool true)).heap.size 9 1 (.slice (some ⟨((w3.setCell ⟨g, 1, none⟩ (.string (str t))).setCell ⟨g, 2, none⟩ (.bool true)).heap.size, 0, none⟩) 1 1) 1 [.string (str [])] := World.ownsRow_lit _ #[.string (str [])] 1 (Nat.le_refl _) (by decide) rfl
           rw [hs4] at hown
           go_ret
           rw [HN.out]
           refine ⟨rfl, ⟨some ⟨w3.heap.size, 0, none⟩, 1, _, hu5.s4 _, hu3.lt, own_setS hown hu3.lt⟩, ?_⟩
           exact (((((hb2.trans (hb3.mono hgle)).setCell (p := ⟨g, 1, none⟩) (Nat.le_refl g) _).setCell (p := ⟨g, 2, none⟩) (Nat.le_refl g) _).alloc (by rw [hs4]; exact Nat.le_of_lt hu3.lt) _).setCell (p := ⟨g, 4, none⟩) (Nat.le_refl g) _)
          ·
           skip
           have qr : (R == []) = false := by rw [beq_eq_false_iff_ne]; exact hRR
           have qr' : (R != []) = true := by rw [bne_iff_ne]; exact hRR
           have hR1 : (1 : Int) ≤ (R.length : Int) := by have : 0 < R.length := List.length_pos_iff.2 hRR; omega
           have HN := Lib.hid (HO.out.trans (show some (⟨t, p, uWays true R⟩ : Ua) = some ⟨t, p, pParseP (dr R 1) true []⟩ by unfold uWays; rw [if_pos hRR]; rfl))
           have CPa := Lib.hid fun w => rpath_any (dr R 1) true none 0 [] w Rd.nil (by rw [dr_len]; omega) (by decide)
           obtain ⟨L, hL⟩ : ∃ L, L = pParseP (dr R 1) true [] := ⟨_, rfl⟩
           rw [← hL] at HN CPa
           clear hRR HO hL
           go_wp2_with (first
            | (go_at_call 31; go_must (go_fit (CH.out _)); rintro e w3 ⟨rfl, hb3⟩; have hu3 := (hu2.next hb3); have d1 := hu3.c1; have d2 := hu3.c2; have e1 := hu3.fr 1; have e2 := hu3.fr 2; have hu4 := (hu3.s1 t).s2 true)
            | (go_at_call 63; go_must (go_fit (CPa.out _)); rintro e w5 ⟨v5, rfl, hown5, hb5⟩; obtain ⟨A5, c5, rfl, hc5, hm5⟩ := own_shape hown5; have hu5 := hu4.next hb5; have d4 := hu5.c4; have e4 := hu5.fr 4))
           go_ret
           rw [HN.out]
           refine ⟨rfl, ⟨A5, c5, _, hu5.s4 _, hu4.lt, own_setS hown5 hu4.lt⟩, ?_⟩
           exact (((((hb2.trans (hb3.mono hgle)).setCell (p := ⟨g, 1, none⟩) (Nat.le_refl g) _).setCell (p := ⟨g, 2, none⟩) (Nat.le_refl g) _).trans (hb5.mono (Nat.le_of_lt hu4.lt))).setCell (p := ⟨g, 4, none⟩) (Nat.le_refl g) _)
         | false =>
          skip
          by_cases hRR : R = []
          ·
           have qr : (R == []) = true := by rw [hRR]; rfl
           have qr' : (R != []) = false := by rw [hRR]; rfl
           have HN := Lib.hid (HO.out.trans (show some (⟨t, p, uWays false R⟩ : Ua) = some ⟨t, p, []⟩ by unfold uWays; rw [if_neg (fun e => e hRR), if_neg (by decide)]))
           clear hRR HO
           go_wp2_with (go_at_call 31; go_must (go_fit (CH.out _)); rintro e w3 ⟨rfl, hb3⟩; have hu3 := (hu2.next hb3); have d1 := hu3.c1; have d2 := hu3.c2; have e1 := hu3.fr 1; have e2 := hu3.fr 2)
           go_ret
           rw [HN.out]
           exact ⟨rfl, ⟨none, 0, _, (hu3.s1 t).s2 true, hu3.lt, World.ownsRow_nil _ _ _ _⟩, (((hb2.trans (hb3.mono hgle)).setCell (p := ⟨g, 1, none⟩) (Nat.le_refl g) _).setCell (p := ⟨g, 2, none⟩) (Nat.le_refl g) _)⟩
          ·
           skip
           have qr : (R == []) = false := by rw [beq_eq_false_iff_ne]; exact hRR
           have qr' : (R != []) = true := by rw [bne_iff_ne]; exact hRR
           have hR1 : (1 : Int) ≤ (R.length : Int) := by have : 0 < R.length := List.length_pos_iff.2 hRR; omega
           have HN := Lib.hid (HO.out.trans (show some (⟨t, p, uWays false R⟩ : Ua) = some ⟨t, p, pParseP (dr R 1) false []⟩ by unfold uWays; rw [if_pos hRR]; rfl))
           have CPa := Lib.hid fun w => rpath_any (dr R 1) false none 0 [] w Rd.nil (by rw [dr_len]; omega) (by decide)
           obtain ⟨L, hL⟩ : ∃ L, L = pParseP (dr R 1) false [] := ⟨_, rfl⟩
           rw [← hL] at HN CPa
           clear hRR HO hL
           go_wp2_with (first
            | (go_at_call 31; go_must (go_fit (CH.out _)); rintro e w3 ⟨rfl, hb3⟩; have hu3 := (hu2.next hb3); have d1 := hu3.c1; have d2 := hu3.c2; have e1 := hu3.fr 1; have e2 := hu3.fr 2; have hu4 := (hu3.s1 t).s2 true)
            | (go_at_call 63; go_must (go_fit (CPa.out _)); rintro e w5 ⟨v5, rfl, hown5, hb5⟩; obtain ⟨A5, c5, rfl, hc5, hm5⟩ := own_shape hown5; have hu5 := hu4.next hb5; have d4 := hu5.c4; have e4 := hu5.fr 4))
           go_ret
           rw [HN.out]
           refine ⟨rfl, ⟨A5, c5, _, hu5.s4 _, hu4.lt, own_setS hown5 hu4.lt⟩, ?_⟩
           exact (((((hb2.trans (hb3.mono hgle)).setCell (p := ⟨g, 1, none⟩) (Nat.le_refl g) _).setCell (p := ⟨g, 2, none⟩) (Nat.le_refl g) _).trans (hb5.mono (Nat.le_of_lt hu4.lt))).setCell (p := ⟨g, 4, none⟩) (Nat.le_refl g) _)
     ·
      have hHl : a.length ≤ 1000 := by omega
      have HL := Lib.hid (show uLeft a x = a from if_neg hk)
      have HUH := Lib.hid (auth_of (p := -1) HSp.out HA.out HM.out HK.out (if_neg hk))
      have hxI : x < 0 := by omega
      have hu2 := hu1.s3 (-1)
      have hb2 : Below g w (w1.setCell ⟨g, 3, none⟩ (.int .i64 (-1))) := hb1.setCell (p := ⟨g, 3, none⟩) (Nat.le_refl g) _
      clear hk
      have hgle := Nat.le_of_lt hu2.lt
      have htH := str_toL a
      cases ht : hParse a sp with
      | none =>
       have CH := Lib.hid (show ∀ w, Calls Tryz.prog 31 #[.string (str a), .bool sp] w fun e w' => e = .returned (.tuple #[.string (str []), .int .i64 5]) ∧ Below w.heap.size w w' from fun w => by have := rhost_any a sp w hHl; rwa [ht] at this)
       have HN := Lib.hid (show uAuth o.sch r = none by rw [HUH.out]; unfold uHost; rw [HL.out, ht]; split <;> rfl)
       clear ht
       go_wp2_with (go_at_call 31; go_must (go_fit (CH.out _)); rintro e w3 ⟨rfl, hb3⟩)
       go_ret
       rw [HN.out]
       exact ⟨⟨5, rfl, rfl⟩, hb2.trans (hb3.mono hgle)⟩
      | some t =>
       have CH := Lib.hid (show ∀ w, Calls Tryz.prog 31 #[.string (str a), .bool sp] w fun e w' => e = .returned (.tuple #[.string (str t), .int .i64 0]) ∧ Below w.heap.size w w' from fun w => by have := rhost_any a sp w hHl; rwa [ht] at this)
       have HO0 := Lib.hid (show uAuth o.sch r = Option.map (fun h => (⟨h, -1, uWays sp R⟩ : Ua)) (if a = [] ∧ (sp = true ∨ 0 ≤ (x : Int)) then none else some t) by rw [HUH.out]; unfold uHost; rw [HL.out, ht, HRd.out])
       clear ht
       by_cases hH : a = []
       ·
        have qh : (a == []) = true := by rw [hH]; rfl
        cases sp with
        | true =>
         have HN := Lib.hid (show uAuth o.sch r = none by rw [HO0.out, if_pos ⟨hH, .inl rfl⟩]; rfl)
         clear hH HO0
         go_wp2_with (go_at_call 31; go_must (go_fit (CH.out _)); rintro e w3 ⟨rfl, hb3⟩)
         go_ret
         rw [HN.out]
         exact ⟨⟨5, rfl, rfl⟩, hb2.trans (hb3.mono hgle)⟩
        | false =>
         have HO := Lib.hid (HO0.out.trans (by rw [if_neg (fun e => by rcases e.2 with e | e; cases e; omega)]; rfl : _ = some (⟨t, -1, uWays false R⟩ : Ua)))
         clear HO0 hH
         by_cases hRR : R = []
         ·
          have qr : (R == []) = true := by rw [hRR]; rfl
          have qr' : (R != []) = false := by rw [hRR]; rfl
          have HN := Lib.hid (HO.out.trans (show some (⟨t, -1, uWays false R⟩ : Ua) = some ⟨t, -1, []⟩ by unfold uWays; rw [if_neg (fun e => e hRR), if_neg (by decide)]))
          clear hRR HO
          go_wp2_with (go_at_call 31; go_must (go_fit (CH.out _)); rintro e w3 ⟨rfl, hb3⟩; have hu3 := (hu2.next hb3); have d1 := hu3.c1; have d2 := hu3.c2; have e1 := hu3.fr 1; have e2 := hu3.fr 2)
          go_ret
          rw [HN.out]
          exact ⟨rfl, ⟨none, 0, _, (hu3.s1 t).s2 true, hu3.lt, World.ownsRow_nil _ _ _ _⟩, (((hb2.trans (hb3.mono hgle)).setCell (p := ⟨g, 1, none⟩) (Nat.le_refl g) _).setCell (p := ⟨g, 2, none⟩) (Nat.le_refl g) _)⟩
         ·
          skip
          have qr : (R == []) = false := by rw [beq_eq_false_iff_ne]; exact hRR
          have qr' : (R != []) = true := by rw [bne_iff_ne]; exact hRR
          have hR1 : (1 : Int) ≤ (R.length : Int) := by have : 0 < R.length := List.length_pos_iff.2 hRR; omega
          have HN := Lib.hid (HO.out.trans (show some (⟨t, -1, uWays false R⟩ : Ua) = some ⟨t, -1, pParseP (dr R 1) false []⟩ by unfold uWays; rw [if_pos hRR]; rfl))
          have CPa := Lib.hid fun w => rpath_any (dr R 1) false none 0 [] w Rd.nil (by rw [dr_len]; omega) (by decide)
          obtain ⟨L, hL⟩ : ∃ L, L = pParseP (dr R 1) false [] := ⟨_, rfl⟩
          rw [← hL] at HN CPa
          clear hRR HO hL
          go_wp2_with (first
           | (go_at_call 31; go_must (go_fit (CH.out _)); rintro e w3 ⟨rfl, hb3⟩; have hu3 := (hu2.next hb3); have d1 := hu3.c1; have d2 := hu3.c2; have e1 := hu3.fr 1; have e2 := hu3.fr 2; have hu4 := (hu3.s1 t).s2 true)
           | (go_at_call 63; go_must (go_fit (CPa.out _)); rintro e w5 ⟨v5, rfl, hown5, hb5⟩; obtain ⟨A5, c5, rfl, hc5, hm5⟩ := own_shape hown5; have hu5 := hu4.next hb5; have d4 := hu5.c4; have e4 := hu5.fr 4))
          go_ret
          rw [HN.out]
          refine ⟨rfl, ⟨A5, c5, _, hu5.s4 _, hu4.lt, own_setS hown5 hu4.lt⟩, ?_⟩
          exact (((((hb2.trans (hb3.mono hgle)).setCell (p := ⟨g, 1, none⟩) (Nat.le_refl g) _).setCell (p := ⟨g, 2, none⟩) (Nat.le_refl g) _).trans (hb5.mono (Nat.le_of_lt hu4.lt))).setCell (p := ⟨g, 4, none⟩) (Nat.le_refl g) _)
       ·
        have qh : (a == []) = false := by rw [beq_eq_false_iff_ne]; exact hH
        have HO := Lib.hid (HO0.out.trans (by rw [if_neg fun e => hH e.1]; rfl : _ = some (⟨t, -1, uWays sp R⟩ : Ua)))
        clear HO0 hH
        cases sp with
        | true =>
         skip
         by_cases hRR : R = []
         ·
          have qr : (R == []) = true := by rw [hRR]; rfl
          have qr' : (R != []) = false := by rw [hRR]; rfl
          have HN := Lib.hid (HO.out.trans (show some (⟨t, -1, uWays true R⟩ : Ua) = some ⟨t, -1, [[]]⟩ by unfold uWays; rw [if_neg (fun e => e hRR), if_pos rfl]))
          clear hRR HO
          go_wp2_with (go_at_call 31; go_must (go_fit (CH.out _)); rintro e w3 ⟨rfl, hb3⟩; have hu3 := (hu2.next hb3); have d1 := hu3.c1; have d2 := hu3.c2; have e1 := hu3.fr 1; have e2 := hu3.fr 2; have hu4 := ((hu3.s1 t).s2 true); have hu5 := hu4.next ((Below.refl _ _).alloc (Nat.le_refl _) (.cells #[.string (ByteArray.mk #[])] 9)); have d4 := hu5.c4; have e4 := hu5.fr 4)
          have hs4 : ((w3.setCell ⟨g, 1, none⟩ (.string (str t))).setCell ⟨g, 2, none⟩ (.bool true)).heap.size = w3.heap.size := by simp
          have hown : (((w3.setCell ⟨g, 1, none⟩ (.string (str t))).setCell ⟨g, 2, none⟩ (.bool true)).alloc (.cells #[.string (str [])] 9)).ownsRow ((w3.setCell ⟨g, 1, none⟩ (.string (str t))).setCell ⟨g, 2, none⟩ (.bool true)).heap.size 9 1 (.slice (some ⟨((w3.setCell ⟨g, 1, none⟩ (.string (str t))).setCell ⟨g, 2, none⟩ (.bool true)).heap.size, 0, none⟩) 1 1) 1 [.string (str [])] := World.ownsRow_lit _ #[.string (str [])] 1 (Nat.le_refl _) (by decide) rfl
          rw [hs4] at hown
          go_ret
          rw [HN.out]
          refine ⟨rfl, ⟨some ⟨w3.heap.size, 0, none⟩, 1, _, hu5.s4 _, hu3.lt, own_setS hown hu3.lt⟩, ?_⟩
          exact (((((hb2.trans (hb3.mono hgle)).setCell (p := ⟨g, 1, none⟩) (Nat.le_refl g) _).setCell (p := ⟨g, 2, none⟩) (Nat.le_refl g) _).alloc (by rw [hs4]; exact Nat.le_of_lt hu3.lt) _).setCell (p := ⟨g, 4, none⟩) (Nat.le_refl g) _)
         ·
          skip
          have qr : (R == []) = false := by rw [beq_eq_false_iff_ne]; exact hRR
          have qr' : (R != []) = true := by rw [bne_iff_ne]; exact hRR
          have hR1 : (1 : Int) ≤ (R.length : Int) := by have : 0 < R.length := List.length_pos_iff.2 hRR; omega
          have HN := Lib.hid (HO.out.trans (show some (⟨t, -1, uWays true R⟩ : Ua) = some ⟨t, -1, pParseP (dr R 1) true []⟩ by unfold uWays; rw [if_pos hRR]; rfl))
          have CPa := Lib.hid fun w => rpath_any (dr R 1) true none 0 [] w Rd.nil (by rw [dr_len]; omega) (by decide)
          obtain ⟨L, hL⟩ : ∃ L, L = pParseP (dr R 1) true [] := ⟨_, rfl⟩
          rw [← hL] at HN CPa
          clear hRR HO hL
          go_wp2_with (first
           | (go_at_call 31; go_must (go_fit (CH.out _)); rintro e w3 ⟨rfl, hb3⟩; have hu3 := (hu2.next hb3); have d1 := hu3.c1; have d2 := hu3.c2; have e1 := hu3.fr 1; have e2 := hu3.fr 2; have hu4 := (hu3.s1 t).s2 true)
           | (go_at_call 63; go_must (go_fit (CPa.out _)); rintro e w5 ⟨v5, rfl, hown5, hb5⟩; obtain ⟨A5, c5, rfl, hc5, hm5⟩ := own_shape hown5; have hu5 := hu4.next hb5; have d4 := hu5.c4; have e4 := hu5.fr 4))
          go_ret
          rw [HN.out]
          refine ⟨rfl, ⟨A5, c5, _, hu5.s4 _, hu4.lt, own_setS hown5 hu4.lt⟩, ?_⟩
          exact (((((hb2.trans (hb3.mono hgle)).setCell (p := ⟨g, 1, none⟩) (Nat.le_refl g) _).setCell (p := ⟨g, 2, none⟩) (Nat.le_refl g) _).trans (hb5.mono (Nat.le_of_lt hu4.lt))).setCell (p := ⟨g, 4, none⟩) (Nat.le_refl g) _)
        | false =>
         skip
         by_cases hRR : R = []
         ·
          have qr : (R == []) = true := by rw [hRR]; rfl
          have qr' : (R != []) = false := by rw [hRR]; rfl
          have HN := Lib.hid (HO.out.trans (show some (⟨t, -1, uWays false R⟩ : Ua) = some ⟨t, -1, []⟩ by unfold uWays; rw [if_neg (fun e => e hRR), if_neg (by decide)]))
          clear hRR HO
          go_wp2_with (go_at_call 31; go_must (go_fit (CH.out _)); rintro e w3 ⟨rfl, hb3⟩; have hu3 := (hu2.next hb3); have d1 := hu3.c1; have d2 := hu3.c2; have e1 := hu3.fr 1; have e2 := hu3.fr 2)
          go_ret
          rw [HN.out]
          exact ⟨rfl, ⟨none, 0, _, (hu3.s1 t).s2 true, hu3.lt, World.ownsRow_nil _ _ _ _⟩, (((hb2.trans (hb3.mono hgle)).setCell (p := ⟨g, 1, none⟩) (Nat.le_refl g) _).setCell (p := ⟨g, 2, none⟩) (Nat.le_refl g) _)⟩
         ·
          skip
          have qr : (R == []) = false := by rw [beq_eq_false_iff_ne]; exact hRR
          have qr' : (R != []) = true := by rw [bne_iff_ne]; exact hRR
          have hR1 : (1 : Int) ≤ (R.length : Int) := by have : 0 < R.length := List.length_pos_iff.2 hRR; omega
          have HN := Lib.hid (HO.out.trans (show some (⟨t, -1, uWays false R⟩ : Ua) = some ⟨t, -1, pParseP (dr R 1) false []⟩ by unfold uWays; rw [if_pos hRR]; rfl))
          have CPa := Lib.hid fun w => rpath_any (dr R 1) false none 0 [] w Rd.nil (by rw [dr_len]; omega) (by decide)
          obtain ⟨L, hL⟩ : ∃ L, L = pParseP (dr R 1) false [] := ⟨_, rfl⟩
          rw [← hL] at HN CPa
          clear hRR HO hL
          go_wp2_with (first
           | (go_at_call 31; go_must (go_fit (CH.out _)); rintro e w3 ⟨rfl, hb3⟩; have hu3 := (hu2.next hb3); have d1 := hu3.c1; have d2 := hu3.c2; have e1 := hu3.fr 1; have e2 := hu3.fr 2; have hu4 := (hu3.s1 t).s2 true)
           | (go_at_call 63; go_must (go_fit (CPa.out _)); rintro e w5 ⟨v5, rfl, hown5, hb5⟩; obtain ⟨A5, c5, rfl, hc5, hm5⟩ := own_shape hown5; have hu5 := hu4.next hb5; have d4 := hu5.c4; have e4 := hu5.fr 4))
          go_ret
          rw [HN.out]
          refine ⟨rfl, ⟨A5, c5, _, hu5.s4 _, hu4.lt, own_setS hown5 hu4.lt⟩, ?_⟩
          exact (((((hb2.trans (hb3.mono hgle)).setCell (p := ⟨g, 1, none⟩) (Nat.le_refl g) _).setCell (p := ⟨g, 2, none⟩) (Nat.le_refl g) _).trans (hb5.mono (Nat.le_of_lt hu4.lt))).setCell (p := ⟨g, 4, none⟩) (Nat.le_refl g) _)
end Go.Proofs.YtoapelcofjjdnaaGreatDoor
namespace Go.Proofs.YtoapelcofjjdnaaGreatDoor
set_option linter.all false
open Go.RowKit
def uNil : Uo := ⟨[], [], false, 0, [], false, [], false, [], false⟩
def UrlV (w' : World) (r : Option Uo) (e : Ending) : Prop := match r with
 | none => ∃ n : Int, (n == 0) = false ∧ e = .returned (.tuple #[.agg (uRow uNil (.slice none 0 0)), .int .i64 n])
 | some o => ∃ A c, e = .returned (.tuple #[.agg (uRow o (.slice A o.path.length c)), .int .i64 0]) ∧ Rd w' w'.heap.size A (strs o.path)
theorem UrAt.row {w : World} {g : Nat} {o : Uo} {v : Value} (h : UrAt w g o v) : Row w g (uRow o v).toList :=
 ⟨fun j u hu => by rw [cell_of_row w g j (uRow o v) 44 (0, 0) h, ← hu]; simp, fun j _ => Lib.frozen_of_heap h j, h.lt⟩
theorem info_url : (Tryz.prog.info? 44).map (·.size) = some 10 := by kernel_rfl
set_option maxRecDepth 100000 in
set_option maxHeartbeats 8000000 in
theorem url_long (s : List UInt8) (w : World) (h400 : 400 < s.length) :
  Calls Tryz.prog 28 #[.string (str s), .pointer none] w fun e w' => UrlV w' (uUrl s) e ∧ Below w.heap.size w w' := by
 have hsz := str_size s
 have hu4 : UrAt (w.alloc (.cells #[.string ⟨#[]⟩, .string ⟨#[]⟩, .bool false, .int .i64 0, .slice none 0 0, .bool false, .string ⟨#[]⟩, .bool false, .string ⟨#[]⟩, .bool false] 44)) w.heap.size uNil (.slice none 0 0) := UrAt.made w uNil _
 have hb4 : Below w.heap.size w (w.alloc (.cells #[.string ⟨#[]⟩, .string ⟨#[]⟩, .bool false, .int .i64 0, .slice none 0 0, .bool false, .string ⟨#[]⟩, .bool false, .string ⟨#[]⟩, .bool false] 44)) := bnew (Below.refl _ _) _
 have h400I : (400 : Int) < (s.length : Int) := by omega
 have HN := Lib.hid (show uUrl s = none from if_pos h400)
 have kc0 := hu4.c0; have kc1 := hu4.c1; have kc2 := hu4.c2; have kc3 := hu4.c3; have kc4 := hu4.c4; have kc5 := hu4.c5; have kc6 := hu4.c6; have kc7 := hu4.c7; have kc8 := hu4.c8; have kc9 := hu4.c9; have kf0 := hu4.fr 0; have kf1 := hu4.fr 1; have kf2 := hu4.fr 2; have kf3 := hu4.fr 3; have kf4 := hu4.fr 4; have kf5 := hu4.fr 5; have kf6 := hu4.fr 6; have kf7 := hu4.fr 7; have kf8 := hu4.fr 8; have kf9 := hu4.fr 9
 clear h400
 go_enter Tryz.func28, Tryz.ntmps28
 go_wp2
 have hfin := UrAt.row hu4
 (try simp only [Exit.inBlock, Exit.then])
 refine bodyPost_ret (results_row (R := w.heap.size) (us := (uRow uNil (.slice none 0 0)).toList) (d := _) rfl rfl (by exact hfin) Tryz.underlying44 rfl info_url) rfl ?_
 rw [HN.out]
 exact ⟨⟨4, rfl, rfl⟩, hb4⟩
set_option maxRecDepth 100000 in
set_option maxHeartbeats 8000000 in
theorem url_none (s c : List UInt8) (w : World) (hs : s.length ≤ 400) (HN : Hid (uUrl s = none)) (hcl : c.length ≤ s.length) (CC : Hid (∀ w, Calls Tryz.prog 54 #[.string (str s)] w fun e w' => e = .returned (.string (str c)) ∧ Below w.heap.size w w'))
  (CS : Hid (∀ w, Calls Tryz.prog 55 #[.string (str c)] w fun e w' => e = .returned (.int .i64 0) ∧ w = w')) :
  Calls Tryz.prog 28 #[.string (str s), .pointer none] w fun e w' => UrlV w' (uUrl s) e ∧ Below w.heap.size w w' := by
 have hsz := str_size s
 have hu4 : UrAt (w.alloc (.cells #[.string ⟨#[]⟩, .string ⟨#[]⟩, .bool false, .int .i64 0, .slice none 0 0, .bool false, .string ⟨#[]⟩, .bool false, .string ⟨#[]⟩, .bool false] 44)) w.heap.size uNil (.slice none 0 0) := UrAt.made w uNil _
 have hb4 : Below w.heap.size w (w.alloc (.cells #[.string ⟨#[]⟩, .string ⟨#[]⟩, .bool false, .int .i64 0, .slice none 0 0, .bool false, .string ⟨#[]⟩, .bool false, .string ⟨#[]⟩, .bool false] 44)) := bnew (Below.refl _ _) _
 have h400I : (s.length : Int) ≤ 400 := by omega
 go_enter Tryz.func28, Tryz.ntmps28
 go_wp2_with (first
  | (go_at_call 54; go_must (go_fit (CC.out _)); rintro e w1 ⟨rfl, hb1⟩; have hu1 := hu4.next hb1; have hB2 : Below w1.heap.size w1 (w1.alloc (.cells #[.string ⟨#[]⟩, .string ⟨#[]⟩, .bool false, .int .i64 (-1), .slice none 0 0, .bool false, .string ⟨#[]⟩, .bool false, .string ⟨#[]⟩, .bool false] 44)) := bnew (Below.refl _ _) _; have hu2 := hu1.next hB2; have kc0 := hu2.c0; have kc1 := hu2.c1; have kc2 := hu2.c2; have kc3 := hu2.c3; have kc4 := hu2.c4; have kc5 := hu2.c5; have kc6 := hu2.c6; have kc7 := hu2.c7; have kc8 := hu2.c8; have kc9 := hu2.c9; have kf0 := hu2.fr 0; have kf1 := hu2.fr 1; have kf2 := hu2.fr 2; have kf3 := hu2.fr 3; have kf4 := hu2.fr 4; have kf5 := hu2.fr 5; have kf6 := hu2.fr 6; have kf7 := hu2.fr 7; have kf8 := hu2.fr 8; have kf9 := hu2.fr 9)
  | (go_at_call 55; go_must (go_fit (CS.out _)); rintro e w2 ⟨rfl, rfl⟩))
 have hfin := UrAt.row ((((((((((hu2.s0 uNil.sch).s1 uNil.host).s2 uNil.has).s3 uNil.port).s4 (.slice none 0 0)).s5 uNil.opq).s6 uNil.query).s7 uNil.asks).s8 uNil.frag).s9 uNil.marks)
 (try simp only [Exit.inBlock, Exit.then])
 refine bodyPost_ret (results_row (R := w.heap.size) (us := (uRow uNil (.slice none 0 0)).toList) (d := _) rfl rfl (by exact hfin) Tryz.underlying44 rfl info_url) rfl ?_
 rw [HN.out]
 have hB := bnext (bnext hb4 hb1) hB2
 exact ⟨⟨2, rfl, rfl⟩, ((((((((((hB.setCell (p := ⟨_, 0, none⟩) (Nat.le_refl _) _).setCell (p := ⟨_, 1, none⟩) (Nat.le_refl _) _).setCell (p := ⟨_, 2, none⟩) (Nat.le_refl _) _).setCell (p := ⟨_, 3, none⟩) (Nat.le_refl _) _).setCell (p := ⟨_, 4, none⟩) (Nat.le_refl _) _).setCell (p := ⟨_, 5, none⟩) (Nat.le_refl _) _).setCell (p := ⟨_, 6, none⟩) (Nat.le_refl _) _).setCell (p := ⟨_, 7, none⟩) (Nat.le_refl _) _).setCell (p := ⟨_, 8, none⟩) (Nat.le_refl _) _).setCell (p := ⟨_, 9, none⟩) (Nat.le_refl _) _)⟩
theorem UrAt.far {w : World} {g X : Nat} {o : Uo} {v : Value} (h : UrAt w g o v) (hne : g ≠ X) (j : Nat) (u : Value) : UrAt (w.setCell ⟨X, j, none⟩ u) g o v :=
 h.keep (Below.heap_setCell _ _ _ _ (fun e => hne (by simpa using e)))
theorem aheadU_le (c : UInt8) (s : List UInt8) : (ahead c s).length ≤ s.length := (List.takeWhile_prefix _).length_le
theorem behindU_le (c : UInt8) (s : List UInt8) : (behind c s).length ≤ s.length := by
 unfold behind
 rw [List.length_drop]
 have := dropWhile_le (· ≠ c) s
 omega
theorem ahead_tk (c : UInt8) (s : List UInt8) : tk s (ahead c s).length = ahead c s := (List.prefix_iff_eq_take.1 (List.takeWhile_prefix _)).symm
theorem behind_dr {c : UInt8} {s : List UInt8} (h : c ∈ s) : dr s ((ahead c s).length + 1) = behind c s ∧ (ahead c s).length + 1 ≤ s.length := by
 obtain ⟨a, t, rfl, ha⟩ := first_parts h
 rw [(ahead_at t ha).1, (ahead_at t ha).2]
 unfold dr
 rw [List.drop_append, List.drop_eq_nil_of_le (by omega)]
 simp
theorem uQuery_sch (o : Uo) (r : List UInt8) : (uQuery o r).sch = o.sch := by unfold uQuery; split <;> rfl
theorem uFrag_sch (o : Uo) (r : List UInt8) : (uFrag o r).sch = o.sch := by unfold uFrag; split <;> rfl
theorem UrAt.put {w : World} {g : Nat} {o : Uo} {v : Value} (h : UrAt w g o v) (o' : Uo) (v' : Value) : UrAt (w.setRow g (uRow o' v')) g o' v' := by
 unfold UrAt at h ⊢; unfold World.setRow; simp only [Array.getElem?_modify, if_true, h]; rfl
theorem setRow_gb (w : World) (g : Nat) (c : Array Value) : w.grownBy (w.setRow g c) (some g) :=
 ⟨rfl, rfl, rfl, by simp [World.setRow], fun k _ hk => by
  have hne : ¬ g = k := fun e => hk (by rw [e])
  simp [World.setRow, Array.getElem?_modify, hne]⟩
theorem below_put {B w0 : World} {b g : Nat} {c : Array Value} (h : Below b B w0) (hb : b ≤ g) (hg : g < w0.heap.size) : Below b B (w0.setRow g c) :=
 h.grown (setRow_gb w0 g c) (by have := h.size; omega) (fun k e => by injection e with e; omega)
theorem own_put {w : World} {g B : Nat} {A : Option Addr} {c : Nat} {l : List (List UInt8)} {cs : Array Value} (hown : w.ownsRow B 9 1 (.slice A l.length c) l.length (strs l)) (hg : g < B) : Rd (w.setRow g cs) (w.setRow g cs).heap.size A (strs l) := by
 have h1 : (w.setRow g cs).ownsRow B 9 1 (.slice A l.length c) l.length (strs l) := by
  refine hown.kept (setRow_gb w g cs) ?_
  right
  intro e
  have := (hown.lt g e).1
  omega
 obtain ⟨A2, c2, e, _, _, h3⟩ := own_rdN h1
 injection e with e1 e2 e3
 rw [e1]; exact h3
theorem ne_zero {m : Int} (h : (m != 0) = true) : (m == 0) = false := by rw [bne_iff_ne] at h; rw [beq_eq_false_iff_ne]; exact h
end Go.Proofs.YtoapelcofjjdnaaGreatDoor
