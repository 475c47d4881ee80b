/- A part of the proof. -/
import Derived.Test.YtoapelcofjjdnaaGreatDoorR26
namespace Go.Proofs.YtoapelcofjjdnaaGreatDoor
set_option linter.all false
open Go.RowKit
set_option maxRecDepth 100000 in
set_option maxHeartbeats 8000000 in
theorem url_one (s c : List UInt8) (n : Nat) (w : World) (hs : s.length ≤ 400) (hcl : c.length ≤ s.length) (hn0 : 0 < n) (hnl : n < c.length) (sch r0 : List UInt8) (hsch : sch = lows (tk c n)) (hr0 : r0 = dr c (n + 1)) (o1 o2 : Uo) (r1 r2 : List UInt8)
  (HO1 : Hid (o1 = uFrag (uFirst sch) r0)) (HR1 : Hid (r1 = ahead 35 r0)) (HO2 : Hid (o2 = uQuery o1 r1)) (HR2 : Hid (r2 = ahead 63 r1)) (HSp : Hid (false = uSp sch)) (h1 : uSls false r2 = 1) (HN : Hid (uUrl s = uOwn o2 r2)) (CC : Hid (∀ w, Calls Tryz.prog 54 #[.string (str s)] w fun e w' => e = .returned (.string (str c)) ∧ Below w.heap.size w w'))
  (CS : Hid (∀ w, Calls Tryz.prog 55 #[.string (str c)] w fun e w' => e = .returned (.int .i64 (n : Int)) ∧ w = w')) :
  Calls Tryz.prog 28 #[.string (str s), .pointer none] w fun e w' => UrlV w' (uUrl s) e ∧ Below w.heap.size w w' := by
 have hsz := str_size s
 have hsc := str_size c
 have h400I : (s.length : Int) ≤ 400 := by omega
 have hnI : (0 : Int) < (n : Int) := by omega
 have hn1 : (n : Int) ≤ (c.length : Int) := by omega
 have hn2 : (n : Int) + 1 ≤ (c.length : Int) := by omega
 have hn3 : (0 : Int) ≤ (n : Int) + 1 := by omega
 have hn4 : ((n : Int) + 1).toNat = n + 1 := by omega
 have hnw : IntKind.i64.wrap ((n : Int) + 1) = (n : Int) + 1 := IntWalk.i64_in _ (by omega)
 have hnz : ((n : Int) == 0) = false := by rw [beq_eq_false_iff_ne]; omega
 obtain ⟨t0, ht0⟩ : ∃ t, t = tk c n := ⟨_, rfl⟩
 have hfc : (str c).extract 0 n = str t0 := by rw [ht0]; exact str_front c n
 have hec : (str c).extract (n + 1) c.length = str r0 := by rw [hr0]; exact str_end c (n + 1)
 have hr0l : r0.length ≤ 400 := by rw [hr0, dr_len]; omega
 rw [← ht0] at hsch
 have CL := Lib.hid fun w => lowr_any t0 w (by rw [ht0, tk_len]; omega)
 rw [← hsch] at CL
 clear hsch hr0 ht0
 have CSp := Lib.hid fun w => special_any sch w
 rw [← HSp.out] at CSp
 have hu4 : UrAt (w.alloc (.cells #[.string ⟨#[]⟩, .string ⟨#[]⟩, .bool false, .int .i64 0, .slice none 0 0, .bool false, .string ⟨#[]⟩, .bool false, .string ⟨#[]⟩, .bool false] 44)) w.heap.size uNil (.slice none 0 0) := UrAt.made w uNil _
 have hb4 : Below w.heap.size w (w.alloc (.cells #[.string ⟨#[]⟩, .string ⟨#[]⟩, .bool false, .int .i64 0, .slice none 0 0, .bool false, .string ⟨#[]⟩, .bool false, .string ⟨#[]⟩, .bool false] 44)) := bnew (Below.refl _ _) _
 go_enter Tryz.func28, Tryz.ntmps28
 go_upto_region 8 with (first
  | (go_at_call 54; go_must (go_fit (CC.out _)); rintro e w1 ⟨rfl, hb1⟩)
  | (go_at_call 55; go_must (go_fit (CS.out _)); rintro e w2 ⟨rfl, rfl⟩))
 obtain ⟨W, hW⟩ : ∃ W, W = w1.alloc (.cells #[.string ⟨#[]⟩, .string ⟨#[]⟩, .bool false, .int .i64 (-1), .slice none 0 0, .bool false, .string ⟨#[]⟩, .bool false, .string ⟨#[]⟩, .bool false] 44) := ⟨_, rfl⟩
 have hu1 := hu4.next hb1
 have hg47 : w.heap.size < w1.heap.size := hu1.lt
 have hBW : Below w.heap.size w W := hW ▸ bnew (bnext hb4 hb1) _
 have h7W : UrAt W w1.heap.size (uFirst []) (.slice none 0 0) := hW ▸ UrAt.made w1 (uFirst []) _
 have h4W : UrAt W w.heap.size uNil (.slice none 0 0) := hW ▸ hu1.next (bnew (Below.refl _ _) _)
 rw [← hW]
 clear hW
 obtain ⟨g7, hg7⟩ : ∃ g, g = w1.heap.size := ⟨_, rfl⟩
 rw [← hg7] at hg47 h7W ⊢
 clear hg7 hu1 hb1 hb4 hu4 CC CS w1
 go_cut [8] (fun s8 wc => s8 = .string (str r0) ∧ UrAt wc g7 (uFirst sch) (.slice none 0 0) ∧ UrAt wc w.heap.size uNil (.slice none 0 0) ∧ Below w.heap.size w wc)
 case first =>
  go_region_with (go_at_call 56; refine (CL.out _).mono ?_; rintro e wl ⟨rfl, hbl⟩; have hl7 : UrAt wl g7 (uFirst []) (.slice none 0 0) := h7W.keep (hbl.block g7 h7W.lt); have hl4 : UrAt wl w.heap.size uNil (.slice none 0 0) := h4W.keep (hbl.block w.heap.size h4W.lt); have lc0 := hl7.c0; have lf0 := hl7.fr 0)
  all_goals
   (try go_wp2)
   go_meet
   case rel =>
    exact ⟨rfl, hl7.s0 sch, hl4.far (Nat.ne_of_lt hg47) 0 _, ((Below.drew hBW).trans (hbl.mono hBW.size)).setCell (p := ⟨g7, 0, none⟩) (Nat.le_of_lt hg47) _⟩
 case rest =>
  obtain ⟨rfl, hu7, hu4, hB⟩ := hcut
  have d0 : wc.cell? ⟨g7, 0, none⟩ = some (.string (str sch)) := hu7.c0
  clear h7W h4W hBW W hsc hfc hec hnl
  have hs0 := str_size r0
  have CF1 := Lib.hid fun w => first_any r0 35 w (by omega)
  have hk1l := aheadU_le 35 r0
  have HB1 := Lib.hid fun (h : (35 : UInt8) ∈ r0) => behind_dr h
  have HA1 := Lib.hid (ahead_lt 35 r0)
  have hf1 : (str r0).extract 0 (ahead 35 r0).length = str r1 := by rw [str_front, ahead_tk, HR1.out]
  have hr1l : r1.length ≤ 400 := by rw [HR1.out]; omega
  obtain ⟨k1, hk1⟩ : ∃ k, k = (ahead 35 r0).length := ⟨_, rfl⟩
  rw [← hk1] at CF1 hk1l HB1 HA1 hf1
  clear hk1
  have hk1I : (k1 : Int) ≤ (r0.length : Int) := by omega
  go_upto_if 52 with (first
   | (go_at_call 57; go_must (go_fit (CSp.out _)); rintro e w1 ⟨rfl, rfl⟩)
   | (go_at_call 58; go_must (go_fit (CF1.out _)); rintro e w1 ⟨rfl, rfl⟩))
  go_cut [] (fun wx => UrAt wx g7 o1 (.slice none 0 0) ∧ UrAt wx w.heap.size uNil (.slice none 0 0) ∧ Below w.heap.size w wx)
  case first =>
   by_cases h35 : (35 : UInt8) ∈ r0
   ·
    obtain ⟨q1, q2⟩ := HB1.out h35
    obtain ⟨f, hf⟩ : ∃ f, f = behind 35 r0 := ⟨_, rfl⟩
    have hfl : f.length ≤ 400 := by have := behindU_le 35 r0; rw [hf]; omega
    have he1 : (str r0).extract (k1 + 1) r0.length = str f := by rw [str_end, q1, hf]
    have q3 : (k1 : Int) < (r0.length : Int) := by omega
    have q4 : (k1 : Int) + 1 ≤ (r0.length : Int) := by omega
    have q5 : (0 : Int) ≤ (k1 : Int) + 1 := by omega
    have q6 : IntKind.i64.wrap ((k1 : Int) + 1) = (k1 : Int) + 1 := IntWalk.i64_in _ (by omega)
    have q7 : ((k1 : Int) + 1).toNat = k1 + 1 := by omega
    have HO := Lib.hid (HO1.out.trans (show uFrag (uFirst sch) r0 = { uFirst sch with frag := pEnc 1 f, marks := true } by unfold uFrag; rw [if_pos h35, hf]))
    clear h35 hf q1 q2
    have CP := Lib.hid fun A c w h => percent_any 1 A c f w h (by omega)
    go_wp2_with (first
     | (refine wpList_bytesL rfl _ _ _ _ rfl Tryz.underlying9 Tryz.underlying58 Tryz.underlying5 f rfl (by omega) ?_; intro c3 w3 hc3 hm3 hrow3 hr3 hb3 hz3)
     | (go_at_call 59; go_must (go_fit (CP.out _ _ w3 hr3)); rintro e w4 ⟨rfl, hb4⟩; have p7 := (hu7.next hb3).next hb4; have p4 := (hu4.next hb3).next hb4; have hBp := hB.trans ((bnext hb3 hb4).mono hB.size); have pc6 := p7.c6; have pc7 := p7.c7; have pc8 := p7.c8; have pc9 := p7.c9; have pf6 := p7.fr 6; have pf7 := p7.fr 7; have pf8 := p7.fr 8; have pf9 := p7.fr 9))
    go_meet
    case rel => exact ⟨((p7.s8 _).s9 true).as HO.out.symm, (p4.far (Nat.ne_of_lt hg47) 8 _).far (Nat.ne_of_lt hg47) 9 _, (hBp.setCell (p := ⟨g7, 8, none⟩) (Nat.le_of_lt hg47) _).setCell (p := ⟨g7, 9, none⟩) (Nat.le_of_lt hg47) _⟩
   ·
    have q3 : (r0.length : Int) ≤ (k1 : Int) := by have h := HA1.out; rw [decide_eq_false h35] at h; have := of_decide_eq_false h; omega
    have HO := Lib.hid (HO1.out.trans (show uFrag (uFirst sch) r0 = uFirst sch by unfold uFrag; rw [if_neg h35]))
    clear h35
    go_wp2
    go_meet
    case rel => exact ⟨hu7.as HO.out.symm, hu4, hB⟩
  case rest =>
   obtain ⟨hu7, hu4, hB⟩ := hcut
   have HSch := Lib.hid (show o1.sch = sch by rw [HO1.out, uFrag_sch]; rfl)
   clear d0 CF1 HB1 HA1 HO1
   have hs1 := str_size r1
   have CF2 := Lib.hid fun w => first_any r1 63 w (by omega)
   have hk2l := aheadU_le 63 r1
   have HB2 := Lib.hid fun (h : (63 : UInt8) ∈ r1) => behind_dr h
   have HA2 := Lib.hid (ahead_lt 63 r1)
   have hf2 : (str r1).extract 0 (ahead 63 r1).length = str r2 := by rw [str_front, ahead_tk, HR2.out]
   have hr2l : r2.length ≤ 400 := by rw [HR2.out]; omega
   obtain ⟨k2, hk2⟩ : ∃ k, k = (ahead 63 r1).length := ⟨_, rfl⟩
   rw [← hk2] at CF2 hk2l HB2 HA2 hf2
   clear hk2
   have hk2I : (k2 : Int) ≤ (r1.length : Int) := by omega
   go_upto_if 69 with (go_at_call 58; go_must (go_fit (CF2.out _)); rintro e w1 ⟨rfl, rfl⟩)
   go_cut [11] (fun s11 wx => UrAt wx g7 o2 (.slice none 0 0) ∧ UrAt wx w.heap.size uNil (.slice none 0 0) ∧ Below w.heap.size w wx)
   case first =>
    by_cases h63 : (63 : UInt8) ∈ r1
    ·
     obtain ⟨q1, q2⟩ := HB2.out h63
     obtain ⟨f, hf⟩ : ∃ f, f = behind 63 r1 := ⟨_, rfl⟩
     have hfl : f.length ≤ 400 := by have := behindU_le 63 r1; rw [hf]; omega
     have he2 : (str r1).extract (k2 + 1) r1.length = str f := by rw [str_end, q1, hf]
     have q3 : (k2 : Int) < (r1.length : Int) := by omega
     have q4 : (k2 : Int) + 1 ≤ (r1.length : Int) := by omega
     have q5 : (0 : Int) ≤ (k2 : Int) + 1 := by omega
     have q6 : IntKind.i64.wrap ((k2 : Int) + 1) = (k2 : Int) + 1 := IntWalk.i64_in _ (by omega)
     have q7 : ((k2 : Int) + 1).toNat = k2 + 1 := by omega
     have HO := Lib.hid (HO2.out.trans (show uQuery o1 r1 = { o1 with query := pEnc (if uSp o1.sch = true then 3 else 2) f, asks := true } by unfold uQuery; rw [if_pos h63, hf]))
     clear h63 hf q1 q2
     have HO3 := Lib.hid (HO.out.trans (show _ = ({ o1 with query := pEnc 2 f, asks := true } : Uo) by rw [HSch.out, ← HSp.out]; rfl))
     clear HO
     have CP := Lib.hid fun A c w h => percent_any 2 A c f w h (by omega)
     go_wp2_with (first
      | (refine wpList_bytesL rfl _ _ _ _ rfl Tryz.underlying9 Tryz.underlying58 Tryz.underlying5 f rfl (by omega) ?_; intro c3 w3 hc3 hm3 hrow3 hr3 hb3 hz3)
      | (go_at_call 59; go_must (go_fit (CP.out _ _ w3 hr3)); rintro e w4 ⟨rfl, hb4⟩; have p7 := (hu7.next hb3).next hb4; have p4 := (hu4.next hb3).next hb4; have hBp := hB.trans ((bnext hb3 hb4).mono hB.size); have pc6 := p7.c6; have pc7 := p7.c7; have pc8 := p7.c8; have pc9 := p7.c9; have pf6 := p7.fr 6; have pf7 := p7.fr 7; have pf8 := p7.fr 8; have pf9 := p7.fr 9))
     go_meet
     case rel => exact ⟨((p7.s6 _).s7 true).as HO3.out.symm, (p4.far (Nat.ne_of_lt hg47) 6 _).far (Nat.ne_of_lt hg47) 7 _, (hBp.setCell (p := ⟨g7, 6, none⟩) (Nat.le_of_lt hg47) _).setCell (p := ⟨g7, 7, none⟩) (Nat.le_of_lt hg47) _⟩
    ·
     have q3 : (r1.length : Int) ≤ (k2 : Int) := by have h := HA2.out; rw [decide_eq_false h63] at h; have := of_decide_eq_false h; omega
     have HO := Lib.hid (HO2.out.trans (show uQuery o1 r1 = o1 by unfold uQuery; rw [if_neg h63]))
     clear h63
     go_wp2
     go_meet
     case rel => exact ⟨hu7.as HO.out.symm, hu4, hB⟩
   case rest =>
    obtain ⟨hu7, hu4, hB⟩ := hcut
    have hs2 := str_size r2
    have CSl := Lib.hid fun w => slashes_any r2 false w (by omega)
    have hsl := uSls_le false r2
    have HSch2 := Lib.hid (show o2.sch = sch by rw [HO2.out, uQuery_sch, HSch.out])
    have HSp2 := Lib.hid (show false = uSp o2.sch by rw [HSch2.out, HSp.out])
    obtain ⟨sl, hsl0⟩ : ∃ k, k = uSls false r2 := ⟨_, rfl⟩
    rw [← hsl0] at CSl hsl h1
    have HSl := Lib.hid hsl0
    have hslI : (sl : Int) ≤ (r2.length : Int) := by omega
    clear hsl0 CF2 HB2 HA2 HO2 HR1 HR2 HSch HSch2 CL CSp
    go_wp2_with (go_at_call 60; go_must (go_fit (CSl.out _)); rintro e w1 ⟨rfl, rfl⟩)
    go_quiet (fail)
    obtain ⟨W2, hW2⟩ : ∃ W2, W2 = wc.drewN nq := ⟨_, rfl⟩
    have hbd : Below wc.heap.size wc W2 := hW2 ▸ below_drewN (Below.refl _ _) nq
    have hu7 := hu7.next hbd
    have hu4 := hu4.next hbd
    have hB := bnext hB hbd
    rw [← hW2]
    clear hW2 hbd
    have HF := Lib.hid (show ¬ uSp o2.sch = true by rw [← HSp2.out]; decide)
    have h2 : ¬ 2 ≤ sl := by omega
    have h2I : (sl : Int) < 2 := by omega
    have h1I : ((sl : Int) == 1) = true := by rw [beq_iff_eq]; omega
    have h1J : (1 : Int) ≤ (r2.length : Int) := by omega
    obtain ⟨q, hq⟩ : ∃ q, q = r2.drop 1 := ⟨_, rfl⟩
    have hql : q.length ≤ 500 := by rw [hq, List.length_drop]; omega
    have heq : (str r2).extract 1 r2.length = str q := by rw [str_end, hq]; rfl
    have CPa := Lib.hid fun w => rpath_any q false none 0 [] w Rd.nil (by omega) (by decide)
    obtain ⟨L, hL⟩ : ∃ L, L = pParseP q false [] := ⟨_, rfl⟩
    rw [← hL] at CPa
    have HE := Lib.hid (HN.out.trans (show uOwn o2 r2 = some { o2 with path := L } by unfold uOwn; rw [if_neg HF.out, if_neg (by rw [← HSl.out]; exact h2), if_pos (by rw [← HSl.out]; exact h1), ← hq, hL]))
    clear hq hL HSl h2 h1 HN
    go_wp2_with (first
     | (go_at_call 63; go_must (go_fit (CPa.out _)); rintro e wz ⟨v5, rfl, hown, hbz⟩; obtain ⟨A, cc, rfl, hcc, hcm⟩ := own_shape hown; have p7 := hu7.next hbz; have p4 := hu4.next hbz; have pc4 := p7.c4; have pf4 := p7.fr 4; have p7b := p7.s4 (.slice A L.length cc); have p4b := p4.far (Nat.ne_of_lt hg47) 4 (.slice A L.length cc))
     | ((with_reducible show wpList _ _ _ _ _ _); refine wpList_load_row rfl 44 _ rfl g7 rfl 44 (uRow ({ o2 with path := L } : Uo) (.slice A L.length cc)) (0, 0) _ p7b Tryz.underlying44 rfl info_url ?_) | ((with_reducible show wpList _ _ _ _ _ _); refine wpList_store_row rfl 44 _ _ rfl w.heap.size (uRow ({ o2 with path := L } : Uo) (.slice A L.length cc)) rfl rfl 44 _ p4b info_url rfl (by simp [uRow, Value.oneCell']) ?_))
    have hfin := UrAt.row (UrAt.put p4b ({ o2 with path := L } : Uo) (.slice A L.length cc))
    (try simp only [Exit.inBlock, Exit.then])
    refine bodyPost_ret (results_row (R := w.heap.size) (us := (uRow ({ o2 with path := L } : Uo) (.slice A L.length cc)).toList) (d := _) rfl rfl (by exact hfin) Tryz.underlying44 rfl info_url) rfl ?_
    rw [HE.out]
    exact ⟨⟨_, _, rfl, own_put (own_setS (j := 4) (z := .slice A L.length cc) hown hu7.lt) (Nat.lt_trans hg47 hu7.lt)⟩, below_put ((bnext hB hbz).setCell (p := ⟨g7, 4, none⟩) (Nat.le_of_lt hg47) _) (Nat.le_refl _) p4b.lt⟩
end Go.Proofs.YtoapelcofjjdnaaGreatDoor
