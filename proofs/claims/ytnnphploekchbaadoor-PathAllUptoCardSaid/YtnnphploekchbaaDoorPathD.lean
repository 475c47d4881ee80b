/- The walks of path.Parse and path.Show. -/
import Derived.Test.YtnnphploekchbaaDoorPathC
import Derived.Test.YtnnphploekchbaaDoorBld
namespace Go.Proofs.YtnnphploekchbaaDoor
set_option linter.all false
open Go.RowKit

section
variable {P : Program} {w : World} {ops : Array Oper} {rest : List Oper} {o : Oper} {a : Act} {Q : Exit → Act → World → Prop}
/-- 'out = append(out, x, ..)', and where the row lies behind it: where it lay, or in new memory. -/
theorem wpList_append_litAt (hgd : o.guard = none) (s x : Operand) (t : TypeId)
    (ho : o.op = .call { callee := .builtin .append, args := #[s, x], argTypes := #[t, t] })
    (base : Nat) (e : TypeId) (z : Value) (size bytes : Nat) (ht : P.underlying t = some (.slice e))
    (hinfo : (P.info? e).map (fun i => (i.zero, i.size, i.bytes)) = some (some z, size, bytes)) (hzs : z.cells.size = size) (hsz : 0 < size)
    (v : Value) (n : Nat) (xs : List Value) (hs : a.eval s = v) (hown : w.ownsRow base e size v n xs)
    (us : Array Value) (m c : Nat) (e' : TypeId) (hx : a.eval x = .slice (some ⟨w.heap.size, 0, none⟩) m c) (hl : us.size = m * size) (h1 : ∀ u ∈ us.toList, u.oneCell' = true)
    (h63 : n + m ≤ 1000000) (hb : bytes ≤ 1000) (hbase : base ≤ w.heap.size)
    (h : ∀ A' c' w', n + m ≤ c' → c' ≤ maxLen → w'.ownsRow base e size (.slice A' (n + m) c') (n + m) (xs ++ us.toList) → Below base w w' → w.grownBy w' v.ownBlock →
      ((Value.slice A' (n + m) c').ownBlock = v.ownBlock ∨ (Value.slice A' (n + m) c').ownBlock = some (w.heap.size + 1)) → wpList P ops Q rest (a.put o.dst (.slice A' (n + m) c')) w') :
    wpList P ops Q (o :: rest) a (w.alloc (.cells us e')) := by
  obtain ⟨i, hi, hz, hsize, hby⟩ := info_parts hinfo
  refine wpList_append_own_at _ hgd s x t ho base e i z size bytes ht hi hz hsize hby hzs hsz v n xs hs (hown.alloc _) ⟨w.heap.size, 0, none⟩ m c us.toList hx (by simpa using hl) ?_ h1 (by simp only [maxLen]; omega) ?_ (by simp; omega) ?_
  · intro j u hu
    rw [Addr.add_lit, Nat.zero_add]
    have hc := cell_of_row (w.alloc (.cells us e')) w.heap.size j us e' (0, 0) (heap_alloc_new w _)
    rw [hc, ← hu]; simp
  · calc (n + m) * bytes ≤ 1000000 * 1000 := Nat.mul_le_mul h63 hb
      _ ≤ 140737488355328 := by decide
  · intro v' w' hown' hg _ hat
    obtain ⟨A', c', rfl, h1, h2⟩ := own_shape hown'
    refine h A' c' w' h1 h2 hown' ?_ ?_ (by simpa using hat)
    · refine ((Below.refl _ _).alloc hbase _).grown hg (by simp; omega) fun k hk => (hown.lt k hk).1
    · exact ⟨hg.os, hg.tape, hg.output, by have := hg.size; simp at this; omega, fun k hk hne => (hg.block k (by simp; omega) hne).trans (Below.heap_alloc _ _ _ hk)⟩
end
theorem Rd.row {w w' : World} {g off : Nat} {xs : List Value} {row : Option Nat} (h : Rd w w.heap.size (some ⟨g, off, none⟩) xs) (hg : w.grownBy w' row) (hne : row ≠ some g) : Rd w' w'.heap.size (some ⟨g, off, none⟩) xs := fun hn => by
  obtain ⟨b, o, e, hb, hc⟩ := h hn
  injection e with e
  injection e with e1 e2
  subst e1 e2
  exact ⟨g, off, rfl, Nat.lt_of_lt_of_le hb hg.size, fun j u hu => hg.cell (hc j u hu) (fun e => hne e.symm)⟩
theorem Rd.far {w w' : World} {A : Option Addr} {xs : List Value} (h : Rd w w.heap.size A xs) (hb : Below w.heap.size w w') : Rd w' w'.heap.size A xs := (h.below hb).mono hb.size
theorem ownBlock_cut {A : Option Addr} {n k c : Nat} : (Value.slice A n c).ownBlock = (Value.slice A k c).ownBlock := by cases A <;> rfl
theorem pGo_step {out : List (List UInt8)} {x : List UInt8} {r : List (List UInt8)} : pGo out (x :: r) = if r = [] then pLast out x else pGo (pNext out x) r := by
  cases r with
  | nil => rfl
  | cons y t => rfl
theorem pGo_next {b out cs : List (List UInt8)} {j : Nat} {x : List UInt8} (h : pGo b cs = pGo out (cs.drop j)) (hx : cs[j]? = some x) :
    pGo b cs = if j + 1 = cs.length then pGo (pLast out x) (cs.drop (j + 1)) else pGo (pNext out x) (cs.drop (j + 1)) := by
  obtain ⟨hj, e⟩ := List.getElem?_eq_some_iff.1 hx
  rw [h, List.drop_eq_getElem_cons hj, e, pGo_step]
  by_cases hl : j + 1 = cs.length
  · rw [if_pos hl, if_pos (List.drop_eq_nil_of_le (by omega)), List.drop_eq_nil_of_le (by omega)]; rfl
  · rw [if_neg hl, if_neg]
    intro h0
    have := congrArg List.length h0
    rw [List.length_drop, List.length_nil] at this
    omega
theorem dropLast_take {α : Type} (l : List α) : l.take (l.length - 1) = l.dropLast := (List.dropLast_eq_take).symm
theorem pNext_len (out : List (List UInt8)) (x : List UInt8) : (pNext out x).length ≤ out.length + 1 := by
  unfold pNext; (repeat' split) <;> simp <;> omega
theorem pLast_len (out : List (List UInt8)) (x : List UInt8) : (pLast out x).length ≤ out.length + 1 := by
  unfold pLast; (repeat' split) <;> simp
/-- The relation behind an append. -/
theorem pRel {base cs out : List (List UInt8)} {w w3 w5 : World} {g j m c' c5 : Nat} {A' A5 : Option Addr} {z : List UInt8} {v : Value} (hl : out.length = m) (hne : (Value.slice A' m c').ownBlock ≠ some g)
    (hat : (Value.slice A5 (m + 1) c5).ownBlock = (Value.slice A' m c').ownBlock ∨ (Value.slice A5 (m + 1) c5).ownBlock = some (w3.heap.size + 1)) (hg5 : w3.grownBy w5 (Value.slice A' m c').ownBlock)
    (hown : w5.ownsRow w.heap.size 9 1 (.slice A5 (m + 1) c5) (m + 1) (strs out ++ #[Value.string (str z)].toList)) (hI : pGo base cs = pGo (out ++ [z]) (cs.drop (j + 1)))
    (hr : Rd w3 w3.heap.size (some ⟨g, 0, none⟩) (strs cs)) (hg : g < w3.heap.size) (hj : j + 1 ≤ cs.length) (hb : m ≤ base.length + j) (hbel : Below w.heap.size w w5) (hv : v = .int .i64 ((j + 1 : Nat) : Int)) :
    ∃ (j' : Nat) (o : List (List UInt8)) (A' : Option Addr) (c' : Nat), cs.length - (j + 1) = cs.length - j' ∧ j' ≤ cs.length ∧ v = .int .i64 (j' : Int) ∧ Value.slice A5 (m + 1) c5 = .slice A' o.length c' ∧
      w5.ownsRow w.heap.size 9 1 (.slice A' o.length c') o.length (strs o) ∧ (Value.slice A' o.length c').ownBlock ≠ some g ∧ o.length ≤ base.length + j' ∧ Hid (pGo base cs = pGo o (cs.drop j')) ∧ Rd w5 w5.heap.size (some ⟨g, 0, none⟩) (strs cs) ∧ Below w.heap.size w w5 := by
  have hl2 : (out ++ [z]).length = m + 1 := by rw [List.length_append, hl]; rfl
  refine ⟨j + 1, out ++ [z], A5, c5, rfl, hj, hv, by rw [hl2], ?_, ?_, by rw [hl2]; omega, hI, hr.row hg5 hne, hbel⟩
  · rw [hl2, strs_append]; exact hown
  · rw [hl2]
    rcases hat with h | h
    · rw [h]; exact hne
    · rw [h]; intro e; injection e with e; omega
set_option maxRecDepth 100000 in
set_option maxHeartbeats 16000000 in
theorem pparse_any (s : List UInt8) (sp : Bool) (A : Option Addr) (c : Nat) (base : List (List UInt8)) (w : World) (hr : Rd w w.heap.size A (strs base)) (hm : ML w) (hA : AF w) (hs : s.length ≤ 30000) (hb : base.length ≤ 10000) :
    Calls Tryd.prog 18 #[.string (str s), .bool sp, .slice A base.length c] w fun e w' => ∃ v, e = .returned v ∧ w'.ownsRow w.heap.size 9 1 v (pParse s sp base).length (strs (pParse s sp base)) ∧ Below w.heap.size w w' := by
  have C1 := Lib.hid (clone_any A c base w hr (by omega))
  have C2 := Lib.hid fun w h => pcut_any s sp w h (by omega)
  have HP := Lib.hid (show pParse s sp base = pGo base (pCut sp s) from rfl)
  have hcl : (pCut sp s).length ≤ 30001 := by have := cuts_le 47 (slash sp s); rw [slash_len] at this; unfold pCut; omega
  have hcs := Lib.hid fun (x : List UInt8) (hx : x ∈ pCut sp s) => (show x.length ≤ 30000 by have := cuts_sum 47 (slash sp s) x hx; rw [slash_len] at this; omega)
  obtain ⟨cs, hcse⟩ : ∃ cs, cs = pCut sp s := ⟨_, rfl⟩
  obtain ⟨R, hR⟩ : ∃ R, R = pParse s sp base := ⟨_, rfl⟩
  rw [← hcse] at C2 HP hcl
  rw [← hR] at HP ⊢
  have hcs := Lib.hid (show ∀ x ∈ cs, x.length ≤ 30000 from fun x hx => hcs.out x (by rw [hcse] at hx; exact hx))
  clear hcse hR hr
  go_enter Tryd.func18, Tryd.ntmps18
  go_wp2_with (first
    | (go_at_call 42; go_must (go_fit C1.out); rintro e w1 ⟨v1, rfl, hown1, hb1⟩)
    | (go_at_call 43; go_must (go_fit (C2.out w1 (hm.next hb1))); rintro e w2 ⟨g, rfl, hr2, hb2, hg2⟩))
  obtain ⟨A1, c1, rfl, hc1, hm1⟩ := own_shape hown1
  have hne1 : (Value.slice A1 base.length c1).ownBlock ≠ some g := fun e => by have := (hown1.lt g e).2; omega
  have hown2 := own_below hown1 hb2 (Nat.le_refl _)
  have hbel2 := bnext hb1 hb2
  clear hown1
  go_loopg [7, 19] cs.length (fun k s7 s19 wr => ∃ (j : Nat) (out : List (List UInt8)) (A' : Option Addr) (c' : Nat), k = cs.length - j ∧ j ≤ cs.length ∧ s19 = .int .i64 (j : Int) ∧ s7 = .slice A' out.length c' ∧
    wr.ownsRow w.heap.size 9 1 (.slice A' out.length c') out.length (strs out) ∧ (Value.slice A' out.length c').ownBlock ≠ some g ∧ out.length ≤ base.length + j ∧ Hid (pGo base cs = pGo out (cs.drop j)) ∧ Rd wr wr.heap.size (some ⟨g, 0, none⟩) (strs cs) ∧ Below w.heap.size w wr)
  case atStart => exact ⟨0, base, A1, c1, rfl, Nat.zero_le _, rfl, rfl, hown2, hne1, Nat.le_refl _, rfl, hr2, hbel2⟩
  case round =>
    clear hr2 hown2 hbel2 hne1 hc1 hm1
    obtain ⟨j, out, A', c', rfl, hj, rfl, rfl, hown, hne, hol, hinv, hrd, hbel⟩ := hrel
    have hq0 := hbel.size
    by_cases hlt : j < cs.length
    · obtain ⟨b, off, x, hA', hb', hc, hx⟩ := hrd.str_at (k := j) hlt
      injection hA' with hA'; injection hA' with hA1 hA2; subst hA1; subst hA2
      rw [Nat.zero_add] at hc
      have hxl := hcs.out x (List.mem_of_getElem? hx.out)
      have HI := Lib.hid (pGo_next hinv.out hx.out)
      have hlt1 : (j : Int) < (cs.length : Int) := by omega
      have hj0 : (0 : Int) ≤ (j : Int) := by omega
      have hAr := hA.next hbel
      have CD := Lib.hid (double_any x wr hAr (by omega))
      have hw1 : IntKind.i64.wrap ((cs.length : Int) - 1) = (cs.length : Int) - 1 := IntWalk.i64_in _ (by omega)
      have hw2 : IntKind.i64.wrap ((out.length : Int) - 1) = (out.length : Int) - 1 := IntWalk.i64_in _ (by omega)
      have hw3 : IntKind.i64.wrap ((j : Int) + 1) = (j : Int) + 1 := IntWalk.i64_in _ (by omega)
      obtain ⟨m, hm0⟩ : ∃ m : Nat, m = out.length - 1 := ⟨_, rfl⟩
      have hmx : max ((out.length : Int) - 1) 0 = (m : Int) := by omega
      have hmo : m ≤ out.length := by omega
      have hdl : (strs out).take m = strs out.dropLast := by rw [hm0]; unfold strs; rw [← List.map_take, dropLast_take]
      have hdn : out.dropLast.length = m := by rw [List.length_dropLast, hm0]
      clear hm0
      have hml : (m : Int) ≤ (out.length : Int) := by omega
      have hm00 : (0 : Int) ≤ (m : Int) := by omega
      obtain ⟨_, _, e0, hnc, hcm⟩ := own_shape hown
      injection e0 with e1 e2 e3; subst e1; subst e3
      clear e2
      have hmc : (m : Int) ≤ (c' : Int) := by omega
      have CS := Lib.hid fun w h => single_any x w h (by omega)
      have CE := Lib.hid fun A c w h => encode_pct 4 A c x w h (by omega)
      by_cases hD : pDouble x = true
      · have HO := Lib.hid (own_cut hown hmo)
        have HNE := Lib.hid (show (Value.slice A' m c').ownBlock ≠ some g by rw [← ownBlock_cut (n := out.length)]; exact hne)
        rw [hdl] at HO
        have hnx : pNext out x = out.dropLast := by unfold pNext; rw [if_pos hD]
        have hls : pLast out x = out.dropLast ++ [[]] := by unfold pLast; rw [if_pos hD]
        rw [hD] at CD
        rw [hnx, hls] at HI
        have HDN := Lib.hid hdn
        clear hD hx hdl hnx hls hne hdn hown
        by_cases hl : j + 1 = cs.length
        · have hlst : ((j : Int) == (cs.length : Int) - 1) = true := by rw [beq_iff_eq]; omega
          have HI2 := Lib.hid (show pGo base cs = pGo (out.dropLast ++ [[]]) (cs.drop (j + 1)) by rw [HI.out, if_pos hl])
          clear HI
          go_wp2_with (first
            | (go_at_call 21; go_must (go_fit CD.out); rintro e w3 ⟨rfl, hb3⟩; have HO3 := own_below HO.out hb3 (Nat.le_refl _); have hq3 := hb3.size)
            | (at_builtin; go_loud (refine wpList_append_litAt rfl _ _ _ rfl w.heap.size _ _ 1 16 Tryd.underlying22 info_strU rfl (by decide) _ _ _ rfl HO3 _ 1 1 _ rfl rfl (by simp [Value.oneCell']) (by omega) (by decide) (by omega) ?_; intro A5 c5 w5 hc5 hm5 hown5 hb5 hg5 hat5)))
          go_roundg (cs.length - (j + 1))
          case measure => omega
          case rel => exact pRel HDN.out HNE.out hat5 hg5 hown5 HI2.out (hrd.far hb3) (by omega) (by omega) (by omega) ((hbel.trans (hb3.mono hq0)).trans hb5) (by go_num)
        · have hlst : ((j : Int) == (cs.length : Int) - 1) = false := by rw [beq_eq_false_iff_ne]; omega
          have HI2 := Lib.hid (show pGo base cs = pGo out.dropLast (cs.drop (j + 1)) by rw [HI.out, if_neg hl])
          clear HI
          go_wp2_with (go_at_call 21; go_must (go_fit CD.out); rintro e w3 ⟨rfl, hb3⟩; have HO3 := own_below HO.out hb3 (Nat.le_refl _))
          go_roundg (cs.length - (j + 1))
          case measure => omega
          case rel => exact ⟨j + 1, out.dropLast, A', c', rfl, by omega, by go_num, by rw [HDN.out], by rw [HDN.out]; exact HO3, by rw [HDN.out]; exact HNE.out, by rw [HDN.out]; omega, HI2.out, hrd.far hb3, hbel.trans (hb3.mono hq0)⟩
      · have hD' : pDouble x = false := by simpa using hD
        rw [hD'] at CD
        by_cases hS : pSingle x = true
        · have hnx : pNext out x = out := by unfold pNext; rw [if_neg hD, if_pos hS]
          have hls : pLast out x = out ++ [[]] := by unfold pLast; rw [if_neg hD, if_pos hS]
          rw [hS] at CS
          rw [hnx, hls] at HI
          have HO := Lib.hid hown
          have HNE := Lib.hid hne
          clear hD hD' hS hx hdl hnx hls hne hown
          by_cases hl : j + 1 = cs.length
          · have hlst : ((j : Int) == (cs.length : Int) - 1) = true := by rw [beq_iff_eq]; omega
            have HI2 := Lib.hid (show pGo base cs = pGo (out ++ [[]]) (cs.drop (j + 1)) by rw [HI.out, if_pos hl])
            clear HI
            go_wp2_with (first
              | (go_at_call 21; go_must (go_fit CD.out); rintro e w3 ⟨rfl, hb3⟩)
              | (go_at_call 19; go_must (go_fit (CS.out w3 (hAr.next hb3))); rintro e w4 ⟨rfl, hb4⟩; have hb34 := bnext hb3 hb4; have HO4 := own_below HO.out hb34 (Nat.le_refl _); have hq4 := hb34.size)
              | (at_builtin; go_loud (refine wpList_append_litAt rfl _ _ _ rfl w.heap.size _ _ 1 16 Tryd.underlying22 info_strU rfl (by decide) _ _ _ rfl HO4 _ 1 1 _ rfl rfl (by simp [Value.oneCell']) (by omega) (by decide) (by omega) ?_; intro A5 c5 w5 hc5 hm5 hown5 hb5 hg5 hat5)))
            go_roundg (cs.length - (j + 1))
            case measure => omega
            case rel => exact pRel rfl HNE.out hat5 hg5 hown5 HI2.out (hrd.far hb34) (by omega) (by omega) (by omega) ((hbel.trans (hb34.mono hq0)).trans hb5) (by go_num)
          · have hlst : ((j : Int) == (cs.length : Int) - 1) = false := by rw [beq_eq_false_iff_ne]; omega
            have HI2 := Lib.hid (show pGo base cs = pGo out (cs.drop (j + 1)) by rw [HI.out, if_neg hl])
            clear HI
            go_wp2_with (first
              | (go_at_call 21; go_must (go_fit CD.out); rintro e w3 ⟨rfl, hb3⟩)
              | (go_at_call 19; go_must (go_fit (CS.out w3 (hAr.next hb3))); rintro e w4 ⟨rfl, hb4⟩; have hb34 := bnext hb3 hb4; have HO4 := own_below HO.out hb34 (Nat.le_refl _)))
            go_roundg (cs.length - (j + 1))
            case measure => omega
            case rel => exact ⟨j + 1, out, A', c', rfl, by omega, by go_num, rfl, HO4, HNE.out, by omega, HI2.out, hrd.far hb34, hbel.trans (hb34.mono hq0)⟩
        · have hS' : pSingle x = false := by simpa using hS
          have hnx : pNext out x = out ++ [pEnc 4 x] := by unfold pNext; rw [if_neg hD, if_neg hS]
          have hls : pLast out x = out ++ [pEnc 4 x] := by unfold pLast; rw [if_neg hD, if_neg hS]
          rw [hS'] at CS
          rw [hnx, hls, ite_self] at HI
          have HO := Lib.hid hown
          have HNE := Lib.hid hne
          clear hD hD' hS hS' hx hdl hnx hls hne hown
          obtain ⟨bl, hbl⟩ : ∃ bl : Bool, ((j : Int) == (cs.length : Int) - 1) = bl := ⟨_, rfl⟩
          go_wp2_with (first
            | (go_at_call 21; go_must (go_fit CD.out); rintro e w3 ⟨rfl, hb3⟩)
            | (go_at_call 19; go_must (go_fit (CS.out w3 (hAr.next hb3))); rintro e w4 ⟨rfl, hb4⟩; have hb34 := bnext hb3 hb4)
            | (refine wpList_bytesL rfl _ _ _ _ rfl Tryd.underlying9 Tryd.underlying42 Tryd.underlying5 x rfl (by omega) ?_; intro c6 w6 hc6 hm6 hrow6 hr6 hb6 hz6)
            | (go_at_call 44; go_must (go_fit (CE.out _ _ w6 hr6)); rintro e w7 ⟨rfl, hb7⟩; have hb37 := bnext (bnext hb34 hb6) hb7; have HO4 := own_below HO.out hb37 (Nat.le_refl _); have hq4 := hb37.size)
            | (at_builtin; go_loud (refine wpList_append_litAt rfl _ _ _ rfl w.heap.size _ _ 1 16 Tryd.underlying22 info_strU rfl (by decide) _ _ _ rfl HO4 _ 1 1 _ rfl rfl (by simp [Value.oneCell']) (by omega) (by decide) (by omega) ?_; intro A5 c5 w5 hc5 hm5 hown5 hb5 hg5 hat5)))
          go_roundg (cs.length - (j + 1))
          case measure => omega
          case rel => exact pRel rfl HNE.out hat5 hg5 hown5 HI.out (hrd.far hb37) (by omega) (by omega) (by omega) ((hbel.trans (hb37.mono hq0)).trans hb5) (by go_num)
    · obtain rfl : j = cs.length := by omega
      have HE := Lib.hid (show R = out by rw [HP.out, hinv.out, List.drop_length]; rfl)
      go_wp2
      go_ret
      exact ⟨_, rfl, by rw [HE.out]; exact hown, hbel⟩
end Go.Proofs.YtnnphploekchbaaDoor

