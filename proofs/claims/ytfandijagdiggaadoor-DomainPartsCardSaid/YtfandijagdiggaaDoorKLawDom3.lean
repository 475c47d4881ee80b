/- The walk of the statement DomainParts. -/
import Derived.Test.YtfandijagdiggaaDoorKLawDom
import Derived.Test.YtfandijagdiggaaDoorK14
import Derived.Test.YtfandijagdiggaaDoorK08
namespace Go.Proofs.YtfandijagdiggaaDoor
set_option linter.all false
open Go.RowKit

section
variable {P : Program} {w : World} {ops : Array Oper} {rest : List Oper} {o : Oper} {a : Act} {Q : Exit → Act → World → Prop}
/-- 'append(out, more...)' behind a guard that holds. -/
theorem wpList_append_rdG (hgd : Region.wanted o (yielded ops a.tmps) = true) (s x : Operand) (t : TypeId)
    (ho : o.op = .call { callee := .builtin .append, args := #[s, x], argTypes := #[t, t] })
    (base : Nat) (e : TypeId) (z : Value) (bytes : Nat) (ht : P.underlying t = some (.slice e))
    (hinfo : (P.info? e).map (fun i => (i.zero, i.size, i.bytes)) = some (some z, 1, bytes)) (hzs : z.cells.size = 1)
    (v : Value) (n : Nat) (xs : List Value) (hs : a.eval s = v) (hown : w.ownsRow base e 1 v n xs)
    (B : Nat) (A : Option Addr) (m c : Nat) (news : List Value) (hx : a.eval x = .slice A m c) (hm : m = news.length) (hnone : A = none → c = 0) (hr : Rd w B A news) (h1 : ∀ u ∈ news, u.oneCell' = true)
    (h63 : n + m ≤ 1000000) (hb : bytes ≤ 1000) (hbase : base ≤ w.heap.size)
    (h : ∀ A' c' w', n + m ≤ c' → c' ≤ maxLen → w'.ownsRow base e 1 (.slice A' (n + m) c') (n + m) (xs ++ news) → Below base w w' → w.grownBy w' v.ownBlock → wpList P ops Q rest (a.put o.dst (.slice A' (n + m) c')) w') :
    wpList P ops Q (o :: rest) a w := by
  obtain ⟨i, hi, hz, hsize, hby⟩ := info_parts hinfo
  have hbytes : (n + m) * bytes ≤ 140737488355328 := by
    calc (n + m) * bytes ≤ 1000000 * 1000 := Nat.mul_le_mul h63 hb
      _ ≤ 140737488355328 := by decide
  refine BigFrame.wpList_want hgd fun K hK => ?_
  cases A with
  | some ad =>
    obtain ⟨v', w', hrun, h2, h3, _⟩ := run_append_own_at (P := P) w base t o.type e i z 1 bytes ht hi hz hsize hby hzs (by decide) v n xs hown ad m c news (by omega) (rd_any hr ad rfl) h1 (by simp only [maxLen]; omega) hbytes hbase
    obtain ⟨A', c', rfl, q1, q2⟩ := own_shape h2
    unfold Oper.wp execOp
    simp only [ho, resolve, invoke, builtin, Sem.run_bind, Sem.run_pure, Result.andThen_ok, List.map_toArray, List.map_cons, List.map_nil, hs, hx, hrun]
    exact hK _ _ (h A' c' w' q1 q2 h2 ((Below.refl _ _).grown h3 hbase fun k hk => (hown.lt k hk).1) h3)
  | none =>
    have hn : news = [] := by
      rcases news with _ | ⟨y, ys⟩
      · rfl
      · obtain ⟨_, _, he, _⟩ := hr (by simp); cases he
    subst hn
    obtain rfl : m = 0 := by simpa using hm
    obtain rfl := hnone rfl
    have hrun := run_append_owned_none (P := P) (w := w) base t o.type e i 1 ht hi v n xs hown
    obtain ⟨A', c', rfl, q1, q2⟩ := own_shape hown
    unfold Oper.wp execOp
    simp only [ho, resolve, invoke, builtin, Sem.run_bind, Sem.run_pure, Result.andThen_ok, List.map_toArray, List.map_cons, List.map_nil, hs, hx, hrun]
    exact hK _ _ (h A' c' w q1 q2 (by rw [List.append_nil]; exact hown) (Below.refl _ _) (World.grownBy.refl w _))
end
theorem last_gb {s : List UInt8} (h : s ≠ []) : s.getLast? = some (gb s (s.length - 1)) := by
  have hp : 0 < s.length := List.length_pos_iff.2 h
  rw [List.getLast?_eq_getElem?]
  exact gb_some (by omega)
theorem join_take {L : List (List UInt8)} {j : Nat} {x : List UInt8} (h : L[j]? = some x) : Lib.join (L.take (j + 1)) [46] = if j = 0 then x else Lib.join (L.take j) [46] ++ [46] ++ x := by
  obtain ⟨hj, e⟩ := List.getElem?_eq_some_iff.1 h
  rw [take_snoc' L j hj, e, join_snoc]
  by_cases h0 : j = 0
  · subst h0; rfl
  · rw [if_neg h0, if_neg]
    intro e2
    have := congrArg List.length e2
    rw [List.length_take, Nat.min_eq_left (Nat.le_of_lt hj)] at this
    exact h0 this
theorem bytes_dot (a b : List UInt8) : bytes (a ++ 46 :: b) = bytes a ++ [Value.int .u8 46] ++ bytes b := by
  rw [show a ++ 46 :: b = (a ++ [46]) ++ b by simp, bytes_append, bytes_append]
  exact congrArg (fun z => z ++ bytes b) rfl
set_option maxRecDepth 100000 in
set_option maxHeartbeats 16000000 in
theorem domainParts_walk (A B : Option Addr) (k m : Nat) (a b : List UInt8) (w : World) (hm : ML w) (hra : Rd w w.heap.size A (bytes a)) (hka : a.length ≤ k) (hkma : k ≤ maxLen) (hrb : Rd w w.heap.size B (bytes b)) (hkb : b.length ≤ m) (hkmb : m ≤ maxLen) :
    Calls Tryd.prog 7 #[.slice A a.length k, .slice B b.length m] w fun e w' => e = .returned (.bool true) ∧ Below w.heap.size w w' := by
  by_cases ha60 : (a.length : Int) ≤ 60
  · by_cases hb60 : (b.length : Int) ≤ 60
    · cases hoa : dASCII a with
      | none =>
        have C1 := Lib.hid fun w h => ascii_none (A := A) (c := k) (w := w) hoa h hka hkma
        clear hoa
        cases hob : dASCII b with
        | none =>
          have C2 := Lib.hid fun w h => ascii_none (A := B) (c := m) (w := w) hob h hkb hkmb
          clear hob
          go_enter Tryd.func7, Tryd.ntmps7
          go_wp2_with (first
            | (go_at_call 8; go_must (go_fit (begun6_any w hm)); rintro e w1 ⟨rfl, hb1⟩; have ha1 := hra.next hb1; have hbb1 := hrb.next hb1)
            | (go_at_call 9; go_fit (C1.out w1 ha1); rintro e w2 ⟨rfl, hb2⟩; have ha2 := ha1.next hb2; have hbb2 := hbb1.next hb2)
            | (go_at_call 9; go_fit (C2.out w2 hbb2); rintro e w3 ⟨rfl, hb3⟩; have ha3 := ha2.next hb3; have hbb3 := hbb2.next hb3; have hb13 := bnext (bnext hb1 hb2) hb3))
          go_ret
          exact ⟨rfl, hb13⟩
        | some y =>
          have C2 := Lib.hid fun w h => ascii_some (A := B) (c := m) (w := w) hob h hkb hkmb
          clear hob
          go_enter Tryd.func7, Tryd.ntmps7
          go_wp2_with (first
            | (go_at_call 8; go_must (go_fit (begun6_any w hm)); rintro e w1 ⟨rfl, hb1⟩; have ha1 := hra.next hb1; have hbb1 := hrb.next hb1)
            | (go_at_call 9; go_fit (C1.out w1 ha1); rintro e w2 ⟨rfl, hb2⟩; have ha2 := ha1.next hb2; have hbb2 := hbb1.next hb2)
            | (go_at_call 9; go_fit (C2.out w2 hbb2); rintro e w3 ⟨rfl, hb3⟩; have ha3 := ha2.next hb3; have hbb3 := hbb2.next hb3; have hb13 := bnext (bnext hb1 hb2) hb3))
          go_ret
          exact ⟨rfl, hb13⟩
      | some x =>
        have C1 := Lib.hid fun w h => ascii_some (A := A) (c := k) (w := w) hoa h hka hkma
        have hxl := ascii_len hoa
        have hyx := str_size x
        cases hob : dASCII b with
        | none =>
          have C2 := Lib.hid fun w h => ascii_none (A := B) (c := m) (w := w) hob h hkb hkmb
          clear hoa hob
          go_enter Tryd.func7, Tryd.ntmps7
          go_wp2_with (first
            | (go_at_call 8; go_must (go_fit (begun6_any w hm)); rintro e w1 ⟨rfl, hb1⟩; have ha1 := hra.next hb1; have hbb1 := hrb.next hb1)
            | (go_at_call 9; go_fit (C1.out w1 ha1); rintro e w2 ⟨rfl, hb2⟩; have ha2 := ha1.next hb2; have hbb2 := hbb1.next hb2)
            | (go_at_call 9; go_fit (C2.out w2 hbb2); rintro e w3 ⟨rfl, hb3⟩; have ha3 := ha2.next hb3; have hbb3 := hbb2.next hb3; have hb13 := bnext (bnext hb1 hb2) hb3))
          go_ret
          exact ⟨rfl, hb13⟩
        | some y =>
          have C2 := Lib.hid fun w h => ascii_some (A := B) (c := m) (w := w) hob h hkb hkmb
          have hyl := ascii_len hob
          have hyy := str_size y
          have hgx := str_get x
          by_cases hx0 : x = []
          · have hx1 : ((x.length : Int) == 0) = true := by rw [hx0]; rfl
            clear hoa hob hx0
            go_enter Tryd.func7, Tryd.ntmps7
            go_wp2_with (first
              | (go_at_call 8; go_must (go_fit (begun6_any w hm)); rintro e w1 ⟨rfl, hb1⟩; have ha1 := hra.next hb1; have hbb1 := hrb.next hb1)
              | (go_at_call 9; go_fit (C1.out w1 ha1); rintro e w2 ⟨rfl, hb2⟩; have ha2 := ha1.next hb2; have hbb2 := hbb1.next hb2)
              | (go_at_call 9; go_fit (C2.out w2 hbb2); rintro e w3 ⟨rfl, hb3⟩; have ha3 := ha2.next hb3; have hbb3 := hbb2.next hb3; have hb13 := bnext (bnext hb1 hb2) hb3))
            go_ret
            exact ⟨rfl, hb13⟩
          · have hx1 : ((x.length : Int) == 0) = false := by
              rw [beq_eq_false_iff_ne]
              exact fun e => hx0 (List.eq_nil_of_length_eq_zero (by omega))
            have hxp : 0 < x.length := List.length_pos_iff.2 hx0
            have hlast := last_gb hx0
            obtain ⟨M, hM⟩ : ∃ M, M = x.length - 1 := ⟨_, rfl⟩
            rw [← hM] at hlast
            have hMI : (x.length : Int) - 1 = (M : Int) := by omega
            have hMw : IntKind.i64.wrap (M : Int) = (M : Int) := IntWalk.i64_in _ (by omega)
            have hM0 : (0 : Int) ≤ (M : Int) := by omega
            have hM1 : (M : Int) < (x.length : Int) := by omega
            have hsw : IntKind.i64.wrap ((x.length : Int) + (y.length : Int)) = (x.length : Int) + (y.length : Int) := IntWalk.i64_in _ (by omega)
            by_cases h46 : gb x M = 46
            · have hc46 : (((gb x M).toNat : Int) == 46) = true := by rw [h46]; rfl
              clear hoa hob hM h46 hlast
              go_enter Tryd.func7, Tryd.ntmps7
              go_wp2_with (first
                | (go_at_call 8; go_must (go_fit (begun6_any w hm)); rintro e w1 ⟨rfl, hb1⟩; have ha1 := hra.next hb1; have hbb1 := hrb.next hb1)
                | (go_at_call 9; go_fit (C1.out w1 ha1); rintro e w2 ⟨rfl, hb2⟩; have ha2 := ha1.next hb2; have hbb2 := hbb1.next hb2)
                | (go_at_call 9; go_fit (C2.out w2 hbb2); rintro e w3 ⟨rfl, hb3⟩; have ha3 := ha2.next hb3; have hbb3 := hbb2.next hb3; have hb13 := bnext (bnext hb1 hb2) hb3))
              go_ret
              exact ⟨rfl, hb13⟩
            · have hc46 : (((gb x M).toNat : Int) == 46) = false := by
                rw [beq_eq_false_iff_ne]
                exact fun e => h46 (byte_ext (by show _ = 46; omega))
              by_cases h250 : 250 < x.length + y.length
              · have h250I : (250 : Int) < (x.length : Int) + (y.length : Int) := by omega
                clear hoa hob hM h46 hlast h250
                go_enter Tryd.func7, Tryd.ntmps7
                go_wp2_with (first
                  | (go_at_call 8; go_must (go_fit (begun6_any w hm)); rintro e w1 ⟨rfl, hb1⟩; have ha1 := hra.next hb1; have hbb1 := hrb.next hb1)
                  | (go_at_call 9; go_fit (C1.out w1 ha1); rintro e w2 ⟨rfl, hb2⟩; have ha2 := ha1.next hb2; have hbb2 := hbb1.next hb2)
                  | (go_at_call 9; go_fit (C2.out w2 hbb2); rintro e w3 ⟨rfl, hb3⟩; have ha3 := ha2.next hb3; have hbb3 := hbb2.next hb3; have hb13 := bnext (bnext hb1 hb2) hb3))
                go_ret
                exact ⟨rfl, hb13⟩
              · have h250I : ¬ (250 : Int) < (x.length : Int) + (y.length : Int) := by omega
                have hside := dASCII_side hoa hob (by omega) hx0 (by rw [hlast]; simpa using h46) (by omega)
                obtain ⟨L, hN, _⟩ := name_of hoa
                have hcx := hN.cuts
                have hLab := Lib.hid fun (l : List UInt8) (hl : l ∈ L) => hN.label (by rw [hlast]; simpa using h46) hx0 hl
                have hL63 := Lib.hid fun (l : List UInt8) (hl : l ∈ L) => (hN.all l hl).1
                have hjn := hN.join
                have hLl : L.length ≤ 255 := by rw [← hcx]; have := cuts_le 46 x; omega
                have hLp : 0 < L.length := by rw [← hcx]; exact cuts_pos 46 x
                have hcxy : cuts 46 (x ++ 46 :: y) = L ++ cuts 46 y := by rw [cuts_append, hcx]
                have hcyl := cuts_le 46 y
                have C3 := Lib.hid fun A c w h h1 h2 => ascii_some (A := A) (c := c) (w := w) hside h h1 h2
                have CX := Lib.hid fun w h => dlabels_any x w h (by omega)
                rw [hcx] at CX
                obtain ⟨T1, hT1⟩ : ∃ Z0, Z0 = x ++ [46] := ⟨_, rfl⟩
                have eT1 : str x ++ { data := #[46] } = str T1 := (str_app x [46]).trans (by rw [hT1])
                have nT1 : T1.length ≤ 300 := by rw [hT1, List.length_append]; simp only [List.length_cons, List.length_nil]; omega
                have yT1 := str_size T1
                have kT1 : (9223372036854775807 < x.length + 1) = False := eq_false (by omega)
                obtain ⟨T2, hT2⟩ : ∃ Z0, Z0 = T1 ++ y := ⟨_, rfl⟩
                have eT2 : str T1 ++ str y = str T2 := (str_app T1 y).trans (by rw [hT2])
                have nT2 : T2.length ≤ 600 := by rw [hT2, List.length_append]; omega
                have yT2 := str_size T2
                have kT2 : (9223372036854775807 < T1.length + y.length) = False := eq_false (by omega)
                have hT : x ++ 46 :: y = T2 := by rw [hT2, hT1]; simp
                have CZ := Lib.hid fun w h => dlabels_any T2 w h (by omega)
                rw [← hT, hcxy] at CZ
                rw [hT] at C3 CZ
                have hl3 : (a ++ 46 :: b).length = a.length + 1 + b.length := by simp; omega
                rw [hl3] at C3
                have CY := Lib.hid fun w h => dlabels_any y w h (by omega)
                have CS := Lib.hid fun A1 c1 A2 c2 w h1 h2 => sameT_any A1 A2 c1 c2 (L ++ cuts 46 y) (L ++ cuts 46 y) w h1 h2 (by rw [List.length_append]; omega) (by rw [List.length_append]; omega)
                rw [sameT_self, List.length_append] at CS
                rw [List.length_append] at CZ
                have qT := str_eqB T2 T2
                rw [decide_eq_true rfl] at qT
                have HJ := Lib.hid hjn
                have hT2s : T2.length = x.length + 1 + y.length := by rw [← hT]; simp; omega
                clear hoa hob hM h46 hlast h250 hside hN hcx hjn hcxy hT hl3 hT1 hT2
                have hbz : (bytes a).length = a.length := bytes_len a
                go_enter Tryd.func7, Tryd.ntmps7
                go_wp2_with (first
                  | (go_at_call 8; go_must (go_fit (begun6_any w hm)); rintro e w1 ⟨rfl, hb1⟩; have ha1 := hra.next hb1; have hbb1 := hrb.next hb1)
                  | (go_at_call 9; go_fit (C1.out w1 ha1); rintro e w2 ⟨rfl, hb2⟩; have ha2 := ha1.next hb2; have hbb2 := hbb1.next hb2)
                  | (go_at_call 9; go_fit (C2.out w2 hbb2); rintro e w3 ⟨rfl, hb3⟩; have ha3 := ha2.next hb3; have hbb3 := hbb2.next hb3; have hb13 := bnext (bnext hb1 hb2) hb3)
                  | (at_builtin; refine wpList_append_rd rfl _ _ _ rfl w3.heap.size _ _ 1 Tryd.underlying22 info_u8 rfl _ _ _ rfl (empty_own w3 _) _ _ _ _ _ rfl (bytes_len a).symm (ha3.new _) (bytes_one _) (by omega) (by decide) (by first | (simp; done) | omega) ?_; intro A5 c5 w5 hc5 hm5 hown5 hb5 hg5; simp only [Nat.zero_add, List.nil_append] at hc5 hown5; have hb5' : Below w3.heap.size w3 w5 := (bnew (Below.refl _ _) _).trans hb5; have hs5 := hb5'.size)
                  | (at_builtin; refine wpList_append_lit rfl _ _ _ rfl w3.heap.size _ _ 1 1 Tryd.underlying22 info_u8 rfl (by decide) _ _ _ rfl hown5 _ 1 1 _ rfl rfl (by simp [Value.oneCell']) (by omega) (by decide) (by omega) ?_; intro A6 c6 w6 hc6 hm6 hown6 hb6 hg6; have hb6' : Below w3.heap.size w3 w6 := hb5'.trans hb6; have hs6 := hb6'.size)
                  | (at_builtin; refine wpList_append_rd rfl _ _ _ rfl w3.heap.size _ _ 1 Tryd.underlying22 info_u8 rfl _ _ _ rfl hown6 _ _ _ _ _ rfl (bytes_len b).symm (hbb3.next hb6') (bytes_one _) (by omega) (by decide) (by omega) ?_; intro A7 c7 w7 hc7 hm7 hown7 hb7 hg7; have hb7' : Below w3.heap.size w3 w7 := hb6'.trans hb7; have hs7 := hb7'.size; have hx7 := (show Rd w7 w7.heap.size A7 (bytes (a ++ 46 :: b)) by rw [bytes_dot]; exact Rd.own hown7))
                  | (go_at_call 9; go_fit (C3.out A7 c7 w7 hx7 (by omega) hm7); rintro e w8 ⟨rfl, hb8⟩; have hb18 := bnext (bnext hb13 hb7') hb8)
                  | (go_at_call 12; go_fit (CX.out w8 (hm.next hb18)); rintro e w9 ⟨rfl, hx9, hb9⟩; have hb19 := bnext hb18 hb9))
                go_loopg [12, 13] (L.length) (fun n s12 i wr => ∃ j : Nat, n = L.length - j ∧ j ≤ L.length ∧ i = .int .i64 j ∧ s12 = .string (str (Lib.join (L.take j) [46])) ∧ Below w9.heap.size w9 wr)
                case atStart => exact ⟨0, rfl, Nat.zero_le _, rfl, rfl, Below.refl _ _⟩
                case round =>
                  obtain ⟨j, rfl, hj, rfl, rfl, hbel⟩ := hrel
                  have hq0 := hbel.size
                  have hJl := join63 (L.take j) fun s hs => hL63.out s (List.mem_of_mem_take hs)
                  rw [List.length_take, Nat.min_eq_left hj] at hJl
                  have HJT := Lib.hid fun x (hx : L[j]? = some x) => join_take hx
                  by_cases hlt : j < L.length
                  · obtain ⟨bk, off, l, eA, hbk, hcl, hl⟩ := (hx9.below hbel).str_at (k := j) hlt
                    injection eA with eA; injection eA with eA1 eA2; subst eA1; subst eA2
                    rw [Nat.zero_add] at hcl
                    have hlt1 : (j : Int) < (L.length : Int) := by omega
                    have hj0 : (0 : Int) ≤ (j : Int) := by omega
                    have hlm := List.mem_of_getElem? hl.out
                    have hll := hL63.out l hlm
                    have hln := hLab.out l hlm
                    have C4 := Lib.hid fun A c w h h1 h2 => ascii_some (A := A) (c := c) (w := w) hln h h1 h2
                    have ql := str_eqB l l
                    rw [decide_eq_true rfl] at ql
                    have hyl2 := str_size l
                    have HJN := Lib.hid (HJT.out l hl.out)
                    obtain ⟨J, hJ⟩ : ∃ J, J = Lib.join (L.take j) [46] := ⟨_, rfl⟩
                    rw [← hJ] at HJN hJl ⊢
                    clear hJ hlm hl hln HJT
                    have hyJ := str_size J
                    by_cases hj1 : j = 0
                    · have hjI : ¬ (0 : Int) < (j : Int) := by omega
                      have hjN : ¬ 0 < j := by omega
                      have HJ2 := Lib.hid (HJN.out.trans (if_pos hj1))
                      have HJ0 := Lib.hid (show J = [] by have : J.length = 0 := by (rw [hj1] at hJl; omega)
                                                          exact List.eq_nil_of_length_eq_zero this)
                      obtain ⟨U2, hU2⟩ : ∃ Z0, Z0 = J ++ l := ⟨_, rfl⟩
                      have eU2 : str J ++ str l = str U2 := (str_app J l).trans (by rw [hU2])
                      have nU2 : U2.length ≤ 30000 := by rw [hU2, List.length_append]; omega
                      have yU2 := str_size U2
                      have kU2 : (9223372036854775807 < J.length + l.length) = False := eq_false (by omega)
                      have HU := Lib.hid (show U2 = Lib.join (L.take (j + 1)) [46] by rw [hU2, HJ0.out, HJ2.out]; rfl)
                      clear hj1 hU2
                      go_wp2_with (first
                        | (refine wpList_bytesL rfl _ _ _ _ rfl Tryd.underlying9 Tryd.underlying22 Tryd.underlying5 l rfl (by omega) ?_; intro ca wa hca hma hrowa hra' hba hza; have hca' := cell_on hba hcl (by omega))
                        | (go_at_call 9; go_fit (C4.out _ _ wa hra' hca hma); rintro e wb ⟨rfl, hbb⟩; have hcb' := cell_on hbb hca' (by have := hba.size; omega); have hab := bnext hba hbb))
                      go_roundg (L.length - (j + 1))
                      case measure => omega
                      case rel => exact ⟨j + 1, rfl, by omega, by go_num, by rw [HU.out], hbel.trans (hab.mono hq0)⟩
                    · have hjI : (0 : Int) < (j : Int) := by omega
                      have hjN : 0 < j := by omega
                      have HJ2 := Lib.hid (HJN.out.trans (if_neg hj1))
                      obtain ⟨U1, hU1⟩ : ∃ Z0, Z0 = J ++ [46] := ⟨_, rfl⟩
                      have eU1 : str J ++ { data := #[46] } = str U1 := (str_app J [46]).trans (by rw [hU1])
                      have nU1 : U1.length ≤ 30000 := by rw [hU1, List.length_append]; simp only [List.length_cons, List.length_nil]; omega
                      have yU1 := str_size U1
                      have kU1 : (9223372036854775807 < J.length + 1) = False := eq_false (by omega)
                      obtain ⟨U2, hU2⟩ : ∃ Z0, Z0 = U1 ++ l := ⟨_, rfl⟩
                      have eU2 : str U1 ++ str l = str U2 := (str_app U1 l).trans (by rw [hU2])
                      have nU2 : U2.length ≤ 31000 := by rw [hU2, List.length_append]; omega
                      have yU2 := str_size U2
                      have kU2 : (9223372036854775807 < U1.length + l.length) = False := eq_false (by omega)
                      have HU := Lib.hid (show U2 = Lib.join (L.take (j + 1)) [46] by rw [hU2, hU1, HJ2.out])
                      clear hj1 hU1 hU2
                      go_wp2_with (first
                        | (refine wpList_bytesL rfl _ _ _ _ rfl Tryd.underlying9 Tryd.underlying22 Tryd.underlying5 l rfl (by omega) ?_; intro ca wa hca hma hrowa hra' hba hza; have hca' := cell_on hba hcl (by omega))
                        | (go_at_call 9; go_fit (C4.out _ _ wa hra' hca hma); rintro e wb ⟨rfl, hbb⟩; have hcb' := cell_on hbb hca' (by have := hba.size; omega); have hab := bnext hba hbb))
                      go_roundg (L.length - (j + 1))
                      case measure => omega
                      case rel => exact ⟨j + 1, rfl, by omega, by go_num, by rw [HU.out], hbel.trans (hab.mono hq0)⟩
                  · obtain rfl : j = L.length := by omega
                    rw [List.take_length, ← HJ.out]
                    have qx := str_eqB x x
                    rw [decide_eq_true rfl] at qx
                    clear hlt HJT
                    have hb1r := hb19.trans (hbel.mono hb19.size)
                    have hx9r := hx9.next hbel
                    go_wp2_with (first
                      | (go_at_call 12; go_fit (CZ.out wr (hm.next hb1r)); rintro e wa ⟨rfl, hxa, hba⟩; have hx9a := hx9r.next hba; have hb1a := bnext hb1r hba)
                      | (at_builtin; refine wpList_append_rdG rfl _ _ _ rfl wa.heap.size _ _ 16 Tryd.underlying28 info_strU rfl _ _ _ rfl (empty_own wa _) _ _ _ _ _ rfl (strs_len L).symm (fun h => by cases h) (hx9a.new _) (strs_one _) (by omega) (by decide) (by first | (simp; done) | omega) ?_; intro Ab cb wb hcb hmb hownb hbb hgb; simp only [Nat.zero_add, List.nil_append] at hcb hownb; have hbb' : Below wa.heap.size wa wb := (bnew (Below.refl _ _) _).trans hbb; have hxb := hxa.next hbb'; have hb1b := bnext hb1a hbb')
                      | (go_at_call 12; go_fit (CY.out wb (hm.next hb1b)); rintro e wc ⟨rfl, hxc, hbc⟩; have hownc := own_below hownb hbc (Nat.le_refl _); have hxbc := hxb.next hbc; have hsz1 := hbb'.size; have hsz2 := hbc.size)
                      | (at_builtin; refine wpList_append_rdG rfl _ _ _ rfl wa.heap.size _ _ 16 Tryd.underlying28 info_strU rfl _ _ _ rfl hownc _ _ _ _ _ rfl (strs_len (cuts 46 y)).symm (fun h => by cases h) hxc (strs_one _) (by omega) (by decide) (by omega) ?_; intro Ad cd wd hcd hmd hownd hbd hgd; have hxd : Rd wd wd.heap.size Ad (strs (L ++ cuts 46 y)) := (by rw [strs_append]; exact Rd.own hownd); have hbcd : Below wa.heap.size wc wd := hbd; have hxbd := (hxbc.below (Below.refl wc.heap.size wc)); have hxad : Rd wd wd.heap.size (some ⟨wr.heap.size, 0, none⟩) (strs (L ++ cuts 46 y)) := ((hxa.below ((hbb'.trans (hbc.mono hbb'.size)).trans hbd)).mono (((hbb'.trans (hbc.mono hbb'.size)).trans hbd).size)); have hb1d := hb1a.trans (((hbb'.trans (hbc.mono hbb'.size)).trans hbd).mono hb1a.size))
                      | (go_at_call 11; go_fit (CS.out _ _ Ad cd wd hxad hxd); rintro e we ⟨rfl, hbe⟩))
                    go_ret
                    exact ⟨rfl, bnext hb1d hbe⟩
    · have hI : 60 < (b.length : Int) := by omega
      clear hb60
      go_enter Tryd.func7, Tryd.ntmps7
      go_wp2_with (go_at_call 8; go_must (go_fit (begun6_any w hm)); rintro e w1 ⟨rfl, hb1⟩; have ha1 := hra.next hb1; have hbb1 := hrb.next hb1)
      go_ret
      exact ⟨rfl, hb1⟩
  · have hI : 60 < (a.length : Int) := by omega
    clear ha60
    go_enter Tryd.func7, Tryd.ntmps7
    go_wp2_with (go_at_call 8; go_must (go_fit (begun6_any w hm)); rintro e w1 ⟨rfl, hb1⟩; have ha1 := hra.next hb1; have hbb1 := hrb.next hb1)
    go_ret
    exact ⟨rfl, hb1⟩
end Go.Proofs.YtfandijagdiggaaDoor
