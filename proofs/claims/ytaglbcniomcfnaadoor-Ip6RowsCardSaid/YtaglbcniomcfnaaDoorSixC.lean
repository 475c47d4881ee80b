/- ip6's reader: piece, byte. -/
import Derived.Test.YtaglbcniomcfnaaDoorSixB
namespace Go.Proofs.YtaglbcniomcfnaaDoor
set_option linter.all false
open Go.RowKit

theorem info_u16 : (Tryd.prog.info? 38).map (fun i => (i.zero, i.size, i.bytes)) = some (some (.int .u16 0), 1, 2) := by kernel_rfl
theorem u16_wrapN (n : Nat) : IntKind.u16.wrap (n : Int) = ((n % 65536 : Nat) : Int) := by
  simp [IntKind.wrap, IntKind.bits, IntKind.signed]
theorem Num.any {o : Option Nat} {e : Ending} (h : Num o e) : ∃ (n : Nat) (E : Value), e = .returned (.tuple #[.int .u64 (n : Int), E]) := by
  cases o with
  | some n => exact ⟨n, _, h⟩
  | none => obtain ⟨n, N, h⟩ := h; exact ⟨n, _, h⟩
theorem okPiece_no {d : List UInt8} (h : okPiece d = false) : d.length = 0 ∨ 4 < d.length := by
  have := of_decide_eq_false h
  omega
theorem takeWhile_all (P : UInt8 → Bool) : ∀ (s : List UInt8), (s.takeWhile P).all P = true := by
  intro s
  induction s with
  | nil => rfl
  | cons c t ih =>
    rw [List.takeWhile_cons]
    split
    · next h => rw [List.all_cons, h, ih]; rfl
    · rfl
theorem takeWhile_len (P : UInt8 → Bool) : ∀ (s : List UInt8), (s.takeWhile P).length ≤ s.length := by
  intro s
  induction s with
  | nil => exact Nat.le_refl _
  | cons c t ih =>
    rw [List.takeWhile_cons]
    split <;> simp <;> omega
theorem dropWhile_len (P : UInt8 → Bool) : ∀ (s : List UInt8), (s.dropWhile P).length ≤ s.length := by
  intro s
  induction s with
  | nil => exact Nat.le_refl _
  | cons c t ih =>
    rw [List.dropWhile_cons]
    split <;> simp <;> omega
theorem hexW_piece {d : List UInt8} (hs : d.all hexOk = true) (h : okPiece d = true) : hexW d = some (hexN d) ∧ hexN d < 65536 := by
  have hl := of_decide_eq_true h
  have hne : d ≠ [] := fun e => by rw [e] at hl; simp at hl
  unfold hexW
  rw [if_neg hne, hexG_small d 0 0 hs (by decide) (by omega)]
  refine ⟨rfl, ?_⟩
  have key : ∀ (l : List UInt8) (acc k : Nat), l.all hexOk = true → acc < 16 ^ k → l.foldl (fun n c => n * 16 + (hexV c).toNat) acc < 16 ^ (k + l.length) := by
    intro l
    induction l with
    | nil => intro acc k _ h; exact h
    | cons c t ih =>
      intro acc k hs h
      rw [List.all_cons, Bool.and_eq_true] at hs
      have := hexV16 hs.1
      rw [List.foldl_cons, List.length_cons, show k + (t.length + 1) = k + 1 + t.length by omega]
      exact ih _ _ hs.2 (by rw [Nat.pow_succ]; omega)
  have h1 := key d 0 0 hs (by decide)
  have h2 : (16 : Nat) ^ (0 + d.length) ≤ 16 ^ 4 := Nat.pow_le_pow_right (by decide) (by omega)
  exact Nat.lt_of_lt_of_le h1 (Nat.le_trans h2 (by decide))
theorem hexAll_is (c : UInt8) : decide (0 ≤ Lib.indexByte [48, 49, 50, 51, 52, 53, 54, 55, 56, 57, 97, 98, 99, 100, 101, 102, 65, 66, 67, 68, 69, 70] c) = hexOk c := by
  have key : ∀ n, n < 256 → decide (0 ≤ Lib.indexByte [48, 49, 50, 51, 52, 53, 54, 55, 56, 57, 97, 98, 99, 100, 101, 102, 65, 66, 67, 68, 69, 70] (UInt8.ofNat n)) = hexOk (UInt8.ofNat n) := by decide +kernel
  have := key c.toNat (byte_lt c)
  rwa [UInt8.ofNat_toNat] at this
theorem decAll_is (c : UInt8) : decide (0 ≤ Lib.indexByte [48, 49, 50, 51, 52, 53, 54, 55, 56, 57] c) = decOk c := by
  have key : ∀ n, n < 256 → decide (0 ≤ Lib.indexByte [48, 49, 50, 51, 52, 53, 54, 55, 56, 57] (UInt8.ofNat n)) = decOk (UInt8.ofNat n) := by decide +kernel
  have := key c.toNat (byte_lt c)
  rwa [UInt8.ofNat_toNat] at this

/-- The library's variables lie below block g. -/
def Low (g : Nat) : Prop := 2 < g ∧ 3 < g
theorem EV.low {w w' : World} {g : Nat} (h : EV w) (hg : Low g) (hb : Below g w w') : EV w' := by
  obtain ⟨⟨e1, h1, k1⟩, e2, h2, k2⟩ := h
  exact ⟨⟨e1, (hb.cell (p := ⟨_, 0, none⟩) hg.1).trans h1, k1⟩, e2, (hb.cell (p := ⟨_, 0, none⟩) hg.2).trans h2, k2⟩

section
variable {P : Program} {w : World} {ops : Array Oper} {rest : List Oper} {o : Oper} {a : Act} {Q : Exit → Act → World → Prop}
theorem wpList_append_litM (sz : Nat) (hsz' : w.heap.size = sz) (hgd : o.guard = none) (s x : Operand) (t : TypeId)
    (ho : o.op = .call { callee := .builtin .append, args := #[s, x], argTypes := #[t, t] })
    (base : Nat) (e : TypeId) (z : Value) (size bytes : Nat) (ht : P.underlying t = some (.slice e))
    (hinfo : (P.info? e).map (fun i => (i.zero, i.size, i.bytes)) = some (some z, size, bytes)) (hzs : z.cells.size = size) (hsz : 0 < size)
    (v : Value) (n : Nat) (xs : List Value) (hs : a.eval s = v) (hown : w.ownsRow base e size v n xs)
    (us : Array Value) (m c : Nat) (e' : TypeId) (hx : a.eval x = .slice (some ⟨sz, 0, none⟩) m c) (hl : us.size = m * size) (h1 : ∀ u ∈ us.toList, u.oneCell' = true)
    (h63 : n + m ≤ 1000000) (hb : bytes ≤ 1000) (hbase : base ≤ w.heap.size)
    (h : ∀ A' c' w', n + m ≤ c' → c' ≤ maxLen → w'.ownsRow base e size (.slice A' (n + m) c') (n + m) (xs ++ us.toList) → Below base w w' → w.grownBy w' v.ownBlock → wpList P ops Q rest (a.put o.dst (.slice A' (n + m) c')) w') :
    wpList P ops Q (o :: rest) a (w.alloc (.cells us e')) := by
  subst hsz'
  exact wpList_append_lit hgd s x t ho base e z size bytes ht hinfo hzs hsz v n xs hs hown us m c e' hx hl h1 h63 hb hbase h
end

-- The pieces' row takes one number more.
set_option maxRecDepth 100000 in
set_option maxHeartbeats 8000000 in
theorem piece6_any (g : Nat) (s : List UInt8) (ok : Bool) (l : List Nat) (gap : Int) (w : World) (h : RD w g s ok l gap) (hev : EV w) (hlow : Low g) (hs : s.length ≤ 100000) (hl : l.length ≤ 100000) :
    Calls Tryd.prog 52 #[.pointer (some ⟨g, 0, none⟩)] w fun e w' => e = .returned (.tuple #[]) ∧ ∃ x, RD w' g (s.dropWhile hexOk) (ok && okPiece (s.takeWhile hexOk)) (l ++ [x]) gap ∧ x < 65536 ∧ Hid (okPiece (s.takeWhile hexOk) = true → x = hexN (s.takeWhile hexOk)) ∧ Below g w w' := by
  obtain ⟨v0, hr0, ho0⟩ := h
  have C1 := Lib.hid ((digits6_any hexOk _ hexAll_is g s ok v0 gap w hr0 hs).mono fun e w' h' => (⟨h'.1, ⟨v0, h'.2.1, own_gb ho0 h'.2.2⟩, gb_below h'.2.2 hr0.lt⟩ : _ ∧ RD w' g _ ok l gap ∧ Below g w w'))
  have HD := Lib.hid (takeWhile_all hexOk s)
  have HL := takeWhile_len hexOk s
  obtain ⟨d, hd⟩ : ∃ d, d = s.takeWhile hexOk := ⟨_, rfl⟩
  obtain ⟨r, hr⟩ : ∃ r, r = s.dropWhile hexOk := ⟨_, rfl⟩
  rw [← hd] at C1 HD HL ⊢
  rw [← hr] at C1 ⊢
  clear hd hr
  have hsz := str_size d
  have C2 := Lib.hid fun w hev => puHex_any d HD.out (by omega) w hev
  cases hk : okPiece d with
  | true =>
    have hk2 := of_decide_eq_true hk
    obtain ⟨k1, k2⟩ := hexW_piece HD.out hk
    rw [k1] at C2
    obtain ⟨n, hn⟩ : ∃ n, n = hexN d := ⟨_, rfl⟩
    rw [← hn] at C2 k2
    have HN := Lib.hid hn
    obtain ⟨hk3, hk4⟩ := hk2
    have C2 := Lib.hid (show ∀ w, EV w → Calls Tryd.prog 64 #[.string (str d), .int .i64 16, .int .i64 64] w fun e w' => e = .returned (.tuple #[.int .u64 (n : Int), .nilIface]) ∧ Below w.heap.size w w' from C2.out)
    clear hk hn k1
    cases ok with
    | true =>
      go_enter Tryd.func52, Tryd.ntmps52
      go_wp2_with (first
        | (go_at_call 63; go_must (go_fit C1.out); rintro e w1 ⟨rfl, h1, hb1⟩; have hev1 := hev.low hlow hb1)
        | (go_at_call 64; go_must (go_fit (C2.out _ hev1)); rintro e w2 ⟨rfl, hb2⟩; obtain ⟨v, hr2, ho2⟩ := RD.next h1 hb2; obtain ⟨A2, c2, rfl, hc2, hm2⟩ := own_shape ho2; have d1 := hr2.c1; have f1 := hr2.fr 1; have d2 := hr2.c2; have hr3 := hr2.s1 true; have ho3 := own_setU (j := 1) (z := .bool true) ho2; have hq := u16_wrapN n; have hz3 := hr3.lt; have hgl := h1.lt)
        | (at_builtin; go_loud (refine wpList_append_litM _ (show _ = w2.heap.size by simp) rfl _ _ _ rfl (g + 1) _ _ 1 2 Tryd.underlying47 info_u16 rfl (by decide) _ _ _ rfl ho3 _ 1 1 _ rfl rfl (by simp [Value.oneCell']) (by omega) (by decide) (by first | omega | (simp; omega)) ?_; intro A5 c5 w5 hc5 hm5 hown5 hb5 hg5; have h5 := Rdr.keep hr3 (hb5.block g (Nat.lt_succ_self g)); have g2 := h5.c2; have gf := h5.fr 2)))
      go_end0
      refine ⟨rfl, n % 65536, ⟨_, h5.s2 _, own_setU (own_as hown5 (by simp) (by rw [u16s_append]; rfl))⟩, Nat.mod_lt _ (by decide), ?_, ((((hb1.trans (hb2.mono (Nat.le_of_lt hgl))).setCell (p := ⟨g, 1, none⟩) (Nat.le_refl g) _).trans (hb5.mono (Nat.le_succ g))).setCell (p := ⟨g, 2, none⟩) (Nat.le_refl g) _)⟩
      exact (Nat.mod_eq_of_lt k2).trans HN.out
    | false =>
      go_enter Tryd.func52, Tryd.ntmps52
      go_wp2_with (first
        | (go_at_call 63; go_must (go_fit C1.out); rintro e w1 ⟨rfl, h1, hb1⟩; have hev1 := hev.low hlow hb1)
        | (go_at_call 64; go_must (go_fit (C2.out _ hev1)); rintro e w2 ⟨rfl, hb2⟩; obtain ⟨v, hr2, ho2⟩ := RD.next h1 hb2; obtain ⟨A2, c2, rfl, hc2, hm2⟩ := own_shape ho2; have d1 := hr2.c1; have f1 := hr2.fr 1; have d2 := hr2.c2; have hr3 := hr2.s1 false; have ho3 := own_setU (j := 1) (z := .bool false) ho2; have hq := u16_wrapN n; have hz3 := hr3.lt; have hgl := h1.lt)
        | (at_builtin; go_loud (refine wpList_append_litM _ (show _ = w2.heap.size by simp) rfl _ _ _ rfl (g + 1) _ _ 1 2 Tryd.underlying47 info_u16 rfl (by decide) _ _ _ rfl ho3 _ 1 1 _ rfl rfl (by simp [Value.oneCell']) (by omega) (by decide) (by first | omega | (simp; omega)) ?_; intro A5 c5 w5 hc5 hm5 hown5 hb5 hg5; have h5 := Rdr.keep hr3 (hb5.block g (Nat.lt_succ_self g)); have g2 := h5.c2; have gf := h5.fr 2)))
      go_end0
      refine ⟨rfl, n % 65536, ⟨_, h5.s2 _, own_setU (own_as hown5 (by simp) (by rw [u16s_append]; rfl))⟩, Nat.mod_lt _ (by decide), ?_, ((((hb1.trans (hb2.mono (Nat.le_of_lt hgl))).setCell (p := ⟨g, 1, none⟩) (Nat.le_refl g) _).trans (hb5.mono (Nat.le_succ g))).setCell (p := ⟨g, 2, none⟩) (Nat.le_refl g) _)⟩
      exact (Nat.mod_eq_of_lt k2).trans HN.out
  | false =>
    have hk2 := okPiece_no hk
    have C2 := Lib.hid (show ∀ w, EV w → Calls Tryd.prog 64 #[.string (str d), .int .i64 16, .int .i64 64] w fun e w' => (∃ (n : Nat) (E : Value), e = .returned (.tuple #[.int .u64 (n : Int), E])) ∧ Below w.heap.size w w' from fun w h => (C2.out w h).mono fun e w' ⟨he, hb⟩ => ⟨he.any, hb⟩)
    clear hk
    cases ok with
    | true =>
      rw [Bool.and_false]
      rcases hk2 with hk2 | hk2
      · skip
        go_enter Tryd.func52, Tryd.ntmps52
        go_wp2_with (first
          | (go_at_call 63; go_must (go_fit C1.out); rintro e w1 ⟨rfl, h1, hb1⟩; have hev1 := hev.low hlow hb1)
          | (go_at_call 64; go_must (go_fit (C2.out _ hev1)); rintro e w2 ⟨⟨n, E, rfl⟩, hb2⟩; obtain ⟨v, hr2, ho2⟩ := RD.next h1 hb2; obtain ⟨A2, c2, rfl, hc2, hm2⟩ := own_shape ho2; have d1 := hr2.c1; have f1 := hr2.fr 1; have d2 := hr2.c2; have hr3 := hr2.s1 false; have ho3 := own_setU (j := 1) (z := .bool false) ho2; have hq := u16_wrapN n; have hz3 := hr3.lt; have hgl := h1.lt)
          | (at_builtin; go_loud (refine wpList_append_litM _ (show _ = w2.heap.size by simp) rfl _ _ _ rfl (g + 1) _ _ 1 2 Tryd.underlying47 info_u16 rfl (by decide) _ _ _ rfl ho3 _ 1 1 _ rfl rfl (by simp [Value.oneCell']) (by omega) (by decide) (by first | omega | (simp; omega)) ?_; intro A5 c5 w5 hc5 hm5 hown5 hb5 hg5; have h5 := Rdr.keep hr3 (hb5.block g (Nat.lt_succ_self g)); have g2 := h5.c2; have gf := h5.fr 2)))
        go_end0
        refine ⟨rfl, n % 65536, ⟨_, h5.s2 _, own_setU (own_as hown5 (by simp) (by rw [u16s_append]; rfl))⟩, Nat.mod_lt _ (by decide), ?_, ((((hb1.trans (hb2.mono (Nat.le_of_lt hgl))).setCell (p := ⟨g, 1, none⟩) (Nat.le_refl g) _).trans (hb5.mono (Nat.le_succ g))).setCell (p := ⟨g, 2, none⟩) (Nat.le_refl g) _)⟩
        exact trivial
      · skip
        go_enter Tryd.func52, Tryd.ntmps52
        go_wp2_with (first
          | (go_at_call 63; go_must (go_fit C1.out); rintro e w1 ⟨rfl, h1, hb1⟩; have hev1 := hev.low hlow hb1)
          | (go_at_call 64; go_must (go_fit (C2.out _ hev1)); rintro e w2 ⟨⟨n, E, rfl⟩, hb2⟩; obtain ⟨v, hr2, ho2⟩ := RD.next h1 hb2; obtain ⟨A2, c2, rfl, hc2, hm2⟩ := own_shape ho2; have d1 := hr2.c1; have f1 := hr2.fr 1; have d2 := hr2.c2; have hr3 := hr2.s1 false; have ho3 := own_setU (j := 1) (z := .bool false) ho2; have hq := u16_wrapN n; have hz3 := hr3.lt; have hgl := h1.lt)
          | (at_builtin; go_loud (refine wpList_append_litM _ (show _ = w2.heap.size by simp) rfl _ _ _ rfl (g + 1) _ _ 1 2 Tryd.underlying47 info_u16 rfl (by decide) _ _ _ rfl ho3 _ 1 1 _ rfl rfl (by simp [Value.oneCell']) (by omega) (by decide) (by first | omega | (simp; omega)) ?_; intro A5 c5 w5 hc5 hm5 hown5 hb5 hg5; have h5 := Rdr.keep hr3 (hb5.block g (Nat.lt_succ_self g)); have g2 := h5.c2; have gf := h5.fr 2)))
        go_end0
        refine ⟨rfl, n % 65536, ⟨_, h5.s2 _, own_setU (own_as hown5 (by simp) (by rw [u16s_append]; rfl))⟩, Nat.mod_lt _ (by decide), ?_, ((((hb1.trans (hb2.mono (Nat.le_of_lt hgl))).setCell (p := ⟨g, 1, none⟩) (Nat.le_refl g) _).trans (hb5.mono (Nat.le_succ g))).setCell (p := ⟨g, 2, none⟩) (Nat.le_refl g) _)⟩
        exact trivial
    | false =>
      rw [Bool.and_false]
      go_enter Tryd.func52, Tryd.ntmps52
      go_wp2_with (first
        | (go_at_call 63; go_must (go_fit C1.out); rintro e w1 ⟨rfl, h1, hb1⟩; have hev1 := hev.low hlow hb1)
        | (go_at_call 64; go_must (go_fit (C2.out _ hev1)); rintro e w2 ⟨⟨n, E, rfl⟩, hb2⟩; obtain ⟨v, hr2, ho2⟩ := RD.next h1 hb2; obtain ⟨A2, c2, rfl, hc2, hm2⟩ := own_shape ho2; have d1 := hr2.c1; have f1 := hr2.fr 1; have d2 := hr2.c2; have hr3 := hr2.s1 false; have ho3 := own_setU (j := 1) (z := .bool false) ho2; have hq := u16_wrapN n; have hz3 := hr3.lt; have hgl := h1.lt)
        | (at_builtin; go_loud (refine wpList_append_litM _ (show _ = w2.heap.size by simp) rfl _ _ _ rfl (g + 1) _ _ 1 2 Tryd.underlying47 info_u16 rfl (by decide) _ _ _ rfl ho3 _ 1 1 _ rfl rfl (by simp [Value.oneCell']) (by omega) (by decide) (by first | omega | (simp; omega)) ?_; intro A5 c5 w5 hc5 hm5 hown5 hb5 hg5; have h5 := Rdr.keep hr3 (hb5.block g (Nat.lt_succ_self g)); have g2 := h5.c2; have gf := h5.fr 2)))
      go_end0
      refine ⟨rfl, n % 65536, ⟨_, h5.s2 _, own_setU (own_as hown5 (by simp) (by rw [u16s_append]; rfl))⟩, Nat.mod_lt _ (by decide), ?_, ((((hb1.trans (hb2.mono (Nat.le_of_lt hgl))).setCell (p := ⟨g, 1, none⟩) (Nat.le_refl g) _).trans (hb5.mono (Nat.le_succ g))).setCell (p := ⟨g, 2, none⟩) (Nat.le_refl g) _)⟩
      exact trivial

theorem decW_none {d : List UInt8} (h : decW d = none) : okByte d = false := by
  unfold decW at h
  unfold okByte
  rw [decide_eq_false]
  rintro ⟨h1, h2, _⟩
  rw [if_neg (by rintro (h3 | h3); exact h1 h3; omega)] at h
  cases h
theorem decW_some {d : List UInt8} {n : Nat} (h : decW d = some n) : n = decN d ∧ d ≠ [] := by
  unfold decW at h
  by_cases h0 : d = [] ∨ 2 ^ 64 ≤ decN d
  · rw [if_pos h0] at h; cases h
  · rw [if_neg h0] at h
    injection h with h
    exact ⟨h.symm, fun e => h0 (.inl e)⟩
theorem okByte_big {d : List UInt8} (h : 256 ≤ decN d) : okByte d = false := decide_eq_false (by rintro ⟨_, h2, _⟩; omega)
theorem okByte_front {d : List UInt8} (h0 : d ≠ []) (h : decN d < 256) (h1 : d ≠ [48]) : okByte d = decide (gb d 0 ≠ 48) := by
  cases d with
  | nil => exact absurd rfl h0
  | cons c t =>
    unfold okByte
    rw [show gb (c :: t) 0 = c from rfl, Bool.eq_iff_iff, decide_eq_true_eq, decide_eq_true_eq]
    constructor
    · rintro ⟨_, _, h2 | h2⟩
      · exact absurd h2 h1
      · intro e; exact h2 (by rw [e]; rfl)
    · intro h2
      exact ⟨h0, h, .inr (fun e => h2 (by injection e))⟩

set_option maxRecDepth 100000 in
set_option maxHeartbeats 8000000 in
theorem byte6_any (g : Nat) (s : List UInt8) (ok : Bool) (v : Value) (gap : Int) (w : World) (h : Rdr w g s ok v gap) (hev : EV w) (hlow : Low g) (hs : s.length ≤ 100000) :
    Calls Tryd.prog 62 #[.pointer (some ⟨g, 0, none⟩)] w fun e w' => ∃ x : Nat, e = .returned (.int .u16 (x : Int)) ∧ x < 65536 ∧ Hid (okByte (s.takeWhile decOk) = true → x = decN (s.takeWhile decOk)) ∧ Rdr w' g (s.dropWhile decOk) (ok && okByte (s.takeWhile decOk)) v gap ∧ w.grownBy w' (some g) := by
  have hgw := h.lt
  have C1 := Lib.hid (digits6_any decOk _ decAll_is g s ok v gap w h hs)
  have HD := Lib.hid (takeWhile_all decOk s)
  have HL := takeWhile_len decOk s
  obtain ⟨d, hd⟩ : ∃ d, d = s.takeWhile decOk := ⟨_, rfl⟩
  obtain ⟨r, hr⟩ : ∃ r, r = s.dropWhile decOk := ⟨_, rfl⟩
  rw [← hd] at C1 HD HL ⊢
  rw [← hr] at C1 ⊢
  clear hd hr
  have hsz := str_size d
  have hgt := str_get d
  have htl := str_toL d
  have C2 := Lib.hid fun w hev => puDec_any d HD.out (by omega) w hev
  cases ok with
  | false =>
    rw [Bool.false_and]
    have C2 := Lib.hid (show ∀ w, EV w → Calls Tryd.prog 64 #[.string (str d), .int .i64 10, .int .i64 64] w fun e w' => (∃ (n : Nat) (E : Value), e = .returned (.tuple #[.int .u64 (n : Int), E]) ∧ Hid (decW d = some n ∨ okByte d = false)) ∧ Below w.heap.size w w' from fun w h => (C2.out w h).mono fun e w' ⟨he, hb⟩ => ⟨by
      cases hw : decW d with
      | some n => rw [hw] at he; exact ⟨n, _, he, .inl rfl⟩
      | none => rw [hw] at he; obtain ⟨n, N, he⟩ := he; exact ⟨n, _, he, .inr (decW_none hw)⟩, hb⟩)
    go_enter Tryd.func62, Tryd.ntmps62
    go_wp2_with (first
      | (go_at_call 63; go_must (go_fit C1.out); rintro e w1 ⟨rfl, h1, hb1⟩; have hev1 := hev.low hlow (gb_below hb1 hgw))
      | (go_at_call 64; go_must (go_fit (C2.out _ hev1)); rintro e w2 ⟨⟨n, E, rfl, hn⟩, hb2⟩; have h2 := Rdr.next h1 hb2; have d1 := h2.c1; have f1 := h2.fr 1; have hq := u16_wrapN n))
    go_ret
    refine ⟨n % 65536, rfl, Nat.mod_lt _ (by decide), ?_, h2.s1 false, (hb1.trans (below_gb hb2 _)).trans (set_gb _ _ _ _)⟩
    intro hk
    rcases hn.out with hn | hn
    · have e1 := (decW_some hn).1
      have := of_decide_eq_true hk
      rw [Nat.mod_eq_of_lt (by omega)]
      exact e1
    · rw [hn] at hk; cases hk
  | true =>
    rw [Bool.true_and]
    cases hw : decW d with
    | none =>
      rw [hw] at C2
      rw [decW_none hw]
      have C2 := Lib.hid (show ∀ w, EV w → Calls Tryd.prog 64 #[.string (str d), .int .i64 10, .int .i64 64] w fun e w' => (∃ (n N : Nat), e = .returned (.tuple #[.int .u64 (n : Int), .iface 117 (.pointer (some ⟨N, 0, none⟩))])) ∧ Below w.heap.size w w' from C2.out)
      clear hw
      go_enter Tryd.func62, Tryd.ntmps62
      go_wp2_with (first
        | (go_at_call 63; go_must (go_fit C1.out); rintro e w1 ⟨rfl, h1, hb1⟩; have hev1 := hev.low hlow (gb_below hb1 hgw))
        | (go_at_call 64; go_must (go_fit (C2.out _ hev1)); rintro e w2 ⟨⟨n, N, rfl⟩, hb2⟩; have h2 := Rdr.next h1 hb2; have d1 := h2.c1; have f1 := h2.fr 1; have hq := u16_wrapN n))
      go_ret
      refine ⟨n % 65536, rfl, Nat.mod_lt _ (by decide), ?_, h2.s1 false, (hb1.trans (below_gb hb2 _)).trans (set_gb _ _ _ _)⟩
      first | exact trivial | exact (fun h => absurd h (by decide))
    | some n =>
      rw [hw] at C2
      obtain ⟨hn, hne⟩ := decW_some hw
      have C2 := Lib.hid (show ∀ w, EV w → Calls Tryd.prog 64 #[.string (str d), .int .i64 10, .int .i64 64] w fun e w' => e = .returned (.tuple #[.int .u64 (n : Int), .nilIface]) ∧ Below w.heap.size w w' from C2.out)
      clear hw
      have HN := Lib.hid hn
      by_cases h256 : 256 ≤ n
      · rw [okByte_big (by omega)]
        clear hn
        go_enter Tryd.func62, Tryd.ntmps62
        go_wp2_with (first
          | (go_at_call 63; go_must (go_fit C1.out); rintro e w1 ⟨rfl, h1, hb1⟩; have hev1 := hev.low hlow (gb_below hb1 hgw))
          | (go_at_call 64; go_must (go_fit (C2.out _ hev1)); rintro e w2 ⟨rfl, hb2⟩; have h2 := Rdr.next h1 hb2; have d1 := h2.c1; have f1 := h2.fr 1; have hq := u16_wrapN n))
        go_ret
        refine ⟨n % 65536, rfl, Nat.mod_lt _ (by decide), ?_, h2.s1 false, (hb1.trans (below_gb hb2 _)).trans (set_gb _ _ _ _)⟩
        first | exact trivial | exact (fun h => absurd h (by decide))
      · have h256' : n < 256 := by omega
        by_cases h48 : d = [48]
        · have hk : okByte d = true := by rw [h48]; decide
          rw [hk]
          have q1 : (d == [48]) = true := by rw [h48]; rfl
          clear hn h256 h48 hne
          go_enter Tryd.func62, Tryd.ntmps62
          go_wp2_with (first
            | (go_at_call 63; go_must (go_fit C1.out); rintro e w1 ⟨rfl, h1, hb1⟩; have hev1 := hev.low hlow (gb_below hb1 hgw))
            | (go_at_call 64; go_must (go_fit (C2.out _ hev1)); rintro e w2 ⟨rfl, hb2⟩; have h2 := Rdr.next h1 hb2; have d1 := h2.c1; have f1 := h2.fr 1; have hq := u16_wrapN n))
          go_ret
          refine ⟨n % 65536, rfl, Nat.mod_lt _ (by decide), ?_, h2.s1 true, (hb1.trans (below_gb hb2 _)).trans (set_gb _ _ _ _)⟩
          exact (fun _ => (Nat.mod_eq_of_lt (show n < 65536 by omega)).trans HN.out)
        · have q1 : (d == [48]) = false := by rw [beq_eq_false_iff_ne]; exact h48
          have hlen : 0 < d.length := List.length_pos_iff.2 hne
          have hlen1 : (0 : Int) < (d.length : Int) := by omega
          rw [okByte_front hne (by omega) h48]
          by_cases hf : gb d 0 = 48
          · have q2 : (((gb d 0).toNat : Int) != 48) = false := by rw [hf]; rfl
            have q3 : ((gb d 0).toNat : Int) = 48 := by rw [hf]; rfl
            rw [decide_eq_false (fun h => h hf)]
            clear hn h256 h48 hne hf
            go_enter Tryd.func62, Tryd.ntmps62
            go_wp2_with (first
              | (go_at_call 63; go_must (go_fit C1.out); rintro e w1 ⟨rfl, h1, hb1⟩; have hev1 := hev.low hlow (gb_below hb1 hgw))
              | (go_at_call 64; go_must (go_fit (C2.out _ hev1)); rintro e w2 ⟨rfl, hb2⟩; have h2 := Rdr.next h1 hb2; have d1 := h2.c1; have f1 := h2.fr 1; have hq := u16_wrapN n))
            go_ret
            refine ⟨n % 65536, rfl, Nat.mod_lt _ (by decide), ?_, h2.s1 false, (hb1.trans (below_gb hb2 _)).trans (set_gb _ _ _ _)⟩
            first | exact trivial | exact (fun h => absurd h (by decide))
          · have q2 : (((gb d 0).toNat : Int) != 48) = true := by
              rw [bne_iff_ne]
              intro e
              exact hf (byte_ext (show (gb d 0).toNat = 48 by omega))
            rw [decide_eq_true (show gb d 0 ≠ 48 from hf)]
            clear hn h256 h48 hne hf
            go_enter Tryd.func62, Tryd.ntmps62
            go_wp2_with (first
              | (go_at_call 63; go_must (go_fit C1.out); rintro e w1 ⟨rfl, h1, hb1⟩; have hev1 := hev.low hlow (gb_below hb1 hgw))
              | (go_at_call 64; go_must (go_fit (C2.out _ hev1)); rintro e w2 ⟨rfl, hb2⟩; have h2 := Rdr.next h1 hb2; have d1 := h2.c1; have f1 := h2.fr 1; have hq := u16_wrapN n))
            go_ret
            refine ⟨n % 65536, rfl, Nat.mod_lt _ (by decide), ?_, h2.s1 true, (hb1.trans (below_gb hb2 _)).trans (set_gb _ _ _ _)⟩
            exact (fun _ => (Nat.mod_eq_of_lt (show n < 65536 by omega)).trans HN.out)
end Go.Proofs.YtaglbcniomcfnaaDoor

