/- The walks of rules.Strip: Clone, IndexFunc, DeleteFunc at pairs. -/
import Derived.Test.YtpoaeppapmbkpaaDoorRulB
import Derived.Test.YtpoaeppapmbkpaaDoorAppN
namespace Go.Proofs.YtpoaeppapmbkpaaDoor
set_option linter.all false
open Go.RowKit

theorem own_shrink {w : World} {base g cap n i size : Nat} {e : TypeId} {xs : List Value} (h : w.ownsRow base e size (.slice (some ⟨g, 0, none⟩) n cap) n xs) (hi : i ≤ n) :
    w.ownsRow base e size (.slice (some ⟨g, 0, none⟩) i cap) i (xs.take (i * size)) := by
  have hle : i * size ≤ n * size := Nat.mul_le_mul_right _ hi
  obtain ⟨hl, h2⟩ := h
  rcases h2 with ⟨h0, _⟩ | ⟨g', cap', cur, hv, hg, hh, hn, hcap, hsz, htake⟩
  · cases h0
  · cases hv
    refine ⟨by rw [List.length_take]; omega, .inr ⟨g, cap, cur, rfl, hg, hh, by omega, hcap, hsz, ?_⟩⟩
    rw [← htake, List.take_take, Nat.min_eq_left hle]
theorem own_sets {base g cap i size : Nat} {e : TypeId} {xs : List Value} : ∀ (vs : List Value) (o : Nat) (w : World), i * size ≤ o → w.ownsRow base e size (.slice (some ⟨g, 0, none⟩) i cap) i xs →
    (w.setCells g o vs).ownsRow base e size (.slice (some ⟨g, 0, none⟩) i cap) i xs
  | [], _, _, _, h => h
  | v :: r, o, w, ho, h => by
    refine own_sets r (o + 1) _ (by omega) ?_
    have hs := (h.stored o v).1
    rw [List.set_eq_of_length_le (by rw [h.1]; exact ho)] at hs
    exact hs
theorem below_setsP {B g : Nat} (hg : B ≤ g) : ∀ (vs : List Value) (o : Nat) (a w : World), Below B a w → Below B a (w.setCells g o vs)
  | [], _, _, _, h => h
  | v :: r, o, a, w, h => below_setsP hg r (o + 1) a _ (h.setCell hg v)
theorem prs_take (l : List Pr) (i : Nat) : (prs l).take (i * 2) = prs (l.take i) := by
  induction l generalizing i with
  | nil => simp [prs]
  | cons p l ih =>
    cases i with
    | zero => simp [prs]
    | succ i =>
      have e : prs (p :: l) = Value.string (str p.1) :: Value.string (str p.2) :: prs l := by unfold prs; rw [List.flatMap_cons]; rfl
      rw [e, show (i + 1) * 2 = i * 2 + 1 + 1 from by omega, List.take_succ_cons, List.take_succ_cons, ih, List.take_succ_cons]
      unfold prs; rw [List.flatMap_cons]; rfl
theorem prs_set {l : List Pr} {i : Nat} (hi : i < l.length) (p : Pr) : ((prs l).set (i * 2) (.string (str p.1))).set (i * 2 + 1) (.string (str p.2)) = prs (l.set i p) := by
  induction l generalizing i with
  | nil => simp at hi
  | cons q l ih =>
    have e : ∀ (q : Pr) l, prs (q :: l) = Value.string (str q.1) :: Value.string (str q.2) :: prs l := fun q l => by unfold prs; rw [List.flatMap_cons]; rfl
    cases i with
    | zero =>
      show (([Value.string (str q.1), Value.string (str q.2)] ++ prs l).set 0 _).set 1 _ = prs (p :: l)
      rw [e]; rfl
    | succ i =>
      rw [e, List.set_cons_succ, e, ← ih (i := i) (by simpa using hi), show (i + 1) * 2 = i * 2 + 2 from by omega]
      rfl

theorem zero_pair : ∀ w : World, (zeroValue 25).run Tryd.prog w = .ok (.agg #[.string ⟨#[]⟩, .string ⟨#[]⟩]) w := fun w => by kernel_rfl
theorem run_clear_pairs (w : World) (ty : TypeId) (g o n c : Nat) (hn : 0 < n) (hc : ∀ j, j < n * 2 → (w.cell? ⟨g, o + j, none⟩).isSome = true) (hf : ∀ j, j < n * 2 → w.frozen? ⟨g, o + j, none⟩ = false) :
    (Builtin.clear_ #[22] ty #[.slice (some ⟨g, o, none⟩) n c]).run Tryd.prog w = .ok (.tuple #[]) (w.setCells g o (Builtin.zeroCells #[.string ⟨#[]⟩, .string ⟨#[]⟩] n).toList) := by
  have hl : (Builtin.zeroCells #[Value.string ⟨#[]⟩, .string ⟨#[]⟩] n).toList.length = n * 2 := by simp [Builtin.zeroCells]
  have hst := run_storeCells_cells (P := Tryd.prog) g o (Builtin.zeroCells #[Value.string ⟨#[]⟩, .string ⟨#[]⟩] n).toList 0 w (by rw [hl]; simpa using hc) (by rw [hl]; simpa using hf) (by
    intro v hv
    unfold Builtin.zeroCells at hv
    rw [Array.toList_map] at hv
    obtain ⟨i, _, rfl⟩ := List.mem_map.1 hv
    have : i % 2 = 0 ∨ i % 2 = 1 := by omega
    rcases this with h | h <;> simp [h, Value.oneCell'])
  rw [Nat.add_zero] at hst
  obtain ⟨m, rfl⟩ : ∃ m, n = m + 1 := ⟨n - 1, by omega⟩
  have hz : (Value.agg #[Value.string ⟨#[]⟩, .string ⟨#[]⟩]).cells = #[.string ⟨#[]⟩, .string ⟨#[]⟩] := by simp [Value.cells]
  simp [Builtin.clear_, run_underlying Tryd.underlying22, zero_pair, hz, hst]

set_option maxRecDepth 100000 in
set_option maxHeartbeats 4000000 in
theorem cloneP_any (A : Option Addr) (c : Nat) (l : List Pr) (w : World) (hr : Rd w w.heap.size A (prs l)) (hl : l.length ≤ 1000000) :
    Calls Tryd.prog 64 #[.slice A l.length c] w fun e w' => ∃ v, e = .returned v ∧ w'.ownsRow w.heap.size 25 2 v l.length (prs l) ∧ Below w.heap.size w w' := by
  have hlen := prs_len l
  have HO := Lib.hid (prs_one l)
  have hq : ∀ (w : World) (a : Option Addr) (n c n' c' : Nat), (binOp .eql 22 (.slice a n c) (.slice none n' c')).run Tryd.prog w = .ok (.bool a.isNone) w := fun w a n c n' c' => Lib.run_eql_slice_nil w _ _ a n c n' c' Tryd.underlying22
  cases A with
  | none =>
    have h0 : l = [] := by
      cases l with
      | nil => rfl
      | cons p l => obtain ⟨_, _, e, _⟩ := hr (by rw [hlen]; simp); cases e
    subst h0
    clear hlen
    go_enter Tryd.func64, Tryd.ntmps64
    go_wp2
    go_ret
    exact ⟨_, rfl, World.ownsRow_nil _ _ _ _, Below.refl _ _⟩
  | some a =>
    go_enter Tryd.func64, Tryd.ntmps64
    go_wp2_with (at_builtin; refine wpList_append_rdN rfl _ _ _ rfl w.heap.size _ _ 2 32 Tryd.underlying22 info_pair rfl (by decide) _ 0 [] rfl (show (w.alloc (.cells #[] 25)).ownsRow w.heap.size 25 2 (.slice (some ⟨w.heap.size, 0, none⟩) 0 0) 0 [] from World.ownsRow_made w #[] 0 (Nat.le_refl _) (Nat.zero_le _) rfl) _ (some a) l.length c (prs l) rfl hlen (hr.new _) HO.out (by omega) (by decide) (by simp) ?_; intro A5 c5 w5 hc5 hq5 hown5 hb5 hg5; simp only [Nat.zero_add, List.nil_append] at hown5 hc5)
    go_ret
    exact ⟨_, rfl, hown5, (bnew (Below.refl _ _) _).trans hb5⟩

set_option maxRecDepth 100000 in
set_option maxHeartbeats 4000000 in
theorem strip1_any (g : Nat) (p : Pr) (A : Option Addr) (c : Nat) (rs : List Ru) (w : World) (hc : w.cell? ⟨g, 0, none⟩ = some (.slice A rs.length c)) (hr : Rd w w.heap.size A (rls rs)) (hl : rs.length ≤ 1000000) (hp : ∀ p ∈ rs, p.1.length ≤ 1000000) (hpn : p.1.length ≤ 1000000) :
    Calls Tryd.prog 65 #[.agg #[.string (str p.1), .string (str p.2)], .pointer (some ⟨g, 0, none⟩)] w fun e w' => e = .returned (.bool (rOut p.1 rs)) ∧ Below w.heap.size w w' := by
  have hg : g < w.heap.size := World.block_lt_of_cell? _ _ hc
  have hc0 : (w.alloc (.cells #[.string (str p.1), .string (str p.2)] 25)).cell? ⟨g, 0, none⟩ = some (.slice A rs.length c) := by
    rw [World.cell?_alloc_lt w _ _ hg]; exact hc
  have C := Lib.hid (out_any p A c rs (w.alloc (.cells #[.string (str p.1), .string (str p.2)] 25)) (hr.new _) hl hp hpn)
  go_enter Tryd.func65, Tryd.ntmps65
  go_wp2_with (go_at_call 36; go_must (go_fit C.out); rintro e w1 ⟨rfl, hb1⟩)
  go_ret
  exact ⟨rfl, bnext (bnew (Below.refl _ _) _) hb1⟩

def drops (rs : List Ru) (p : Pr) : Bool := rOut p.1 rs
theorem rStrip_eq (l : List Pr) (rs : List Ru) : rStrip l rs = l.filter fun p => !drops rs p := rfl

set_option maxRecDepth 100000 in
set_option maxHeartbeats 4000000 in
theorem idxP_any (g B : Nat) (Ar : Option Addr) (cr : Nat) (rs : List Ru) (A : Option Addr) (c : Nat) (l : List Pr) (w : World) (hr : Rd w w.heap.size A (prs l)) (hc : w.cell? ⟨g, 0, none⟩ = some (.slice Ar rs.length cr)) (hrr : Rd w w.heap.size Ar (rls rs))
    (hl : l.length ≤ 1000000) (hrl : rs.length ≤ 1000000) (hrp : ∀ p ∈ rs, p.1.length ≤ 1000000) (hp : ∀ p ∈ l, p.1.length ≤ 1000000) :
    Calls Tryd.prog 83 #[.slice A l.length c, .func (.func 65) #[] #[.pointer (some ⟨g, 0, none⟩)]] w fun e w' => ∃ i : Int, e = .returned (.int .i64 i) ∧
      Hid ((i = -1 ∧ l.any (drops rs) = false) ∨ ∃ k : Nat, i = k ∧ k < l.length ∧ (l.take k).any (drops rs) = false ∧ ∃ p, l[k]? = some p ∧ drops rs p = true) ∧ Below w.heap.size w w' := by
  have HP := Lib.hid hp
  have HR := Lib.hid hrp
  clear hp hrp
  have hg : g < w.heap.size := World.block_lt_of_cell? _ _ hc
  go_enter Tryd.func83, Tryd.ntmps83
  go_wp2
  go_loopg [8] (l.length) (fun k i wr => ∃ j : Nat, k = l.length - j ∧ j ≤ l.length ∧ i = .int .i64 j ∧ Hid ((l.take j).any (drops rs) = false) ∧ Below w.heap.size w wr)
  case atStart => exact ⟨0, rfl, Nat.zero_le _, rfl, rfl, Below.refl _ _⟩
  case round =>
    obtain ⟨j, rfl, hj, rfl, hn, hbel⟩ := hrel
    by_cases hlt : j < l.length
    · obtain ⟨b, off, x, rfl, hb, hc1, hc2, hx⟩ := (hr.below hbel).pair_at hlt
      have hlt1 : (j : Int) < (l.length : Int) := by omega
      have hj0 : (0 : Int) ≤ (j : Int) := by omega
      have C := Lib.hid (strip1_any g x Ar cr rs wr (cell_on hbel hc hg) (hrr.next hbel) hrl HR.out (HP.out x (List.mem_of_getElem? hx.out)))
      by_cases hp : rOut x.1 rs = true
      · have HQ := Lib.hid hp
        rw [hp] at C
        clear hp
        go_wp2_with (go_at_call 65; go_must (go_fit C.out); rintro e w1 ⟨rfl, hb1⟩)
        go_ret
        exact ⟨_, rfl, .inr ⟨j, rfl, hlt, hn.out, x, hx.out, HQ.out⟩, bnext hbel hb1⟩
      · have hp := Bool.eq_false_iff.2 hp
        have HQ := Lib.hid hp
        rw [hp] at C
        clear hp
        go_wp2_with (go_at_call 65; go_must (go_fit C.out); rintro e w1 ⟨rfl, hb1⟩)
        go_roundg (l.length - (j + 1))
        case measure => omega
        case rel => exact ⟨j + 1, rfl, by omega, by go_num, any_takeG hx.out hn.out HQ.out, bnext hbel hb1⟩
    · obtain rfl : j = l.length := by omega
      go_wp2
      go_ret
      have h := hn.out
      rw [List.take_length] at h
      exact ⟨_, rfl, .inl ⟨rfl, h⟩, hbel⟩

theorem filter_none {l : List Pr} {rs : List Ru} (h : l.any (drops rs) = false) : rStrip l rs = l := by
  rw [rStrip_eq]
  exact List.filter_eq_self.2 fun p hp => by
    rw [List.any_eq_false] at h
    have := h p hp
    simpa using this
theorem first_uniq {α : Type} {P : α → Bool} {l : List α} {k k' : Nat} (h1 : (l.take k).any P = false) (h2 : ∃ p, l[k]? = some p ∧ P p = true) (h1' : (l.take k').any P = false) (h2' : ∃ p, l[k']? = some p ∧ P p = true) : k = k' := by
  have key : ∀ {a b : Nat}, (l.take b).any P = false → (∃ p, l[a]? = some p ∧ P p = true) → ¬ a < b := by
    rintro a b h ⟨p, hp, hq⟩ hab
    rw [List.any_eq_false] at h
    exact h p (List.mem_of_getElem? (i := a) (by rw [List.getElem?_take, if_pos hab]; exact hp)) hq
  have := key h1' h2
  have := key h1 h2'
  omega
theorem first_is {α : Type} {P : α → Bool} : ∀ {l : List α}, l.any P = true → ∃ k, k < l.length ∧ (l.take k).any P = false ∧ ∃ p, l[k]? = some p ∧ P p = true := by
  intro l
  induction l with
  | nil => intro h; cases h
  | cons x l ih =>
    intro h
    by_cases hx : P x = true
    · exact ⟨0, by simp, rfl, x, rfl, hx⟩
    · have hx' := Bool.eq_false_iff.2 hx
      rw [List.any_cons, hx', Bool.false_or] at h
      obtain ⟨k, h1, h2, p, h3, h4⟩ := ih h
      exact ⟨k + 1, by simp; omega, by rw [List.take_succ_cons, List.any_cons, hx', h2]; rfl, p, h3, h4⟩
def keeps (rs : List Ru) (p : Pr) : Bool := !drops rs p
theorem set_take_drop {α : Type} {Z : List α} {i j : Nat} (p : α) (hi : i < Z.length) (hij : i ≤ j) : (Z.set i p).take (i + 1) = Z.take i ++ [p] ∧ (Z.set i p).drop (j + 1) = Z.drop (j + 1) := by
  refine ⟨?_, ?_⟩
  · rw [take_snoc' _ i (by rw [List.length_set]; exact hi), List.getElem_set_self, List.take_set_of_le (Nat.le_refl _)]
  · rw [List.drop_set_of_lt (by omega)]

set_option maxRecDepth 100000 in
set_option maxHeartbeats 16000000 in
theorem del_any (g base : Nat) (Ar : Option Addr) (cr : Nat) (rs : List Ru) (v : Value) (l : List Pr) (w : World) (hown : w.ownsRow base 25 2 v l.length (prs l)) (hc : w.cell? ⟨g, 0, none⟩ = some (.slice Ar rs.length cr)) (hg : g < base) (hrr : Rd w base Ar (rls rs)) (hbw : base ≤ w.heap.size)
    (hl : l.length ≤ 100000) (hrl : rs.length ≤ 1000000) (hrp : ∀ p ∈ rs, p.1.length ≤ 1000000) (hp : ∀ p ∈ l, p.1.length ≤ 1000000) :
    Calls Tryd.prog 63 #[v, .func (.func 65) #[] #[.pointer (some ⟨g, 0, none⟩)]] w fun e w' =>
      ∃ v', e = .returned v' ∧ w'.ownsRow base 25 2 v' (rStrip l rs).length (prs (rStrip l rs)) ∧ Below base w w' := by
  have HP := Lib.hid hp
  have HR := Lib.hid hrp
  obtain ⟨A, c, e0, hlc, hcm, hrd⟩ := own_rdN hown
  subst e0
  have C1 := Lib.hid (idxP_any g 0 Ar cr rs A c l w hrd hc (hrr.mono hbw) (by omega) hrl hrp hp)
  clear hp hrp
  by_cases hany : l.any (drops rs) = true
  · obtain ⟨k, hk, hk1, hk2⟩ := first_is hany
    have C2 := Lib.hid (C1.out.mono (R' := fun e w' => e = .returned (.int .i64 (k : Int)) ∧ Below w.heap.size w w') fun e w' ⟨i, he, hi, hb⟩ => by
      rcases hi.out with ⟨_, h⟩ | ⟨k', rfl, _, h1, h2⟩
      · rw [hany] at h; cases h
      · rw [first_uniq h1 h2 hk1 hk2] at he; exact ⟨he, hb⟩)
    have HK := Lib.hid (And.intro hk1 hk2)
    obtain ⟨g0, cap, e1, hg0, hg1⟩ := hown.form (by omega)
    injection e1 with e1 _ e2
    subst e1 e2
    have hkw : IntKind.i64.wrap ((k : Int) + 1) = (k : Int) + 1 := IntWalk.i64_in _ (by omega)
    have hkn : ((k : Int) == -1) = false := by rw [beq_eq_false_iff_ne]; omega
    clear hany hk1 hk2 C1 hrd
    go_enter Tryd.func63, Tryd.ntmps63
    go_wp2_with (go_at_call 83; go_must (go_fit C2.out); rintro e w1 ⟨rfl, hb1⟩)
    have hown1 := own_below hown hb1 (Nat.le_refl _)
    have hc1 := cell_on hb1 hc (by omega)
    have hrr1 : Rd w1 base Ar (rls rs) := hrr.below (hb1.mono hbw)
    have hq1 := hb1.size
    have HC := Lib.hid hc
    have HRR := Lib.hid hrr
    clear hown hc hrr hkn hkw hc1 hrr1
    go_loopg [5, 6] (l.length - (k + 1)) (fun m s5 s6 wr => ∃ (j i : Nat) (Z : List Pr), m = l.length - j ∧ j ≤ l.length ∧ i < j ∧ s6 = .int .i64 j ∧ s5 = .int .i64 i ∧ Hid (Z.length = l.length ∧ (l.take j).filter (keeps rs) = Z.take i ∧ Z.drop j = l.drop j) ∧ wr.ownsRow base 25 2 (.slice (some ⟨g0, 0, none⟩) l.length c) l.length (prs Z) ∧ Below base w wr)
    case atStart =>
      refine ⟨k + 1, k, l, rfl, by omega, by omega, by go_num, rfl, ⟨rfl, ?_, rfl⟩, hown1, hb1.mono hbw⟩
      obtain ⟨p, h3, h4⟩ := HK.out.2
      rw [piece_take h3, if_neg (by unfold keeps; rw [h4]; decide), List.append_nil]
      exact List.filter_eq_self.2 fun x hx => by
        have h := HK.out.1
        rw [List.any_eq_false] at h
        have := h x hx
        unfold keeps; simpa using this
    case round =>
      clear hown1 hb1
      obtain ⟨j, i, Z, rfl, hj, hij, rfl, rfl, hZ, hown, hbel⟩ := hrel
      obtain ⟨hz1, hz2, hz3⟩ := hZ.out
      have hcr := cell_on hbel HC.out hg
      have hrr : Rd wr base Ar (rls rs) := HRR.out.below hbel
      have hq0 := hbel.size
      have hgw : g < wr.heap.size := by omega
      by_cases hlt : j < l.length
      · obtain ⟨p, hpj⟩ : ∃ p, l[j]? = some p := ⟨_, List.getElem?_eq_getElem hlt⟩
        have hZj : Z[j]? = some p := by
          have h : (Z.drop j)[0]? = (l.drop j)[0]? := by rw [hz3]
          rw [List.getElem?_drop, List.getElem?_drop, Nat.add_zero, hpj] at h
          exact h
        obtain ⟨q, hZi⟩ : ∃ q, Z[i]? = some q := ⟨_, List.getElem?_eq_getElem (by omega)⟩
        have a1 := (hown.cellAt (j * 2) (by omega)).trans (prs_at hZj).1
        have a2 := (hown.cellAt (j * 2 + 1) (by omega)).trans (prs_at hZj).2
        have hg3 : g0 < wr.heap.size := World.block_lt_of_cell? _ _ a1
        have hlt1 : (j : Int) < (l.length : Int) := by omega
        have hj0 : (0 : Int) ≤ (j : Int) := by omega
        have hi1 : (i : Int) < (l.length : Int) := by omega
        have hi0 : (0 : Int) ≤ (i : Int) := by omega
        have hownb := hown.alloc (.cells #[.string (str p.1), .string (str p.2)] 25)
        have hbb : Below wr.heap.size wr (wr.alloc (.cells #[.string (str p.1), .string (str p.2)] 25)) := bnew (Below.refl _ _) _
        have C := Lib.hid (strip1_any g p Ar cr rs (wr.alloc (.cells #[.string (str p.1), .string (str p.2)] 25)) (by rw [World.cell?_alloc_lt wr _ _ hgw]; exact hcr) (Rd.new (hrr.mono (show base ≤ wr.heap.size by omega)) _) hrl HR.out (HP.out p (List.mem_of_getElem? hpj)))
        have x1 : (wr.alloc (.cells #[.string (str p.1), .string (str p.2)] 25)).cell? ⟨wr.heap.size, 0, none⟩ = some (.string (str p.1)) := by rw [cell_of_row _ _ 0 _ _ _ (heap_alloc_new wr _)]; rfl
        have x2 : (wr.alloc (.cells #[.string (str p.1), .string (str p.2)] 25)).cell? ⟨wr.heap.size, 1, none⟩ = some (.string (str p.2)) := by rw [cell_of_row _ _ 1 _ _ _ (heap_alloc_new wr _)]; rfl
        have HN := Lib.hid (piece_take (f := keeps rs) hpj)
        have HZ := Lib.hid (And.intro hz1 (And.intro hz2 hz3))
        by_cases hk : rOut p.1 rs = true
        · have HK2 := Lib.hid (show keeps rs p = false by unfold keeps drops; rw [hk]; rfl)
          rw [hk] at C
          clear hk hz1 hz2 hz3 hZ
          go_wp2_with (go_at_call 65; go_must (go_fit C.out); rintro e w4 ⟨rfl, hb4⟩; have hown4 := own_below hownb hb4 (Nat.le_refl _))
          go_roundg (l.length - (j + 1))
          case measure => omega
          case rel =>
            refine ⟨j + 1, i, Z, rfl, by omega, by omega, by go_num, rfl, ⟨HZ.out.1, ?_, ?_⟩, hown4, hbel.trans ((bnext hbb hb4).mono (show base ≤ wr.heap.size by omega))⟩
            · rw [HN.out, if_neg (by rw [HK2.out]; decide), List.append_nil]; exact HZ.out.2.1
            · rw [← List.drop_drop, HZ.out.2.2, List.drop_drop]
        · have hk := Bool.eq_false_iff.2 hk
          have HK2 := Lib.hid (show keeps rs p = true by unfold keeps drops; rw [hk]; rfl)
          rw [hk] at C
          clear hk hz1 hz2 hz3 hZ
          go_wp2_with (go_at_call 65; go_must (go_fit C.out); rintro e w4 ⟨rfl, hb4⟩; have hown4 := own_below hownb hb4 (Nat.le_refl _); have y1 := cell_on hb4 x1 (by simp); have y2 := cell_on hb4 x2 (by simp); have z1 := (hown4.cellAt (i * 2) (by omega)).trans (prs_at hZi).1; have z2 := (hown4.cellAt (i * 2 + 1) (by omega)).trans (prs_at hZi).2; have z3 := hown4.frozenAt (i * 2); have z4 := hown4.frozenAt (i * 2 + 1))
          go_roundg (l.length - (j + 1))
          case measure => omega
          case rel =>
            have hs1 := (hown4.stored (i * 2) (.string (str p.1))).1
            have hs2 := (hs1.stored (i * 2 + 1) (.string (str p.2))).1
            rw [prs_set (by rw [HZ.out.1]; omega)] at hs2
            obtain ⟨t1, t2⟩ := set_take_drop (Z := Z) (i := i) (j := j) p (by rw [HZ.out.1]; omega) (by omega)
            refine ⟨j + 1, i + 1, Z.set i p, rfl, by omega, by omega, by go_num, by go_num, ⟨by rw [List.length_set]; exact HZ.out.1, ?_, ?_⟩, hs2, ?_⟩
            · rw [HN.out, if_pos HK2.out, t1, HZ.out.2.1]
            · rw [t2, ← List.drop_drop, HZ.out.2.2, List.drop_drop]
            · exact ((hbel.trans ((bnext hbb hb4).mono (show base ≤ wr.heap.size by omega))).setCell (p := ⟨g0, i * 2, none⟩) hg0 _).setCell (p := ⟨g0, i * 2 + 1, none⟩) hg0 _
      · obtain rfl : j = l.length := by omega
        rw [List.take_length] at hz2
        have hfin : rStrip l rs = Z.take i := hz2
        have hlen : (rStrip l rs).length = i := by rw [hfin, List.length_take]; omega
        have hcl : ∀ ty cc, (Builtin.clear_ #[22] ty #[.slice (some ⟨g0, i * 2, none⟩) (l.length - i) cc]).run Tryd.prog wr = .ok (.tuple #[]) (wr.setCells g0 (i * 2) (Builtin.zeroCells #[.string ⟨#[]⟩, .string ⟨#[]⟩] (l.length - i)).toList) := fun ty cc =>
          run_clear_pairs wr ty g0 (i * 2) (l.length - i) cc (by omega) (fun t ht => by rw [hown.cellAt _ (by omega), List.getElem?_eq_getElem (by rw [prs_len, hz1]; omega)]; rfl) (fun t ht => hown.frozenAt _)
        have hown5 := own_sets (Builtin.zeroCells #[.string ⟨#[]⟩, .string ⟨#[]⟩] (l.length - i)).toList (i * 2) wr (Nat.le_refl _) (own_shrink hown (by omega : i ≤ l.length))
        rw [prs_take, ← hfin] at hown5
        have HO := Lib.hid hown5
        have HL := Lib.hid hlen
        have HB := Lib.hid (below_setsP hg0 (Builtin.zeroCells #[.string ⟨#[]⟩, .string ⟨#[]⟩] (l.length - i)).toList (i * 2) w wr hbel)
        have hic : ¬ (c = i) := by omega
        have hi1 : (i : Int) ≤ (l.length : Int) := by omega
        have hi0 : (0 : Int) ≤ (i : Int) := by omega
        have hi2 : (i : Int) ≤ (c : Int) := by omega
        clear hown5 hlen hfin hz1 hz2 hz3 hZ hlt
        go_wp2
        go_ret
        exact ⟨_, rfl, by rw [HL.out]; exact HO.out, HB.out⟩
  · have hany' := Bool.eq_false_iff.2 hany
    have C2 := Lib.hid (C1.out.mono (R' := fun e w' => e = .returned (.int .i64 (-1)) ∧ Below w.heap.size w w') fun e w' ⟨i, he, hi, hb⟩ => by
      rcases hi.out with ⟨rfl, _⟩ | ⟨k', _, _, _, p, h1, h2⟩
      · exact ⟨he, hb⟩
      · rw [List.any_eq_false] at hany'
        exact absurd h2 (hany' p (List.mem_of_getElem? h1)))
    have HS := Lib.hid (filter_none hany')
    clear hany hany' C1
    go_enter Tryd.func63, Tryd.ntmps63
    go_wp2_with (go_at_call 83; go_must (go_fit C2.out); rintro e w1 ⟨rfl, hb1⟩)
    go_ret
    rw [HS.out]
    exact ⟨_, rfl, own_below hown hb1 (Nat.le_refl _), hb1.mono hbw⟩
end Go.Proofs.YtpoaeppapmbkpaaDoor

