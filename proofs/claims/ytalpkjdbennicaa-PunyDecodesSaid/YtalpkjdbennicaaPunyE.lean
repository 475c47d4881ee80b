/- The walks of slices.ContainsFunc as puny calls it, and of puny.Encode. -/
import Derived.Test.YtalpkjdbennicaaPunyB
import Derived.Test.YtalpkjdbennicaaPunyD
import Derived.Test.YtalpkjdbennicaaPunyU
namespace Go.Proofs.Ytalpkjdbennicaa
set_option linter.all false
open Go.RowKit

theorem any_take {P : Int → Bool} {l : List Int} {j : Nat} {x : Int} (h : l[j]? = some x) (hf : (l.take j).any P = false) (hx : P x = false) : (l.take (j + 1)).any P = false := by
  obtain ⟨hj, e⟩ := List.getElem?_eq_some_iff.1 h
  rw [take_snoc' l j hj, e, List.any_append, hf]; simp [hx]
theorem any_here {P : Int → Bool} {l : List Int} {j : Nat} {x : Int} (h : l[j]? = some x) (hx : P x = true) : l.any P = true :=
  List.any_eq_true.2 ⟨x, List.mem_of_getElem? h, hx⟩


def notCp (x : Int) : Bool := !cpOk x
def wideR (x : Int) : Bool := decide (128 ≤ x)
set_option maxRecDepth 100000 in
set_option maxHeartbeats 400000 in
theorem enc1f_any (x : Int) (w : World) : Calls Try.prog 65 #[.int .i32 x] w fun e w' => e = .returned (.bool (notCp x)) ∧ Below w.heap.size w w' := by
  go_enter Try.func65, Try.ntmps65
  go_wp2_with (go_at_call 66; go_must (go_fit (pis_any x w)); rintro e w1 ⟨rfl, hb1⟩)
  go_ret
  exact ⟨ret_bool rfl, hb1⟩
set_option maxRecDepth 100000 in
set_option maxHeartbeats 400000 in
theorem dec1f_any (x : Int) (w : World) : Calls Try.prog 72 #[.int .i32 x] w fun e w' => e = .returned (.bool (wideR x)) ∧ Below w.heap.size w w' := by
  go_enter Try.func72, Try.ntmps72
  go_wp2
  go_ret
  exact ⟨ret_bool (by unfold wideR; rfl), Below.refl _ _⟩
set_option maxRecDepth 100000 in
set_option maxHeartbeats 2000000 in
theorem idxNotCp (A : Option Addr) (c : Nat) (l : List Int) (w : World) (hr : Rd w w.heap.size A (runes l)) (hl : l.length ≤ 1000000) :
    Calls Try.prog 80 #[.slice A l.length c, .func (.func 65) #[] #[]] w fun e w' => ∃ i : Int, e = .returned (.int .i64 i) ∧ Hid (0 ≤ i ↔ l.any notCp = true) ∧ Below w.heap.size w w' := by
  go_enter Try.func80, Try.ntmps80
  go_wp2
  go_loopg [8] (l.length) (fun k i wr => ∃ j : Nat, k = l.length - j ∧ j ≤ l.length ∧ i = .int .i64 j ∧ Hid ((l.take j).any notCp = false) ∧ Below w.heap.size w wr)
  case atStart => exact ⟨0, rfl, Nat.zero_le _, rfl, rfl, Below.refl _ _⟩
  case round =>
    obtain ⟨j, rfl, hj, rfl, hn, hbel⟩ := hrel
    by_cases hlt : j < l.length
    · obtain ⟨b, off, x, rfl, hb, hc, hx⟩ := (hr.below hbel).rune_at hlt
      have hlt1 : (j : Int) < (l.length : Int) := by omega
      have hj0 : (0 : Int) ≤ (j : Int) := by omega
      have C := Lib.hid fun w => enc1f_any x w
      by_cases hp : notCp x = true
      · have HP := Lib.hid hp
        rw [hp] at C
        clear hp
        go_wp2_with (go_at_call 65; go_must (go_fit (C.out _)); rintro e w1 ⟨rfl, hb1⟩)
        go_ret
        exact ⟨_, rfl, ⟨fun _ => any_here hx.out HP.out, fun _ => by omega⟩, bnext hbel hb1⟩
      · have hp := Bool.eq_false_iff.2 hp
        have HP := Lib.hid hp
        rw [hp] at C
        clear hp
        go_wp2_with (go_at_call 65; go_must (go_fit (C.out _)); rintro e w1 ⟨rfl, hb1⟩)
        go_roundg (l.length - (j + 1))
        case measure => omega
        case rel => exact ⟨j + 1, rfl, by omega, by go_num, any_take hx.out hn.out HP.out, bnext hbel hb1⟩
    · obtain rfl : j = l.length := by omega
      go_wp2
      go_ret
      have h := hn.out
      rw [List.take_length] at h
      exact ⟨_, rfl, ⟨fun h1 => absurd h1 (by omega), fun h1 => by rw [h] at h1; cases h1⟩, hbel⟩
set_option maxRecDepth 100000 in
set_option maxHeartbeats 1000000 in
theorem hasNotCp (A : Option Addr) (c : Nat) (l : List Int) (w : World) (hr : Rd w w.heap.size A (runes l)) (hl : l.length ≤ 1000000) :
    Calls Try.prog 64 #[.slice A l.length c, .func (.func 65) #[] #[]] w fun e w' => e = .returned (.bool (l.any notCp)) ∧ Below w.heap.size w w' := by
  go_enter Try.func64, Try.ntmps64
  go_wp2_with (go_at_call 80; go_must (go_fit (idxNotCp A c l w hr hl)); rintro e w1 ⟨i, rfl, hi, hb1⟩)
  go_ret
  exact ⟨ret_bool (by rw [Bool.eq_iff_iff, decide_eq_true_eq]; exact hi.out), hb1⟩
set_option maxRecDepth 100000 in
set_option maxHeartbeats 2000000 in
theorem idxWide (A : Option Addr) (c : Nat) (l : List Int) (w : World) (hr : Rd w w.heap.size A (runes l)) (hl : l.length ≤ 1000000) :
    Calls Try.prog 80 #[.slice A l.length c, .func (.func 72) #[] #[]] w fun e w' => ∃ i : Int, e = .returned (.int .i64 i) ∧ Hid (0 ≤ i ↔ l.any wideR = true) ∧ Below w.heap.size w w' := by
  go_enter Try.func80, Try.ntmps80
  go_wp2
  go_loopg [8] (l.length) (fun k i wr => ∃ j : Nat, k = l.length - j ∧ j ≤ l.length ∧ i = .int .i64 j ∧ Hid ((l.take j).any wideR = false) ∧ Below w.heap.size w wr)
  case atStart => exact ⟨0, rfl, Nat.zero_le _, rfl, rfl, Below.refl _ _⟩
  case round =>
    obtain ⟨j, rfl, hj, rfl, hn, hbel⟩ := hrel
    by_cases hlt : j < l.length
    · obtain ⟨b, off, x, rfl, hb, hc, hx⟩ := (hr.below hbel).rune_at hlt
      have hlt1 : (j : Int) < (l.length : Int) := by omega
      have hj0 : (0 : Int) ≤ (j : Int) := by omega
      have C := Lib.hid fun w => dec1f_any x w
      by_cases hp : wideR x = true
      · have HP := Lib.hid hp
        rw [hp] at C
        clear hp
        go_wp2_with (go_at_call 72; go_must (go_fit (C.out _)); rintro e w1 ⟨rfl, hb1⟩)
        go_ret
        exact ⟨_, rfl, ⟨fun _ => any_here hx.out HP.out, fun _ => by omega⟩, bnext hbel hb1⟩
      · have hp := Bool.eq_false_iff.2 hp
        have HP := Lib.hid hp
        rw [hp] at C
        clear hp
        go_wp2_with (go_at_call 72; go_must (go_fit (C.out _)); rintro e w1 ⟨rfl, hb1⟩)
        go_roundg (l.length - (j + 1))
        case measure => omega
        case rel => exact ⟨j + 1, rfl, by omega, by go_num, any_take hx.out hn.out HP.out, bnext hbel hb1⟩
    · obtain rfl : j = l.length := by omega
      go_wp2
      go_ret
      have h := hn.out
      rw [List.take_length] at h
      exact ⟨_, rfl, ⟨fun h1 => absurd h1 (by omega), fun h1 => by rw [h] at h1; cases h1⟩, hbel⟩
set_option maxRecDepth 100000 in
set_option maxHeartbeats 1000000 in
theorem hasWide (A : Option Addr) (c : Nat) (l : List Int) (w : World) (hr : Rd w w.heap.size A (runes l)) (hl : l.length ≤ 1000000) :
    Calls Try.prog 64 #[.slice A l.length c, .func (.func 72) #[] #[]] w fun e w' => e = .returned (.bool (l.any wideR)) ∧ Below w.heap.size w w' := by
  go_enter Try.func64, Try.ntmps64
  go_wp2_with (go_at_call 80; go_must (go_fit (idxWide A c l w hr hl)); rintro e w1 ⟨i, rfl, hi, hb1⟩)
  go_ret
  exact ⟨ret_bool (by rw [Bool.eq_iff_iff, decide_eq_true_eq]; exact hi.out), hb1⟩

theorem any_notCp (l : List Int) : l.any notCp = !cpAll l := by
  unfold cpAll notCp
  induction l with
  | nil => rfl
  | cons x l ih => simp only [List.any_cons, List.all_cons, ih, Bool.not_and]

/-- What puny.Encode answers. -/
def punyV (o : Option (List UInt8)) : Value := match o with
  | some s => .tuple #[.string (str s), .int .i64 0]
  | none => .tuple #[.string (str []), .int .i64 1]
theorem puny_no {l : List Int} (h : ¬ (l.length ≤ 63 ∧ cpAll l = true)) : puny l = none := if_neg h
theorem puny_yes {l : List Int} (h : l.length ≤ 63) (h2 : cpAll l = true) : puny l = some (eLoop l.length 128 (basics l).length (eStart l) l).out := if_pos ⟨h, h2⟩




section
variable {P : Program} {w : World} {ops : Array Oper} {rest : List Oper} {o : Oper} {a : Act} {Q : Exit → Act → World → Prop}
theorem wpList_append_litN (sz : Nat) (hsz' : w.heap.size = sz) (hgd : o.guard = none) (s x : Operand) (t : TypeId)
    (ho : o.op = .call { callee := .builtin .append, args := #[s, x], argTypes := #[t, t] })
    (base : Nat) (e : TypeId) (z : Value) (size bytes : Nat) (ht : P.underlying t = some (.slice e))
    (hinfo : (P.info? e).map (fun i => (i.zero, i.size, i.bytes)) = some (some z, size, bytes)) (hzs : z.cells.size = size) (hsz : 0 < size)
    (v : Value) (n : Nat) (xs : List Value) (hs : a.eval s = v) (hown : w.ownsRow base e size v n xs)
    (us : Array Value) (m c : Nat) (e' : TypeId) (hx : a.eval x = .slice (some ⟨sz, 0, none⟩) m c) (hl : us.size = m * size) (h1 : ∀ u ∈ us.toList, u.oneCell' = true)
    (h63 : n + m ≤ 1000000) (hb : bytes ≤ 1000) (hbase : base ≤ w.heap.size)
    (h : ∀ A' c' w', n + m ≤ c' → c' ≤ maxLen → w'.ownsRow base e size (.slice A' (n + m) c') (n + m) (xs ++ us.toList) → Below base w w' → w.grownBy w' v.ownBlock → wpList P ops Q rest (a.put o.dst (.slice A' (n + m) c')) w') :
    wpList P ops Q (o :: rest) a (w.alloc (.cells us e')) := by
  subst hsz'
  exact wpList_append_lit hgd s x t ho base e z size bytes ht hinfo hzs hsz v n xs hs hown us m c e' hx hl h1 h63 hb hbase h
end

set_option maxRecDepth 100000 in
set_option maxHeartbeats 8000000 in
theorem pencode_ok (A : Option Addr) (c : Nat) (l : List Int) (w : World) (hr : Rd w w.heap.size A (runes l)) (h63 : (l.length : Int) ≤ 63) (hcp : cpAll l = true) :
    Calls Try.prog 44 #[.slice A l.length c] w fun e w' => e = .returned (punyV (puny l)) ∧ Below w.heap.size w w' := by
  have CH := Lib.hid fun w (h : Rd w w.heap.size A (runes l)) => hasNotCp A c l w h (by omega)
  have e : l.any notCp = false := by rw [any_notCp, hcp]; rfl
  rw [e] at CH
  have HC := Lib.hid hcp
  have hpy := Lib.hid (puny_yes (by omega) hcp)
  have HX := Lib.hid fun x (hx : x ∈ l) => cpOk_iff.1 (cpAll_iff.1 hcp x hx)
  have hst := Lib.hid (start_round hcp)
  clear e hcp
  go_enter Try.func44, Try.ntmps44
  go_wp2_with (go_at_call 64; go_must (go_fit (CH.out w hr)); rintro e w1 ⟨rfl, hb1⟩)
  obtain ⟨g, hg⟩ : ∃ g, g = w1.heap.size := ⟨_, rfl⟩
  have hW0 : Wr (w1.alloc (.cells #[.slice none 0 0, .int .i32 128, .int .i64 0, .int .i64 72, .int .i64 0, .int .i64 0] 85)) g (.slice none 0 0) 128 0 72 0 0 := by rw [hg]; exact heap_alloc_new w1 _
  have hgw : w.heap.size ≤ g := by rw [hg]; exact hb1.size
  have hr2 : Rd (w1.alloc (.cells #[.slice none 0 0, .int .i32 128, .int .i64 0, .int .i64 72, .int .i64 0, .int .i64 0] 85)) g A (runes l) := ((hr.below hb1).alloc hb1.size _).mono hgw
  have hb12 := bnew hb1 (.cells #[.slice none 0 0, .int .i32 128, .int .i64 0, .int .i64 72, .int .i64 0, .int .i64 0] 85)
  rw [← hg]
  generalize w1.alloc (.cells #[.slice none 0 0, .int .i32 128, .int .i64 0, .int .i64 72, .int .i64 0, .int .i64 0] 85) = w2 at *
  clear hg
  have hg2 := hW0.lt
  go_loopg [18] (l.length) (fun k i wr => ∃ (j : Nat) (v' : Value), k = l.length - j ∧ j ≤ l.length ∧ i = .int .i64 j ∧ Wr wr g v' 128 0 72 0 0 ∧ wr.ownsRow (g + 1) 5 1 v' (bytes (basics (l.take j))).length (bytes (basics (l.take j))) ∧ Below g w2 wr)
  case atStart => exact ⟨0, .slice none 0 0, rfl, Nat.zero_le _, rfl, hW0, World.ownsRow_nil _ _ _ _, Below.refl _ _⟩
  case round =>
    obtain ⟨j, v', rfl, hj, rfl, hws, hown, hbel⟩ := hrel
    have hq := hbel.size
    have c0 := hws.c0
    have hty : (bytes (basics (l.take j))).length ≤ 100 := by
      rw [bytes_len, basics_len]
      have h1 := List.length_filter_le (fun r => decide (r < 128)) (l.take j)
      rw [List.length_take] at h1; omega
    by_cases hlt : j < l.length
    · obtain ⟨b, off, x, rfl, hb, hc, hx⟩ := (hr2.below hbel).rune_at hlt
      obtain ⟨x0, x1, _⟩ := HX.out x (List.mem_of_getElem? hx.out)
      have hlt1 : (j : Int) < (l.length : Int) := by omega
      have hj0 : (0 : Int) ≤ (j : Int) := by omega
      have HB := Lib.hid (basics_snoc hx.out)
      by_cases hx128 : x < 128
      · rw [if_pos hx128] at HB
        go_wp2_with (at_builtin; refine wpList_append_lit rfl _ _ _ rfl (g + 1) _ _ 1 1 Try.underlying30 info_byte rfl (by decide) _ _ _ rfl hown _ 1 1 _ rfl rfl (by simp [Value.oneCell']) (by omega) (by decide) (by first | omega | (simp; omega)) ?_; intro A2 c2 w3 hc2 hm2 hown3 hb3 hg3; have hW3 := Wr.grown hws hg3 (Wr.apart hws hown); have f0 := hW3.c0; have fr0 := hW3.fr 0)
        go_roundg (l.length - (j + 1))
        case measure => omega
        case rel => exact ⟨j + 1, _, rfl, by omega, by go_num, hW3.s0 _, own_set (own_as hown3 (by rw [HB.out, bytes_append, List.length_append]; rfl) (by rw [HB.out, bytes_append]; simp [bytes, cell_byteOf x0 (by omega)])), (hbel.trans (hb3.mono (Nat.le_succ g))).setCell (p := ⟨g, 0, none⟩) (Nat.le_refl g) _⟩
      · rw [if_neg hx128] at HB
        go_wp2
        go_roundg (l.length - (j + 1))
        case measure => omega
        case rel => exact ⟨j + 1, v', rfl, by omega, by go_num, hws, by rw [HB.out]; exact hown, hbel⟩
    · obtain rfl : j = l.length := by omega
      rw [List.take_length, bytes_len] at hty hown
      obtain ⟨A3, c3, rfl, hc3, hm3⟩ := own_shape hown
      obtain ⟨s0, hs0⟩ : ∃ s0, s0 = eStart l := ⟨_, rfl⟩
      have HS0 := Lib.hid hs0
      have hst' := hst
      rw [← hs0] at hst
      have fr0 := hws.fr 0
      have fr4 := hws.fr 4
      have fr5 := hws.fr 5
      have c4 := hws.c4
      have c5 := hws.c5
      by_cases h0 : 0 < (basics l).length
      · have h0' : (0 : Int) < ((basics l).length : Int) := by omega
        have hX := (hws.s5 ((basics l).length : Int)).s4 ((basics l).length : Int)
        have hownX : ((wr.setCell ⟨g, 5, none⟩ (.int .i64 ((basics l).length : Int))).setCell ⟨g, 4, none⟩ (.int .i64 ((basics l).length : Int))).ownsRow (g + 1) 5 1 (.slice A3 (basics l).length c3) (basics l).length (bytes (basics l)) := own_set (own_set hown)
        go_wp2_with (at_builtin; refine wpList_append_litN _ (show _ = wr.heap.size by simp) rfl _ _ _ rfl (g + 1) _ _ 1 1 Try.underlying30 info_byte rfl (by decide) _ _ _ rfl hownX _ 1 1 _ rfl rfl (by simp [Value.oneCell']) (by omega) (by decide) (by first | omega | (simp; omega)) ?_; intro A2 c2 w3 hc2 hm2 hown3 hb3 hg3; have hW3 := Wr.grown hX hg3 (Wr.apart hX hownX); have f0 := hW3.c0; have fr0 := hW3.fr 0)
        have hout0 : s0.out = basics l ++ [45] := by rw [HS0.out]; unfold eStart; exact if_pos h0
        have hW5 : Wr (w3.setCell ⟨g, 0, none⟩ (.slice A2 ((basics l).length + 1) c2)) g (.slice A2 ((basics l).length + 1) c2) 128 s0.delta s0.bias s0.done (basics l).length := by rw [HS0.out]; exact hW3.s0 _
        have hown5 : (w3.setCell ⟨g, 0, none⟩ (.slice A2 ((basics l).length + 1) c2)).ownsRow (g + 1) 5 1 (.slice A2 ((basics l).length + 1) c2) (bytes s0.out).length (bytes s0.out) := own_set (own_as hown3 (by rw [hout0, bytes_len, List.length_append]; rfl) (by rw [hout0, bytes_append]; rfl))
        have hb5 : Below g w2 (w3.setCell ⟨g, 0, none⟩ (.slice A2 ((basics l).length + 1) c2)) := ((((hbel.setCell (p := ⟨g, 5, none⟩) (Nat.le_refl g) _).setCell (p := ⟨g, 4, none⟩) (Nat.le_refl g) _).trans (hb3.mono (Nat.le_succ g))).setCell (p := ⟨g, 0, none⟩) (Nat.le_refl g) _)
        generalize w3.setCell ⟨g, 0, none⟩ (.slice A2 ((basics l).length + 1) c2) = w5 at *
        obtain ⟨v5, hv5⟩ : ∃ v5, v5 = Value.slice A2 ((basics l).length + 1) c2 := ⟨_, rfl⟩
        rw [← hv5] at hW5 hown5
        clear f0 fr0 fr4 fr5 c4 c5 c0 hv5 hX hownX hown hws hW3 hown3 hg3 hb3 hs0 hst' hout0 hbel
        go_loopg [] ((l.length - (s0.done).toNat : Nat)) (fun m wr => ∃ (n : Int) (s : ES) (v' : Value) (f : Nat), m = (l.length - s.done.toNat : Nat) ∧ 128 ≤ n ∧ n ≤ 1114112 ∧ RB l s ∧ Hid ((∃ σ, AtRound n (basics l).length l s σ) ∧ eLoop l.length 128 (basics l).length s0 l = eLoop f n (basics l).length s l ∧ (l.length : Int) ≤ f + s.done) ∧ Wr wr g v' n s.delta s.bias s.done (basics l).length ∧ wr.ownsRow (g + 1) 5 1 v' (bytes s.out).length (bytes s.out) ∧ Below g w2 wr)
        case atStart => exact ⟨128, s0, v5, l.length, rfl, by omega, by omega, hst.out.2, ⟨hst.out.1, rfl, by have := hst.out.2.2.2.2.2.1; omega⟩, hW5, hown5, hb5⟩
        case round =>
          obtain ⟨n, s, v', f, rfl, n1, n2, hrb, hrec, hws, howns, hbel⟩ := hrel
          obtain ⟨z1, z2, z3, z4, z5, z6, z7⟩ := hrb
          have c4 := hws.c4
          have c0 := hws.c0
          have hq := hbel.size
          by_cases hlt : s.done < (l.length : Int)
          · obtain ⟨r1, r2, r3, r4, r5⟩ := round_step n1 HC.out (by omega) hlt hrec.out.1 ⟨z1, z2, z3, z4, z5, z6, z7⟩
            unfold OL at z7
            obtain ⟨f', rfl⟩ : ∃ f', f = f' + 1 := ⟨f - 1, by have := hrec.out.2.2; omega⟩
            have HR := Lib.hid (And.intro r1 (And.intro ((hrec.out.2.1).trans (eLoop_next hlt)) r5))
            have H3 := hrec.out.2.2
            have hout : s.out.length ≤ 800000 := by omega
            clear r1 r5
            go_wp2_with (go_at_call 67; go_must (go_fit (next_any g v' n s.delta s.bias s.done _ s.out s.out.length A c l wr hws howns (hr2.below hbel) (fun x hx => ⟨(HX.out x hx).1, (HX.out x hx).2.1⟩) (by omega) n1 n2 r3 ⟨z1, by show s.delta ≤ _; omega, z3, z4, z5, by show s.done ≤ _; omega, Nat.le_refl _⟩ hout)); rintro e w6 ⟨rfl, v6, hW6, hown6, hb6⟩)
            go_roundg ((l.length - (eRound n (basics l).length s l).done.toNat : Nat))
            case measure => omega
            case rel => exact ⟨least n 1114111 l + 1, eRound n (basics l).length s l, v6, f', rfl, by omega, by omega, HR.out.2.2, ⟨HR.out.1, HR.out.2.1, by omega⟩, hW6, hown6, hbel.trans hb6⟩
          · have hfin : eLoop l.length 128 (basics l).length s0 l = s := hrec.out.2.1.trans (eLoop_end hlt)
            have HF := Lib.hid hfin
            clear hfin
            rw [bytes_len] at howns
            obtain ⟨A6, c6, rfl, hc6, hm6, hx6⟩ := own_rd howns
            go_wp2_with (refine wpList_strL rfl _ _ _ _ rfl Try.underlying30 Try.underlying5 Try.underlying9 _ _ _ _ s.out rfl rfl hx6 ?_)
            go_ret2
            refine ⟨by rw [hpy.out, ← HS0.out, HF.out]; rfl, ?_⟩
            exact hb12.trans (hbel.mono hgw)
      · have hB0 : (basics l).length = 0 := by omega
        have hbn : basics l = [] := List.eq_nil_of_length_eq_zero hB0
        have hout0 : s0.out = [] := by rw [HS0.out]; unfold eStart; exact if_neg h0
        have h0' : ¬ (0 : Int) < ((basics l).length : Int) := by omega
        have HB0 := Lib.hid hB0
        have HBN := Lib.hid hbn
        clear hB0 hbn
        go_wp2
        have hW5 : Wr ((wr.setCell ⟨g, 5, none⟩ (.int .i64 ((basics l).length : Int))).setCell ⟨g, 4, none⟩ (.int .i64 ((basics l).length : Int))) g (.slice A3 (basics l).length c3) 128 s0.delta s0.bias s0.done (basics l).length := by rw [HS0.out]; exact (hws.s5 _).s4 _
        have hown5 : ((wr.setCell ⟨g, 5, none⟩ (.int .i64 ((basics l).length : Int))).setCell ⟨g, 4, none⟩ (.int .i64 ((basics l).length : Int))).ownsRow (g + 1) 5 1 (.slice A3 (basics l).length c3) (bytes s0.out).length (bytes s0.out) := own_set (own_set (own_as hown (by rw [hout0, HB0.out]; rfl) (by rw [hout0, HBN.out])))
        have hb5 : Below g w2 ((wr.setCell ⟨g, 5, none⟩ (.int .i64 ((basics l).length : Int))).setCell ⟨g, 4, none⟩ (.int .i64 ((basics l).length : Int))) := (hbel.setCell (p := ⟨g, 5, none⟩) (Nat.le_refl g) _).setCell (p := ⟨g, 4, none⟩) (Nat.le_refl g) _
        generalize ((wr.setCell ⟨g, 5, none⟩ (.int .i64 ((basics l).length : Int))).setCell ⟨g, 4, none⟩ (.int .i64 ((basics l).length : Int))) = w5 at *
        obtain ⟨v5, hv5⟩ : ∃ v5, v5 = Value.slice A3 (basics l).length c3 := ⟨_, rfl⟩
        rw [← hv5] at hW5 hown5
        clear fr0 fr4 fr5 c4 c5 c0 hv5 hown hws hs0 hst' hout0 hbel
        go_loopg [] ((l.length - (s0.done).toNat : Nat)) (fun m wr => ∃ (n : Int) (s : ES) (v' : Value) (f : Nat), m = (l.length - s.done.toNat : Nat) ∧ 128 ≤ n ∧ n ≤ 1114112 ∧ RB l s ∧ Hid ((∃ σ, AtRound n (basics l).length l s σ) ∧ eLoop l.length 128 (basics l).length s0 l = eLoop f n (basics l).length s l ∧ (l.length : Int) ≤ f + s.done) ∧ Wr wr g v' n s.delta s.bias s.done (basics l).length ∧ wr.ownsRow (g + 1) 5 1 v' (bytes s.out).length (bytes s.out) ∧ Below g w2 wr)
        case atStart => exact ⟨128, s0, v5, l.length, rfl, by omega, by omega, hst.out.2, ⟨hst.out.1, rfl, by have := hst.out.2.2.2.2.2.1; omega⟩, hW5, hown5, hb5⟩
        case round =>
          obtain ⟨n, s, v', f, rfl, n1, n2, hrb, hrec, hws, howns, hbel⟩ := hrel
          obtain ⟨z1, z2, z3, z4, z5, z6, z7⟩ := hrb
          have c4 := hws.c4
          have c0 := hws.c0
          have hq := hbel.size
          by_cases hlt : s.done < (l.length : Int)
          · obtain ⟨r1, r2, r3, r4, r5⟩ := round_step n1 HC.out (by omega) hlt hrec.out.1 ⟨z1, z2, z3, z4, z5, z6, z7⟩
            unfold OL at z7
            obtain ⟨f', rfl⟩ : ∃ f', f = f' + 1 := ⟨f - 1, by have := hrec.out.2.2; omega⟩
            have HR := Lib.hid (And.intro r1 (And.intro ((hrec.out.2.1).trans (eLoop_next hlt)) r5))
            have H3 := hrec.out.2.2
            have hout : s.out.length ≤ 800000 := by omega
            clear r1 r5
            go_wp2_with (go_at_call 67; go_must (go_fit (next_any g v' n s.delta s.bias s.done _ s.out s.out.length A c l wr hws howns (hr2.below hbel) (fun x hx => ⟨(HX.out x hx).1, (HX.out x hx).2.1⟩) (by omega) n1 n2 r3 ⟨z1, by show s.delta ≤ _; omega, z3, z4, z5, by show s.done ≤ _; omega, Nat.le_refl _⟩ hout)); rintro e w6 ⟨rfl, v6, hW6, hown6, hb6⟩)
            go_roundg ((l.length - (eRound n (basics l).length s l).done.toNat : Nat))
            case measure => omega
            case rel => exact ⟨least n 1114111 l + 1, eRound n (basics l).length s l, v6, f', rfl, by omega, by omega, HR.out.2.2, ⟨HR.out.1, HR.out.2.1, by omega⟩, hW6, hown6, hbel.trans hb6⟩
          · have hfin : eLoop l.length 128 (basics l).length s0 l = s := hrec.out.2.1.trans (eLoop_end hlt)
            have HF := Lib.hid hfin
            clear hfin
            rw [bytes_len] at howns
            obtain ⟨A6, c6, rfl, hc6, hm6, hx6⟩ := own_rd howns
            go_wp2_with (refine wpList_strL rfl _ _ _ _ rfl Try.underlying30 Try.underlying5 Try.underlying9 _ _ _ _ s.out rfl rfl hx6 ?_)
            go_ret2
            refine ⟨by rw [hpy.out, ← HS0.out, HF.out]; rfl, ?_⟩
            exact hb12.trans (hbel.mono hgw)

set_option maxRecDepth 100000 in
set_option maxHeartbeats 1000000 in
/-- puny.Encode. -/
theorem pencode_any (A : Option Addr) (c : Nat) (l : List Int) (w : World) (hr : Rd w w.heap.size A (runes l)) (hl : l.length ≤ 1000000) :
    Calls Try.prog 44 #[.slice A l.length c] w fun e w' => e = .returned (punyV (puny l)) ∧ Below w.heap.size w w' := by
  by_cases h63 : (l.length : Int) ≤ 63
  · by_cases hcp : cpAll l = true
    · exact pencode_ok A c l w hr h63 hcp
    · have CH := Lib.hid fun w (h : Rd w w.heap.size A (runes l)) => hasNotCp A c l w h hl
      have hcp := Bool.eq_false_iff.2 hcp
      have e : l.any notCp = true := by rw [any_notCp, hcp]; rfl
      have hpy := Lib.hid (puny_no (l := l) (fun h => by rw [hcp] at h; exact absurd h.2 (by decide)))
      rw [e] at CH
      rw [hpy.out]
      clear e hcp
      go_enter Try.func44, Try.ntmps44
      go_wp2_with (go_at_call 64; go_must (go_fit (CH.out w hr)); rintro e w1 ⟨rfl, hb1⟩)
      go_ret2
      exact ⟨rfl, hb1⟩
  · have h63' : 63 < (l.length : Int) := by omega
    have hpy := Lib.hid (puny_no (l := l) (fun h => by omega))
    rw [hpy.out]
    clear h63
    go_enter Try.func44, Try.ntmps44
    go_wp2
    go_ret2
    exact ⟨rfl, Below.refl _ _⟩
end Go.Proofs.Ytalpkjdbennicaa
