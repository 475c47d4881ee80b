/- strconv.ParseUint at base 16 and 10, texts of digits; ip6's reader: take, digits, dotted, noughts. -/
import Derived.Test.YtaglbcniomcfnaaDoorSixA
import Derived.Test.YtaglbcniomcfnaaDoorPctA
namespace Go.Proofs.YtaglbcniomcfnaaDoor
set_option linter.all false
open Go.RowKit

def hexW (s : List UInt8) : Option Nat := if s = [] then none else hexG 0 s
/-- What ParseUint hands on: the number, or an error. -/
def Num (o : Option Nat) (e : Ending) : Prop := match o with
  | some n => e = .returned (.tuple #[.int .u64 (n : Int), .nilIface])
  | none => ∃ (n N : Nat), e = .returned (.tuple #[.int .u64 (n : Int), .iface 117 (.pointer (some ⟨N, 0, none⟩))])
def pname : ByteArray := ⟨#[80, 97, 114, 115, 101, 85, 105, 110, 116]⟩

set_option maxRecDepth 100000 in
set_option maxHeartbeats 4000000 in
theorem puHex_any (s : List UInt8) (hs : s.all hexOk = true) (hl : s.length ≤ 100000) (w : World) (hev : EV w) :
    Calls Tryd.prog 64 #[.string (str s), .int .i64 16, .int .i64 64] w fun e w' => Num (hexW s) e ∧ Below w.heap.size w w' := by
  have hsz := str_size s
  cases s with
  | nil =>
    show Calls _ _ _ _ fun e w' => (∃ (n N : Nat), _) ∧ _
    have C := Lib.hid fun w => (Tryd.internal_strconv_ParseUint_empty 16 64 w)
    obtain ⟨⟨ev, hv, hk⟩, _⟩ := hev
    have CT := Lib.hid fun (w : World) hv => Tryd.strconv_toError_syntax pname ⟨#[]⟩ 16 64 ev w (by decide) hv hk
    rw [show str [] = ⟨#[]⟩ from rfl]
    go_enter Tryd.func64, Tryd.ntmps64
    go_wp2_with (first
      | (go_at_call 77; go_must (go_fit (C.out _)); rintro e w1 ⟨rfl, rfl⟩)
      | (go_at_call 78; go_must (go_fit (CT.out _ hv)); rintro e w2 ⟨N, rfl, h1, h2, hb2⟩))
    go_ret2
    exact ⟨⟨0, N, rfl⟩, hb2⟩
  | cons c t =>
    have C := Lib.hid fun w => puHex_in (c :: t) rfl hs hl w
    obtain ⟨S, hS⟩ : ∃ S, S = c :: t := ⟨_, rfl⟩
    have e0 : hexW S = hexG 0 S := by rw [hS]; rfl
    rw [← hS] at C hsz ⊢
    have hlen : S.length ≤ 100000 := by rw [hS]; exact hl
    rw [e0]
    clear e0 hS hs hl
    cases ho : hexG 0 S with
    | some n =>
      rw [ho] at C
      clear ho
      show Calls _ _ _ _ fun e w' => e = .returned (.tuple #[.int .u64 (n : Int), .nilIface]) ∧ _
      have C := Lib.hid (show ∀ w, Calls Tryd.prog 77 #[.string (str S), .int .i64 16, .int .i64 64] w fun e w' => e = .returned (.tuple #[.int .u64 (n : Int), .nilIface]) ∧ Below w.heap.size w w' from C.out)
      go_enter Tryd.func64, Tryd.ntmps64
      go_wp2_with (go_at_call 77; go_must (go_fit (C.out _)); rintro e w1 ⟨rfl, hb1⟩)
      go_ret2
      exact ⟨rfl, hb1⟩
    | none =>
      rw [ho] at C
      clear ho
      show Calls _ _ _ _ fun e w' => (∃ (n N : Nat), _) ∧ _
      have C := Lib.hid (show ∀ w, Calls Tryd.prog 77 #[.string (str S), .int .i64 16, .int .i64 64] w fun e w' => e = .returned (.tuple #[.int .u64 18446744073709551615, .iface 115 (.int .i64 1)]) ∧ Below w.heap.size w w' from C.out)
      obtain ⟨_, ev, hv, hk⟩ := hev
      have CT := Lib.hid fun (w : World) hv => Tryd.strconv_toError_range pname (str S) 16 64 ev w (by omega) hv hk
      have hlt := World.block_lt_of_cell? _ _ hv
      go_enter Tryd.func64, Tryd.ntmps64
      go_wp2_with (first
        | (go_at_call 77; go_must (go_fit (C.out _)); rintro e w1 ⟨rfl, hb1⟩; have hv1 := (hb1.cell (p := ⟨_, 0, none⟩) hlt).trans hv)
        | (go_at_call 78; go_must (go_fit (CT.out _ hv1)); rintro e w2 ⟨N, rfl, h1, h2, hb2⟩))
      go_ret2
      exact ⟨⟨18446744073709551615, N, rfl⟩, bnext hb1 hb2⟩

theorem pu10_all : ∀ (s : List UInt8) (acc : Nat), s.all decOk = true →
    Lib.parseUintM (2 ^ 64 - 1) acc s = .ok (s.foldl (fun n c => n * 10 + (c.toNat - 48)) acc) ∨ (Lib.parseUintM (2 ^ 64 - 1) acc s = .range ∧ 2 ^ 64 ≤ s.foldl (fun n c => n * 10 + (c.toNat - 48)) acc) := by
  have mono : ∀ (s : List UInt8) (acc : Nat), acc ≤ s.foldl (fun n c => n * 10 + (c.toNat - 48)) acc := by
    intro s
    induction s with
    | nil => intro acc; exact Nat.le_refl _
    | cons c t ih => intro acc; rw [List.foldl_cons]; exact Nat.le_trans (by omega) (ih _)
  intro s
  induction s with
  | nil => intro acc _; exact .inl rfl
  | cons c t ih =>
    intro acc hs
    rw [List.all_cons, Bool.and_eq_true] at hs
    have hc := of_decide_eq_true hs.1
    rw [List.foldl_cons]
    unfold Lib.parseUintM
    rw [if_pos hc]
    by_cases h1 : 1844674407370955162 ≤ acc
    · rw [if_pos h1]
      exact .inr ⟨rfl, Nat.le_trans (by omega) (mono t _)⟩
    · rw [if_neg h1]
      by_cases h2 : 2 ^ 64 - 1 < acc * 10 + (c.toNat - 48)
      · rw [if_pos h2]
        exact .inr ⟨rfl, Nat.le_trans (by omega) (mono t _)⟩
      · rw [if_neg h2]
        exact ih _ hs.2
def decW (s : List UInt8) : Option Nat := if s = [] ∨ 2 ^ 64 ≤ decN s then none else some (decN s)
theorem puDec_any (s : List UInt8) (hs : s.all decOk = true) (hl : s.length ≤ 100000) (w : World) (hev : EV w) :
    Calls Tryd.prog 64 #[.string (str s), .int .i64 10, .int .i64 64] w fun e w' => Num (decW s) e ∧ Below w.heap.size w w' := by
  have hsz := str_size s
  obtain ⟨⟨e1, hv1, hk1⟩, e2, hv2, hk2⟩ := hev
  by_cases h0 : s = []
  · subst h0
    exact (Any.strconv_ParseUint_10_at64_syntax Tryd.laysPu14 (str []) (by decide) rfl e1 w hv1 hk1).mono fun e w' ⟨N, he, _, _, hb⟩ => ⟨⟨0, N, he⟩, hb⟩
  · rcases pu10_all s 0 hs with hp | ⟨hp, hb⟩
    · have e : Lib.parseUintB 64 s = .ok (decN s) := by unfold Lib.parseUintB; rw [if_neg h0]; exact hp
      by_cases hbig : 2 ^ 64 ≤ decN s
      · exfalso
        have key : ∀ (s : List UInt8) (acc u : Nat), acc < 2 ^ 64 → Lib.parseUintM (2 ^ 64 - 1) acc s = .ok u → u < 2 ^ 64 := by
          intro s
          induction s with
          | nil => intro acc u ha h; injection h with h; omega
          | cons c t ih =>
            intro acc u ha h
            unfold Lib.parseUintM at h
            by_cases hc : 48 ≤ c.toNat ∧ c.toNat ≤ 57
            · rw [if_pos hc] at h
              by_cases h1 : 1844674407370955162 ≤ acc
              · rw [if_pos h1] at h; cases h
              · rw [if_neg h1] at h
                by_cases h2 : 2 ^ 64 - 1 < acc * 10 + (c.toNat - 48)
                · rw [if_pos h2] at h; cases h
                · rw [if_neg h2] at h; exact ih _ _ (by omega) h
            · rw [if_neg hc] at h; cases h
        have := key s 0 _ (by decide) hp
        unfold decN at hbig
        omega
      · have ew : decW s = some (decN s) := by unfold decW; rw [if_neg (by rintro (h | h); exact h0 h; exact hbig h)]
        rw [ew]
        refine (Tryd.strconv_ParseUint_10_at64_ok (str s) (by omega) (decN s) (by rw [str_data]; exact e) w).mono fun e w' ⟨he, hw⟩ => ⟨he, ?_⟩
        rcases hw with rfl | rfl
        · exact Below.refl _ _
        · exact Lib.bytesWorld_below _ _ _
    · have e : Lib.parseUintB 64 s = .range := by unfold Lib.parseUintB; rw [if_neg h0]; exact hp
      have ew : decW s = none := by unfold decW; rw [if_pos (.inr hb)]
      rw [ew]
      exact (Tryd.strconv_ParseUint_10_at64_range (str s) (by omega) (by rw [str_data]; exact e) e2 w hv2 hk2).mono fun e w' ⟨N, he, _, _, hb⟩ => ⟨⟨18446744073709551615, N, he⟩, hb⟩

/-- Numbers of 16 bits, as cells. -/
def u16s (l : List Nat) : List Value := l.map fun (n : Nat) => Value.int .u16 (n : Int)
theorem u16s_len (l : List Nat) : (u16s l).length = l.length := List.length_map ..
theorem u16s_append (a b : List Nat) : u16s (a ++ b) = u16s a ++ u16s b := List.map_append ..

/-- Block g is the reader. -/
def Rdr (w : World) (g : Nat) (s : List UInt8) (ok : Bool) (v : Value) (gap : Int) : Prop := w.heap[g]? = some (.cells #[.string (str s), .bool ok, v, .int .i64 gap] 61 (0, 0))
section
variable {w w' : World} {g : Nat} {s : List UInt8} {ok : Bool} {v : Value} {gap : Int}
theorem Rdr.lt (h : Rdr w g s ok v gap) : g < w.heap.size := lt_of_block h
theorem Rdr.c0 (h : Rdr w g s ok v gap) : w.cell? ⟨g, 0, none⟩ = some (.string (str s)) := cell_of_row _ _ 0 _ _ _ h
theorem Rdr.c1 (h : Rdr w g s ok v gap) : w.cell? ⟨g, 1, none⟩ = some (.bool ok) := cell_of_row _ _ 1 _ _ _ h
theorem Rdr.c2 (h : Rdr w g s ok v gap) : w.cell? ⟨g, 2, none⟩ = some v := cell_of_row _ _ 2 _ _ _ h
theorem Rdr.c3 (h : Rdr w g s ok v gap) : w.cell? ⟨g, 3, none⟩ = some (.int .i64 gap) := cell_of_row _ _ 3 _ _ _ h
theorem Rdr.fr (h : Rdr w g s ok v gap) (j : Nat) : w.frozen? ⟨g, j, none⟩ = false := Lib.frozen_of_heap h j
theorem Rdr.keep (h : Rdr w g s ok v gap) (hk : w'.heap[g]? = w.heap[g]?) : Rdr w' g s ok v gap := hk.trans h
theorem Rdr.next (h : Rdr w g s ok v gap) (hb : Below w.heap.size w w') : Rdr w' g s ok v gap := h.keep (hb.block g h.lt)
theorem Rdr.s0 (h : Rdr w g s ok v gap) (t : List UInt8) : Rdr (w.setCell ⟨g, 0, none⟩ (.string (str t))) g t ok v gap := by
  unfold Rdr at h ⊢; unfold World.setCell; simp only [Array.getElem?_modify, if_true, h]; rfl
theorem Rdr.s1 (h : Rdr w g s ok v gap) (b : Bool) : Rdr (w.setCell ⟨g, 1, none⟩ (.bool b)) g s b v gap := by
  unfold Rdr at h ⊢; unfold World.setCell; simp only [Array.getElem?_modify, if_true, h]; rfl
theorem Rdr.s2 (h : Rdr w g s ok v gap) (u : Value) : Rdr (w.setCell ⟨g, 2, none⟩ u) g s ok u gap := by
  unfold Rdr at h ⊢; unfold World.setCell; simp only [Array.getElem?_modify, if_true, h]; rfl
theorem Rdr.s3 (h : Rdr w g s ok v gap) (k : Int) : Rdr (w.setCell ⟨g, 3, none⟩ (.int .i64 k)) g s ok v k := by
  unfold Rdr at h ⊢; unfold World.setCell; simp only [Array.getElem?_modify, if_true, h]; rfl
theorem own_setU {m : Nat} {xs : List Value} {u z : Value} {j : Nat} (hown : w.ownsRow (g + 1) 38 1 u m xs) : (w.setCell ⟨g, j, none⟩ z).ownsRow (g + 1) 38 1 u m xs := by
  refine hown.kept (row := some g) ⟨rfl, rfl, rfl, by simp [World.setCell], fun k _ hk => Below.heap_setCell _ _ _ _ (fun e => hk (by simp [e]))⟩ ?_
  right
  intro e
  have := (hown.lt g e).1
  omega
end
/-- The reader, and its pieces: the call's own. -/
def RD (w : World) (g : Nat) (s : List UInt8) (ok : Bool) (l : List Nat) (gap : Int) : Prop := ∃ v, Rdr w g s ok v gap ∧ w.ownsRow (g + 1) 38 1 v l.length (u16s l)
section
variable {w w' : World} {g : Nat} {s : List UInt8} {ok : Bool} {l : List Nat} {gap : Int}
theorem RD.lt (h : RD w g s ok l gap) : g < w.heap.size := by obtain ⟨v, h, _⟩ := h; exact h.lt
theorem RD.c0 (h : RD w g s ok l gap) : w.cell? ⟨g, 0, none⟩ = some (.string (str s)) := by obtain ⟨v, h, _⟩ := h; exact h.c0
theorem RD.c1 (h : RD w g s ok l gap) : w.cell? ⟨g, 1, none⟩ = some (.bool ok) := by obtain ⟨v, h, _⟩ := h; exact h.c1
theorem RD.c2 (h : RD w g s ok l gap) : ∃ A c, w.cell? ⟨g, 2, none⟩ = some (.slice A l.length c) ∧ l.length ≤ c ∧ c ≤ maxLen := by
  obtain ⟨v, h, ho⟩ := h
  obtain ⟨A, c, rfl, h1, h2⟩ := own_shape ho
  exact ⟨A, c, h.c2, h1, h2⟩
theorem RD.c3 (h : RD w g s ok l gap) : w.cell? ⟨g, 3, none⟩ = some (.int .i64 gap) := by obtain ⟨v, h, _⟩ := h; exact h.c3
theorem RD.fr (h : RD w g s ok l gap) (j : Nat) : w.frozen? ⟨g, j, none⟩ = false := by obtain ⟨v, h, _⟩ := h; exact h.fr j
theorem RD.s0 (h : RD w g s ok l gap) (t : List UInt8) : RD (w.setCell ⟨g, 0, none⟩ (.string (str t))) g t ok l gap := by obtain ⟨v, h, ho⟩ := h; exact ⟨v, h.s0 t, own_setU ho⟩
theorem RD.s1 (h : RD w g s ok l gap) (b : Bool) : RD (w.setCell ⟨g, 1, none⟩ (.bool b)) g s b l gap := by obtain ⟨v, h, ho⟩ := h; exact ⟨v, h.s1 b, own_setU ho⟩
theorem RD.s3 (h : RD w g s ok l gap) (k : Int) : RD (w.setCell ⟨g, 3, none⟩ (.int .i64 k)) g s ok l k := by obtain ⟨v, h, ho⟩ := h; exact ⟨v, h.s3 k, own_setU ho⟩
theorem RD.next (h : RD w g s ok l gap) (hb : Below w.heap.size w w') : RD w' g s ok l gap := by
  have hlt := h.lt
  obtain ⟨v, h, ho⟩ := h
  exact ⟨v, h.keep (hb.block g hlt), own_below ho hb (Nat.le_refl _)⟩
theorem RD.drew (h : RD w g s ok l gap) : RD w.drew g s ok l gap := h
end

theorem gb_below {w w' : World} {g : Nat} (hg : w.grownBy w' (some g)) (hlt : g < w.heap.size) : Below g w w' := (Below.refl g w).grown hg (Nat.le_of_lt hlt) (fun k e => by injection e with e; omega)
theorem below_gb {w w' : World} (hb : Below w.heap.size w w') (row : Option Nat) : w.grownBy w' row := ⟨hb.os, hb.tape, hb.output, hb.size, fun k hk _ => hb.block k hk⟩
theorem set_gb (w : World) (g j : Nat) (v : Value) : w.grownBy (w.setCell ⟨g, j, none⟩ v) (some g) :=
  ⟨rfl, rfl, rfl, by simp [World.setCell], fun k _ hk => Below.heap_setCell _ _ _ _ (fun e => hk (by simp [e]))⟩
theorem own_gb {w w' : World} {g m : Nat} {u : Value} {xs : List Value} (hown : w.ownsRow (g + 1) 38 1 u m xs) (hg : w.grownBy w' (some g)) : w'.ownsRow (g + 1) 38 1 u m xs := by
  refine hown.kept hg ?_
  right
  intro e
  have := (hown.lt g e).1
  omega
theorem cutPre_any (s p : List UInt8) (w : World) : Calls Tryd.prog 65 #[.string (str s), .string (str p)] w fun e w' => e = .returned (.tuple #[.string (str (Lib.trimPrefix s p)), .bool (Lib.hasPrefix s p)]) ∧ w = w' := by
  refine (Tryd.strings_CutPrefix (str s) (str p) w).mono fun e w' ⟨he, hw⟩ => ⟨?_, hw.symm⟩
  rw [he, str_data, str_data]; rfl

set_option maxRecDepth 100000 in
set_option maxHeartbeats 1000000 in
theorem take6_any (g : Nat) (s p : List UInt8) (ok : Bool) (v : Value) (gap : Int) (w : World) (h : Rdr w g s ok v gap) :
    Calls Tryd.prog 53 #[.pointer (some ⟨g, 0, none⟩), .string (str p)] w fun e w' => e = .returned (.bool (Lib.hasPrefix s p)) ∧ Rdr w' g (Lib.trimPrefix s p) ok v gap ∧ w.grownBy w' (some g) := by
  have c0 := h.c0
  have f0 := h.fr 0
  have C := Lib.hid fun w => cutPre_any s p w
  cases hb : Lib.hasPrefix s p with
  | true =>
    rw [hb] at C
    clear hb
    go_enter Tryd.func53, Tryd.ntmps53
    go_wp2_with (go_at_call 65; go_must (go_fit (C.out _)); rintro e w1 ⟨rfl, rfl⟩)
    go_ret
    exact ⟨rfl, h.s0 _, set_gb _ _ _ _⟩
  | false =>
    rw [hb] at C
    have HT : Lib.trimPrefix s p = s := by unfold Lib.trimPrefix; rw [hb]; rfl
    rw [HT] at C ⊢
    clear hb HT
    go_enter Tryd.func53, Tryd.ntmps53
    go_wp2_with (go_at_call 65; go_must (go_fit (C.out _)); rintro e w1 ⟨rfl, rfl⟩)
    go_ret
    exact ⟨rfl, h, World.grownBy.refl _ _⟩

theorem while_at {P : UInt8 → Bool} {s : List UInt8} {j : Nat} (h : (s.take j).all P = true) (hj : j ≤ s.length) (hs : j = s.length ∨ P (gb s j) = false) : s.takeWhile P = s.take j ∧ s.dropWhile P = s.drop j := by
  rcases hs with rfl | hs
  · rw [List.take_length] at h ⊢
    obtain ⟨h1, h2⟩ := span_all h
    exact ⟨h1, by rw [h2, List.drop_length]⟩
  · by_cases hj2 : j < s.length
    · obtain ⟨hj', e⟩ := List.getElem?_eq_some_iff.1 (gb_some hj2)
      have es : s = s.take j ++ gb s j :: s.drop (j + 1) := by
        conv => lhs; rw [← List.take_append_drop j s, List.drop_eq_getElem_cons hj', e]
      obtain ⟨h1, h2⟩ := span_stop (t := s.drop (j + 1)) h hs
      rw [← es] at h1 h2
      refine ⟨h1, ?_⟩
      rw [h2, List.drop_eq_getElem_cons hj', e]
    · obtain rfl : j = s.length := by omega
      rw [List.take_length] at h ⊢
      obtain ⟨h1, h2⟩ := span_all h
      exact ⟨h1, by rw [h2, List.drop_length]⟩
theorem all_snoc {P : UInt8 → Bool} {s : List UInt8} {j : Nat} (h : (s.take j).all P = true) (hj : j < s.length) (hp : P (gb s j) = true) : (s.take (j + 1)).all P = true := by
  obtain ⟨hj', e⟩ := List.getElem?_eq_some_iff.1 (gb_some hj)
  rw [take_snoc' s j hj', e, List.all_append, h, List.all_cons, hp]; rfl

set_option maxRecDepth 100000 in
set_option maxHeartbeats 4000000 in
theorem digits6_any (P : UInt8 → Bool) (all : List UInt8) (hall : ∀ c, decide (0 ≤ Lib.indexByte all c) = P c) (g : Nat) (s : List UInt8) (ok : Bool) (v : Value) (gap : Int) (w : World) (h : Rdr w g s ok v gap) (hl : s.length ≤ 100000) :
    Calls Tryd.prog 63 #[.pointer (some ⟨g, 0, none⟩), .string (str all)] w fun e w' => e = .returned (.string (str (s.takeWhile P))) ∧ Rdr w' g (s.dropWhile P) ok v gap ∧ w.grownBy w' (some g) := by
  have c0 := h.c0
  have f0 := h.fr 0
  have hsz := str_size s
  have hgt := str_get s
  have hen := str_end s
  have hfr := str_front s
  have HA := Lib.hid hall
  clear hall
  go_enter Tryd.func63, Tryd.ntmps63
  go_wp2
  go_loopg [5] (s.length) (fun k s5 wr => ∃ j : Nat, k = s.length - j ∧ j ≤ s.length ∧ s5 = .int .i64 j ∧ Hid ((s.take j).all P = true) ∧ w = wr)
  case atStart => exact ⟨0, rfl, Nat.zero_le _, rfl, rfl, rfl⟩
  case round =>
    obtain ⟨j, rfl, hj, rfl, hal, rfl⟩ := hrel
    by_cases hlt : j < s.length
    · have hj0 : (0 : Int) ≤ (j : Int) := by omega
      have C := Lib.hid fun w => indexByte_any all ((gb s j).toNat : Int) w
      have hu : ((gb s j).toNat : Int).toNat.toUInt8 = gb s j := by simp
      have hd := HA.out (gb s j)
      rw [hu] at C
      obtain ⟨i, hi⟩ : ∃ i, i = Lib.indexByte all (gb s j) := ⟨_, rfl⟩
      rw [← hi] at C hd
      clear hi hu
      cases hp : P (gb s j) with
      | true =>
        rw [hp] at hd
        have hi0 := of_decide_eq_true hd
        have HN := Lib.hid (all_snoc hal.out hlt hp)
        clear hd hp
        go_wp2_with (go_at_call 61; go_must (go_fit (C.out _)); rintro e w1 ⟨rfl, rfl⟩)
        go_roundg (s.length - (j + 1))
        case measure => omega
        case rel => exact ⟨j + 1, rfl, by omega, by go_num, HN.out, rfl⟩
      | false =>
        rw [hp] at hd
        have hi0 := of_decide_eq_false hd
        have HW := Lib.hid (while_at hal.out hj (.inr hp))
        clear hd hp
        go_wp2_with (go_at_call 61; go_must (go_fit (C.out _)); rintro e w1 ⟨rfl, rfl⟩)
        go_ret
        rw [HW.out.1, HW.out.2]
        exact ⟨rfl, h.s0 _, set_gb _ _ _ _⟩
    · obtain rfl : j = s.length := by omega
      have HW := Lib.hid (while_at hal.out hj (.inl rfl))
      go_wp2
      go_ret
      rw [HW.out.1, HW.out.2, List.take_length, List.drop_length]
      exact ⟨rfl, h.s0 [], set_gb _ _ _ _⟩

set_option maxRecDepth 100000 in
set_option maxHeartbeats 2000000 in
theorem dotted6_any (g : Nat) (s : List UInt8) (ok : Bool) (l : List Nat) (gap : Int) (w : World) (h : RD w g s ok l gap) :
    Calls Tryd.prog 50 #[.pointer (some ⟨g, 0, none⟩)] w fun e w' => e = .returned (.bool (dotted s)) ∧ w = w' := by
  have c0 := h.c0
  have C1 := Lib.hid fun w => indexByte_any s 46 w
  have C2 := Lib.hid fun w => indexByte_any s 58 w
  have i1 := idx_mem s 46
  have i2 := idx_out s 58
  rw [show (46 : Int).toNat.toUInt8 = 46 from rfl] at C1
  rw [show (58 : Int).toNat.toUInt8 = 58 from rfl] at C2
  have HD : dotted s = (s.contains 46 && !s.contains 58) := by unfold dotted; rw [Bool.eq_iff_iff]; simp
  rw [HD, ← i1, ← i2]
  obtain ⟨x, hx⟩ : ∃ x, x = Lib.indexByte s 46 := ⟨_, rfl⟩
  obtain ⟨y, hy⟩ : ∃ y, y = Lib.indexByte s 58 := ⟨_, rfl⟩
  rw [← hx] at C1 ⊢
  rw [← hy] at C2 ⊢
  clear HD i1 i2 hx hy
  by_cases hx : 0 ≤ x
  · rw [decide_eq_true hx, Bool.true_and]
    go_enter Tryd.func50, Tryd.ntmps50
    go_wp2_with (first | (go_at_call 61; go_fit (C1.out _); rintro e w1 ⟨rfl, rfl⟩) | (go_at_call 61; go_fit (C2.out _); rintro e w1 ⟨rfl, rfl⟩))
    go_ret
    exact ⟨rfl, rfl⟩
  · rw [decide_eq_false hx, Bool.false_and]
    go_enter Tryd.func50, Tryd.ntmps50
    go_wp2_with (first | (go_at_call 61; go_fit (C1.out _); rintro e w1 ⟨rfl, rfl⟩) | (go_at_call 61; go_fit (C2.out _); rintro e w1 ⟨rfl, rfl⟩))
    go_ret
    exact ⟨rfl, rfl⟩

/-- Two colons in front. -/
def two58 (s : List UInt8) : Bool := Lib.hasPrefix s [58, 58]
set_option maxRecDepth 100000 in
set_option maxHeartbeats 4000000 in
theorem noughts6_any (g : Nat) (s : List UInt8) (ok : Bool) (l : List Nat) (gap : Int) (w : World) (h : RD w g s ok l gap) (hl : l.length ≤ 100000) :
    Calls Tryd.prog 49 #[.pointer (some ⟨g, 0, none⟩)] w fun e w' => e = .returned (.bool (two58 s)) ∧ (two58 s = true → RD w' g (s.drop 2) (ok && decide (gap < 0)) l l.length) ∧ (two58 s = false → RD w' g s ok l gap) ∧ Below g w w' := by
  obtain ⟨v, hr, ho⟩ := h
  have C := Lib.hid ((take6_any g s [58, 58] ok v gap w hr).mono fun e w' h' => (⟨h'.1, ⟨v, h'.2.1, own_gb ho h'.2.2⟩, gb_below h'.2.2 hr.lt⟩ : _ ∧ RD w' g _ ok l gap ∧ Below g w w'))
  have HT := Lib.hid (show Lib.trimPrefix s [58, 58] = if two58 s = true then s.drop 2 else s from rfl)
  have e2 : Lib.hasPrefix s [58, 58] = two58 s := rfl
  rw [e2, HT.out] at C
  clear e2
  cases hb : two58 s with
  | true =>
    rw [hb, if_pos rfl] at C
    clear hb HT
    cases ok with
    | true =>
      rw [Bool.true_and]
      go_enter Tryd.func49, Tryd.ntmps49
      go_wp2_with (go_at_call 53; go_must (go_fit C.out); rintro e w1 ⟨rfl, h1, hb1⟩; have d1 := h1.c1; have d3 := h1.c3; have f1 := h1.fr 1; have f3 := h1.fr 3; obtain ⟨A, c, d2, hc, hm⟩ := h1.c2)
      go_ret
      exact ⟨rfl, fun _ => (h1.s1 _).s3 _, (fun h => by cases h), (hb1.setCell (p := ⟨g, 1, none⟩) (Nat.le_refl g) _).setCell (p := ⟨g, 3, none⟩) (Nat.le_refl g) _⟩
    | false =>
      rw [Bool.false_and]
      go_enter Tryd.func49, Tryd.ntmps49
      go_wp2_with (go_at_call 53; go_must (go_fit C.out); rintro e w1 ⟨rfl, h1, hb1⟩; have d1 := h1.c1; have d3 := h1.c3; have f1 := h1.fr 1; have f3 := h1.fr 3; obtain ⟨A, c, d2, hc, hm⟩ := h1.c2)
      go_ret
      exact ⟨rfl, fun _ => (h1.s1 _).s3 _, (fun h => by cases h), (hb1.setCell (p := ⟨g, 1, none⟩) (Nat.le_refl g) _).setCell (p := ⟨g, 3, none⟩) (Nat.le_refl g) _⟩
  | false =>
    rw [hb, if_neg (by decide)] at C
    clear hb HT
    go_enter Tryd.func49, Tryd.ntmps49
    go_wp2_with (go_at_call 53; go_must (go_fit C.out); rintro e w1 ⟨rfl, h1, hb1⟩)
    go_ret
    exact ⟨rfl, (fun h => by cases h), fun _ => h1, hb1⟩
end Go.Proofs.YtaglbcniomcfnaaDoor

