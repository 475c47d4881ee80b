/- A part of the proof. -/
import Derived.Test.YtoapelcofjjdnaaGreatDoorR17
import Derived.StillTailTactics
import Derived.Deep.RegionHeld3
namespace Go.Proofs.YtoapelcofjjdnaaGreatDoor
set_option linter.all false
open Go.RowKit
theorem Row.grown {w w' : World} {g : Nat} {xs : List Value} {row : Option Nat} (h : Row w g xs) (hg : w.grownBy w' row) (hne : some g ≠ row) : Row w' g xs := by
 obtain ⟨h1, h2, h3⟩ := h
 exact ⟨fun j u hu => (hg.cell_far ⟨g, j, none⟩ h3 hne).trans (h1 j u hu), fun j hj => (hg.frozen_far ⟨g, j, none⟩ h3 hne).trans (h2 j hj), Nat.lt_of_lt_of_le h3 hg.size⟩
theorem Row.made (w : World) (us : Array Value) (e : TypeId) : Row (w.alloc (.cells us e)) w.heap.size us.toList :=
 ⟨fun j u hu => by rw [cell_of_row (w.alloc (.cells us e)) w.heap.size j us e (0, 0) (heap_alloc_new w _), ← hu]; simp, fun j _ => Lib.frozen_of_heap (heap_alloc_new w _) j, by simp⟩
theorem Rdr.far {w : World} {g X : Nat} {s : List UInt8} {ok : Bool} {v : Value} {gap : Int} (h : Rdr w g s ok v gap) (hne : g ≠ X) (j : Nat) (u : Value) : Rdr (w.setCell ⟨X, j, none⟩ u) g s ok v gap :=
 h.keep (Below.heap_setCell _ _ _ _ hne)
theorem u16_orN {a b : Nat} (ha : a < 65536) (hb : b < 65536) : bits .or .u16 (a : Int) (b : Int) = ((a ||| b : Nat) : Int) := by
 show IntKind.u16.wrap ((BitVec.ofInt 16 (a : Int) ||| BitVec.ofInt 16 (b : Int)).toNat : Int) = _
 have e1 : BitVec.ofInt 16 (a : Int) = BitVec.ofNat 16 a := BitVec.ofInt_natCast ..
 have e2 : BitVec.ofInt 16 (b : Int) = BitVec.ofNat 16 b := BitVec.ofInt_natCast ..
 have hx : a ||| b < 2 ^ 16 := Nat.or_lt_two_pow (by omega) (by omega)
 rw [e1, e2, BitVec.toNat_or, BitVec.toNat_ofNat, BitVec.toNat_ofNat, Nat.mod_eq_of_lt (by omega), Nat.mod_eq_of_lt (by omega), u16_wrapN, Nat.mod_eq_of_lt (by omega)]
theorem or_bytes {a b : Nat} (hb : b < 256) : a * 256 ||| b = a * 256 + b := by
 have := Nat.shiftLeft_add_eq_or_of_lt (show b < 2 ^ 8 from hb) a
 rw [Nat.shiftLeft_eq] at this
 exact this.symm
def sMore : Nat → List UInt8 → Option (List Nat)
 | 0, r => if r = [] then some [] else none
 | k + 1, r => match r with
  | [] => none
  | c :: t => if c = 46 then sBytes (k + 1) t else none
theorem sBytes_step (k : Nat) (q : List UInt8) : sBytes (k + 1) q = if okByte (q.takeWhile decOk) = true then (sMore k (q.dropWhile decOk)).map (decN (q.takeWhile decOk) :: ·) else none := by
 cases k with
 | zero =>
  show (match sByte q with | none => none | some (n, r) => if r = [] then some [n] else none) = _
  unfold sByte sMore
  by_cases h : okByte (q.takeWhile decOk) = true
  ·
   rw [if_pos h, if_pos h]
   by_cases h2 : q.dropWhile decOk = []
   · simp only [if_pos h2]; rfl
   · simp only [if_neg h2]; rfl
  · rw [if_neg h, if_neg h]
 | succ k =>
  show (match sByte q with | none => none | some (n, r) => match r with | [] => none | c :: t => if c = 46 then (sBytes (k + 1) t).map (n :: ·) else none) = _
  unfold sByte sMore
  by_cases h : okByte (q.takeWhile decOk) = true
  ·
   rw [if_pos h, if_pos h]
   cases h2 : q.dropWhile decOk with
   | nil => rfl
   | cons c t =>
    show (if c = 46 then _ else _) = Option.map _ (if c = 46 then _ else _)
    split <;> rfl
  · rw [if_neg h, if_neg h]
def FI (j : Nat) (r : List UInt8) (ok : Bool) (xs : List Nat) (T : Option (List Nat)) : Prop :=
 xs.length = 4 ∧ (∀ x ∈ xs, x < 65536) ∧ (ok = false → T = none) ∧ (ok = true → (∀ x ∈ xs, x < 256) ∧ T = (if j = 0 then sBytes 4 r else sMore (4 - j) r).map (xs.take j ++ ·))
theorem mem_set2 {xs : List Nat} {j x b : Nat} (h : ∀ y ∈ xs, y < b) (hx : x < b) : ∀ y ∈ xs.set j x, y < b := by
 intro y hy
 rcases List.mem_or_eq_of_mem_set hy with hy | rfl
 · exact h y hy
 · exact hx
theorem FI.no {j : Nat} {r r' : List UInt8} {ok : Bool} {xs : List Nat} {T : Option (List Nat)} (h : FI j r ok xs T) (hT : T = none) : FI (j + 1) r' false (xs.set j 0) T :=
 ⟨by rw [List.length_set]; exact h.1, mem_set2 h.2.1 (by decide), fun _ => hT, fun e => by cases e⟩
theorem FI.stop {j : Nat} {r : List UInt8} {xs : List Nat} {T : Option (List Nat)} (h : FI j r true xs T) (hj : 0 < j) (hj4 : j < 4) (hp : Lib.hasPrefix r [46] = false) : T = none := by
 have h4 := (h.2.2.2 rfl).2
 rw [if_neg (by omega), show 4 - j = (3 - j) + 1 by omega] at h4
 rw [h4]
 unfold sMore
 cases r with
 | nil => rfl
 | cons c t =>
  show Option.map _ (if c = 46 then _ else _) = none
  rw [if_neg]
  · rfl
  ·
   rintro rfl
   simp [Lib.hasPrefix] at hp
theorem pre46 {r : List UInt8} (hp : Lib.hasPrefix r [46] = true) : ∃ t, r = 46 :: t ∧ Lib.trimPrefix r [46] = t := by
 unfold Lib.trimPrefix
 rw [hp]
 cases r with
 | nil => simp [Lib.hasPrefix] at hp
 | cons c t =>
  simp [Lib.hasPrefix] at hp
  exact ⟨t, by rw [← hp], rfl⟩
theorem FI.byte {j : Nat} {r q : List UInt8} {xs : List Nat} {T : Option (List Nat)} (h : FI j r true xs T) (hj : j < 4) (hq : (j = 0 ∧ q = r) ∨ (0 < j ∧ r = 46 :: q)) {x : Nat} (hx : x < 65536) (hd : okByte (q.takeWhile decOk) = true → x = decN (q.takeWhile decOk)) :
  FI (j + 1) (q.dropWhile decOk) (okByte (q.takeWhile decOk)) ((xs.set j 0).set j x) T := by
 obtain ⟨h1, h2, _, h4⟩ := h
 obtain ⟨h4, h5⟩ := h4 rfl
 have e : T = (sBytes (4 - j) q).map (xs.take j ++ ·) := by
  rcases hq with ⟨rfl, rfl⟩ | ⟨hj0, rfl⟩
  · exact h5
  ·
   rw [if_neg (by omega), show 4 - j = (3 - j) + 1 by omega] at h5
   have e3 : sMore (3 - j + 1) (46 :: q) = sBytes (3 - j + 1) q := by
    show (if (46 : UInt8) = 46 then sBytes (3 - j + 1) q else none) = _
    exact if_pos rfl
   rw [h5, e3, show 4 - j = (3 - j) + 1 by omega]
 rw [show 4 - j = (3 - j) + 1 by omega, sBytes_step] at e
 refine ⟨by simp [h1], mem_set2 (mem_set2 h2 (by decide)) hx, fun hk => ?_, fun hk => ⟨?_, ?_⟩⟩
 · rw [e, if_neg (by rw [hk]; decide)]; rfl
 ·
  have := of_decide_eq_true hk
  exact mem_set2 (mem_set2 h4 (by decide)) (by rw [hd hk]; omega)
 ·
  rw [e, if_pos hk, if_neg (by omega), show 4 - (j + 1) = 3 - j by omega, Option.map_map]
  have et : ((xs.set j 0).set j x).take (j + 1) = xs.take j ++ [x] := by
   rw [List.set_set, take_snoc' _ j (by rw [List.length_set]; omega)]
   congr 1
   · rw [List.take_set, List.set_eq_of_length_le (by rw [List.length_take]; omega)]
   · simp
  rw [et, hd hk]
  congr 1
  funext m
  simp
theorem opAt0 {α : Type} {a0 : α} {l : List α} : (List.toArray (a0 :: l))[0]? = some a0 := rfl
theorem opAt1 {α : Type} {a0 a1 : α} {l : List α} : (List.toArray (a0 :: a1 :: l))[1]? = some a1 := rfl
theorem opAt2 {α : Type} {a0 a1 a2 : α} {l : List α} : (List.toArray (a0 :: a1 :: a2 :: l))[2]? = some a2 := rfl
theorem opAt3 {α : Type} {a0 a1 a2 a3 : α} {l : List α} : (List.toArray (a0 :: a1 :: a2 :: a3 :: l))[3]? = some a3 := rfl
theorem opAt4 {α : Type} {a0 a1 a2 a3 a4 : α} {l : List α} : (List.toArray (a0 :: a1 :: a2 :: a3 :: a4 :: l))[4]? = some a4 := rfl
theorem opAt5 {α : Type} {a0 a1 a2 a3 a4 a5 : α} {l : List α} : (List.toArray (a0 :: a1 :: a2 :: a3 :: a4 :: a5 :: l))[5]? = some a5 := rfl
theorem opAt6 {α : Type} {a0 a1 a2 a3 a4 a5 a6 : α} {l : List α} : (List.toArray (a0 :: a1 :: a2 :: a3 :: a4 :: a5 :: a6 :: l))[6]? = some a6 := rfl
theorem opAt7 {α : Type} {a0 a1 a2 a3 a4 a5 a6 a7 : α} {l : List α} : (List.toArray (a0 :: a1 :: a2 :: a3 :: a4 :: a5 :: a6 :: a7 :: l))[7]? = some a7 := rfl
theorem opAt8 {α : Type} {a0 a1 a2 a3 a4 a5 a6 a7 a8 : α} {l : List α} : (List.toArray (a0 :: a1 :: a2 :: a3 :: a4 :: a5 :: a6 :: a7 :: a8 :: l))[8]? = some a8 := rfl
theorem opAt9 {α : Type} {a0 a1 a2 a3 a4 a5 a6 a7 a8 a9 : α} {l : List α} : (List.toArray (a0 :: a1 :: a2 :: a3 :: a4 :: a5 :: a6 :: a7 :: a8 :: a9 :: l))[9]? = some a9 := rfl
theorem opAt10 {α : Type} {a0 a1 a2 a3 a4 a5 a6 a7 a8 a9 a10 : α} {l : List α} : (List.toArray (a0 :: a1 :: a2 :: a3 :: a4 :: a5 :: a6 :: a7 :: a8 :: a9 :: a10 :: l))[10]? = some a10 := rfl
theorem opAt11 {α : Type} {a0 a1 a2 a3 a4 a5 a6 a7 a8 a9 a10 a11 : α} {l : List α} : (List.toArray (a0 :: a1 :: a2 :: a3 :: a4 :: a5 :: a6 :: a7 :: a8 :: a9 :: a10 :: a11 :: l))[11]? = some a11 := rfl
theorem opAt12 {α : Type} {a0 a1 a2 a3 a4 a5 a6 a7 a8 a9 a10 a11 a12 : α} {l : List α} : (List.toArray (a0 :: a1 :: a2 :: a3 :: a4 :: a5 :: a6 :: a7 :: a8 :: a9 :: a10 :: a11 :: a12 :: l))[12]? = some a12 := rfl
theorem opAt13 {α : Type} {a0 a1 a2 a3 a4 a5 a6 a7 a8 a9 a10 a11 a12 a13 : α} {l : List α} : (List.toArray (a0 :: a1 :: a2 :: a3 :: a4 :: a5 :: a6 :: a7 :: a8 :: a9 :: a10 :: a11 :: a12 :: a13 :: l))[13]? = some a13 := rfl
theorem opAt14 {α : Type} {a0 a1 a2 a3 a4 a5 a6 a7 a8 a9 a10 a11 a12 a13 a14 : α} {l : List α} : (List.toArray (a0 :: a1 :: a2 :: a3 :: a4 :: a5 :: a6 :: a7 :: a8 :: a9 :: a10 :: a11 :: a12 :: a13 :: a14 :: l))[14]? = some a14 := rfl
theorem opAt15 {α : Type} {a0 a1 a2 a3 a4 a5 a6 a7 a8 a9 a10 a11 a12 a13 a14 a15 : α} {l : List α} : (List.toArray (a0 :: a1 :: a2 :: a3 :: a4 :: a5 :: a6 :: a7 :: a8 :: a9 :: a10 :: a11 :: a12 :: a13 :: a14 :: a15 :: l))[15]? = some a15 := rfl
theorem opAt16 {α : Type} {a0 a1 a2 a3 a4 a5 a6 a7 a8 a9 a10 a11 a12 a13 a14 a15 a16 : α} {l : List α} : (List.toArray (a0 :: a1 :: a2 :: a3 :: a4 :: a5 :: a6 :: a7 :: a8 :: a9 :: a10 :: a11 :: a12 :: a13 :: a14 :: a15 :: a16 :: l))[16]? = some a16 := rfl
theorem opAt17 {α : Type} {a0 a1 a2 a3 a4 a5 a6 a7 a8 a9 a10 a11 a12 a13 a14 a15 a16 a17 : α} {l : List α} : (List.toArray (a0 :: a1 :: a2 :: a3 :: a4 :: a5 :: a6 :: a7 :: a8 :: a9 :: a10 :: a11 :: a12 :: a13 :: a14 :: a15 :: a16 :: a17 :: l))[17]? = some a17 := rfl
theorem opAt18 {α : Type} {a0 a1 a2 a3 a4 a5 a6 a7 a8 a9 a10 a11 a12 a13 a14 a15 a16 a17 a18 : α} {l : List α} : (List.toArray (a0 :: a1 :: a2 :: a3 :: a4 :: a5 :: a6 :: a7 :: a8 :: a9 :: a10 :: a11 :: a12 :: a13 :: a14 :: a15 :: a16 :: a17 :: a18 :: l))[18]? = some a18 := rfl
theorem opAt19 {α : Type} {a0 a1 a2 a3 a4 a5 a6 a7 a8 a9 a10 a11 a12 a13 a14 a15 a16 a17 a18 a19 : α} {l : List α} : (List.toArray (a0 :: a1 :: a2 :: a3 :: a4 :: a5 :: a6 :: a7 :: a8 :: a9 :: a10 :: a11 :: a12 :: a13 :: a14 :: a15 :: a16 :: a17 :: a18 :: a19 :: l))[19]? = some a19 := rfl
theorem opAt20 {α : Type} {a0 a1 a2 a3 a4 a5 a6 a7 a8 a9 a10 a11 a12 a13 a14 a15 a16 a17 a18 a19 a20 : α} {l : List α} : (List.toArray (a0 :: a1 :: a2 :: a3 :: a4 :: a5 :: a6 :: a7 :: a8 :: a9 :: a10 :: a11 :: a12 :: a13 :: a14 :: a15 :: a16 :: a17 :: a18 :: a19 :: a20 :: l))[20]? = some a20 := rfl
theorem opAt21 {α : Type} {a0 a1 a2 a3 a4 a5 a6 a7 a8 a9 a10 a11 a12 a13 a14 a15 a16 a17 a18 a19 a20 a21 : α} {l : List α} : (List.toArray (a0 :: a1 :: a2 :: a3 :: a4 :: a5 :: a6 :: a7 :: a8 :: a9 :: a10 :: a11 :: a12 :: a13 :: a14 :: a15 :: a16 :: a17 :: a18 :: a19 :: a20 :: a21 :: l))[21]? = some a21 := rfl
def FourIs (s r : List UInt8) (ok : Bool) (y0 y1 : Nat) : Prop := (∃ m, sFour s = some m ∧ ok = true ∧ r = [] ∧ m = [y0, y1]) ∨ (sFour s = none ∧ ¬ (ok = true ∧ r = []))
theorem FI.done {s r : List UInt8} {ok : Bool} {a b c d : Nat} (h : FI 4 r ok [a, b, c, d] (sBytes 4 s)) : FourIs s r ok (a * 256 % 65536 ||| b) (c * 256 % 65536 ||| d) := by
 obtain ⟨_, _, h3, h4⟩ := h
 unfold FourIs sFour
 cases ok with
 | false => exact .inr ⟨by rw [h3 rfl]; rfl, fun e => by cases e.1⟩
 | true =>
  obtain ⟨h4, h5⟩ := h4 rfl
  have ha := h4 a (by simp)
  have hb := h4 b (by simp)
  have hc := h4 c (by simp)
  have hd := h4 d (by simp)
  have h5 : sBytes 4 s = (if r = [] then some [] else none).map ([a, b, c, d] ++ ·) := h5
  by_cases hr : r = []
  ·
   refine .inl ⟨[a * 256 + b, c * 256 + d], by rw [h5, if_pos hr]; rfl, rfl, hr, ?_⟩
   rw [Nat.mod_eq_of_lt (by omega), Nat.mod_eq_of_lt (by omega), or_bytes hb, or_bytes hd]
  · exact .inr ⟨by rw [h5, if_neg hr]; rfl, fun e => hr e.2⟩
def FourPost (g : Nat) (s : List UInt8) (l : List Nat) (gap : Int) (w w' : World) : Prop := ∃ r ok y0 y1, RD w' g r ok (l ++ [y0, y1]) gap ∧ y0 < 65536 ∧ y1 < 65536 ∧ FourIs s r ok y0 y1 ∧ Below g w w'
theorem own_far {w : World} {B g X m j : Nat} {e : TypeId} {u z : Value} {xs : List Value} (hown : w.ownsRow B e 1 u m xs) (hX : u.ownBlock ≠ some X) : (w.setCell ⟨X, j, none⟩ z).ownsRow B e 1 u m xs := hown.kept (set_gb _ _ _ _) (.inr hX)
theorem u16s_at {xs : List Nat} {j : Nat} (h : j < xs.length) : ∃ x : Nat, (u16s xs)[j]? = some (.int .u16 (x : Int)) := ⟨xs[j], by unfold u16s; rw [List.getElem?_map, List.getElem?_eq_getElem h]; rfl⟩
theorem u16s_set (xs : List Nat) (j x : Nat) : (u16s xs).set j (.int .u16 (x : Int)) = u16s (xs.set j x) := by
 unfold u16s; rw [List.map_set]
-- The round's end: nothing was read.
-- A number is read.
-- What is so behind a full stop that was taken, or not.
set_option maxRecDepth 100000 in
set_option maxHeartbeats 16000000 in
theorem four6_any (g : Nat) (s : List UInt8) (l : List Nat) (gap : Int) (w : World) (h : RD w g s true l gap) (hev : EV w) (hlow : Low g) (hs : s.length ≤ 100000) (hl : l.length ≤ 100000) :
  Calls Tryz.prog 127 #[.pointer (some ⟨g, 0, none⟩)] w fun e w' => e = .returned (.tuple #[]) ∧ FourPost g s l gap w w' := by
 obtain ⟨v, hr0, ho0⟩ := h
 have hgl := hr0.lt
 have hgX : g ≠ w.heap.size := by omega
 have hvX : v.ownBlock ≠ some w.heap.size := by
  intro e
  have := (ho0.lt _ e).2
  omega
 have hr1 := hr0.next ((Below.refl w.heap.size w).alloc (Nat.le_refl _) (.cells #[.int .u16 0, .int .u16 0, .int .u16 0, .int .u16 0] 166))
 have hw0 : Row (w.alloc (.cells #[.int .u16 0, .int .u16 0, .int .u16 0, .int .u16 0] 166)) w.heap.size (u16s [0, 0, 0, 0]) := Row.made w #[.int .u16 0, .int .u16 0, .int .u16 0, .int .u16 0] 166
 have hb0 : Below g w (w.alloc (.cells #[.int .u16 0, .int .u16 0, .int .u16 0, .int .u16 0] 166)) := (Below.refl g w).alloc (by omega) _
 have ho1 := ho0.alloc (.cells #[.int .u16 0, .int .u16 0, .int .u16 0, .int .u16 0] 166)
 go_enter Tryz.func127, Tryz.ntmps127
 go_wp2
 generalize w.alloc (.cells #[.int .u16 0, .int .u16 0, .int .u16 0, .int .u16 0] 166) = wA at *
 generalize w.heap.size = X at *
 go_loopg [4] 4 (fun k s4 wr => ∃ (j : Nat) (r : List UInt8) (ok : Bool) (xs : List Nat), k = 4 - j ∧ j ≤ 4 ∧ s4 = .int .i64 j ∧ Rdr wr g r ok v gap ∧ Row wr X (u16s xs) ∧ r.length ≤ 100000 ∧ Hid (FI j r ok xs (sBytes 4 s)) ∧ Below g w wr ∧ wr.ownsRow (g + 1) 23 1 v l.length (u16s l))
 case atStart => exact ⟨0, s, true, [0, 0, 0, 0], rfl, by omega, rfl, hr1, hw0, hs, ⟨rfl, by decide, (fun e => by cases e), fun _ => ⟨by decide, by rw [if_pos rfl]; cases sBytes 4 s <;> rfl⟩⟩, hb0, ho1⟩
 case round =>
  obtain ⟨j, r, ok, xs, rfl, hj, rfl, hr, hw, hrl0, HN, hb, ho⟩ := hrel
  clear hr1 hw0 hb0 ho1 hr0
  have hx4 := HN.out.1
  have d1 := hr.c1
  by_cases hlt : j < 4
  ·
   obtain ⟨xj, hxj⟩ := u16s_at (xs := xs) (j := j) (by omega)
   have cX := hw.1 j _ hxj
   have fX := hw.2.1 j (by rw [u16s_len]; omega)
   have e1 := fun u => (hr.far hgX j u).c1
   have CT := Lib.hid (take6_any g r [46] ok v gap wr hr)
   have hj0' : (0 : Int) ≤ (j : Int) := by omega
   have hj4' : (j : Int) < 4 := by omega
   cases ok with
   | false =>
    have HT := Lib.hid (HN.out.2.2.1 rfl)
    by_cases h0 : j = 0
    ·
     have hj0 : ¬ (0 : Int) < (j : Int) := by omega
     have hrN := hr
     have hwN := hw
     have hbN := hb
     have hoN := ho
     have hrl := hrl0
     clear h0
     go_wp2
     go_roundg (4 - (j + 1))
     case measure => omega
     case rel => exact ⟨j + 1, _, false, xs.set j 0, rfl, by omega, by go_num, hrN.far hgX _ _, by rw [← u16s_set]; exact Row.set hwN (by rw [u16s_len]; omega) _, hrl, HN.out.no HT.out, (hbN.setCell (p := ⟨X, j, none⟩) (Nat.le_of_lt hgl) _), own_far (g := g) hoN hvX⟩
    ·
     have hj0 : (0 : Int) < (j : Int) := by omega
     cases hp : Lib.hasPrefix r [46] with
     | true =>
      rw [hp] at CT
      obtain ⟨t, ht, ht2⟩ := pre46 hp
      rw [ht2] at CT
      have hrl : t.length ≤ 100000 := by rw [ht] at hrl0; simp at hrl0; omega
      clear hp ht ht2
      go_wp2_with (go_at_call 129; go_must (go_fit CT.out); rintro e w1 ⟨rfl, h1, hg1⟩; have hlt1 := h1.lt; have hw1 := Row.grown hw hg1 (fun e => hgX (by injection e with e; exact e.symm)); have ho1 := own_gb ho hg1; have hb1 := hb.trans (gb_below hg1 hr.lt); have d11 := h1.c1; have f11 := h1.fr 1; have cX1 := hw1.1 j _ hxj; have fX1 := hw1.2.1 j (by rw [u16s_len]; omega); have e11 := fun u => (h1.far hgX j u).c1; have e12 := fun u => ((h1.s1 false).far hgX j u).c1; have cX2 := (Row.grown hw1 (set_gb w1 g 1 (.bool false)) (fun e => hgX (by injection e with e; exact e.symm))).1 j _ hxj; have fX2 := (Row.grown hw1 (set_gb w1 g 1 (.bool false)) (fun e => hgX (by injection e with e; exact e.symm))).2.1 j (by rw [u16s_len]; omega))
      have hrN := h1
      have hwN := hw1
      have hbN := hb1
      have hoN := ho1
      go_roundg (4 - (j + 1))
      case measure => omega
      case rel => exact ⟨j + 1, _, false, xs.set j 0, rfl, by omega, by go_num, hrN.far hgX _ _, by rw [← u16s_set]; exact Row.set hwN (by rw [u16s_len]; omega) _, hrl, HN.out.no HT.out, (hbN.setCell (p := ⟨X, j, none⟩) (Nat.le_of_lt hgl) _), own_far (g := g) hoN hvX⟩
     | false =>
      rw [hp, show Lib.trimPrefix r [46] = r by unfold Lib.trimPrefix; rw [hp]; rfl] at CT
      have hrl := hrl0
      clear hp
      go_wp2_with (go_at_call 129; go_must (go_fit CT.out); rintro e w1 ⟨rfl, h1, hg1⟩; have hlt1 := h1.lt; have hw1 := Row.grown hw hg1 (fun e => hgX (by injection e with e; exact e.symm)); have ho1 := own_gb ho hg1; have hb1 := hb.trans (gb_below hg1 hr.lt); have d11 := h1.c1; have f11 := h1.fr 1; have cX1 := hw1.1 j _ hxj; have fX1 := hw1.2.1 j (by rw [u16s_len]; omega); have e11 := fun u => (h1.far hgX j u).c1; have e12 := fun u => ((h1.s1 false).far hgX j u).c1; have cX2 := (Row.grown hw1 (set_gb w1 g 1 (.bool false)) (fun e => hgX (by injection e with e; exact e.symm))).1 j _ hxj; have fX2 := (Row.grown hw1 (set_gb w1 g 1 (.bool false)) (fun e => hgX (by injection e with e; exact e.symm))).2.1 j (by rw [u16s_len]; omega))
      have hrN := h1.s1 false
      have hwN := Row.grown hw1 (set_gb w1 g 1 (.bool false)) (fun e => hgX (by injection e with e; exact e.symm))
      have hbN := hb1.setCell (p := ⟨g, 1, none⟩) (Nat.le_refl g) (.bool false)
      have hoN := own_setU (j := 1) (z := .bool false) ho1
      go_roundg (4 - (j + 1))
      case measure => omega
      case rel => exact ⟨j + 1, _, false, xs.set j 0, rfl, by omega, by go_num, hrN.far hgX _ _, by rw [← u16s_set]; exact Row.set hwN (by rw [u16s_len]; omega) _, hrl, HN.out.no HT.out, (hbN.setCell (p := ⟨X, j, none⟩) (Nat.le_of_lt hgl) _), own_far (g := g) hoN hvX⟩
   | true =>
    by_cases h0 : j = 0
    ·
     have hj0 : ¬ (0 : Int) < (j : Int) := by omega
     obtain ⟨q, hq⟩ : ∃ q, q = r := ⟨_, rfl⟩
     have HQ := Lib.hid (show (j = 0 ∧ q = r) ∨ (0 < j ∧ r = 46 :: q) from .inl ⟨h0, hq⟩)
     have CB := Lib.hid fun w h hev => byte6_any g q true v gap w h hev hlow (by rw [hq]; exact hrl0)
     have hql : q.length ≤ 100000 := by rw [hq]; exact hrl0
     rw [← hq] at hr
     clear hq h0
     go_wp2_with (go_at_call 151; go_must (go_fit (CB.out _ (Rdr.far hr hgX j (.int .u16 0)) (hev.low hlow (hb.setCell (p := ⟨X, j, none⟩) (Nat.le_of_lt hgl) _)))); rintro e w3 ⟨x, rfl, hx, hxd, h3, hg3⟩; have hlt2 := (Rdr.far hr hgX j (.int .u16 0)).lt; have hb2 := Below.setCell hb (p := ⟨X, j, none⟩) (Nat.le_of_lt hgl) (.int .u16 0); have ho2 := own_far (g := g) (j := j) (z := .int .u16 0) ho hvX; have hw3 := Row.grown (show Row (wr.setCell ⟨X, j, none⟩ (.int .u16 0)) X (u16s (xs.set j 0)) from (u16s_set xs j 0) ▸ Row.set hw (by rw [u16s_len]; omega) (.int .u16 ((0 : Nat) : Int))) hg3 (fun e => hgX (by injection e with e; exact e.symm)); obtain ⟨x0, hx0⟩ := u16s_at (xs := xs.set j 0) (j := j) (by rw [List.length_set]; omega); have cX3 := hw3.1 j _ hx0; have fX3 := hw3.2.1 j (by rw [u16s_len, List.length_set]; omega))
     go_roundg (4 - (j + 1))
     case measure => omega
     case rel => exact ⟨j + 1, _, _, (xs.set j 0).set j x, rfl, by omega, by go_num, h3.far hgX _ _, by rw [← u16s_set]; exact Row.set hw3 (by rw [u16s_len, List.length_set]; omega) _, by have := dropWhile_len decOk q; omega, HN.out.byte hlt HQ.out hx hxd.out, ((hb2.trans (gb_below hg3 hlt2)).setCell (p := ⟨X, j, none⟩) (Nat.le_of_lt hgl) _), own_far (g := g) (own_gb ho2 hg3) hvX⟩
    ·
     have hj0 : (0 : Int) < (j : Int) := by omega
     cases hp : Lib.hasPrefix r [46] with
     | true =>
      rw [hp] at CT
      obtain ⟨q, hq, ht2⟩ := pre46 hp
      rw [ht2] at CT
      have HQ := Lib.hid (show (j = 0 ∧ q = r) ∨ (0 < j ∧ r = 46 :: q) from .inr ⟨by omega, hq⟩)
      have hql : q.length ≤ 100000 := by rw [hq] at hrl0; simp at hrl0; omega
      have CB := Lib.hid fun w h hev => byte6_any g q true v gap w h hev hlow hql
      clear hp hq ht2 h0
      go_wp2_with (first | (go_at_call 129; go_must (go_fit CT.out); rintro e w1 ⟨rfl, h1, hg1⟩; have hlt1 := h1.lt; have hw1 := Row.grown hw hg1 (fun e => hgX (by injection e with e; exact e.symm)); have ho1 := own_gb ho hg1; have hb1 := hb.trans (gb_below hg1 hr.lt); have d11 := h1.c1; have f11 := h1.fr 1; have cX1 := hw1.1 j _ hxj; have fX1 := hw1.2.1 j (by rw [u16s_len]; omega); have e11 := fun u => (h1.far hgX j u).c1; have e12 := fun u => ((h1.s1 false).far hgX j u).c1; have cX2 := (Row.grown hw1 (set_gb w1 g 1 (.bool false)) (fun e => hgX (by injection e with e; exact e.symm))).1 j _ hxj; have fX2 := (Row.grown hw1 (set_gb w1 g 1 (.bool false)) (fun e => hgX (by injection e with e; exact e.symm))).2.1 j (by rw [u16s_len]; omega)) | (go_at_call 151; go_must (go_fit (CB.out _ (Rdr.far h1 hgX j (.int .u16 0)) (hev.low hlow (hb1.setCell (p := ⟨X, j, none⟩) (Nat.le_of_lt hgl) _)))); rintro e w3 ⟨x, rfl, hx, hxd, h3, hg3⟩; have hlt2 := (Rdr.far h1 hgX j (.int .u16 0)).lt; have hb2 := Below.setCell hb1 (p := ⟨X, j, none⟩) (Nat.le_of_lt hgl) (.int .u16 0); have ho2 := own_far (g := g) (j := j) (z := .int .u16 0) ho1 hvX; have hw3 := Row.grown (show Row (w1.setCell ⟨X, j, none⟩ (.int .u16 0)) X (u16s (xs.set j 0)) from (u16s_set xs j 0) ▸ Row.set hw1 (by rw [u16s_len]; omega) (.int .u16 ((0 : Nat) : Int))) hg3 (fun e => hgX (by injection e with e; exact e.symm)); obtain ⟨x0, hx0⟩ := u16s_at (xs := xs.set j 0) (j := j) (by rw [List.length_set]; omega); have cX3 := hw3.1 j _ hx0; have fX3 := hw3.2.1 j (by rw [u16s_len, List.length_set]; omega)))
      go_roundg (4 - (j + 1))
      case measure => omega
      case rel => exact ⟨j + 1, _, _, (xs.set j 0).set j x, rfl, by omega, by go_num, h3.far hgX _ _, by rw [← u16s_set]; exact Row.set hw3 (by rw [u16s_len, List.length_set]; omega) _, by have := dropWhile_len decOk q; omega, HN.out.byte hlt HQ.out hx hxd.out, ((hb2.trans (gb_below hg3 hlt2)).setCell (p := ⟨X, j, none⟩) (Nat.le_of_lt hgl) _), own_far (g := g) (own_gb ho2 hg3) hvX⟩
     | false =>
      rw [hp, show Lib.trimPrefix r [46] = r by unfold Lib.trimPrefix; rw [hp]; rfl] at CT
      have HT := Lib.hid (HN.out.stop (by omega) hlt hp)
      have hrl := hrl0
      clear hp
      go_wp2_with (go_at_call 129; go_must (go_fit CT.out); rintro e w1 ⟨rfl, h1, hg1⟩; have hlt1 := h1.lt; have hw1 := Row.grown hw hg1 (fun e => hgX (by injection e with e; exact e.symm)); have ho1 := own_gb ho hg1; have hb1 := hb.trans (gb_below hg1 hr.lt); have d11 := h1.c1; have f11 := h1.fr 1; have cX1 := hw1.1 j _ hxj; have fX1 := hw1.2.1 j (by rw [u16s_len]; omega); have e11 := fun u => (h1.far hgX j u).c1; have e12 := fun u => ((h1.s1 false).far hgX j u).c1; have cX2 := (Row.grown hw1 (set_gb w1 g 1 (.bool false)) (fun e => hgX (by injection e with e; exact e.symm))).1 j _ hxj; have fX2 := (Row.grown hw1 (set_gb w1 g 1 (.bool false)) (fun e => hgX (by injection e with e; exact e.symm))).2.1 j (by rw [u16s_len]; omega))
      have hrN := h1.s1 false
      have hwN := Row.grown hw1 (set_gb w1 g 1 (.bool false)) (fun e => hgX (by injection e with e; exact e.symm))
      have hbN := hb1.setCell (p := ⟨g, 1, none⟩) (Nat.le_refl g) (.bool false)
      have hoN := own_setU (j := 1) (z := .bool false) ho1
      go_roundg (4 - (j + 1))
      case measure => omega
      case rel => exact ⟨j + 1, _, false, xs.set j 0, rfl, by omega, by go_num, hrN.far hgX _ _, by rw [← u16s_set]; exact Row.set hwN (by rw [u16s_len]; omega) _, hrl, HN.out.no HT.out, (hbN.setCell (p := ⟨X, j, none⟩) (Nat.le_of_lt hgl) _), own_far (g := g) hoN hvX⟩
  ·
   obtain rfl : j = 4 := by omega
   obtain ⟨a, b, c, d, rfl⟩ : ∃ a b c d, xs = [a, b, c, d] := by
    match xs, hx4 with
    | [a, b, c, d], _ => exact ⟨a, b, c, d, rfl⟩
   have hgr := hr.lt
   have d2 := hr.c2
   have al := fun o => (Below.refl wr.heap.size wr).alloc (Nat.le_refl _) o
   have d2a := fun o => (hr.next (al o)).c2
   have x0 : wr.cell? ⟨X, 0, none⟩ = some (.int .u16 (a : Int)) := hw.1 0 _ rfl
   have x1 : wr.cell? ⟨X, 1, none⟩ = some (.int .u16 (b : Int)) := hw.1 1 _ rfl
   have x2 : wr.cell? ⟨X, 2, none⟩ = some (.int .u16 (c : Int)) := hw.1 2 _ rfl
   have x3 : wr.cell? ⟨X, 3, none⟩ = some (.int .u16 (d : Int)) := hw.1 3 _ rfl
   have x0a : ∀ o, (wr.alloc o).cell? ⟨X, 0, none⟩ = some (.int .u16 (a : Int)) := fun o => (hw.below (al o) hw.2.2).1 0 _ rfl
   have x1a : ∀ o, (wr.alloc o).cell? ⟨X, 1, none⟩ = some (.int .u16 (b : Int)) := fun o => (hw.below (al o) hw.2.2).1 1 _ rfl
   have x2a : ∀ o, (wr.alloc o).cell? ⟨X, 2, none⟩ = some (.int .u16 (c : Int)) := fun o => (hw.below (al o) hw.2.2).1 2 _ rfl
   have x3a : ∀ o, (wr.alloc o).cell? ⟨X, 3, none⟩ = some (.int .u16 (d : Int)) := fun o => (hw.below (al o) hw.2.2).1 3 _ rfl
   have hl4 := HN.out.2.1
   have ha := hl4 a (by simp)
   have hb' := hl4 b (by simp)
   have hc' := hl4 c (by simp)
   have hd' := hl4 d (by simp)
   have HD := Lib.hid HN.out.done
   obtain ⟨p0, hp0⟩ : ∃ p0 : Nat, p0 = a * 256 % 65536 := ⟨_, rfl⟩
   obtain ⟨p1, hp1⟩ : ∃ p1 : Nat, p1 = c * 256 % 65536 := ⟨_, rfl⟩
   have q0 : IntKind.u16.wrap ((a : Int) * 256) = (p0 : Int) := by rw [hp0, ← u16_wrapN]; simp
   have q1 : IntKind.u16.wrap ((c : Int) * 256) = (p1 : Int) := by rw [hp1, ← u16_wrapN]; simp
   have r0 := u16_orN (a := p0) (b := b) (by omega) hb'
   have r1 := u16_orN (a := p1) (b := d) (by omega) hd'
   have z0 : p0 ||| b < 65536 := Nat.or_lt_two_pow (n := 16) (by omega) hb'
   have z1 : p1 ||| d < 65536 := Nat.or_lt_two_pow (n := 16) (by omega) hd'
   rw [← hp0, ← hp1] at HD
   obtain ⟨y0, hy0⟩ : ∃ y0 : Nat, y0 = p0 ||| b := ⟨_, rfl⟩
   obtain ⟨y1, hy1⟩ : ∃ y1 : Nat, y1 = p1 ||| d := ⟨_, rfl⟩
   rw [← hy0] at r0 z0 HD
   rw [← hy1] at r1 z1 HD
   clear hp0 hp1 hy0 hy1 HN hl4 hx4 hlt hj
   go_wp2
   refine wp_region_held_drew (S := (fun w' => w'.cell? ⟨X, 0, none⟩ = some (.int .u16 (a : Int)) ∧ w'.cell? ⟨X, 1, none⟩ = some (.int .u16 (b : Int)) ∧ w'.cell? ⟨X, 2, none⟩ = some (.int .u16 (c : Int)) ∧ w'.cell? ⟨X, 3, none⟩ = some (.int .u16 (d : Int)))) (by kernel_rfl) ?_ (fun hHeld => ?_)
   · (try dsimp only); (first | exact ⟨x0, x1, x2, x3⟩ | exact ⟨x0a _, x1a _, x2a _, x3a _⟩ | exact ⟨x0b, x1b, x2b, x3b⟩ | exact ⟨x0c _, x1c _, x2c _, x3c _⟩)
   refine wpAnyH_take (i := 0) (v := ?_) opAt0 (by kernel_rfl) (by kernel_rfl) (by kernel_rfl) (fun _ _ _ h => h) (Or.inl ⟨by rfl, ?_⟩) (by assumption) ?_
   rotate_left
   · (intro w hSw; (try dsimp only at hSw); go_simp; (try with_reducible rfl))
   try simp only [Act.put, List.setIfInBounds_toArray, List.set_cons_zero, List.set_cons_succ]
   refine wpAnyH_take (i := 1) (v := ?_) opAt1 (by kernel_rfl) (by kernel_rfl) (by kernel_rfl) (fun _ _ _ h => h) (Or.inl ⟨by rfl, ?_⟩) (by assumption) ?_
   rotate_left
   · (intro w hSw; (try dsimp only at hSw); go_simp; (try with_reducible rfl))
   try simp only [Act.put, List.setIfInBounds_toArray, List.set_cons_zero, List.set_cons_succ]
   refine wpAnyH_take (i := 2) (v := ?_) opAt2 (by kernel_rfl) (by kernel_rfl) (by kernel_rfl) (fun _ _ _ h => h) (Or.inl ⟨by rfl, ?_⟩) (by assumption) ?_
   rotate_left
   · (intro w hSw; (try dsimp only at hSw); go_simp; (try with_reducible rfl))
   try simp only [Act.put, List.setIfInBounds_toArray, List.set_cons_zero, List.set_cons_succ]
   refine wpAnyH_take (i := 3) (v := ?_) opAt3 (by kernel_rfl) (by kernel_rfl) (by kernel_rfl) (fun _ _ _ h => h) (Or.inl ⟨by rfl, ?_⟩) (by assumption) ?_
   rotate_left
   · (intro w hSw; (try dsimp only at hSw); go_simp; (try with_reducible rfl))
   try simp only [Act.put, List.setIfInBounds_toArray, List.set_cons_zero, List.set_cons_succ]
   refine wpAnyH_take (i := 5) (v := ?_) opAt5 (by kernel_rfl) (by kernel_rfl) (by kernel_rfl) (fun _ _ _ h => h) (Or.inl ⟨by rfl, ?_⟩) (by assumption) ?_
   rotate_left
   · (intro w hSw; (try dsimp only at hSw); go_simp; (try with_reducible rfl))
   try simp only [Act.put, List.setIfInBounds_toArray, List.set_cons_zero, List.set_cons_succ]
   refine wpAnyH_take (i := 6) (v := ?_) opAt6 (by kernel_rfl) (by kernel_rfl) (by kernel_rfl) (fun _ _ _ h => h) (Or.inl ⟨by rfl, ?_⟩) (by assumption) ?_
   rotate_left
   · (intro w hSw; (try dsimp only at hSw); go_simp; (try with_reducible rfl))
   try simp only [Act.put, List.setIfInBounds_toArray, List.set_cons_zero, List.set_cons_succ]
   refine wpAnyH_take (i := 7) (v := ?_) opAt7 (by kernel_rfl) (by kernel_rfl) (by kernel_rfl) (fun _ _ _ h => h) (Or.inl ⟨by rfl, ?_⟩) (by assumption) ?_
   rotate_left
   · (intro w hSw; (try dsimp only at hSw); go_simp; (try with_reducible rfl))
   try simp only [Act.put, List.setIfInBounds_toArray, List.set_cons_zero, List.set_cons_succ]
   refine wpAnyH_take (i := 8) (v := ?_) opAt8 (by kernel_rfl) (by kernel_rfl) (by kernel_rfl) (fun _ _ _ h => h) (Or.inl ⟨by rfl, ?_⟩) (by assumption) ?_
   rotate_left
   · (intro w hSw; (try dsimp only at hSw); go_simp; (try with_reducible rfl))
   try simp only [Act.put, List.setIfInBounds_toArray, List.set_cons_zero, List.set_cons_succ]
   refine wpAnyH_take (i := 9) (v := ?_) opAt9 (by kernel_rfl) (by kernel_rfl) (by kernel_rfl) (fun _ _ _ h => h) (Or.inl ⟨by rfl, ?_⟩) (by assumption) ?_
   rotate_left
   · (intro w hSw; (try dsimp only at hSw); go_simp; (try with_reducible rfl))
   try simp only [Act.put, List.setIfInBounds_toArray, List.set_cons_zero, List.set_cons_succ]
   refine wpAnyH_take (i := 10) (v := ?_) opAt10 (by kernel_rfl) (by kernel_rfl) (by kernel_rfl) (fun _ _ _ h => h) (Or.inl ⟨by rfl, ?_⟩) (by assumption) ?_
   rotate_left
   · (intro w hSw; (try dsimp only at hSw); go_simp; (try with_reducible rfl))
   try simp only [Act.put, List.setIfInBounds_toArray, List.set_cons_zero, List.set_cons_succ]
   refine wpAnyH_take (i := 11) (v := ?_) opAt11 (by kernel_rfl) (by kernel_rfl) (by kernel_rfl) (fun _ _ _ h => h) (Or.inl ⟨by rfl, ?_⟩) (by assumption) ?_
   rotate_left
   · (intro w hSw; (try dsimp only at hSw); go_simp; (try with_reducible rfl))
   try simp only [Act.put, List.setIfInBounds_toArray, List.set_cons_zero, List.set_cons_succ]
   refine wpAnyH_take (i := 12) (v := ?_) opAt12 (by kernel_rfl) (by kernel_rfl) (by kernel_rfl) (fun _ _ _ h => h) (Or.inl ⟨by rfl, ?_⟩) (by assumption) ?_
   rotate_left
   · (intro w hSw; (try dsimp only at hSw); go_simp; (try with_reducible rfl))
   try simp only [Act.put, List.setIfInBounds_toArray, List.set_cons_zero, List.set_cons_succ]
   refine wpAnyH_take (i := 13) (v := ?_) opAt13 (by kernel_rfl) (by kernel_rfl) (by kernel_rfl) (fun _ _ _ h => h) (Or.inl ⟨by rfl, ?_⟩) (by assumption) ?_
   rotate_left
   · (intro w hSw; (try dsimp only at hSw); go_simp; (try with_reducible rfl))
   try simp only [Act.put, List.setIfInBounds_toArray, List.set_cons_zero, List.set_cons_succ]
   refine wpAnyH_take (i := 14) (v := ?_) opAt14 (by kernel_rfl) (by kernel_rfl) (by kernel_rfl) (fun _ _ _ h => h) (Or.inl ⟨by rfl, ?_⟩) (by assumption) ?_
   rotate_left
   · (intro w hSw; (try dsimp only at hSw); go_simp; (try with_reducible rfl))
   try simp only [Act.put, List.setIfInBounds_toArray, List.set_cons_zero, List.set_cons_succ]
   refine wpAnyH_take (i := 15) (v := ?_) opAt15 (by kernel_rfl) (by kernel_rfl) (by kernel_rfl) (fun _ _ _ h => h) (Or.inl ⟨by rfl, ?_⟩) (by assumption) ?_
   rotate_left
   · (intro w hSw; (try dsimp only at hSw); go_simp; (try with_reducible rfl))
   try simp only [Act.put, List.setIfInBounds_toArray, List.set_cons_zero, List.set_cons_succ]
   refine wpAnyH_take (i := 16) (v := ?_) opAt16 (by kernel_rfl) (by kernel_rfl) (by kernel_rfl) (fun _ _ _ h => h) (Or.inl ⟨by rfl, ?_⟩) (by assumption) ?_
   rotate_left
   · (intro w hSw; (try dsimp only at hSw); go_simp; (try with_reducible rfl))
   try simp only [Act.put, List.setIfInBounds_toArray, List.set_cons_zero, List.set_cons_succ]
   refine wpAnyH_ready (rs := [4, 17]) (by kernel_rfl) (by simp) (AllReadyH.cons opAt4 (fun K hK => ?_) (AllReadyH.cons opAt17 (fun K hK => ?_) AllReadyH.nil))
   ·
    go_simp
    refine hK.out _ _ ?_ (fun hHeld => ?_)
    · (try dsimp only); (first | exact ⟨x0, x1, x2, x3⟩ | exact ⟨x0a _, x1a _, x2a _, x3a _⟩ | exact ⟨x0b, x1b, x2b, x3b⟩ | exact ⟨x0c _, x1c _, x2c _, x3c _⟩)
    clear hK K
    try simp only [Act.put, List.setIfInBounds_toArray, List.set_cons_zero, List.set_cons_succ]
    refine wpAnyH_ready (rs := [17]) (by kernel_rfl) (by simp) (AllReadyH.cons opAt17 (fun K hK => ?_) AllReadyH.nil)
    go_simp
    refine hK.out _ _ ?_ (fun hHeld => ?_)
    · (try dsimp only); (first | exact ⟨x0, x1, x2, x3⟩ | exact ⟨x0a _, x1a _, x2a _, x3a _⟩ | exact ⟨x0b, x1b, x2b, x3b⟩ | exact ⟨x0c _, x1c _, x2c _, x3c _⟩)
    clear hK K
    try simp only [Act.put, List.setIfInBounds_toArray, List.set_cons_zero, List.set_cons_succ]
    refine wpAnyH_ready (rs := [18]) (by kernel_rfl) (by simp) (AllReadyH.cons opAt18 (fun K hK => ?_) AllReadyH.nil)
    ((apply step_append_cells (w := (wr.alloc (.cells #[.int .u16 (y0 : Int), .int .u16 (y1 : Int)] 23)).drew) (base := g + 1) (e := 23) (z := .int .u16 0) (size := 1) (bytes := 2) (ht := Tryz.underlying72) (hinfo := info_u16) (v := v) (n := l.length) (xs := u16s l) (hown := ho.alloc (.cells #[.int .u16 (y0 : Int), .int .u16 (y1 : Int)] 23)) (g := wr.heap.size) (us := #[.int .u16 (y0 : Int), .int .u16 (y1 : Int)]) (m := 2) (c := 2) (e' := 23) (mk := (0, 0)) (hblk := heap_alloc_new wr _) <;> first | rfl | decide | (simp [Value.oneCell']; done) | omega | (simp; omega) | skip); intro A2 c2 w2 hc2 hm2 hown2 hb2 hg2; have h5 := Rdr.keep (w := (wr.alloc (.cells #[.int .u16 (y0 : Int), .int .u16 (y1 : Int)] 23)).drew) (hr.next (al (.cells #[.int .u16 (y0 : Int), .int .u16 (y1 : Int)] 23)).drew) (hb2.block g (Nat.lt_succ_self g)); have g2 := h5.c2; have gf := h5.fr 2; have hw5 := Row.grown (w := (wr.alloc (.cells #[.int .u16 (y0 : Int), .int .u16 (y1 : Int)] 23)).drew) (hw.below (al (.cells #[.int .u16 (y0 : Int), .int .u16 (y1 : Int)] 23)).drew hw.2.2) hg2 (fun e => hvX e.symm); have x0b : w2.cell? ⟨X, 0, none⟩ = some (.int .u16 (a : Int)) := hw5.1 0 _ rfl; have x1b : w2.cell? ⟨X, 1, none⟩ = some (.int .u16 (b : Int)) := hw5.1 1 _ rfl; have x2b : w2.cell? ⟨X, 2, none⟩ = some (.int .u16 (c : Int)) := hw5.1 2 _ rfl; have x3b : w2.cell? ⟨X, 3, none⟩ = some (.int .u16 (d : Int)) := hw5.1 3 _ rfl; have x0c : ∀ u, (w2.setCell ⟨g, 2, none⟩ u).cell? ⟨X, 0, none⟩ = some (.int .u16 (a : Int)) := fun u => (Row.grown hw5 (set_gb w2 g 2 u) (fun e => hgX (by injection e with e; exact e.symm))).1 0 _ rfl; have x1c : ∀ u, (w2.setCell ⟨g, 2, none⟩ u).cell? ⟨X, 1, none⟩ = some (.int .u16 (b : Int)) := fun u => (Row.grown hw5 (set_gb w2 g 2 u) (fun e => hgX (by injection e with e; exact e.symm))).1 1 _ rfl; have x2c : ∀ u, (w2.setCell ⟨g, 2, none⟩ u).cell? ⟨X, 2, none⟩ = some (.int .u16 (c : Int)) := fun u => (Row.grown hw5 (set_gb w2 g 2 u) (fun e => hgX (by injection e with e; exact e.symm))).1 2 _ rfl; have x3c : ∀ u, (w2.setCell ⟨g, 2, none⟩ u).cell? ⟨X, 3, none⟩ = some (.int .u16 (d : Int)) := fun u => (Row.grown hw5 (set_gb w2 g 2 u) (fun e => hgX (by injection e with e; exact e.symm))).1 3 _ rfl)
    refine hK.out _ _ ?_ (fun hHeld => ?_)
    · (try dsimp only); (first | exact ⟨x0, x1, x2, x3⟩ | exact ⟨x0a _, x1a _, x2a _, x3a _⟩ | exact ⟨x0b, x1b, x2b, x3b⟩ | exact ⟨x0c _, x1c _, x2c _, x3c _⟩)
    clear hK K
    try simp only [Act.put, List.setIfInBounds_toArray, List.set_cons_zero, List.set_cons_succ]
    refine wpAnyH_take (i := 19) (v := ?_) opAt19 (by kernel_rfl) (by kernel_rfl) (by kernel_rfl) (fun _ _ _ h => h) (Or.inl ⟨by rfl, ?_⟩) (by assumption) ?_
    rotate_left
    · (intro w hSw; (try dsimp only at hSw); go_simp; (try with_reducible rfl))
    try simp only [Act.put, List.setIfInBounds_toArray, List.set_cons_zero, List.set_cons_succ]
    refine wpAnyH_take (i := 20) (v := ?_) opAt20 (by kernel_rfl) (by kernel_rfl) (by kernel_rfl) (fun _ _ _ h => h) (Or.inl ⟨by rfl, ?_⟩) (by assumption) ?_
    rotate_left
    · (intro w hSw; (try dsimp only at hSw); go_simp; (try with_reducible rfl))
    try simp only [Act.put, List.setIfInBounds_toArray, List.set_cons_zero, List.set_cons_succ]
    refine wpAnyH_ready (rs := [21]) (by kernel_rfl) (by simp) (AllReadyH.cons opAt21 (fun K hK => ?_) AllReadyH.nil)
    go_simp
    refine hK.out _ _ ?_ (fun hHeld => ?_)
    · (try dsimp only); (first | exact ⟨x0, x1, x2, x3⟩ | exact ⟨x0a _, x1a _, x2a _, x3a _⟩ | exact ⟨x0b, x1b, x2b, x3b⟩ | exact ⟨x0c _, x1c _, x2c _, x3c _⟩)
    clear hK K
    try simp only [Act.put, List.setIfInBounds_toArray, List.set_cons_zero, List.set_cons_succ]
    refine wpAnyH_done (by kernel_rfl) ?_ _
    try go_wp2
    go_end0
    exact ⟨rfl, by unfold FourPost; exact ⟨r, ok, y0, y1, ⟨_, h5.s2 _, own_setU (own_as hown2 (by simp) (by rw [u16s_append]; rfl))⟩, z0, z1, HD.out, (((hb.trans ((al _).mono (Nat.le_of_lt hgr)).drew).trans (hb2.mono (Nat.le_succ g))).setCell (p := ⟨g, 2, none⟩) (Nat.le_refl g) _)⟩⟩
   ·
    go_simp
    refine hK.out _ _ ?_ (fun hHeld => ?_)
    · (try dsimp only); (first | exact ⟨x0, x1, x2, x3⟩ | exact ⟨x0a _, x1a _, x2a _, x3a _⟩ | exact ⟨x0b, x1b, x2b, x3b⟩ | exact ⟨x0c _, x1c _, x2c _, x3c _⟩)
    clear hK K
    try simp only [Act.put, List.setIfInBounds_toArray, List.set_cons_zero, List.set_cons_succ]
    refine wpAnyH_ready (rs := [4]) (by kernel_rfl) (by simp) (AllReadyH.cons opAt4 (fun K hK => ?_) AllReadyH.nil)
    go_simp
    refine hK.out _ _ ?_ (fun hHeld => ?_)
    · (try dsimp only); (first | exact ⟨x0, x1, x2, x3⟩ | exact ⟨x0a _, x1a _, x2a _, x3a _⟩ | exact ⟨x0b, x1b, x2b, x3b⟩ | exact ⟨x0c _, x1c _, x2c _, x3c _⟩)
    clear hK K
    try simp only [Act.put, List.setIfInBounds_toArray, List.set_cons_zero, List.set_cons_succ]
    refine wpAnyH_ready (rs := [18]) (by kernel_rfl) (by simp) (AllReadyH.cons opAt18 (fun K hK => ?_) AllReadyH.nil)
    ((apply step_append_cells (w := (wr.alloc (.cells #[.int .u16 (y0 : Int), .int .u16 (y1 : Int)] 23)).drew) (base := g + 1) (e := 23) (z := .int .u16 0) (size := 1) (bytes := 2) (ht := Tryz.underlying72) (hinfo := info_u16) (v := v) (n := l.length) (xs := u16s l) (hown := ho.alloc (.cells #[.int .u16 (y0 : Int), .int .u16 (y1 : Int)] 23)) (g := wr.heap.size) (us := #[.int .u16 (y0 : Int), .int .u16 (y1 : Int)]) (m := 2) (c := 2) (e' := 23) (mk := (0, 0)) (hblk := heap_alloc_new wr _) <;> first | rfl | decide | (simp [Value.oneCell']; done) | omega | (simp; omega) | skip); intro A2 c2 w2 hc2 hm2 hown2 hb2 hg2; have h5 := Rdr.keep (w := (wr.alloc (.cells #[.int .u16 (y0 : Int), .int .u16 (y1 : Int)] 23)).drew) (hr.next (al (.cells #[.int .u16 (y0 : Int), .int .u16 (y1 : Int)] 23)).drew) (hb2.block g (Nat.lt_succ_self g)); have g2 := h5.c2; have gf := h5.fr 2; have hw5 := Row.grown (w := (wr.alloc (.cells #[.int .u16 (y0 : Int), .int .u16 (y1 : Int)] 23)).drew) (hw.below (al (.cells #[.int .u16 (y0 : Int), .int .u16 (y1 : Int)] 23)).drew hw.2.2) hg2 (fun e => hvX e.symm); have x0b : w2.cell? ⟨X, 0, none⟩ = some (.int .u16 (a : Int)) := hw5.1 0 _ rfl; have x1b : w2.cell? ⟨X, 1, none⟩ = some (.int .u16 (b : Int)) := hw5.1 1 _ rfl; have x2b : w2.cell? ⟨X, 2, none⟩ = some (.int .u16 (c : Int)) := hw5.1 2 _ rfl; have x3b : w2.cell? ⟨X, 3, none⟩ = some (.int .u16 (d : Int)) := hw5.1 3 _ rfl; have x0c : ∀ u, (w2.setCell ⟨g, 2, none⟩ u).cell? ⟨X, 0, none⟩ = some (.int .u16 (a : Int)) := fun u => (Row.grown hw5 (set_gb w2 g 2 u) (fun e => hgX (by injection e with e; exact e.symm))).1 0 _ rfl; have x1c : ∀ u, (w2.setCell ⟨g, 2, none⟩ u).cell? ⟨X, 1, none⟩ = some (.int .u16 (b : Int)) := fun u => (Row.grown hw5 (set_gb w2 g 2 u) (fun e => hgX (by injection e with e; exact e.symm))).1 1 _ rfl; have x2c : ∀ u, (w2.setCell ⟨g, 2, none⟩ u).cell? ⟨X, 2, none⟩ = some (.int .u16 (c : Int)) := fun u => (Row.grown hw5 (set_gb w2 g 2 u) (fun e => hgX (by injection e with e; exact e.symm))).1 2 _ rfl; have x3c : ∀ u, (w2.setCell ⟨g, 2, none⟩ u).cell? ⟨X, 3, none⟩ = some (.int .u16 (d : Int)) := fun u => (Row.grown hw5 (set_gb w2 g 2 u) (fun e => hgX (by injection e with e; exact e.symm))).1 3 _ rfl)
    refine hK.out _ _ ?_ (fun hHeld => ?_)
    · (try dsimp only); (first | exact ⟨x0, x1, x2, x3⟩ | exact ⟨x0a _, x1a _, x2a _, x3a _⟩ | exact ⟨x0b, x1b, x2b, x3b⟩ | exact ⟨x0c _, x1c _, x2c _, x3c _⟩)
    clear hK K
    try simp only [Act.put, List.setIfInBounds_toArray, List.set_cons_zero, List.set_cons_succ]
    refine wpAnyH_take (i := 19) (v := ?_) opAt19 (by kernel_rfl) (by kernel_rfl) (by kernel_rfl) (fun _ _ _ h => h) (Or.inl ⟨by rfl, ?_⟩) (by assumption) ?_
    rotate_left
    · (intro w hSw; (try dsimp only at hSw); go_simp; (try with_reducible rfl))
    try simp only [Act.put, List.setIfInBounds_toArray, List.set_cons_zero, List.set_cons_succ]
    refine wpAnyH_take (i := 20) (v := ?_) opAt20 (by kernel_rfl) (by kernel_rfl) (by kernel_rfl) (fun _ _ _ h => h) (Or.inl ⟨by rfl, ?_⟩) (by assumption) ?_
    rotate_left
    · (intro w hSw; (try dsimp only at hSw); go_simp; (try with_reducible rfl))
    try simp only [Act.put, List.setIfInBounds_toArray, List.set_cons_zero, List.set_cons_succ]
    refine wpAnyH_ready (rs := [21]) (by kernel_rfl) (by simp) (AllReadyH.cons opAt21 (fun K hK => ?_) AllReadyH.nil)
    go_simp
    refine hK.out _ _ ?_ (fun hHeld => ?_)
    · (try dsimp only); (first | exact ⟨x0, x1, x2, x3⟩ | exact ⟨x0a _, x1a _, x2a _, x3a _⟩ | exact ⟨x0b, x1b, x2b, x3b⟩ | exact ⟨x0c _, x1c _, x2c _, x3c _⟩)
    clear hK K
    try simp only [Act.put, List.setIfInBounds_toArray, List.set_cons_zero, List.set_cons_succ]
    refine wpAnyH_done (by kernel_rfl) ?_ _
    try go_wp2
    go_end0
    exact ⟨rfl, by unfold FourPost; exact ⟨r, ok, y0, y1, ⟨_, h5.s2 _, own_setU (own_as hown2 (by simp) (by rw [u16s_append]; rfl))⟩, z0, z1, HD.out, (((hb.trans ((al _).mono (Nat.le_of_lt hgr)).drew).trans (hb2.mono (Nat.le_succ g))).setCell (p := ⟨g, 2, none⟩) (Nat.le_refl g) _)⟩⟩
end Go.Proofs.YtoapelcofjjdnaaGreatDoor
namespace Go.Proofs.YtoapelcofjjdnaaGreatDoor
set_option linter.all false
open Go.RowKit
section
variable {g : Nat} {s p : List UInt8} {ok : Bool} {l : List Nat} {gap : Int}
theorem noughts_yes (w : World) (h : RD w g s ok l gap) (hl : l.length ≤ 100000) (ht : two58 s = true) :
  Calls Tryz.prog 125 #[.pointer (some ⟨g, 0, none⟩)] w fun e w' => e = .returned (.bool true) ∧ RD w' g (s.drop 2) (ok && decide (gap < 0)) l l.length ∧ Below g w w' :=
 (noughts6_any g s ok l gap w h hl).mono fun e w' h' => ⟨by rw [h'.1, ht], h'.2.1 ht, h'.2.2.2⟩
theorem noughts_no (w : World) (h : RD w g s ok l gap) (hl : l.length ≤ 100000) (ht : two58 s = false) :
  Calls Tryz.prog 125 #[.pointer (some ⟨g, 0, none⟩)] w fun e w' => e = .returned (.bool false) ∧ RD w' g s ok l gap ∧ Below g w w' :=
 (noughts6_any g s ok l gap w h hl).mono fun e w' h' => ⟨by rw [h'.1, ht], h'.2.2.1 ht, h'.2.2.2⟩
theorem takeR (w : World) (h : RD w g s ok l gap) (p : List UInt8) :
  Calls Tryz.prog 129 #[.pointer (some ⟨g, 0, none⟩), .string (str p)] w fun e w' => e = .returned (.bool (Lib.hasPrefix s p)) ∧ RD w' g (Lib.trimPrefix s p) ok l gap ∧ Below g w w' := by
 obtain ⟨v, hr, ho⟩ := h
 exact (take6_any g s p ok v gap w hr).mono fun e w' h' => ⟨h'.1, ⟨v, h'.2.1, own_gb ho h'.2.2⟩, gb_below h'.2.2 hr.lt⟩
end
theorem take_yes {g : Nat} {s t : List UInt8} {ok : Bool} {l : List Nat} {gap : Int} (hs : s = 58 :: t) (w : World) (h : RD w g s ok l gap) :
  Calls Tryz.prog 129 #[.pointer (some ⟨g, 0, none⟩), .string (str [58])] w fun e w' => e = .returned (.bool true) ∧ RD w' g t ok l gap ∧ Below g w w' := by
 have hp : Lib.hasPrefix s [58] = true := by rw [hs]; simp [Lib.hasPrefix]
 have ht : Lib.trimPrefix s [58] = t := by unfold Lib.trimPrefix; rw [hp, hs]; rfl
 have := takeR w h [58]
 rw [hp, ht] at this
 exact this
theorem take_no {g : Nat} {s : List UInt8} {ok : Bool} {l : List Nat} {gap : Int} (hs : ∀ t, s ≠ 58 :: t) (w : World) (h : RD w g s ok l gap) :
  Calls Tryz.prog 129 #[.pointer (some ⟨g, 0, none⟩), .string (str [58])] w fun e w' => e = .returned (.bool false) ∧ RD w' g s ok l gap ∧ Below g w w' := by
 have hp : Lib.hasPrefix s [58] = false := by
  cases s with
  | nil => rfl
  | cons c t =>
   cases h : Lib.hasPrefix (c :: t) [58] with
   | false => rfl
   | true => simp [Lib.hasPrefix] at h; exact absurd (by rw [h]) (hs t)
 have ht : Lib.trimPrefix s [58] = s := by unfold Lib.trimPrefix; rw [hp]; rfl
 have := takeR w h [58]
 rw [hp, ht] at this
 exact this
theorem two58_yes (u : List UInt8) : two58 (58 :: 58 :: u) = true := by simp [two58, Lib.hasPrefix]
theorem two58_no {s : List UInt8} (h : ∀ u, s ≠ 58 :: 58 :: u) : two58 s = false := by
 cases s with
 | nil => rfl
 | cons c t =>
  cases t with
  | nil => unfold two58 Lib.hasPrefix; simp [List.isPrefixOf]
  | cons d u =>
   cases hh : two58 (c :: d :: u) with
   | false => rfl
   | true => simp [two58, Lib.hasPrefix] at hh; exact absurd (by rw [← hh.1, ← hh.2]) (h u)
theorem piece_yes {g : Nat} {s : List UInt8} {l : List Nat} {gap : Int} (w : World) (h : RD w g s true l gap) (hev : EV w) (hlow : Low g) (hs : s.length ≤ 100000) (hl : l.length ≤ 100000) (hk : okPiece (s.takeWhile hexOk) = true) :
  Calls Tryz.prog 128 #[.pointer (some ⟨g, 0, none⟩)] w fun e w' => e = .returned (.tuple #[]) ∧ RD w' g (s.dropWhile hexOk) true (l ++ [hexN (s.takeWhile hexOk)]) gap ∧ Below g w w' :=
 (piece6_any g s true l gap w h hev hlow hs hl).mono fun e w' ⟨he, x, h, _, hxd, hb⟩ => ⟨he, by rw [hk, hxd.out hk] at h; exact h, hb⟩
theorem piece_no {g : Nat} {s : List UInt8} {l : List Nat} {gap : Int} (w : World) (h : RD w g s true l gap) (hev : EV w) (hlow : Low g) (hs : s.length ≤ 100000) (hl : l.length ≤ 100000) (hk : okPiece (s.takeWhile hexOk) = false) :
  Calls Tryz.prog 128 #[.pointer (some ⟨g, 0, none⟩)] w fun e w' => e = .returned (.tuple #[]) ∧ ∃ x, RD w' g (s.dropWhile hexOk) false (l ++ [x]) gap ∧ x < 65536 ∧ Below g w w' :=
 (piece6_any g s true l gap w h hev hlow hs hl).mono fun e w' ⟨he, x, h, hx, _, hb⟩ => ⟨he, x, by rw [hk] at h; exact h, hx, hb⟩
def gapI : Option Nat → Int | none => -1 | some k => (k : Int)
def AllIs (T : Option (List Nat × Option Nat)) (r : List UInt8) (ok : Bool) (l : List Nat) (gap : Int) : Prop :=
 (∃ m go, T = some (m, go) ∧ ok = true ∧ r = [] ∧ l = m ∧ gap = gapI go ∧ ∀ k, go = some k → k ≤ m.length) ∨ (T = none ∧ (ok = false ∨ r ≠ [] ∨ 8 < l.length))
def LI (k : Nat) (nx : Bool) (r : List UInt8) (ok : Bool) (l : List Nat) (gap : Int) (T : Option (List Nat × Option Nat)) : Prop :=
 (nx = true ∧ ok = true ∧ ∃ go, gap = gapI go ∧ r.length < k ∧ sGo k r l go = T ∧ ∀ k, go = some k → k ≤ l.length) ∨ ((nx && ok) = false ∧ AllIs T r ok l gap)
def AllPost (g : Nat) (T : Option (List Nat × Option Nat)) (w w' : World) : Prop := ∃ r ok l gap, RD w' g r ok l gap ∧ (∀ x ∈ l, x < 65536) ∧ l.length ≤ 20 ∧ -1 ≤ gap ∧ gap ≤ 20 ∧ AllIs T r ok l gap ∧ Below g w w'
theorem AllIs.no {T : Option (List Nat × Option Nat)} {r : List UInt8} {ok : Bool} {l : List Nat} {gap : Int} (hT : T = none) (h : ok = false ∨ r ≠ [] ∨ 8 < l.length) : AllIs T r ok l gap := .inr ⟨hT, h⟩
theorem go_long {f : Nat} {r : List UInt8} {l : List Nat} {go : Option Nat} (h : 8 < l.length) : sGo f r l go = none := by
 cases f with
 | zero => rfl
 | succ f => rw [sGo, if_pos h]
theorem go_dots {f : Nat} {r : List UInt8} {l : List Nat} {go : Option Nat} (h : ¬ 8 < l.length) (hd : dotted r = true) : sGo (f + 1) r l go = (sFour r).map fun m => (l ++ m, go) := by
 rw [sGo, if_neg h, if_pos hd]
theorem go_bad {f : Nat} {r : List UInt8} {l : List Nat} {go : Option Nat} (h : ¬ 8 < l.length) (hd : dotted r = false) (hk : okPiece (r.takeWhile hexOk) = false) : sGo (f + 1) r l go = none := by
 rw [sGo, if_neg h, if_neg (by rw [hd]; decide), if_neg (by rw [hk]; decide)]
section
variable {f : Nat} {r : List UInt8} {l : List Nat} {go : Option Nat} (h : ¬ 8 < l.length) (hd : dotted r = false) (hk : okPiece (r.takeWhile hexOk) = true)
include h hd hk
theorem go_end (hq : r.dropWhile hexOk = []) : sGo (f + 1) r l go = some (l ++ [hexN (r.takeWhile hexOk)], go) := by
 rw [sGo, if_neg h, if_neg (by rw [hd]; decide), if_pos hk, hq]
theorem go_other {c : UInt8} {t : List UInt8} (hq : r.dropWhile hexOk = c :: t) (hc : c ≠ 58) : sGo (f + 1) r l go = none := by
 rw [sGo, if_neg h, if_neg (by rw [hd]; decide), if_pos hk, hq]
 simp only [if_neg hc]
theorem go_colon (hq : r.dropWhile hexOk = [58]) : sGo (f + 1) r l go = none := by
 rw [sGo, if_neg h, if_neg (by rw [hd]; decide), if_pos hk, hq]
 simp only [if_pos]
theorem go_next {d : UInt8} {u : List UInt8} (hq : r.dropWhile hexOk = 58 :: d :: u) (hc : d ≠ 58) : sGo (f + 1) r l go = sGo f (d :: u) (l ++ [hexN (r.takeWhile hexOk)]) go := by
 rw [sGo, if_neg h, if_neg (by rw [hd]; decide), if_pos hk, hq]
 simp only [if_pos, if_neg hc]
theorem go_gap {u : List UInt8} (hq : r.dropWhile hexOk = 58 :: 58 :: u) : sGo (f + 1) r l go = if go.isSome = true then none else if u = [] then some (l ++ [hexN (r.takeWhile hexOk)], some (l.length + 1)) else sGo f u (l ++ [hexN (r.takeWhile hexOk)]) (some (l.length + 1)) := by
 rw [sGo, if_neg h, if_neg (by rw [hd]; decide), if_pos hk, hq]
 simp only [if_pos]
end
theorem go_empty {f : Nat} {l : List Nat} {go : Option Nat} : sGo f [] l go = none := by
 cases f with
 | zero => rfl
 | succ f =>
  by_cases h : 8 < l.length
  · exact go_long h
  · exact go_bad h (by rfl) (by rfl)
theorem lt_snoc {l : List Nat} {x : Nat} (h : ∀ y ∈ l, y < 65536) (hx : x < 65536) : ∀ y ∈ l ++ [x], y < 65536 := by
 intro y hy
 rcases List.mem_append.1 hy with hy | hy
 · exact h y hy
 · rw [List.mem_singleton.1 hy]; exact hx
-- The calls of a round.
-- The round's end: nothing more is to be read.
set_option maxRecDepth 100000 in
set_option maxHeartbeats 16000000 in
theorem all6_any (g : Nat) (s : List UInt8) (w : World) (h : RD w g s true [] (-1)) (hev : EV w) (hlow : Low g) (hs : s.length ≤ 1000) :
  Calls Tryz.prog 88 #[.pointer (some ⟨g, 0, none⟩)] w fun e w' => e = .returned (.tuple #[]) ∧ AllPost g (sAll s) w w' := by
 by_cases htw : ∃ t, s = 58 :: 58 :: t
 case' pos =>
  obtain ⟨t, rfl⟩ := htw
  have CN := Lib.hid ((noughts_yes w h (by simp) (two58_yes t)).mono fun e w' h' => (⟨h'.1, h'.2.1, h'.2.2⟩ : e = .returned (.bool true) ∧ RD w' g t true [] 0 ∧ Below g w w'))
  simp only [List.length_cons] at hs
  by_cases ht : t = []
  ·
   subst ht
   have htl := str_toL []
   go_enter Tryz.func88, Tryz.ntmps88
   go_wp2_with (go_at_call 125; go_must (go_fit CN.out); rintro e w1 ⟨rfl, h1, hb1⟩; have c0 := h1.c0; have c3 := h1.c3)
   go_loopg [2] 0 (fun k s2 wr => s2 = .bool false ∧ w1 = wr)
   case atStart => exact ⟨rfl, rfl⟩
   case round =>
    obtain ⟨rfl, rfl⟩ := hrel
    go_wp2
    go_end0
    exact ⟨rfl, by unfold AllPost; exact ⟨[], true, [], 0, h1, by simp, by simp, by omega, by omega, .inl ⟨[], some 0, rfl, rfl, rfl, rfl, rfl, fun k hk => by injection hk with hk; omega⟩, hb1⟩⟩
  have hte : t.isEmpty = false := by cases t with | nil => exact absurd rfl ht | cons _ _ => rfl
  have hT : sAll (58 :: 58 :: t) = sGo (t.length + 2 + 1) t [] (some 0) := by
   show (if t = [] then _ else _) = _
   rw [if_neg ht]; rfl
  obtain ⟨T, hTe⟩ : ∃ T, T = sAll (58 :: 58 :: t) := ⟨_, rfl⟩
  rw [← hTe] at hT ⊢
  have HT := Lib.hid hT
  clear hT hTe ht
  have htl := str_toL t
  go_enter Tryz.func88, Tryz.ntmps88
  go_wp2_with (go_at_call 125; go_must (go_fit CN.out); rintro e w1 ⟨rfl, h1, hb1⟩; have c0 := h1.c0; have c3 := h1.c3)
  clear c0 c3 htl hte
  go_loopg [2] (t.length + 2 + 1) (fun k s2 wr => ∃ (r : List UInt8) (ok : Bool) (l : List Nat) (gap : Int) (nx : Bool), s2 = .bool nx ∧ r.length ≤ 1000 ∧ RD wr g r ok l gap ∧ Below g w wr ∧ (∀ x ∈ l, x < 65536) ∧ l.length ≤ 20 ∧ -1 ≤ gap ∧ gap ≤ 20 ∧ Hid (LI k nx r ok l gap T))
  case atStart => exact ⟨t, true, [], 0, true, rfl, by omega, h1, hb1, by simp, by simp, by omega, by omega, .inl ⟨rfl, rfl, some 0, rfl, by omega, HT.out.symm, fun k hk => by injection hk with hk; omega⟩⟩
 case' neg =>
  have h2 : ∀ t, s ≠ 58 :: 58 :: t := fun t e => htw ⟨t, e⟩
  have CN := Lib.hid (noughts_no w h (by simp) (two58_no h2))
  by_cases hs0 : s = []
  ·
   subst hs0
   have htl := str_toL []
   go_enter Tryz.func88, Tryz.ntmps88
   go_wp2_with (go_at_call 125; go_must (go_fit CN.out); rintro e w1 ⟨rfl, h1, hb1⟩; have c0 := h1.c0; have c3 := h1.c3)
   go_loopg [2] 0 (fun k s2 wr => s2 = .bool false ∧ w1 = wr)
   case atStart => exact ⟨rfl, rfl⟩
   case round =>
    obtain ⟨rfl, rfl⟩ := hrel
    go_wp2
    go_end0
    exact ⟨rfl, by unfold AllPost; exact ⟨[], true, [], -1, h1, by simp, by simp, by omega, by omega, .inl ⟨[], none, rfl, rfl, rfl, rfl, rfl, fun k hk => by cases hk⟩, hb1⟩⟩
  have hte : s.isEmpty = false := by cases s with | nil => exact absurd rfl hs0 | cons _ _ => rfl
  have hT := sAll_one hs0 h2
  obtain ⟨T, hTe⟩ : ∃ T, T = sAll s := ⟨_, rfl⟩
  rw [← hTe] at hT ⊢
  have HT := Lib.hid hT
  clear hT hTe hs0 h2 htw
  have htl := str_toL s
  go_enter Tryz.func88, Tryz.ntmps88
  go_wp2_with (go_at_call 125; go_must (go_fit CN.out); rintro e w1 ⟨rfl, h1, hb1⟩; have c0 := h1.c0; have c3 := h1.c3)
  clear c0 c3 htl hte
  go_loopg [2] (s.length + 1) (fun k s2 wr => ∃ (r : List UInt8) (ok : Bool) (l : List Nat) (gap : Int) (nx : Bool), s2 = .bool nx ∧ r.length ≤ 1000 ∧ RD wr g r ok l gap ∧ Below g w wr ∧ (∀ x ∈ l, x < 65536) ∧ l.length ≤ 20 ∧ -1 ≤ gap ∧ gap ≤ 20 ∧ Hid (LI k nx r ok l gap T))
  case atStart => exact ⟨s, true, [], -1, true, rfl, by omega, h1, hb1, by simp, by simp, by omega, by omega, .inl ⟨rfl, rfl, none, rfl, by omega, HT.out.symm, fun k hk => by cases hk⟩⟩
 all_goals
  obtain ⟨r, ok, l, gap, nx, rfl, hr0, h, hb, hl0, hlen, hg0, hg1, hLI⟩ := hrel
  have c0 := h.c0
  have c1 := h.c1
  have c3 := h.c3
  obtain ⟨A, cc, c2, hcc, hmm⟩ := h.c2
  have HL := Lib.hid hl0
  rcases hLI.out with ⟨rfl, rfl, go, hgo, hrk, hT, hgk⟩ | ⟨hnx, hF⟩
  ·
   obtain ⟨f, rfl⟩ : ∃ f, gk = f + 1 := ⟨gk - 1, by omega⟩
   by_cases h8 : 8 < l.length
   ·
    have HF := Lib.hid (AllIs.no (r := r) (ok := true) (l := l) (gap := gap) (hT.symm.trans (go_long h8)) (.inr (.inr h8)))
    have h8' : ¬ (l.length : Int) ≤ 8 := by omega
    clear hLI hT hgk
    go_wp2
    go_end0
    exact ⟨rfl, by unfold AllPost; exact ⟨r, true, l, gap, h, HL.out, by omega, hg0, hg1, HF.out, hb⟩⟩
   ·
    have h8' : (l.length : Int) ≤ 8 := by omega
    have CD := Lib.hid fun w h => dotted6_any g r true l gap w h
    cases hd : dotted r with
    | true =>
     rw [hd] at CD
     have hT2 := hT.symm.trans (go_dots h8 hd)
     have HT2 := Lib.hid hT2
     have HG := Lib.hid (show gap = gapI go ∧ ∀ k, go = some k → k ≤ l.length from ⟨hgo, hgk⟩)
     have CF := Lib.hid (four6_any g r l gap wr h (hev.low hlow hb) hlow (by omega) (by omega))
     clear hLI hT hd hT2 hgk hgo h8
     go_wp2_with (first
      | (go_at_call 126; go_must (go_fit (CD.out _ h)); rintro e w1 ⟨rfl, rfl⟩)
      | (go_at_call 127; go_must (go_fit CF.out); rintro e w2 ⟨rfl, h2⟩))
     go_end0
     refine ⟨rfl, ?_⟩
     unfold FourPost at h2
     obtain ⟨r2, ok2, y0, y1, h2, hy0, hy1, hF4, hb2⟩ := h2
     unfold AllPost
     refine ⟨r2, ok2, l ++ [y0, y1], gap, h2, ?_, by rw [List.length_append]; simp; omega, hg0, hg1, ?_, hb.trans hb2⟩
     ·
      rw [show l ++ [y0, y1] = (l ++ [y0]) ++ [y1] by simp]
      exact lt_snoc (lt_snoc HL.out hy0) hy1
     ·
      rcases hF4 with ⟨m, e1, e2, e3, e4⟩ | ⟨e1, e2⟩
      ·
       refine .inl ⟨l ++ m, go, by rw [HT2.out, e1]; rfl, e2, e3, by rw [e4], HG.out.1, fun k hk => ?_⟩
       have := HG.out.2 k hk
       rw [List.length_append]; omega
      ·
       refine .inr ⟨by rw [HT2.out, e1]; rfl, ?_⟩
       cases ok2 with
       | false => exact .inl rfl
       | true => exact .inr (.inl fun e => e2 ⟨rfl, e⟩)
    | false =>
     rw [hd] at CD
     have hdw := dropWhile_len hexOk r
     cases hk : okPiece (r.takeWhile hexOk) with
     | false =>
      have hT2 := hT.symm.trans (go_bad h8 hd hk)
      have CP := Lib.hid (piece_no wr h (hev.low hlow hb) hlow (by omega) (by omega) hk)
      have HT2 := Lib.hid hT2
      obtain ⟨q, hq⟩ : ∃ q, q = r.dropWhile hexOk := ⟨_, rfl⟩
      rw [← hq] at CP hdw
      clear hLI hT hd hT2 hgk hgo h8 hk hq
      cases htw : two58 q with
      | true =>
       have HTW := Lib.hid htw
       clear htw
       go_wp2_with (first
        | (go_at_call 126; go_must (go_fit (CD.out _ h)); rintro e w1 ⟨rfl, rfl⟩)
        | (go_at_call 128; go_must (go_fit CP.out); rintro e w2 ⟨rfl, x, h2, hx, hb2⟩; have hlx := lt_snoc HL.out hx; have f0 := h2.c0)
        | (go_at_call 125; go_must (go_fit (noughts_yes _ h2 (by rw [List.length_append]; simp; omega) HTW.out)); rintro e w3 ⟨rfl, h3, hb3⟩; have d0 := h3.c0))
       all_goals go_roundg 0
       all_goals first
        | (case measure => omega)
        | (case rel => exact ⟨_, false, _, _, _, rfl, by simp; omega, h3, (hb.trans hb2).trans hb3, hlx, by simp; omega, by simp; omega, by simp; omega, .inr ⟨by simp, AllIs.no HT2.out (.inl rfl)⟩⟩)
      | false =>
       have HTW := Lib.hid htw
       clear htw
       by_cases hc : ∃ t, q = 58 :: t
       ·
        obtain ⟨t, ht⟩ := hc
        have HQ := Lib.hid ht
        clear ht
        go_wp2_with (first
         | (go_at_call 126; go_must (go_fit (CD.out _ h)); rintro e w1 ⟨rfl, rfl⟩)
         | (go_at_call 128; go_must (go_fit CP.out); rintro e w2 ⟨rfl, x, h2, hx, hb2⟩; have hlx := lt_snoc HL.out hx; have f0 := h2.c0)
         | (go_at_call 125; go_must (go_fit (noughts_no _ h2 (by rw [List.length_append]; simp; omega) HTW.out)); rintro e w3 ⟨rfl, h3, hb3⟩; have d0 := h3.c0)
         | (go_at_call 129; go_must (go_fit (take_yes HQ.out _ h3)); rintro e w4 ⟨rfl, h4, hb4⟩))
        go_roundg 0
        case measure => omega
        case rel => exact ⟨_, false, _, _, _, rfl, by have := HQ.out; rw [this] at hdw; simp at hdw; omega, h4, ((hb.trans hb2).trans hb3).trans hb4, hlx, by simp; omega, by omega, by omega, .inr ⟨by simp, AllIs.no HT2.out (.inl rfl)⟩⟩
       ·
        have HQ := Lib.hid (show ∀ t, q ≠ 58 :: t from fun t e => hc ⟨t, e⟩)
        clear hc
        go_wp2_with (first
         | (go_at_call 126; go_must (go_fit (CD.out _ h)); rintro e w1 ⟨rfl, rfl⟩)
         | (go_at_call 128; go_must (go_fit CP.out); rintro e w2 ⟨rfl, x, h2, hx, hb2⟩; have hlx := lt_snoc HL.out hx; have f0 := h2.c0)
         | (go_at_call 125; go_must (go_fit (noughts_no _ h2 (by rw [List.length_append]; simp; omega) HTW.out)); rintro e w3 ⟨rfl, h3, hb3⟩; have d0 := h3.c0)
         | (go_at_call 129; go_must (go_fit (take_no HQ.out _ h3)); rintro e w4 ⟨rfl, h4, hb4⟩))
        go_roundg 0
        case measure => omega
        case rel => exact ⟨_, false, _, _, _, rfl, by omega, h4, ((hb.trans hb2).trans hb3).trans hb4, hlx, by simp; omega, by omega, by omega, .inr ⟨by simp, AllIs.no HT2.out (.inl rfl)⟩⟩
     | true =>
      have CP := Lib.hid (piece_yes wr h (hev.low hlow hb) hlow (by omega) (by omega) hk)
      obtain ⟨_, hn16⟩ := hexW_piece (takeWhile_all hexOk r) hk
      have E1 := go_end (f := f) (l := l) (go := go) h8 hd hk
      have E2 := fun (c : UInt8) (t : List UInt8) => go_other (f := f) (l := l) (go := go) h8 hd hk (c := c) (t := t)
      have E3 := go_colon (f := f) (l := l) (go := go) h8 hd hk
      have E4 := fun (c : UInt8) (t : List UInt8) => go_next (f := f) (l := l) (go := go) h8 hd hk (d := c) (u := t)
      have E5 := fun (t : List UInt8) => go_gap (f := f) (l := l) (go := go) h8 hd hk (u := t)
      rw [hT] at E1 E2 E3 E4 E5
      obtain ⟨q, hq⟩ : ∃ q, q = r.dropWhile hexOk := ⟨_, rfl⟩
      obtain ⟨n, hn⟩ : ∃ n, n = hexN (r.takeWhile hexOk) := ⟨_, rfl⟩
      rw [← hq] at CP hdw E1 E2 E3 E4 E5
      rw [← hn] at CP hn16 E1 E4 E5
      have hlx := lt_snoc HL.out hn16
      have HG := Lib.hid (show gap = gapI go ∧ ∀ k, go = some k → k ≤ l.length from ⟨hgo, hgk⟩)
      clear hLI hT hd hgk hk hq hn
      have fin0 : (l ++ [n]).length ≤ 20 := by rw [List.length_append]; simp; omega
      match q, hdw, CP, E1, E2, E3, E4, E5 with
      | [], hdw, CP, E1, _, _, _, _ =>
       have HTW := Lib.hid (show two58 [] = false from rfl)
       have HQ := Lib.hid (show ∀ t, ([] : List UInt8) ≠ 58 :: t from fun t e => by cases e)
       have HT2 := Lib.hid (E1 rfl)
       clear E1 hgo h8
       go_wp2_with (first
        | (go_at_call 126; go_must (go_fit (CD.out _ h)); rintro e w1 ⟨rfl, rfl⟩)
        | (go_at_call 128; go_must (go_fit CP.out); rintro e w2 ⟨rfl, h2, hb2⟩; have f0 := h2.c0)
        | (go_at_call 125; go_must (go_fit (noughts_no _ h2 (by rw [List.length_append]; simp; omega) HTW.out)); rintro e w3 ⟨rfl, h3, hb3⟩; have d0 := h3.c0)
        | (go_at_call 129; go_must (go_fit (take_no HQ.out _ h3)); rintro e w4 ⟨rfl, h4, hb4⟩))
       go_roundg 0
       case measure => omega
       case rel => exact ⟨_, _, _, _, _, rfl, by simp, h4, ((hb.trans hb2).trans hb3).trans hb4, hlx, fin0, by omega, by omega, .inr ⟨by simp, .inl ⟨_, _, HT2.out, rfl, rfl, rfl, HG.out.1, fun k hk => by have := HG.out.2 k hk; rw [List.length_append]; omega⟩⟩⟩
      | c :: t, hdw, CP, _, E2, E3, E4, E5 =>
       simp only [List.length_cons] at hdw
       by_cases hc : c = 58
       ·
        subst hc
        match t, hdw, CP, E3, E4, E5 with
        | [], hdw, CP, E3, _, _ =>
         have HTW := Lib.hid (show two58 [58] = false from two58_no (fun u e => by cases e))
         have HT2 := Lib.hid (E3 rfl)
         clear E2 E3 hgo h8
         go_wp2_with (first
          | (go_at_call 126; go_must (go_fit (CD.out _ h)); rintro e w1 ⟨rfl, rfl⟩)
          | (go_at_call 128; go_must (go_fit CP.out); rintro e w2 ⟨rfl, h2, hb2⟩; have f0 := h2.c0)
          | (go_at_call 125; go_must (go_fit (noughts_no _ h2 (by rw [List.length_append]; simp; omega) HTW.out)); rintro e w3 ⟨rfl, h3, hb3⟩; have d0 := h3.c0)
          | (go_at_call 129; go_must (go_fit (take_yes rfl _ h3)); rintro e w4 ⟨rfl, h4, hb4⟩))
         go_roundg f
         case measure => omega
         case rel => exact ⟨_, _, _, _, _, rfl, by simp, h4, ((hb.trans hb2).trans hb3).trans hb4, hlx, fin0, by omega, by omega, .inl ⟨rfl, rfl, go, HG.out.1, by simp; omega, by rw [go_empty, HT2.out], fun k hk => by have := HG.out.2 k hk; rw [List.length_append]; omega⟩⟩
        | d :: u, hdw, CP, _, E4, E5 =>
         simp only [List.length_cons] at hdw
         by_cases hd58 : d = 58
         ·
          subst hd58
          have HTW := Lib.hid (two58_yes u)
          have HT2 := Lib.hid (E5 _ rfl)
          clear E2 E4 E5
          have hul := str_toL u
          cases go with
          | some k =>
           have hgn : ¬ gap < 0 := by rw [hgo]; show ¬ (k : Int) < 0; omega
           have hgb : (true && decide (gap < 0)) = false := by rw [decide_eq_false hgn]; rfl
           have CNo := Lib.hid fun w h => (noughts_yes (g := g) (s := 58 :: 58 :: u) (ok := true) (l := l ++ [n]) (gap := gap) w h (by omega) HTW.out).mono fun e w' h' => (⟨h'.1, by rw [hgb] at h'; exact h'.2.1, h'.2.2⟩ : e = .returned (.bool true) ∧ RD w' g u false (l ++ [n]) (l ++ [n]).length ∧ Below g w w')
           have HF := Lib.hid (show T = none from HT2.out.trans (if_pos rfl))
           clear HT2 hgo h8 hgn hgb
           go_wp2_with (first
            | (go_at_call 126; go_must (go_fit (CD.out _ h)); rintro e w1 ⟨rfl, rfl⟩)
            | (go_at_call 128; go_must (go_fit CP.out); rintro e w2 ⟨rfl, h2, hb2⟩; have f0 := h2.c0)
            | (go_at_call 125; go_must (go_fit (CNo.out _ h2)); rintro e w3 ⟨rfl, h3, hb3⟩; have d0 := h3.c0))
           go_roundg 0
           case measure => omega
           case rel => exact ⟨_, false, _, _, _, rfl, by omega, h3, (hb.trans hb2).trans hb3, hlx, fin0, by omega, by omega, .inr ⟨by simp, AllIs.no HF.out (.inl rfl)⟩⟩
          | none =>
           have hgn : gap < 0 := by rw [hgo]; decide
           have hgb : (true && decide (gap < 0)) = true := by rw [decide_eq_true hgn]; rfl
           have CNo := Lib.hid fun w h => (noughts_yes (g := g) (s := 58 :: 58 :: u) (ok := true) (l := l ++ [n]) (gap := gap) w h (by omega) HTW.out).mono fun e w' h' => (⟨h'.1, by rw [hgb] at h'; exact h'.2.1, h'.2.2⟩ : e = .returned (.bool true) ∧ RD w' g u true (l ++ [n]) (l ++ [n]).length ∧ Below g w w')
           have HF := Lib.hid (show T = if u = [] then some (l ++ [n], some (l.length + 1)) else sGo f u (l ++ [n]) (some (l.length + 1)) from HT2.out.trans (if_neg (by simp)))
           clear HT2 hgo h8 hgn hgb
           by_cases hu : u = []
           ·
            subst hu
            have HF := Lib.hid (HF.out.trans (if_pos rfl))
            go_wp2_with (first
             | (go_at_call 126; go_must (go_fit (CD.out _ h)); rintro e w1 ⟨rfl, rfl⟩)
             | (go_at_call 128; go_must (go_fit CP.out); rintro e w2 ⟨rfl, h2, hb2⟩; have f0 := h2.c0)
             | (go_at_call 125; go_must (go_fit (CNo.out _ h2)); rintro e w3 ⟨rfl, h3, hb3⟩; have d0 := h3.c0))
            go_roundg 0
            case measure => omega
            case rel => exact ⟨_, true, _, _, _, rfl, by simp, h3, (hb.trans hb2).trans hb3, hlx, fin0, by omega, by omega, .inr ⟨by simp, .inl ⟨_, _, HF.out, rfl, rfl, rfl, by rw [List.length_append]; rfl, fun k hk => by injection hk with hk; rw [List.length_append]; simp; omega⟩⟩⟩
           ·
            have hue : u.isEmpty = false := by cases u with | nil => exact absurd rfl hu | cons _ _ => rfl
            have HF2 := Lib.hid (HF.out.trans (if_neg hu))
            clear hu HF
            go_wp2_with (first
             | (go_at_call 126; go_must (go_fit (CD.out _ h)); rintro e w1 ⟨rfl, rfl⟩)
             | (go_at_call 128; go_must (go_fit CP.out); rintro e w2 ⟨rfl, h2, hb2⟩; have f0 := h2.c0)
             | (go_at_call 125; go_must (go_fit (CNo.out _ h2)); rintro e w3 ⟨rfl, h3, hb3⟩; have d0 := h3.c0))
            go_roundg f
            case measure => omega
            case rel => exact ⟨_, true, _, _, true, by simp, by omega, h3, (hb.trans hb2).trans hb3, hlx, fin0, by omega, by omega, .inl ⟨rfl, rfl, some (l.length + 1), by rw [List.length_append]; rfl, by omega, HF2.out.symm, fun k hk => by injection hk with hk; rw [List.length_append]; simp; omega⟩⟩
         ·
          have HTW := Lib.hid (show two58 (58 :: d :: u) = false from two58_no (fun u e => by injection e with _ e; injection e with e; exact hd58 e))
          have HT2 := Lib.hid (E4 _ _ rfl hd58)
          clear E2 E4 E5 hgo h8 hd58
          go_wp2_with (first
           | (go_at_call 126; go_must (go_fit (CD.out _ h)); rintro e w1 ⟨rfl, rfl⟩)
           | (go_at_call 128; go_must (go_fit CP.out); rintro e w2 ⟨rfl, h2, hb2⟩; have f0 := h2.c0)
           | (go_at_call 125; go_must (go_fit (noughts_no _ h2 (by rw [List.length_append]; simp; omega) HTW.out)); rintro e w3 ⟨rfl, h3, hb3⟩; have d0 := h3.c0)
           | (go_at_call 129; go_must (go_fit (take_yes rfl _ h3)); rintro e w4 ⟨rfl, h4, hb4⟩))
          go_roundg f
          case measure => omega
          case rel => exact ⟨_, _, _, _, _, rfl, by simp only [List.length_cons]; omega, h4, ((hb.trans hb2).trans hb3).trans hb4, hlx, fin0, by omega, by omega, .inl ⟨rfl, rfl, go, HG.out.1, by simp only [List.length_cons]; omega, HT2.out.symm, fun k hk => by have := HG.out.2 k hk; rw [List.length_append]; omega⟩⟩
       ·
        have HTW := Lib.hid (show two58 (c :: t) = false from two58_no (fun u e => by injection e with e; exact hc e))
        have HQ := Lib.hid (show ∀ u, c :: t ≠ 58 :: u from fun u e => by injection e with e; exact hc e)
        have HT2 := Lib.hid (E2 _ _ rfl hc)
        clear E2 E3 E4 E5 hgo h8 hc
        go_wp2_with (first
         | (go_at_call 126; go_must (go_fit (CD.out _ h)); rintro e w1 ⟨rfl, rfl⟩)
         | (go_at_call 128; go_must (go_fit CP.out); rintro e w2 ⟨rfl, h2, hb2⟩; have f0 := h2.c0)
         | (go_at_call 125; go_must (go_fit (noughts_no _ h2 (by rw [List.length_append]; simp; omega) HTW.out)); rintro e w3 ⟨rfl, h3, hb3⟩; have d0 := h3.c0)
         | (go_at_call 129; go_must (go_fit (take_no HQ.out _ h3)); rintro e w4 ⟨rfl, h4, hb4⟩))
        go_roundg 0
        case measure => omega
        case rel => exact ⟨_, _, _, _, _, rfl, by simp only [List.length_cons]; omega, h4, ((hb.trans hb2).trans hb3).trans hb4, hlx, fin0, by omega, by omega, .inr ⟨by simp, AllIs.no HT2.out (.inr (.inl (by simp)))⟩⟩
  ·
   have HF := Lib.hid hF
   cases nx with
   | false =>
    clear hLI hF hnx
    go_wp2
    go_end0
    exact ⟨rfl, by unfold AllPost; exact ⟨r, ok, l, gap, h, HL.out, by omega, hg0, hg1, HF.out, hb⟩⟩
   | true =>
    rw [Bool.true_and] at hnx
    subst hnx
    clear hLI hF
    go_wp2
    go_end0
    exact ⟨rfl, by unfold AllPost; exact ⟨r, false, l, gap, h, HL.out, by omega, hg0, hg1, HF.out, hb⟩⟩
end Go.Proofs.YtoapelcofjjdnaaGreatDoor
