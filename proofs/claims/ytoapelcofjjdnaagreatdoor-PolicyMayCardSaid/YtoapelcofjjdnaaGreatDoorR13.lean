/- A part of the proof. -/
import Derived.Test.YtoapelcofjjdnaaGreatDoorR11
import Derived.Test.YtoapelcofjjdnaaGreatDoorR04
import Derived.StillTailTactics
import Derived.Test.YtoapelcofjjdnaaGreatDoorR00
import Derived.Lib.LastIndexByte
import Derived.Test.YtoapelcofjjdnaaGreatDoorR03
namespace Go.Proofs.YtoapelcofjjdnaaGreatDoor
set_option linter.all false
open Go.RowKit
def Wr (w : World) (g : Nat) (v : Value) (n d b k bs : Int) : Prop := w.heap[g]? = some (.cells #[v, .int .i32 n, .int .i64 d, .int .i64 b, .int .i64 k, .int .i64 bs] 202 (0, 0))
section
variable {w w' : World} {g : Nat} {v : Value} {n d b k bs : Int}
theorem Wr.lt (h : Wr w g v n d b k bs) : g < w.heap.size := lt_of_block h
theorem Wr.c0 (h : Wr w g v n d b k bs) : w.cell? ⟨g, 0, none⟩ = some v := cell_of_row _ _ 0 _ _ _ h
theorem Wr.c1 (h : Wr w g v n d b k bs) : w.cell? ⟨g, 1, none⟩ = some (.int .i32 n) := cell_of_row _ _ 1 _ _ _ h
theorem Wr.c2 (h : Wr w g v n d b k bs) : w.cell? ⟨g, 2, none⟩ = some (.int .i64 d) := cell_of_row _ _ 2 _ _ _ h
theorem Wr.c3 (h : Wr w g v n d b k bs) : w.cell? ⟨g, 3, none⟩ = some (.int .i64 b) := cell_of_row _ _ 3 _ _ _ h
theorem Wr.c4 (h : Wr w g v n d b k bs) : w.cell? ⟨g, 4, none⟩ = some (.int .i64 k) := cell_of_row _ _ 4 _ _ _ h
theorem Wr.c5 (h : Wr w g v n d b k bs) : w.cell? ⟨g, 5, none⟩ = some (.int .i64 bs) := cell_of_row _ _ 5 _ _ _ h
theorem Wr.fr (h : Wr w g v n d b k bs) (j : Nat) : w.frozen? ⟨g, j, none⟩ = false := Lib.frozen_of_heap h j
theorem Wr.keep (h : Wr w g v n d b k bs) (hk : w'.heap[g]? = w.heap[g]?) : Wr w' g v n d b k bs := hk.trans h
theorem Wr.alloc (h : Wr w g v n d b k bs) (o : Obj) : Wr (w.alloc o) g v n d b k bs := h.keep (Lib.alloc_old w o g h.lt)
theorem Wr.drew (h : Wr w g v n d b k bs) : Wr w.drew g v n d b k bs := h
theorem Wr.grown (h : Wr w g v n d b k bs) {row : Option Nat} (hg : w.grownBy w' row) (hr : row ≠ some g) : Wr w' g v n d b k bs := h.keep (hg.block g h.lt (fun e => hr e.symm))
theorem Wr.s0 (h : Wr w g v n d b k bs) (u : Value) : Wr (w.setCell ⟨g, 0, none⟩ u) g u n d b k bs := by
 unfold Wr at h ⊢; unfold World.setCell; simp only [Array.getElem?_modify, if_true, h]; rfl
theorem Wr.s1 (h : Wr w g v n d b k bs) (u : Int) : Wr (w.setCell ⟨g, 1, none⟩ (.int .i32 u)) g v u d b k bs := by
 unfold Wr at h ⊢; unfold World.setCell; simp only [Array.getElem?_modify, if_true, h]; rfl
theorem Wr.s2 (h : Wr w g v n d b k bs) (u : Int) : Wr (w.setCell ⟨g, 2, none⟩ (.int .i64 u)) g v n u b k bs := by
 unfold Wr at h ⊢; unfold World.setCell; simp only [Array.getElem?_modify, if_true, h]; rfl
theorem Wr.s3 (h : Wr w g v n d b k bs) (u : Int) : Wr (w.setCell ⟨g, 3, none⟩ (.int .i64 u)) g v n d u k bs := by
 unfold Wr at h ⊢; unfold World.setCell; simp only [Array.getElem?_modify, if_true, h]; rfl
theorem Wr.s4 (h : Wr w g v n d b k bs) (u : Int) : Wr (w.setCell ⟨g, 4, none⟩ (.int .i64 u)) g v n d b u bs := by
 unfold Wr at h ⊢; unfold World.setCell; simp only [Array.getElem?_modify, if_true, h]; rfl
theorem Wr.s5 (h : Wr w g v n d b k bs) (u : Int) : Wr (w.setCell ⟨g, 5, none⟩ (.int .i64 u)) g v n d b k u := by
 unfold Wr at h ⊢; unfold World.setCell; simp only [Array.getElem?_modify, if_true, h]; rfl
theorem Wr.apart (h : Wr w g v n d b k bs) {m : Nat} {xs : List Value} {u : Value} (hown : w.ownsRow (g + 1) 5 1 u m xs) : u.ownBlock ≠ some g := by
 intro e
 have := (hown.lt g e).1
 omega
end
theorem letter_fin : ∀ k : Fin 36, (ByteArray.mk #[97, 98, 99, 100, 101, 102, 103, 104, 105, 106, 107, 108, 109, 110, 111, 112, 113, 114, 115, 116, 117, 118, 119, 120, 121, 122, 48, 49, 50, 51, 52, 53, 54, 55, 56, 57]).data[k.val]? = some (letter k.val) := by decide +kernel
theorem letter_at {x : Int} (h0 : 0 ≤ x) (h1 : x < 36) (h : x.toNat < (ByteArray.mk #[97, 98, 99, 100, 101, 102, 103, 104, 105, 106, 107, 108, 109, 110, 111, 112, 113, 114, 115, 116, 117, 118, 119, 120, 121, 122, 48, 49, 50, 51, 52, 53, 54, 55, 56, 57]).size) :
  (ByteArray.mk #[97, 98, 99, 100, 101, 102, 103, 104, 105, 106, 107, 108, 109, 110, 111, 112, 113, 114, 115, 116, 117, 118, 119, 120, 121, 122, 48, 49, 50, 51, 52, 53, 54, 55, 56, 57])[x.toNat]'h = letter x := by
 obtain ⟨m, rfl⟩ : ∃ m : Nat, x = m := ⟨x.toNat, by omega⟩
 have h1 := letter_fin ⟨m, by omega⟩
 have h2 : (ByteArray.mk #[97, 98, 99, 100, 101, 102, 103, 104, 105, 106, 107, 108, 109, 110, 111, 112, 113, 114, 115, 116, 117, 118, 119, 120, 121, 122, 48, 49, 50, 51, 52, 53, 54, 55, 56, 57]).data[m]? = some _ := Array.getElem?_eq_getElem (i := m) h
 rw [h2] at h1
 exact Option.some.inj h1
theorem quot_ten {q t : Int} (h : t ≤ q) (t1 : 1 ≤ t) (t2 : t ≤ 26) : 10 * ((q - t) / (36 - t)) ≤ q := by
 have h0 := (num_less h t1 t2).1
 have h1 : (q - t) / (36 - t) * (36 - t) ≤ q - t := Int.ediv_mul_le _ (by omega)
 have h2 : (q - t) / (36 - t) * 10 ≤ (q - t) / (36 - t) * (36 - t) := Int.mul_le_mul_of_nonneg_left (by omega) h0
 omega
theorem ten_step {c : Nat} {q d t : Int} (hp : (10 : Int) ^ c * q ≤ d) (h : t ≤ q) (t1 : 1 ≤ t) (t2 : t ≤ 26) : (10 : Int) ^ (c + 1) * ((q - t) / (36 - t)) ≤ d := by
 have h1 := quot_ten h t1 t2
 have h2 : (0 : Int) ≤ 10 ^ c := by exact Int.le_of_lt (Int.pow_pos (by decide))
 have h3 : (10 : Int) ^ c * (10 * ((q - t) / (36 - t))) ≤ 10 ^ c * q := Int.mul_le_mul_of_nonneg_left h1 h2
 rw [Int.pow_succ, Int.mul_assoc]; omega
theorem ten_count {c : Nat} {q d : Int} (hp : (10 : Int) ^ c * q ≤ d) (hq : 1 ≤ q) (hd : d ≤ 10000000000) : c ≤ 10 := by
 rcases Nat.lt_or_ge c 11 with h | h
 · omega
 ·
  exfalso
  have h1 : (10 : Int) ^ 11 ≤ 10 ^ c := by
   have := Nat.pow_le_pow_right (n := 10) (by decide) h
   exact_mod_cast this
  have h2 : (10 : Int) ^ c * 1 ≤ 10 ^ c * q := Int.mul_le_mul_of_nonneg_left hq (Int.le_of_lt (Int.pow_pos (by decide)))
  omega
end Go.Proofs.YtoapelcofjjdnaaGreatDoor
namespace Go.Proofs.YtoapelcofjjdnaaGreatDoor
set_option linter.all false
open Go.RowKit
theorem eOne_lt {n bs r : Int} {s : ES} (h : r < n) : eOne n bs s r = { s with delta := s.delta + 1 } := if_pos h
theorem eOne_eq {n bs : Int} {s : ES} : eOne n bs s n = { out := s.out ++ num s.delta 36 s.bias, delta := 0, bias := pAdapt s.delta (s.done + 1) (decide (s.done = bs)), done := s.done + 1 } := by
 unfold eOne; rw [if_neg (by omega), if_pos rfl]
theorem eOne_gt {n bs r : Int} {s : ES} (h : n < r) : eOne n bs s r = s := by
 unfold eOne; rw [if_neg (by omega), if_neg (by omega)]
end Go.Proofs.YtoapelcofjjdnaaGreatDoor
namespace Go.Proofs.YtoapelcofjjdnaaGreatDoor
set_option linter.all false
open Go.RowKit
def punyV (o : Option (List UInt8)) : Value := match o with
 | some s => .tuple #[.string (str s), .int .i64 0]
 | none => .tuple #[.string (str []), .int .i64 1]
theorem puny_no {l : List Int} (h : ¬ (l.length ≤ 63 ∧ cpAll l = true)) : puny l = none := if_neg h
theorem puny_yes {l : List Int} (h : l.length ≤ 63) (h2 : cpAll l = true) : puny l = some (eLoop l.length 128 (basics l).length (eStart l) l).out := if_pos ⟨h, h2⟩
section
variable {P : Program} {w : World} {ops : Array Oper} {rest : List Oper} {o : Oper} {a : Act} {Q : Exit → Act → World → Prop}
end
end Go.Proofs.YtoapelcofjjdnaaGreatDoor
namespace Go.Proofs.YtoapelcofjjdnaaGreatDoor
set_option linter.all false
open Go.RowKit
theorem rdNum_ge : ∀ (s : List UInt8) (k b w n d : Int) (r : List UInt8), 0 ≤ w → rdNum s k b w n = some (d, r) → n ≤ d := by
 intro s
 induction s with
 | nil => intro k b w n d r _ h; simp [rdNum] at h
 | cons c s ih =>
  intro k b w n d r hw h
  have he := edge_range k b
  unfold rdNum at h
  by_cases h1 : digitOf c < 0
  · rw [if_pos h1] at h; cases h
  rw [if_neg h1] at h
  have hp : 0 ≤ digitOf c * w := Int.mul_nonneg (by omega) hw
  by_cases h2 : digitOf c < edge k b
  ·
   rw [if_pos h2] at h
   injection h with h; injection h with h3 h4; omega
  ·
   rw [if_neg h2] at h
   have := ih _ _ _ _ _ _ (Int.mul_nonneg hw (by omega)) h
   omega
theorem dig_at : ∀ j : Fin 36, Lib.indexByte letterL (gb letterL j.val) = j.val := by decide +kernel
theorem dig_none_fin : ∀ c : Fin 256, (∀ j : Fin 36, gb letterL j.val ≠ UInt8.ofNat c.val) → Lib.indexByte letterL (UInt8.ofNat c.val) = -1 := by decide +kernel
theorem dig_none (c : UInt8) (h : ∀ j, j < 36 → gb letterL j ≠ c) : Lib.indexByte letterL c = -1 := by
 have := dig_none_fin ⟨c.toNat, byte_lt c⟩
 simp only [UInt8.ofNat_toNat] at this
 exact this fun j => h j.val j.isLt
theorem dbeq {a b : UInt8} (h : a = b) : ((a.toNat : Int) == (b.toNat : Int)) = true := by rw [h]; simp
theorem dbeq_no {a b : UInt8} (h : a ≠ b) : ((a.toNat : Int) == (b.toNat : Int)) = false := by
 rw [beq_eq_false_iff_ne]; intro e; exact h (byte_ext (by omega))
set_option maxRecDepth 100000 in
set_option maxHeartbeats 4000000 in
theorem rdigit_any (c : UInt8) (w : World) : Calls Tryz.prog 185 #[.int .u8 (c.toNat : Int)] w fun e w' => e = .returned (.int .i64 (digitOf c)) ∧ w = w' := by
 have hg : ∀ (k : Nat) (h : k < (⟨#[97, 98, 99, 100, 101, 102, 103, 104, 105, 106, 107, 108, 109, 110, 111, 112, 113, 114, 115, 116, 117, 118, 119, 120, 121, 122, 48, 49, 50, 51, 52, 53, 54, 55, 56, 57]⟩ : ByteArray).size), (⟨#[97, 98, 99, 100, 101, 102, 103, 104, 105, 106, 107, 108, 109, 110, 111, 112, 113, 114, 115, 116, 117, 118, 119, 120, 121, 122, 48, 49, 50, 51, 52, 53, 54, 55, 56, 57]⟩ : ByteArray)[k]'h = gb letterL k := str_get letterL
 have hsz : (⟨#[97, 98, 99, 100, 101, 102, 103, 104, 105, 106, 107, 108, 109, 110, 111, 112, 113, 114, 115, 116, 117, 118, 119, 120, 121, 122, 48, 49, 50, 51, 52, 53, 54, 55, 56, 57]⟩ : ByteArray).size = 36 := rfl
 by_cases h : 65 ≤ c.toNat ∧ c.toNat ≤ 90
 ·
  have hF := Lib.hid (idx_letL c h)
  obtain ⟨h1, h2⟩ := h
  have h3 : (65 : Int) ≤ (c.toNat : Int) := by omega
  have h4 : (c.toNat : Int) ≤ 90 := by omega
  obtain ⟨c', hc'⟩ : ∃ c', c' = UInt8.ofNat ((c.toNat : Int) + 32).toNat := ⟨_, rfl⟩
  have hcn : (c.toNat : Int) + 32 = (c'.toNat : Int) := by rw [hc', UInt8.toNat_ofNat']; omega
  rw [← hc'] at hF
  clear hc'
  go_enter Tryz.func185, Tryz.ntmps185
  go_wp2
  clear hcn h1 h2 h3 h4
  go_loopg [3] (36) (fun k i wr => ∃ j : Nat, k = 36 - j ∧ j ≤ 36 ∧ i = .int .i64 j ∧ Hid (∀ k, k < j → gb letterL k ≠ c') ∧ w = wr)
  case atStart => exact ⟨0, rfl, Nat.zero_le _, rfl, (fun k hk => by omega), rfl⟩
  case round =>
   obtain ⟨j, rfl, hj, rfl, hn, rfl⟩ := hrel
   by_cases hlt : j < 36
   ·
    have hlt1 : (j : Int) < 36 := by omega
    have hj0 : (0 : Int) ≤ (j : Int) := by omega
    by_cases he : gb letterL j = c'
    ·
     have hb := dbeq he
     have HE := Lib.hid he
     clear he
     go_wp2
     go_ret
     exact ⟨ret_int (by rw [← hF.out, ← HE.out]; exact (dig_at ⟨j, hlt⟩).symm), rfl⟩
    ·
     have hb := dbeq_no he
     have HE := Lib.hid he
     clear he
     go_wp2
     go_roundg (36 - (j + 1))
     case measure => omega
     case rel =>
      refine ⟨j + 1, rfl, by omega, by go_num, fun k hk => ?_, rfl⟩
      by_cases e : k = j
      · rw [e]; exact HE.out
      · exact hn.out k (by omega)
   ·
    obtain rfl : j = 36 := by omega
    go_wp2
    go_ret
    exact ⟨ret_int (by rw [← hF.out]; exact (dig_none _ hn.out).symm), rfl⟩
 ·
  have hF := Lib.hid (idx_letN c h)
  have h3 : (c.toNat : Int) < 65 ∨ 90 < (c.toNat : Int) := by omega
  rcases h3 with h3 | h3
  all_goals
   go_enter Tryz.func185, Tryz.ntmps185
   go_wp2
   clear h3
   go_loopg [3] (36) (fun k i wr => ∃ j : Nat, k = 36 - j ∧ j ≤ 36 ∧ i = .int .i64 j ∧ Hid (∀ k, k < j → gb letterL k ≠ c) ∧ w = wr)
   case atStart => exact ⟨0, rfl, Nat.zero_le _, rfl, (fun k hk => by omega), rfl⟩
   case round =>
    obtain ⟨j, rfl, hj, rfl, hn, rfl⟩ := hrel
    by_cases hlt : j < 36
    ·
     have hlt1 : (j : Int) < 36 := by omega
     have hj0 : (0 : Int) ≤ (j : Int) := by omega
     by_cases he : gb letterL j = c
     ·
      have hb := dbeq he
      have HE := Lib.hid he
      clear he
      go_wp2
      go_ret
      exact ⟨ret_int (by rw [← hF.out, ← HE.out]; exact (dig_at ⟨j, hlt⟩).symm), rfl⟩
     ·
      have hb := dbeq_no he
      have HE := Lib.hid he
      clear he
      go_wp2
      go_roundg (36 - (j + 1))
      case measure => omega
      case rel =>
       refine ⟨j + 1, rfl, by omega, by go_num, fun k hk => ?_, rfl⟩
       by_cases e : k = j
       · rw [e]; exact HE.out
       · exact hn.out k (by omega)
    ·
     obtain rfl : j = 36 := by omega
     go_wp2
     go_ret
     exact ⟨ret_int (by rw [← hF.out]; exact (dig_none _ hn.out).symm), rfl⟩
end Go.Proofs.YtoapelcofjjdnaaGreatDoor
namespace Go.Proofs.YtoapelcofjjdnaaGreatDoor
set_option linter.all false
open Go.RowKit
theorem dStep_big {σ : DS} {d : Int} (hd : 30000000000 ≤ d) (hi : 0 ≤ σ.i) (hn : 0 ≤ σ.n) (hl : σ.out.length ≤ 1000) : dStep σ d = none := by
 unfold dStep
 rw [if_neg]
 rintro ⟨h, _⟩
 have : 1114112 ≤ (σ.i + d) / ((σ.out.length : Int) + 1) := Int.le_ediv_of_mul_le (by omega) (by omega)
 have h2 : σ.n + (σ.i + d) / ((σ.out.length : Int) + 1) ≤ 1114111 := h
 omega
theorem pdec_none {s : List UInt8} {σ : DS} (h : 0 < s.length) (hi : 0 ≤ σ.i) (hn : 0 ≤ σ.n) (hl : σ.out.length ≤ 1000) (hb : ∀ d r, rdNum s 36 σ.bias 1 0 = some (d, r) → 30000000000 ≤ d) : dec s σ = none := by
 rw [dec_step (by intro e; rw [e] at h; cases h)]
 cases hr : rdNum s 36 σ.bias 1 0 with
 | none => rfl
 | some x =>
  rw [Option.bind_some, dStep_big (hb x.1 x.2 hr) hi hn hl]; rfl
theorem pdec_stuck {s : List UInt8} {σ : DS} {d : Int} {r : List UInt8} (h : 0 < s.length) (hr : rdNum s 36 σ.bias 1 0 = some (d, r)) (hd : dStep σ d = none) : dec s σ = none := by
 rw [dec_step (by intro e; rw [e] at h; cases h), hr, Option.bind_some, hd]; rfl
theorem pdec_go {s : List UInt8} {σ σ' : DS} {d : Int} {r : List UInt8} (h : 0 < s.length) (hr : rdNum s 36 σ.bias 1 0 = some (d, r)) (hd : dStep σ d = some σ') : dec s σ = dec r σ' := by
 rw [dec_step (by intro e; rw [e] at h; cases h), hr, Option.bind_some, hd, Option.bind_some]
structure DB (σ : DS) (L : Nat) : Prop where
 n0 : 0 ≤ σ.n
 n1 : σ.n ≤ 1114111
 i0 : 0 ≤ σ.i
 i1 : σ.i ≤ σ.out.length
 b0 : 0 ≤ σ.bias
 b1 : σ.bias ≤ 10000000000
 len : σ.out.length + L ≤ 200
theorem DB.step {σ σ' : DS} {d : Int} {L L' : Nat} (h : DB σ L) (hd : 0 ≤ d) (hs : dStep σ d = some σ') (hL : L' < L) : DB σ' L' := by
 obtain ⟨n0, n1, i0, i1, b0, b1, hl⟩ := h
 have hq : 0 ≤ (σ.i + d) / ((σ.out.length : Int) + 1) := Int.ediv_nonneg (by omega) (by omega)
 have hr0 : 0 ≤ (σ.i + d) % ((σ.out.length : Int) + 1) := Int.emod_nonneg _ (by omega)
 have hr1 : (σ.i + d) % ((σ.out.length : Int) + 1) < (σ.out.length : Int) + 1 := Int.emod_lt_of_pos _ (by omega)
 have hdb : d < 30000000000 := by
  rcases Int.lt_or_le d 30000000000 with h | h
  · exact h
  · rw [dStep_big h i0 n0 (by omega)] at hs; cases hs
 unfold dStep at hs
 split at hs
 ·
  rename_i hc
  injection hs with hs
  have hc1 : σ.n + (σ.i + d) / ((σ.out.length : Int) + 1) ≤ 1114111 := hc.1
  have hlen : (dNext σ d).out.length = σ.out.length + 1 := by
   show (_ ++ _ :: _).length = _
   rw [List.length_append, List.length_cons, List.length_take, List.length_drop]; omega
  have hdq : d ≤ 300000000 := by
   rcases Int.lt_or_le 300000000 d with h | h
   ·
    have : 1114112 ≤ (σ.i + d) / ((σ.out.length : Int) + 1) := Int.le_ediv_of_mul_le (by omega) (by omega)
    omega
   · exact h
  have hb := pAdapt_range (d := d) (p := (σ.out.length : Int) + 1) σ.first hd (by omega)
  subst hs
  refine ⟨?_, hc.1, ?_, ?_, ?_, ?_, by rw [hlen]; omega⟩
  · show 0 ≤ σ.n + (σ.i + d) / ((σ.out.length : Int) + 1); omega
  · show 0 ≤ (σ.i + d) % ((σ.out.length : Int) + 1) + 1; omega
  · show (σ.i + d) % ((σ.out.length : Int) + 1) + 1 ≤ ((dNext σ d).out.length : Int); rw [hlen]; omega
  · exact hb.1
  · have := hb.2; show pAdapt d ((σ.out.length : Int) + 1) σ.first ≤ _; omega
 · cases hs
theorem ints_len (b : List UInt8) : (ints b).length = b.length := List.length_map ..
theorem start_DB {s : List UInt8} (h : s.length ≤ 200) : DB (dStart (ints (dBase s))) (dRest s).length := by
 have : (ints (dBase s)).length + (dRest s).length ≤ 200 := by
  rw [ints_len]
  unfold dBase dRest
  split
  · rw [List.length_take, List.length_drop]; omega
  · simp; omega
 exact ⟨by show (0:Int) ≤ 128; decide, by show (128:Int) ≤ _; decide, Int.le_refl _, by show (0:Int) ≤ _; omega, by show (0:Int) ≤ 72; decide, by show (72:Int) ≤ _; decide, this⟩
theorem unpuny_long {s : List UInt8} (h : 200 < s.length) : unpuny s = none := if_pos h
theorem unpuny_wide {s : List UInt8} (h : (dBase s).any (fun c => decide (128 ≤ c.toNat)) = true) : unpuny s = none := by
 unfold unpuny
 split
 · rfl
 · first | rfl | exact if_pos h
theorem unpuny_is {s : List UInt8} (h : ¬ 200 < s.length) (hw : (dBase s).any (fun c => decide (128 ≤ c.toNat)) = false) :
  unpuny s = (dec (dRest s) (dStart (ints (dBase s)))).bind fun l => if l.length ≤ 63 then some l else none := by
 unfold unpuny
 rw [if_neg h, if_neg (by rw [hw]; decide)]
end Go.Proofs.YtoapelcofjjdnaaGreatDoor
namespace Go.Proofs.YtoapelcofjjdnaaGreatDoor
set_option linter.all false
open Go.RowKit
theorem least_tops (n : Int) (l : List Int) (h : ∃ x ∈ l, n ≤ x ∧ x ≤ 1114111) : least n 1114112 l = least n 1114111 l := by
 obtain ⟨x, hx, h1, h2⟩ := h
 obtain ⟨a1, a2, a3⟩ := least_spec n 1114112 l
 obtain ⟨b1, b2, b3⟩ := least_spec n 1114111 l
 have c1 := a2 x hx h1
 have c2 := b2 x hx h1
 have ha : n ≤ least n 1114112 l ∧ least n 1114112 l ∈ l := by
  rcases a3 with a3 | a3
  · omega
  · exact a3
 have d1 := b2 _ ha.2 ha.1
 rcases b3 with b3 | b3
 ·
  have : x = 1114111 := by omega
  omega
 ·
  have d2 := a2 _ b3.2 b3.1
  omega
theorem exists_from {n bs : Int} {l : List Int} {s : ES} (hl : cpAll l = true) (hs : s.done < l.length) (h : ∃ σ, AtRound n bs l s σ) : ∃ x ∈ l, n ≤ x ∧ x ≤ 1114111 := by
 obtain ⟨σ, h⟩ := h
 have hdone := h.done
 rw [h.out] at hdone
 rcases Classical.em (∃ x ∈ l, n ≤ x) with h | h
 ·
  obtain ⟨x, hx, hn⟩ := h
  have := cpOk_iff.1 (cpAll_iff.1 hl x hx)
  exact ⟨x, hx, hn, by omega⟩
 ·
  exfalso
  have : l.filter (fun r => decide (r < n)) = l := List.filter_eq_self.2 fun r hr => decide_eq_true (by
   rcases Int.lt_or_le r n with h1 | h1
   · exact h1
   · exact absurd ⟨r, hr, h1⟩ h)
  rw [this] at hdone
  omega
theorem all_take {l : List Int} {j : Nat} {x : Int} (h : l[j]? = some x) (hf : cpAll (l.take j) = true) (hx : cpOk x = true) : cpAll (l.take (j + 1)) = true := by
 obtain ⟨hj, e⟩ := List.getElem?_eq_some_iff.1 h
 unfold cpAll at hf ⊢
 rw [take_snoc' l j hj, e, List.all_append, hf]; simp [hx]
theorem i64_eq {a b : Int} (h : a = b) : Value.int .i64 a = .int .i64 b := by rw [h]
set_option maxRecDepth 100000 in
set_option maxHeartbeats 16000000 in
theorem rpuny_ok (A : Option Addr) (c : Nat) (l : List Int) (w : World) (hr : Rd w w.heap.size A (runes l)) (h63 : (l.length : Int) ≤ 63) :
  Calls Tryz.prog 138 #[.slice A l.length c] w fun e w' => e = .returned (punyV (puny l)) ∧ Below w.heap.size w w' := by
 go_enter Tryz.func138, Tryz.ntmps138
 go_wp2
 go_loopg [4, 5] (l.length) (fun k v i wr => ∃ (j : Nat), k = l.length - j ∧ j ≤ l.length ∧ i = .int .i64 j ∧ Hid (cpAll (l.take j) = true) ∧ wr.ownsRow w.heap.size 5 1 v (bytes (basics (l.take j))).length (bytes (basics (l.take j))) ∧ Below w.heap.size w wr)
 case atStart => exact ⟨0, rfl, Nat.zero_le _, rfl, rfl, World.ownsRow_nil _ _ _ _, Below.refl _ _⟩
 case round =>
  obtain ⟨j, rfl, hj, rfl, hall, hown, hbel⟩ := hrel
  have hq := hbel.size
  have hty : (bytes (basics (l.take j))).length ≤ 100 := by
   rw [bytes_len, basics_len]
   have h1 := List.length_filter_le (fun r => decide (r < 128)) (l.take j)
   rw [List.length_take] at h1; omega
  by_cases hlt : j < l.length
  ·
   obtain ⟨b, off, x, rfl, hb, hc, hx⟩ := (hr.below hbel).rune_at hlt
   have hlt1 : (j : Int) < (l.length : Int) := by omega
   have hj0 : (0 : Int) ≤ (j : Int) := by omega
   have HB := Lib.hid (basics_snoc hx.out)
   have CS := Lib.hid fun w => short_any x w
   by_cases hok : cpOk x = true
   ·
    obtain ⟨x0, x1, _⟩ := cpOk_iff.1 hok
    have HA := Lib.hid (all_take hx.out hall.out hok)
    have hs0 : shortN x = cpSize x := by unfold shortN; rw [if_pos hok]
    rw [hs0] at CS
    have hsz := cpSize_le x
    have hz0 : ((cpSize x : Int) == 0) = false := by rw [beq_eq_false_iff_ne]; omega
    clear hs0 hok
    by_cases hx128 : x < 128
    ·
     rw [if_pos hx128] at HB
     go_wp2_with (first
      | (go_at_call 159; go_must (go_fit (CS.out _)); rintro e w1 ⟨rfl, rfl⟩)
      | (at_builtin; refine wpList_append_lit rfl _ _ _ rfl w.heap.size _ _ 1 1 Tryz.underlying58 info_byte rfl (by decide) _ _ _ rfl hown _ 1 1 _ rfl rfl (by simp [Value.oneCell']) (by omega) (by decide) (by omega) ?_; intro A2 c2 w3 hc2 hm2 hown3 hb3 hg3))
     go_roundg (l.length - (j + 1))
     case measure => omega
     case rel => exact ⟨j + 1, rfl, by omega, by go_num, HA, own_as hown3 (by rw [HB.out, bytes_append, List.length_append]; rfl) (by rw [HB.out, bytes_append]; simp [bytes, cell_byteOf x0 (by omega)]), hbel.trans hb3⟩
    ·
     rw [if_neg hx128] at HB
     go_wp2_with (go_at_call 159; go_must (go_fit (CS.out _)); rintro e w1 ⟨rfl, rfl⟩)
     go_roundg (l.length - (j + 1))
     case measure => omega
     case rel => exact ⟨j + 1, rfl, by omega, by go_num, HA, by rw [HB.out]; exact hown, hbel⟩
   ·
    have hok := Bool.eq_false_iff.2 hok
    have hs0 : shortN x = 0 := by unfold shortN; rw [if_neg (by rw [hok]; decide)]
    rw [hs0, show ((0 : Nat) : Int) = 0 from rfl] at CS
    have hpy := Lib.hid (puny_no (l := l) (fun h => by have := cpAll_iff.1 h.2 x (List.mem_of_getElem? hx.out); rw [hok] at this; cases this))
    clear hs0 hok
    go_wp2_with (go_at_call 159; go_must (go_fit (CS.out _)); rintro e w1 ⟨rfl, rfl⟩)
    go_ret2
    exact ⟨by rw [hpy.out]; rfl, hbel⟩
  ·
   obtain rfl : j = l.length := by omega
   rw [List.take_length, bytes_len] at hty hown
   have hcp := hall.out
   rw [List.take_length] at hcp
   have hpy := Lib.hid (puny_yes (by omega) hcp)
   have HC := Lib.hid hcp
   have HX := Lib.hid fun x (hx : x ∈ l) => cpOk_iff.1 (cpAll_iff.1 hcp x hx)
   have hst := Lib.hid (start_round hcp)
   clear hcp hall
   obtain ⟨A3, c3, rfl, hc3, hm3⟩ := own_shape hown
   by_cases h0 : 0 < (basics l).length
   case' pos =>
    have h0' : (0 : Int) < ((basics l).length : Int) := by omega
    have hout0 : (eStart l).out = basics l ++ [45] := by unfold eStart; exact if_pos h0
    have HO := Lib.hid hout0
    clear hout0
    go_wp2_with (at_builtin; refine wpList_append_lit rfl _ _ _ rfl w.heap.size _ _ 1 1 Tryz.underlying58 info_byte rfl (by decide) _ _ _ rfl hown _ 1 1 _ rfl rfl (by simp [Value.oneCell']) (by omega) (by decide) (by omega) ?_; intro A2 c2 w3 hc2 hm2 hown3 hb3 hg3)
    have hown5 : w3.ownsRow w.heap.size 5 1 (.slice A2 ((basics l).length + 1) c2) (bytes (eStart l).out).length (bytes (eStart l).out) := own_as hown3 (by rw [HO.out, bytes_len, List.length_append]; rfl) (by rw [HO.out, bytes_append]; rfl)
    have hb5 := hbel.trans hb3
    clear hown hown3 hg3
   case' neg =>
    have hB0 : (basics l).length = 0 := by omega
    have hbn : basics l = [] := List.eq_nil_of_length_eq_zero hB0
    have HB0 := Lib.hid hB0
    have HBN := Lib.hid hbn
    have h0' : ¬ (0 : Int) < ((basics l).length : Int) := by omega
    have hout0 : (eStart l).out = [] := by unfold eStart; exact if_neg h0
    have HO := Lib.hid hout0
    clear hout0 hbn hB0
    go_wp2
    have hown5 : wr.ownsRow w.heap.size 5 1 (.slice A3 (basics l).length c3) (bytes (eStart l).out).length (bytes (eStart l).out) := own_as hown (by rw [HO.out, HB0.out]; rfl) (by rw [HO.out, HBN.out])
    have hb5 := hbel
    clear hown
   all_goals
    go_loopg [4, 7, 8, 9, 10] ((l.length - (eStart l).done.toNat : Nat)) (fun m s4 s7 s8 s9 s10 wr => ∃ (n : Int) (s : ES) (f : Nat), m = (l.length - s.done.toNat : Nat) ∧ s7 = .int .i64 n ∧ s8 = .int .i64 s.delta ∧ s9 = .int .i64 s.bias ∧ s10 = .int .i64 s.done ∧ 128 ≤ n ∧ n ≤ 1114112 ∧ RB l s ∧ Hid ((∃ σ, AtRound n (basics l).length l s σ) ∧ eLoop l.length 128 (basics l).length (eStart l) l = eLoop f n (basics l).length s l ∧ (l.length : Int) ≤ f + s.done) ∧ wr.ownsRow w.heap.size 5 1 s4 (bytes s.out).length (bytes s.out) ∧ Below w.heap.size w wr)
    case atStart => exact ⟨128, eStart l, l.length, rfl, rfl, rfl, rfl, rfl, by omega, by omega, hst.out.2, ⟨hst.out.1, rfl, by have := hst.out.2.2.2.2.2.1; omega⟩, hown5, hb5⟩
    case round =>
     obtain ⟨n, s, f, rfl, rfl, rfl, rfl, rfl, n1, n2, hrb, hrec, howns, hbel⟩ := hrel
     obtain ⟨z1, z2, z3, z4, z5, z6, z7⟩ := hrb
     have hq := hbel.size
     by_cases hlt : s.done < (l.length : Int)
     ·
      obtain ⟨r1, r2, r3, r4, r5⟩ := round_step n1 HC.out (by omega) hlt hrec.out.1 ⟨z1, z2, z3, z4, z5, z6, z7⟩
      have htop := least_tops n l (exists_from HC.out hlt hrec.out.1)
      unfold OL at z7
      obtain ⟨f', rfl⟩ : ∃ f', f = f' + 1 := ⟨f - 1, by have := hrec.out.2.2; omega⟩
      have HR := Lib.hid (And.intro r1 (And.intro ((hrec.out.2.1).trans (eLoop_next hlt)) r5))
      have H3 := hrec.out.2.2
      obtain ⟨M, hM⟩ : ∃ M, M = least n 1114111 l := ⟨_, rfl⟩
      rw [← hM] at r3 r4 htop HR
      have HM := Lib.hid hM
      have HT := Lib.hid htop
      have HR2 := Lib.hid r2
      clear r1 r5 hM htop r2
      go_wp2
      go_loopg [11, 12] (l.length) (fun k s11 i wi => ∃ j : Nat, k = l.length - j ∧ j ≤ l.length ∧ i = .int .i64 j ∧ s11 = .int .i64 (least n 1114112 (l.take j)) ∧ wr = wi)
      case atStart => exact ⟨0, rfl, Nat.zero_le _, rfl, rfl, rfl⟩
      case round =>
       obtain ⟨j, rfl, hj, rfl, rfl, rfl⟩ := hrel
       have hlo : 0 ≤ least n 1114112 (l.take j) ∧ least n 1114112 (l.take j) ≤ 1114112 := by
        obtain ⟨h1, _, h3⟩ := least_spec n 1114112 (l.take j)
        refine ⟨?_, h1⟩
        rcases h3 with h3 | h3 <;> omega
       obtain ⟨p1, p2⟩ := hlo
       by_cases hjl : j < l.length
       ·
        obtain ⟨b, off, x, rfl, hb, hc, hx⟩ := (hr.below hbel).rune_at hjl
        obtain ⟨x0, x1, _⟩ := HX.out x (List.mem_of_getElem? hx.out)
        have hlt1 : (j : Int) < (l.length : Int) := by omega
        have hj0 : (0 : Int) ≤ (j : Int) := by omega
        have HS := Lib.hid (least_snoc (n := n) (top := 1114112) hx.out)
        obtain ⟨M', hM'⟩ : ∃ M', M' = least n 1114112 (l.take j) := ⟨_, rfl⟩
        rw [← hM'] at HS p1 p2 ⊢
        clear hM'
        by_cases hnx : n ≤ x
        ·
         rw [if_pos hnx] at HS
         go_wp2
         all_goals go_roundg (l.length - (j + 1))
         all_goals
          first
          | (case measure => omega)
          | (case rel => exact ⟨j + 1, rfl, by omega, by go_num, i64_eq (by first | (rw [HS.out]; done) | (rw [HS.out]; omega)), rfl⟩)
        ·
         rw [if_neg hnx] at HS
         go_wp2
         all_goals go_roundg (l.length - (j + 1))
         all_goals
          first
          | (case measure => omega)
          | (case rel => exact ⟨j + 1, rfl, by omega, by go_num, i64_eq (by rw [HS.out]), rfl⟩)
       ·
        obtain rfl : j = l.length := by omega
        rw [List.take_length, HT.out]
        clear p1 p2
        obtain ⟨P, hP⟩ : ∃ P, P = (M - n) * (s.done + 1) := ⟨_, rfl⟩
        have P0 : 0 ≤ P := by rw [hP]; exact Int.mul_nonneg (by omega) (by omega)
        have P1 : P ≤ 1113983 * (s.done + 1) := by rw [hP]; exact Int.mul_le_mul_of_nonneg_right (by omega) (by omega)
        have HP := Lib.hid hP
        rw [hP] at P0 P1
        go_wp2
        rw [← HP.out]
        rw [← HP.out] at P0 P1
        clear hP
        have heb4 : EB { s with delta := s.delta + P } 2000000000 100 (64 + 11 * 63) := ⟨by show 0 ≤ s.delta + P; omega, by show s.delta + P ≤ _; omega, z3, z4, z5, by show s.done ≤ _; omega, by show s.out.length ≤ _; omega⟩
        have heb5 := Lib.hid fun j => heb4.pass M (basics l).length l (by omega) (by omega) j
        have hround : eRound n (basics l).length s l = { ePass M (basics l).length { s with delta := s.delta + P } l with delta := (ePass M (basics l).length { s with delta := s.delta + P } l).delta + 1 } := by
         unfold eRound; simp only []; rw [← HM.out, HP.out]
        have HRD := Lib.hid hround
        obtain ⟨s1, hs1⟩ : ∃ s1 : ES, s1 = { s with delta := s.delta + P } := ⟨_, rfl⟩
        have HS1 := Lib.hid hs1
        clear hround heb4 hs1
        go_loopg [4, 8, 9, 10, 13] (l.length) (fun k s4 s8 s9 s10 i wi => ∃ (j : Nat) (t : ES), k = l.length - j ∧ j ≤ l.length ∧ i = .int .i64 j ∧ Hid (t = ePass M (basics l).length s1 (l.take j)) ∧ s8 = .int .i64 t.delta ∧ s9 = .int .i64 t.bias ∧ s10 = .int .i64 t.done ∧ wi.ownsRow w.heap.size 5 1 s4 (bytes t.out).length (bytes t.out) ∧ Below w.heap.size w wi)
        case atStart => exact ⟨0, s1, rfl, Nat.zero_le _, rfl, rfl, by rw [HS1.out], by rw [HS1.out], by rw [HS1.out], by rw [HS1.out]; exact howns, hbel⟩
        case round =>
         clear howns hbel hq
         obtain ⟨j, t, rfl, hj, rfl, hs, rfl, rfl, rfl, howns, hbel⟩ := hrel
         have hq := hbel.size
         have hbd : EB t (2000000000 + j) (100 + j) (64 + 11 * 63 + 11 * j) := by rw [hs.out, HS1.out]; exact heb5.out j hj
         obtain ⟨y1, y2, y3, y4, y5, y6, y7⟩ := hbd
         have y8 : (bytes t.out).length ≤ 100000 := by rw [bytes_len]; omega
         by_cases hjl : j < l.length
         ·
          obtain ⟨bk, off, x, rfl, hb, hc, hx⟩ := (hr.below hbel).rune_at hjl
          obtain ⟨x0, x1, _⟩ := HX.out x (List.mem_of_getElem? hx.out)
          have hlt1 : (j : Int) < (l.length : Int) := by omega
          have hj0 : (0 : Int) ≤ (j : Int) := by omega
          have HN := Lib.hid (ePass_snoc (n := M) (bs := (basics l).length) (s := s1) hx.out)
          rw [← hs.out] at HN
          rcases Int.lt_trichotomy x M with h | h | h
          ·
           rw [eOne_lt h] at HN
           have hne : (x != M) = true := by rw [bne_iff_ne]; omega
           go_wp2
           go_roundg (l.length - (j + 1))
           case measure => omega
           case rel => exact ⟨j + 1, { t with delta := t.delta + 1 }, rfl, by omega, by go_num, HN.out.symm, rfl, rfl, rfl, howns, hbel⟩
          ·
           subst h
           rw [eOne_eq] at HN
           have hne : (x != x) = false := by simp
           have hnl : ¬ x < x := by omega
           have hd9 : t.delta ≤ 10000000000 := by omega
           go_wp2
           go_loopg [4, 14, 15] (t.delta.toNat) (fun m s4 s14 s15 wi => ∃ (q kk : Int) (cnt : Nat) (out' : List UInt8), m = q.toNat ∧ s14 = .int .i64 q ∧ s15 = .int .i64 kk ∧ 0 ≤ q ∧ q ≤ t.delta ∧ 0 ≤ kk ∧ kk ≤ 36 + 36 * cnt ∧ cnt ≤ 11 ∧ (bytes out').length = (bytes t.out).length + cnt ∧ Hid (t.out ++ num t.delta 36 t.bias = out' ++ num q kk t.bias ∧ (10 : Int) ^ cnt * q ≤ t.delta) ∧ wi.ownsRow w.heap.size 5 1 s4 (bytes out').length (bytes out') ∧ Below w.heap.size w wi)
           case atStart => exact ⟨t.delta, 36, 0, t.out, rfl, rfl, rfl, y1, Int.le_refl _, by omega, by omega, by omega, rfl, ⟨rfl, by omega⟩, howns, hbel⟩
           case round =>
            clear howns hbel hq hc
            obtain ⟨q, kk, cnt, out', rfl, rfl, rfl, q1, q2, k1, k2, hcnt, hlen, hnrec, hown', hbel⟩ := hrel
            have hq := hbel.size
            have hlen' : (bytes out').length ≤ 100011 := by omega
            have HL := Lib.hid hlen
            clear hlen
            have ht := edge_range kk t.bias
            obtain ⟨tt, hte⟩ : ∃ tt, tt = edge kk t.bias := ⟨_, rfl⟩
            have CB := Lib.hid fun w => redge_any kk t.bias w (by omega) (by omega) (by omega) (by omega)
            rw [← hte] at CB ht
            obtain ⟨t1, t2⟩ := ht
            by_cases hlq : q < tt
            ·
             have HE := Lib.hid (num_end (q := q) (k := kk) (bias := t.bias) (by rw [← hte]; exact hlq))
             have hq36 : q < 36 := by omega
             clear hte
             go_wp2_with (first
              | (go_at_call 163; go_must (go_fit (CB.out _)); rintro e w1 ⟨rfl, rfl⟩)
              | (at_builtin; refine wpList_append_lit rfl _ _ _ rfl w.heap.size _ _ 1 1 Tryz.underlying58 info_byte rfl (by decide) _ _ _ rfl hown' _ 1 1 _ rfl rfl (by simp [Value.oneCell']) (by omega) (by decide) (by omega) ?_; intro A2 c2 w3 hc2 hm2 hown3 hb3 hg3)
              | (go_at_call 164; go_must (go_fit (radapt_any t.delta (t.done + 1) (t.done == ((basics l).length : Int)) _ (by omega) (by omega) (by omega) (by omega))); rintro e w1 ⟨rfl, rfl⟩))
             go_roundg (l.length - (j + 1))
             case measure => omega
             case rel => exact ⟨j + 1, { out := t.out ++ num t.delta 36 t.bias, delta := 0, bias := pAdapt t.delta (t.done + 1) (decide (t.done = ((basics l).length : Int))), done := t.done + 1 }, rfl, by omega, by go_num, HN.out.symm, rfl, rfl, by go_num, own_as hown3 (by rw [hnrec.out.1, HE.out, bytes_append, List.length_append]; rfl) (by rw [hnrec.out.1, HE.out, bytes_append, letter_at (x := q) q1 hq36]; rfl), hbel.trans hb3⟩
            ·
             have hge : tt ≤ q := by omega
             have HCn := ten_count hnrec.out.2 (by omega) hd9
             have HE := Lib.hid (num_step (q := q) (k := kk) (bias := t.bias) (by rw [← hte]; exact hge))
             rw [← hte] at HE
             have HTn := Lib.hid (ten_step hnrec.out.2 hge t1 t2)
             obtain ⟨l1, l2⟩ := num_less hge t1 t2
             clear hte
             have s3 : (q - tt).tmod (36 - tt) = (q - tt) % (36 - tt) := Int.tmod_eq_emod_of_nonneg (by omega)
             have r0 : 0 ≤ (q - tt) % (36 - tt) := Int.emod_nonneg _ (by omega)
             have r1 : (q - tt) % (36 - tt) < 36 - tt := Int.emod_lt_of_pos _ (by omega)
             have r2 : 0 ≤ tt + (q - tt) % (36 - tt) := by omega
             have r3 : tt + (q - tt) % (36 - tt) < 36 := by omega
             have z0 : ((36 : Int) - tt == 0) = false := by rw [beq_eq_false_iff_ne]; omega
             go_wp2_with (first
              | (go_at_call 163; go_must (go_fit (CB.out _)); rintro e w1 ⟨rfl, rfl⟩)
              | (at_builtin; refine wpList_append_lit rfl _ _ _ rfl w.heap.size _ _ 1 1 Tryz.underlying58 info_byte rfl (by decide) _ _ _ rfl hown' _ 1 1 _ rfl rfl (by simp [Value.oneCell']) (by omega) (by decide) (by omega) ?_; intro A2 c2 w3 hc2 hm2 hown3 hb3 hg3))
             go_roundg (((q - tt) / (36 - tt)).toNat)
             case measure => omega
             case rel =>
              refine ⟨(q - tt) / (36 - tt), kk + 36, cnt + 1, out' ++ [letter (tt + (q - tt) % (36 - tt))], rfl, rfl, by go_num, l1, by omega, by omega, by omega, by have := HCn; omega, ?_, ⟨?_, HTn.out⟩, own_as hown3 ?_ ?_, hbel.trans hb3⟩
              · rw [bytes_append, List.length_append, HL.out, Nat.add_assoc]; rfl
              · rw [hnrec.out.1, HE.out]; simp
              · rw [bytes_append, List.length_append]; rfl
              · rw [bytes_append, letter_at r2 r3]; rfl
          ·
           rw [eOne_gt h] at HN
           have hne : (x != M) = true := by rw [bne_iff_ne]; omega
           have hnl : ¬ x < M := by omega
           go_wp2
           go_roundg (l.length - (j + 1))
           case measure => omega
           case rel => exact ⟨j + 1, t, rfl, by omega, by go_num, HN.out.symm, rfl, rfl, rfl, howns, hbel⟩
         ·
          obtain rfl : j = l.length := by omega
          have hfin : eRound n (basics l).length s l = { t with delta := t.delta + 1 } := by
           rw [HRD.out, ← HS1.out, hs.out, List.take_length]
          have HF := Lib.hid hfin
          clear hfin
          rw [HF.out] at HR
          go_wp2
          go_roundg ((l.length - t.done.toNat : Nat))
          case measure => have h1 := HR2.out; rw [HF.out] at h1; simp only [] at h1; omega
          case rel => exact ⟨M + 1, { t with delta := t.delta + 1 }, f', rfl, by go_num, by go_num, rfl, rfl, by omega, by omega, HR.out.2.2, ⟨HR.out.1, HR.out.2.1, by have h1 := HR2.out; rw [HF.out] at h1; simp only [] at h1 ⊢; omega⟩, howns, hbel⟩
     ·
      have hfin : eLoop l.length 128 (basics l).length (eStart l) l = s := hrec.out.2.1.trans (eLoop_end hlt)
      have HF := Lib.hid hfin
      clear hfin
      rw [bytes_len] at howns
      obtain ⟨A6, c6, rfl, hc6, hm6, hx6⟩ := own_rd howns
      go_wp2_with (refine wpList_strL rfl _ _ _ _ rfl Tryz.underlying58 Tryz.underlying5 Tryz.underlying9 _ _ _ _ s.out rfl rfl hx6 ?_)
      go_ret2
      exact ⟨by rw [hpy.out, HF.out]; rfl, hbel⟩
theorem rpuny_any (A : Option Addr) (c : Nat) (l : List Int) (w : World) (hr : Rd w w.heap.size A (runes l)) (hl : l.length ≤ 1000000) :
  Calls Tryz.prog 138 #[.slice A l.length c] w fun e w' => e = .returned (punyV (puny l)) ∧ Below w.heap.size w w' := by
 by_cases h63 : (l.length : Int) ≤ 63
 · exact rpuny_ok A c l w hr h63
 ·
  have h63' : 63 < (l.length : Int) := by omega
  have hpy := Lib.hid (puny_no (l := l) (fun h => by omega))
  rw [hpy.out]
  clear h63
  go_enter Tryz.func138, Tryz.ntmps138
  go_wp2
  go_ret2
  exact ⟨rfl, Below.refl _ _⟩
end Go.Proofs.YtoapelcofjjdnaaGreatDoor
