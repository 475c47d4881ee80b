/- A part of the proof. -/
import Derived.Test.YtoapelcofjjdnaaGreatDoorRShelf
import Derived.Test.YtoapelcofjjdnaaGreatDoorR03
import Derived.Test.YtoapelcofjjdnaaGreatDoorRows
import Derived.Test.YtoapelcofjjdnaaGreatDoorR00
import Derived.IntWalk
namespace Go.Proofs.YtoapelcofjjdnaaGreatDoor
set_option linter.all false
open Go.RowKit
theorem info_bld : (Tryz.prog.info? 96).map (·.size) = some 2 := by kernel_rfl
theorem lies_bld : liesAt Tryz.prog Tryz.prog.depth 96 (2 / Tryz.prog.cellsOf 96) 0 96 1 = true := by kernel_rfl
theorem info_byte : (Tryz.prog.info? 5).map (fun i => (i.zero, i.size, i.bytes)) = some (some (.int .u8 0), 1, 1) := by kernel_rfl
def Bld (w : World) (B b : Nat) (l : List UInt8) : Prop := Lib.IsBuilder 96 5 B b (bytes l) w
theorem Bld.fresh (w : World) : Bld (w.alloc (.cells #[.pointer none, .slice none 0 0] 96)) w.heap.size w.heap.size [] := Lib.fresh_isBuilder _ _ w
theorem Bld.lt {w : World} {B b : Nat} {l : List UInt8} (h : Bld w B b l) : b < w.heap.size := by
 rcases h with h | h <;> exact h.lt
theorem Bld.base {w : World} {B b : Nat} {l : List UInt8} (h : Bld w B b l) : B ≤ b := by
 rcases h with h | h <;> exact h.1
theorem bldAt_below {T e : TypeId} {B b : Nat} {p : Value} {bs : List Value} {w w' : World} (h : Lib.BuilderAt T e B b p bs w) (hb : Below w.heap.size w w') : Lib.BuilderAt T e B b p bs w' := by
 have hlt := h.lt
 obtain ⟨hB, v, hbk, hown, hne⟩ := h
 exact ⟨hB, v, (hb.block b hlt).trans hbk, own_below hown hb (Nat.le_refl _), hne⟩
theorem Bld.next {w w' : World} {B b : Nat} {l : List UInt8} (h : Bld w B b l) (hb : Below w.heap.size w w') : Bld w' B b l := by
 rcases h with h | h
 · exact .inl (bldAt_below h hb)
 · exact .inr (bldAt_below h hb)
set_option maxHeartbeats 1000000 in
set_option maxRecDepth 100000 in
theorem copyCheck_used (b : Nat) (w : World) (h0 : w.cell? ⟨b, 0, none⟩ = some (.pointer (some ⟨b, 0, none⟩))) :
  Calls Tryz.prog 121 #[.pointer (some ⟨b, 0, none⟩)] w fun e w' => e = .returned (.tuple #[]) ∧ w = w' := by
 obtain ⟨j, hj, _⟩ := Option.map_eq_some_iff.1 info_bld
 go_enter Tryz.func121, Tryz.ntmps121
 go_wp2
 rw [Lib.run_neq_ptr_same w _ Tryz.underlying94 hj]
 go_wp2
 go_end0
 exact ⟨rfl, rfl⟩
set_option maxHeartbeats 1000000 in
set_option maxRecDepth 100000 in
theorem copyCheck_fresh (b : Nat) (w : World) (h0 : w.cell? ⟨b, 0, none⟩ = some (.pointer none)) (hsh : w.shape? b = some (96, 2)) (hfz : w.frozen? ⟨b, 0, none⟩ = false) :
  Calls Tryz.prog 121 #[.pointer (some ⟨b, 0, none⟩)] w fun e w' => e = .returned (.tuple #[]) ∧ w' = w.setCell ⟨b, 0, none⟩ (.pointer (some ⟨b, 0, none⟩)) := by
 obtain ⟨j, hj, hjs⟩ := Option.map_eq_some_iff.1 info_bld
 go_enter Tryz.func121, Tryz.ntmps121
 go_wp2
 rw [Lib.run_to_unsafe w ⟨b, 0, none⟩ Tryz.underlying94 Tryz.underlying162 hj (by rw [hjs]; decide) hsh (Nat.zero_lt_succ 1)]
 simp only [Result.andThen]
 rw [Oper.upon_value]
 go_wp2
 rw [run_callFunc_extern Tryz.func147 (by kernel_rfl) (by kernel_rfl) (by kernel_rfl) (e := Extern.AbiNoEscape.same) (by kernel_rfl)]
 rw [Lib.run_noEscape]
 simp only [Result.andThen]
 rw [Oper.upon_value]
 go_wp2
 rw [Lib.run_from_unsafe w ⟨b, 0, none⟩ Tryz.underlying162 Tryz.underlying94 hj hsh lies_bld]
 simp only [Result.andThen]
 rw [Oper.upon_value]
 go_wp2
 go_end0
 exact ⟨rfl, rfl⟩
theorem copyCheck_any (B b : Nat) (bs : List Value) (w : World) (h : Lib.IsBuilder 96 5 B b bs w) :
  Calls Tryz.prog 121 #[.pointer (some ⟨b, 0, none⟩)] w fun e w' => e = .returned (.tuple #[]) ∧ Lib.BuilderAt 96 5 B b (.pointer (some ⟨b, 0, none⟩)) bs w' ∧ Below B w w' := by
 rcases h with h | h
 ·
  refine (copyCheck_fresh b w h.cell0 h.shape h.frozen0).mono ?_
  rintro e w' ⟨rfl, rfl⟩
  exact ⟨rfl, h.used _, (Below.refl B w).setCell (p := ⟨b, 0, none⟩) h.1 _⟩
 ·
  refine (copyCheck_used b w h.cell0).mono ?_
  rintro e w' ⟨rfl, rfl⟩
  exact ⟨rfl, h, Below.refl B _⟩
set_option maxHeartbeats 2000000 in
set_option maxRecDepth 100000 in
theorem writeString_any (B b : Nat) (bs : List Value) (s : ByteArray) (w : World) (h : Lib.IsBuilder 96 5 B b bs w) (hlen : bs.length + s.size ≤ 140737488355328) (hBw : B ≤ w.heap.size) :
  Calls Tryz.prog 81 #[.pointer (some ⟨b, 0, none⟩), .string s] w fun e w' => e = .returned (.tuple #[.int .i64 s.size, .nilIface]) ∧ (Lib.BuilderAt 96 5 B b (.pointer (some ⟨b, 0, none⟩)) (bs ++ Lib.strCells s) w' ∧ Below B w w') := by
 obtain ⟨i0, hi, hz0, hz1, hz2⟩ := info_parts info_byte
 go_enter Tryz.func81, Tryz.ntmps81
 go_wp2_with (go_at_call 121; refine (copyCheck_any B b bs _ h).mono ?_)
 rintro e w1 ⟨rfl, h1, hb1⟩
 obtain ⟨hB, v, hbk, hown, hne⟩ := h1
 have c0 : w1.cell? ⟨b, 0, none⟩ = some (.pointer (some ⟨b, 0, none⟩)) := by rw [Lib.cell_of_heap hbk]; rfl
 have c1 : w1.cell? ⟨b, 1, none⟩ = some v := by rw [Lib.cell_of_heap hbk]; rfl
 go_wp2_with (at_builtin; refine Lib.wpList_append_own_string _ rfl _ _ 58 9 rfl B 5 i0 Tryz.underlying58 Tryz.underlying9 hi hz0 hz1 hz2 _ _ _ rfl hown s rfl ?c3 ?c4 ?c5 ?_)
 case c3 => unfold maxLen; omega
 case c4 => omega
 case c5 => have := hb1.size; omega
 intro v' w2 hown' hgrow _
 have hlt : b < w1.heap.size := by
  rcases Nat.lt_or_ge b w1.heap.size with h' | h'
  · exact h'
  · simp [Array.getElem?_eq_none h'] at hbk
 have hb2 : w2.heap[b]? = some (.cells #[.pointer (some ⟨b, 0, none⟩), v] 96 (0, 0)) := by
  rw [hgrow.block b hlt (fun e => hne e.symm)]
  exact hbk
 have d0 : w2.cell? ⟨b, 0, none⟩ = some (.pointer (some ⟨b, 0, none⟩)) := by rw [Lib.cell_of_heap hb2]; rfl
 have d1 : w2.cell? ⟨b, 1, none⟩ = some v := by rw [Lib.cell_of_heap hb2]; rfl
 have f1 : w2.frozen? ⟨b, 1, none⟩ = false := Lib.frozen_of_heap hb2 1
 obtain ⟨ao, n', cap, rfl⟩ : ∃ ao n' cap, v' = .slice ao n' cap := by
  rcases hown'.2 with ⟨hv, _⟩ | ⟨g, cap, cur, hv, _⟩
  · exact ⟨_, _, _, hv⟩
  · exact ⟨_, _, _, hv⟩
 go_wp2
 go_ret2
 refine ⟨rfl, ?_, ?_⟩
 · exact Lib.BuilderAt.put (T := 96) (e := 5) hB hb2 (bs' := bs ++ Lib.strCells s) (by simpa [Lib.strCells_length] using hown') (by decide)
 · exact (hb1.grown hgrow (by have := hb1.size; omega) (fun k hk => (hown.lt k hk).1)).setCell (p := ⟨b, 1, none⟩) hB _
theorem bldString (B b : Nat) (l : List UInt8) (w : World) (h : Bld w B b l) (hB : B ≤ w.heap.size) :
  Calls Tryz.prog 83 #[.pointer (some ⟨b, 0, none⟩)] w fun e w' => e = .returned (.string (str l)) ∧ Below B w w' :=
 Tryz.Builder_String_any B b l w h hB
theorem indexByte_any (s : List UInt8) (c : Int) (w : World) :
  Calls Tryz.prog 79 #[.string (str s), .int .u8 c] w fun e w' => e = .returned (.int .i64 (Lib.indexByte s c.toNat.toUInt8)) ∧ w = w' := by
 refine (Tryz.strings_IndexByte (str s) c w).mono ?_
 rintro e w' ⟨rfl, rfl⟩
 rw [str_data]
 exact ⟨rfl, rfl⟩
end Go.Proofs.YtoapelcofjjdnaaGreatDoor
namespace Go.Proofs.YtoapelcofjjdnaaGreatDoor
set_option linter.all false
open Go.RowKit
theorem half_le {d p : Int} (h0 : 0 ≤ d) (hp : 1 ≤ p) : 0 ≤ d / p ∧ d / p ≤ d := ⟨Int.ediv_nonneg h0 (by omega), Int.ediv_le_self _ h0⟩
set_option maxRecDepth 100000 in
set_option maxHeartbeats 1000000 in
theorem radapt_any (delta points : Int) (first : Bool) (w : World) (h0 : 0 ≤ delta) (hb : delta ≤ 1000000000000000) (hp : 1 ≤ points) (hp2 : points ≤ 1000000) :
  Calls Tryz.prog 164 #[.int .i64 delta, .int .i64 points, .bool first] w fun e w' => e = .returned (.int .i64 (pAdapt delta points first)) ∧ w = w' := by
 obtain ⟨d0, hd0⟩ : ∃ d0, d0 = pAdapt0 delta first := ⟨_, rfl⟩
 have hfin : pAdapt delta points first = ad (d0 + d0 / points) 0 := by rw [hd0]; rfl
 have HF := Lib.hid hfin
 rw [HF.out]
 clear hfin HF
 have hdd : (first = true ∧ d0 = delta / 700) ∨ (first = false ∧ d0 = delta / 2) := by
  rw [hd0]; unfold pAdapt0; cases first <;> simp
 clear hd0
 have hd01 : 0 ≤ d0 ∧ d0 ≤ 1000000000000000 := by rcases hdd with ⟨_, h⟩ | ⟨_, h⟩ <;> omega
 obtain ⟨q1, q2⟩ := half_le (d := d0) (p := points) hd01.1 hp
 obtain ⟨r1, r2⟩ := hd01
 rcases hdd with ⟨rfl, rfl⟩ | ⟨rfl, rfl⟩
 ·
  obtain ⟨D, hD⟩ : ∃ D, D = delta / 700 + delta / 700 / points := ⟨_, rfl⟩
  have HD := Lib.hid hD
  clear hD
  go_enter Tryz.func164, Tryz.ntmps164
  go_wp2
  rw [← HD.out]
  have D1 : 0 ≤ D ∧ D ≤ 2000000000000000 := by rw [HD.out]; omega
  obtain ⟨D1, D2⟩ := D1
  clear q1 q2 r1 r2
  go_loopg [0, 7] (D.toNat) (fun m s0 s7 wr => ∃ d k : Int, m = d.toNat ∧ s0 = .int .i64 d ∧ s7 = .int .i64 k ∧ 0 ≤ d ∧ 0 ≤ k ∧ k + d ≤ 2000000000000000 ∧ Hid (ad D 0 = ad d k) ∧ w = wr)
  case atStart => exact ⟨D, 0, rfl, rfl, rfl, by omega, by omega, by omega, rfl, rfl⟩
  case round =>
   obtain ⟨d, k, rfl, rfl, rfl, hd1, hk1, hkd, hrec, rfl⟩ := hrel
   by_cases hlt : 455 < d
   ·
    go_wp2
    go_roundg ((d / 35).toNat)
    case measure => omega
    case rel => exact ⟨d / 35, k + 36, rfl, rfl, by go_num, by omega, by omega, by omega, by rw [hrec.out, ad_step hlt]; exact rfl, rfl⟩
   ·
    obtain ⟨z1, z2⟩ := half_le (d := 36 * d) (p := d + 38) (by omega) (by omega)
    go_wp2
    go_ret
    exact ⟨ret_int (by rw [← HD.out, hrec.out, ad_end (by omega)]), rfl⟩
 ·
  obtain ⟨D, hD⟩ : ∃ D, D = delta / 2 + delta / 2 / points := ⟨_, rfl⟩
  have HD := Lib.hid hD
  clear hD
  go_enter Tryz.func164, Tryz.ntmps164
  go_wp2
  rw [← HD.out]
  have D1 : 0 ≤ D ∧ D ≤ 2000000000000000 := by rw [HD.out]; omega
  obtain ⟨D1, D2⟩ := D1
  clear q1 q2 r1 r2
  go_loopg [0, 7] (D.toNat) (fun m s0 s7 wr => ∃ d k : Int, m = d.toNat ∧ s0 = .int .i64 d ∧ s7 = .int .i64 k ∧ 0 ≤ d ∧ 0 ≤ k ∧ k + d ≤ 2000000000000000 ∧ Hid (ad D 0 = ad d k) ∧ w = wr)
  case atStart => exact ⟨D, 0, rfl, rfl, rfl, by omega, by omega, by omega, rfl, rfl⟩
  case round =>
   obtain ⟨d, k, rfl, rfl, rfl, hd1, hk1, hkd, hrec, rfl⟩ := hrel
   by_cases hlt : 455 < d
   ·
    go_wp2
    go_roundg ((d / 35).toNat)
    case measure => omega
    case rel => exact ⟨d / 35, k + 36, rfl, rfl, by go_num, by omega, by omega, by omega, by rw [hrec.out, ad_step hlt]; exact rfl, rfl⟩
   ·
    obtain ⟨z1, z2⟩ := half_le (d := 36 * d) (p := d + 38) (by omega) (by omega)
    go_wp2
    go_ret
    exact ⟨ret_int (by rw [← HD.out, hrec.out, ad_end (by omega)]), rfl⟩
set_option maxRecDepth 100000 in
set_option maxHeartbeats 1000000 in
theorem redge_any (k bias : Int) (w : World) (h1 : -1000000000000 ≤ k) (h2 : k ≤ 1000000000000) (h3 : -1000000000000 ≤ bias) (h4 : bias ≤ 1000000000000) :
  Calls Tryz.prog 163 #[.int .i64 k, .int .i64 bias] w fun e w' => e = .returned (.int .i64 (edge k bias)) ∧ w = w' := by
 go_enter Tryz.func163, Tryz.ntmps163
 go_wp2
 all_goals go_ret
 all_goals exact ⟨ret_int (by unfold edge; omega), rfl⟩
def letterL : List UInt8 := [97, 98, 99, 100, 101, 102, 103, 104, 105, 106, 107, 108, 109, 110, 111, 112, 113, 114, 115, 116, 117, 118, 119, 120, 121, 122, 48, 49, 50, 51, 52, 53, 54, 55, 56, 57]
theorem idx_let_fin : ∀ k : Fin 256, Lib.indexByte letterL (if 65 ≤ k.val ∧ k.val ≤ 90 then UInt8.ofNat (k.val + 32) else UInt8.ofNat k.val) = digitOf (UInt8.ofNat k.val) := by decide +kernel
theorem idx_letN (c : UInt8) (h : ¬ (65 ≤ c.toNat ∧ c.toNat ≤ 90)) : Lib.indexByte letterL c = digitOf c := by
 have := idx_let_fin ⟨c.toNat, byte_lt c⟩
 simp only [if_neg h, UInt8.ofNat_toNat] at this
 exact this
theorem idx_letL (c : UInt8) (h : 65 ≤ c.toNat ∧ c.toNat ≤ 90) : Lib.indexByte letterL (UInt8.ofNat ((c.toNat : Int) + 32).toNat) = digitOf c := by
 have := idx_let_fin ⟨c.toNat, byte_lt c⟩
 simp only [if_pos h, UInt8.ofNat_toNat] at this
 rw [show ((c.toNat : Int) + 32).toNat = c.toNat + 32 from by omega]
 exact this
end Go.Proofs.YtoapelcofjjdnaaGreatDoor
namespace Go.Proofs.YtoapelcofjjdnaaGreatDoor
set_option linter.all false
open Go.RowKit
end Go.Proofs.YtoapelcofjjdnaaGreatDoor
