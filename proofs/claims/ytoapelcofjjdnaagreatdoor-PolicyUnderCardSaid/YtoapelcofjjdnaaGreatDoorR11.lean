/- A part of the proof. -/
import Derived.Test.YtoapelcofjjdnaaGreatDoorRShelf
import Derived.Test.YtoapelcofjjdnaaGreatDoorR03
import Derived.Test.YtoapelcofjjdnaaGreatDoorRows
import Derived.Test.YtoapelcofjjdnaaGreatDoorR00
import Derived.IntWalk
namespace Go.Proofs.YtoapelcofjjdnaaGreatDoor
set_option linter.all false
open Go.RowKit
theorem info_byte : (Tryz.prog.info? 5).map (fun i => (i.zero, i.size, i.bytes)) = some (some (.int .u8 0), 1, 1) := by kernel_rfl
def Bld (w : World) (B b : Nat) (l : List UInt8) : Prop := Lib.IsBuilder 96 5 B b (bytes l) w
theorem Bld.fresh (w : World) : Bld (w.alloc (.cells #[.pointer none, .slice none 0 0] 96)) w.heap.size w.heap.size [] := Lib.fresh_isBuilder _ _ w
theorem Bld.lt {w : World} {B b : Nat} {l : List UInt8} (h : Bld w B b l) : b < w.heap.size := by
 rcases h with h | h <;> exact h.lt
theorem Bld.base {w : World} {B b : Nat} {l : List UInt8} (h : Bld w B b l) : B ≤ b := by
 rcases h with h | h <;> exact h.1
theorem bldAt_below {T e : TypeId} {B b : Nat} {p : Value} {bs : List Value} {w w' : World} (h : Lib.BuilderAt T e B b p bs w) (hb : Below w.heap.size w w') : Lib.BuilderAt T e B b p bs w' := by
 have hlt := h.lt
 obtain ⟨hB, v, hbk, hown, hne⟩ := h
 exact ⟨hB, v, (hb.block b hlt).trans hbk, own_below hown hb (Nat.le_refl _), hne⟩
theorem Bld.next {w w' : World} {B b : Nat} {l : List UInt8} (h : Bld w B b l) (hb : Below w.heap.size w w') : Bld w' B b l := by
 rcases h with h | h
 · exact .inl (bldAt_below h hb)
 · exact .inr (bldAt_below h hb)
end Go.Proofs.YtoapelcofjjdnaaGreatDoor
namespace Go.Proofs.YtoapelcofjjdnaaGreatDoor
set_option linter.all false
open Go.RowKit
theorem half_le {d p : Int} (h0 : 0 ≤ d) (hp : 1 ≤ p) : 0 ≤ d / p ∧ d / p ≤ d := ⟨Int.ediv_nonneg h0 (by omega), Int.ediv_le_self _ h0⟩
set_option maxRecDepth 100000 in
set_option maxHeartbeats 1000000 in
theorem radapt_any (delta points : Int) (first : Bool) (w : World) (h0 : 0 ≤ delta) (hb : delta ≤ 1000000000000000) (hp : 1 ≤ points) (hp2 : points ≤ 1000000) :
  Calls Tryz.prog 164 #[.int .i64 delta, .int .i64 points, .bool first] w fun e w' => e = .returned (.int .i64 (pAdapt delta points first)) ∧ w = w' := by
 obtain ⟨d0, hd0⟩ : ∃ d0, d0 = pAdapt0 delta first := ⟨_, rfl⟩
 have hfin : pAdapt delta points first = ad (d0 + d0 / points) 0 := by rw [hd0]; rfl
 have HF := Lib.hid hfin
 rw [HF.out]
 clear hfin HF
 have hdd : (first = true ∧ d0 = delta / 700) ∨ (first = false ∧ d0 = delta / 2) := by
  rw [hd0]; unfold pAdapt0; cases first <;> simp
 clear hd0
 have hd01 : 0 ≤ d0 ∧ d0 ≤ 1000000000000000 := by rcases hdd with ⟨_, h⟩ | ⟨_, h⟩ <;> omega
 obtain ⟨q1, q2⟩ := half_le (d := d0) (p := points) hd01.1 hp
 obtain ⟨r1, r2⟩ := hd01
 rcases hdd with ⟨rfl, rfl⟩ | ⟨rfl, rfl⟩
 ·
  obtain ⟨D, hD⟩ : ∃ D, D = delta / 700 + delta / 700 / points := ⟨_, rfl⟩
  have HD := Lib.hid hD
  clear hD
  go_enter Tryz.func164, Tryz.ntmps164
  go_wp2
  rw [← HD.out]
  have D1 : 0 ≤ D ∧ D ≤ 2000000000000000 := by rw [HD.out]; omega
  obtain ⟨D1, D2⟩ := D1
  clear q1 q2 r1 r2
  go_loopg [0, 7] (D.toNat) (fun m s0 s7 wr => ∃ d k : Int, m = d.toNat ∧ s0 = .int .i64 d ∧ s7 = .int .i64 k ∧ 0 ≤ d ∧ 0 ≤ k ∧ k + d ≤ 2000000000000000 ∧ Hid (ad D 0 = ad d k) ∧ w = wr)
  case atStart => exact ⟨D, 0, rfl, rfl, rfl, by omega, by omega, by omega, rfl, rfl⟩
  case round =>
   obtain ⟨d, k, rfl, rfl, rfl, hd1, hk1, hkd, hrec, rfl⟩ := hrel
   by_cases hlt : 455 < d
   ·
    go_wp2
    go_roundg ((d / 35).toNat)
    case measure => omega
    case rel => exact ⟨d / 35, k + 36, rfl, rfl, by go_num, by omega, by omega, by omega, by rw [hrec.out, ad_step hlt]; exact rfl, rfl⟩
   ·
    obtain ⟨z1, z2⟩ := half_le (d := 36 * d) (p := d + 38) (by omega) (by omega)
    go_wp2
    go_ret
    exact ⟨ret_int (by rw [← HD.out, hrec.out, ad_end (by omega)]), rfl⟩
 ·
  obtain ⟨D, hD⟩ : ∃ D, D = delta / 2 + delta / 2 / points := ⟨_, rfl⟩
  have HD := Lib.hid hD
  clear hD
  go_enter Tryz.func164, Tryz.ntmps164
  go_wp2
  rw [← HD.out]
  have D1 : 0 ≤ D ∧ D ≤ 2000000000000000 := by rw [HD.out]; omega
  obtain ⟨D1, D2⟩ := D1
  clear q1 q2 r1 r2
  go_loopg [0, 7] (D.toNat) (fun m s0 s7 wr => ∃ d k : Int, m = d.toNat ∧ s0 = .int .i64 d ∧ s7 = .int .i64 k ∧ 0 ≤ d ∧ 0 ≤ k ∧ k + d ≤ 2000000000000000 ∧ Hid (ad D 0 = ad d k) ∧ w = wr)
  case atStart => exact ⟨D, 0, rfl, rfl, rfl, by omega, by omega, by omega, rfl, rfl⟩
  case round =>
   obtain ⟨d, k, rfl, rfl, rfl, hd1, hk1, hkd, hrec, rfl⟩ := hrel
   by_cases hlt : 455 < d
   ·
    go_wp2
    go_roundg ((d / 35).toNat)
    case measure => omega
    case rel => exact ⟨d / 35, k + 36, rfl, rfl, by go_num, by omega, by omega, by omega, by rw [hrec.out, ad_step hlt]; exact rfl, rfl⟩
   ·
    obtain ⟨z1, z2⟩ := half_le (d := 36 * d) (p := d + 38) (by omega) (by omega)
    go_wp2
    go_ret
    exact ⟨ret_int (by rw [← HD.out, hrec.out, ad_end (by omega)]), rfl⟩
set_option maxRecDepth 100000 in
set_option maxHeartbeats 1000000 in
theorem redge_any (k bias : Int) (w : World) (h1 : -1000000000000 ≤ k) (h2 : k ≤ 1000000000000) (h3 : -1000000000000 ≤ bias) (h4 : bias ≤ 1000000000000) :
  Calls Tryz.prog 163 #[.int .i64 k, .int .i64 bias] w fun e w' => e = .returned (.int .i64 (edge k bias)) ∧ w = w' := by
 go_enter Tryz.func163, Tryz.ntmps163
 go_wp2
 all_goals go_ret
 all_goals exact ⟨ret_int (by unfold edge; omega), rfl⟩
def letterL : List UInt8 := [97, 98, 99, 100, 101, 102, 103, 104, 105, 106, 107, 108, 109, 110, 111, 112, 113, 114, 115, 116, 117, 118, 119, 120, 121, 122, 48, 49, 50, 51, 52, 53, 54, 55, 56, 57]
theorem idx_let_fin : ∀ k : Fin 256, Lib.indexByte letterL (if 65 ≤ k.val ∧ k.val ≤ 90 then UInt8.ofNat (k.val + 32) else UInt8.ofNat k.val) = digitOf (UInt8.ofNat k.val) := by decide +kernel
theorem idx_letN (c : UInt8) (h : ¬ (65 ≤ c.toNat ∧ c.toNat ≤ 90)) : Lib.indexByte letterL c = digitOf c := by
 have := idx_let_fin ⟨c.toNat, byte_lt c⟩
 simp only [if_neg h, UInt8.ofNat_toNat] at this
 exact this
theorem idx_letL (c : UInt8) (h : 65 ≤ c.toNat ∧ c.toNat ≤ 90) : Lib.indexByte letterL (UInt8.ofNat ((c.toNat : Int) + 32).toNat) = digitOf c := by
 have := idx_let_fin ⟨c.toNat, byte_lt c⟩
 simp only [if_pos h, UInt8.ofNat_toNat] at this
 rw [show ((c.toNat : Int) + 32).toNat = c.toNat + 32 from by omega]
 exact this
end Go.Proofs.YtoapelcofjjdnaaGreatDoor
namespace Go.Proofs.YtoapelcofjjdnaaGreatDoor
set_option linter.all false
open Go.RowKit
end Go.Proofs.YtoapelcofjjdnaaGreatDoor
