/- strconv.FormatUint at base 16, numbers of 16 bits; ip6's hex, row, Show. -/
import Derived.Test.YtaglbcniomcfnaaDoorSixFb
namespace Go.Proofs.YtaglbcniomcfnaaDoor
set_option linter.all false
open Go.RowKit

/-- The library's table for the lowest bit: the entry that is read. -/
def DB (w : World) : Prop := w.cell? ⟨7, 15, none⟩ = some (.int .u8 4)
theorem DB.next {w w' : World} (h : DB w) (hb : Below w.heap.size w w') : DB w' := (hb.cell (p := ⟨_, 15, none⟩) (World.block_lt_of_cell? _ _ h)).trans h

set_option maxRecDepth 100000 in
set_option maxHeartbeats 1000000 in
theorem tz64_any (w : World) (h : DB w) : Calls Tryd.prog 102 #[.int .u64 16] w fun e w' => e = .returned (.int .i64 4) ∧ w = w' := by
  have key : IntKind.u64.wrap (bits BinOp.and IntKind.u64 16 (IntKind.u64.wrap (-16)) * 285870213051353865) / 288230376151711744 = 15 := by decide +kernel
  unfold DB at h
  go_enter Tryd.func102, Tryd.ntmps102
  go_wp2_with (simp only [key])
  go_ret
  exact ⟨rfl, rfl⟩
set_option maxRecDepth 100000 in
set_option maxHeartbeats 1000000 in
theorem tz_any (w : World) (h : DB w) : Calls Tryd.prog 88 #[.int .u64 16] w fun e w' => e = .returned (.int .i64 4) ∧ w = w' := by
  have hw0 : IntKind.u64.wrap 16 = 16 := by decide
  have C := Lib.hid (tz64_any w h)
  go_enter Tryd.func88, Tryd.ntmps88
  go_wp2_with (go_at_call 102; go_must (go_fit C.out); rintro e w1 ⟨rfl, rfl⟩)
  go_ret
  exact ⟨rfl, rfl⟩
set_option maxRecDepth 100000 in
set_option maxHeartbeats 1000000 in
theorem pow2_any (w : World) : Calls Tryd.prog 87 #[.int .i64 16] w fun e w' => e = .returned (.bool true) ∧ w = w' := by
  have key : bits BinOp.and IntKind.i64 16 15 = 0 := by decide +kernel
  go_enter Tryd.func87, Tryd.ntmps87
  go_wp2
  go_ret
  exact ⟨rfl, rfl⟩

theorem u64_and15 {x : Nat} (h : x < 65536) : bits .and .u64 (x : Int) 15 = ((x % 16 : Nat) : Int) := by
  show IntKind.u64.wrap ((BitVec.ofInt 64 (x : Int) &&& BitVec.ofInt 64 ((15 : Nat) : Int)).toNat : Int) = _
  have e1 : BitVec.ofInt 64 (x : Int) = BitVec.ofNat 64 x := BitVec.ofInt_natCast ..
  have e2 : BitVec.ofInt 64 ((15 : Nat) : Int) = BitVec.ofNat 64 15 := BitVec.ofInt_natCast ..
  rw [e1, e2, BitVec.toNat_and, BitVec.toNat_ofNat, BitVec.toNat_ofNat, Nat.mod_eq_of_lt (show x < 2 ^ 64 by omega), Nat.mod_eq_of_lt (show 15 < 2 ^ 64 by decide), show (15 : Nat) = 2 ^ 4 - 1 from rfl, Nat.and_two_pow_sub_one_eq_mod, IntWalk.u64_in _ (by omega)]
theorem sign_fin : ∀ k : Fin 16, (⟨#[48, 49, 50, 51, 52, 53, 54, 55, 56, 57, 97, 98, 99, 100, 101, 102, 103, 104, 105, 106, 107, 108, 109, 110, 111, 112, 113, 114, 115, 116, 117, 118, 119, 120, 121, 122]⟩ : ByteArray).data[k.val]? = some (dch k.val) := by decide +kernel
theorem sign_at {d : Nat} (h1 : d < 16) (h : d < (⟨#[48, 49, 50, 51, 52, 53, 54, 55, 56, 57, 97, 98, 99, 100, 101, 102, 103, 104, 105, 106, 107, 108, 109, 110, 111, 112, 113, 114, 115, 116, 117, 118, 119, 120, 121, 122]⟩ : ByteArray).size) : (⟨#[48, 49, 50, 51, 52, 53, 54, 55, 56, 57, 97, 98, 99, 100, 101, 102, 103, 104, 105, 106, 107, 108, 109, 110, 111, 112, 113, 114, 115, 116, 117, 118, 119, 120, 121, 122]⟩ : ByteArray)[d]'h = dch d := by
  have h1 := sign_fin ⟨d, h1⟩
  have h2 : (⟨#[48, 49, 50, 51, 52, 53, 54, 55, 56, 57, 97, 98, 99, 100, 101, 102, 103, 104, 105, 106, 107, 108, 109, 110, 111, 112, 113, 114, 115, 116, 117, 118, 119, 120, 121, 122]⟩ : ByteArray).data[d]? = some _ := Array.getElem?_eq_getElem (i := d) h
  rw [h2] at h1
  exact Option.some.inj h1

/-- The buffer: what is written stands at its end. -/
def Buf (w : World) (g : Nat) (T : List UInt8) : Prop := ∃ xs, Row w g xs ∧ xs.length = 65 ∧ xs.drop (65 - T.length) = bytes T
theorem Buf.put {w : World} {g : Nat} {T : List UInt8} {p : Nat} (h : Buf w g T) (hT : T.length + p = 64) (c : UInt8) : Buf (w.setCell ⟨g, p, none⟩ (.int .u8 (c.toNat : Int))) g (c :: T) := by
  obtain ⟨xs, h1, h2, h3⟩ := h
  refine ⟨xs.set p (.int .u8 (c.toNat : Int)), h1.set (by omega) _, by simpa using h2, ?_⟩
  rw [List.length_cons, show 65 - (T.length + 1) = p by omega, List.drop_set, if_neg (by omega), Nat.sub_self, List.drop_eq_getElem_cons (by omega), List.set_cons_zero]
  rw [show 65 - T.length = p + 1 by omega] at h3
  rw [h3]; rfl
theorem Buf.at_ {w : World} {g : Nat} {T : List UInt8} {p : Nat} (h : Buf w g T) (hp : p < 65) : (∃ u, w.cell? ⟨g, p, none⟩ = some u) ∧ w.frozen? ⟨g, p, none⟩ = false := by
  obtain ⟨xs, h1, h2, h3⟩ := h
  exact ⟨⟨_, h1.1 p _ (List.getElem?_eq_getElem (by omega))⟩, h1.2.1 p (by omega)⟩
theorem Buf.rd {w : World} {g : Nat} {T : List UInt8} (h : Buf w g T) {p : Nat} (hp : p = 65 - T.length) : Rd w w.heap.size (some ⟨g, p, none⟩) (bytes T) := by
  obtain ⟨xs, h1, h2, h3⟩ := h
  have := (h1.rd h1.2.2).dropAt p
  rw [Nat.zero_add, hp, h3] at this
  rw [hp]; exact this

set_option maxRecDepth 100000 in
set_option maxHeartbeats 8000000 in
theorem fbits_any (u : Nat) (hu : u < 65536) (w : World) (hd : DB w) :
    Calls Tryd.prog 73 #[.slice none 0 0, .int .u64 (u : Int), .int .i64 16, .bool false, .bool false] w fun e w' => e = .returned (.tuple #[.slice none 0 0, .string (str (digs 16 u))]) ∧ Below w.heap.size w w' := by
  have hlen := Lib.hid (digs_len (b := 16) (by decide) 4 u (by omega))
  have C1 := Lib.hid fun w => pow2_any w
  have C2 := Lib.hid fun w h => tz_any w h
  have hw1 : IntKind.u64.wrap 16 = 16 := by decide
  have hw2 : IntKind.u64.wrap 4 = 4 := by decide
  have hw3 : IntKind.u64.wrap 15 = 15 := by decide
  go_enter Tryd.func73, Tryd.ntmps73
  go_wp2_with (first
    | (go_at_call 87; go_must (go_fit (C1.out _)); rintro e w1 ⟨rfl, rfl⟩)
    | (go_at_call 88; go_must (go_fit (C2.out _ (hd.next ((Below.refl w.heap.size w).alloc (Nat.le_refl _) _)))); rintro e w1 ⟨rfl, rfl⟩))
  go_loopg [1, 13] u (fun k s1 s13 wr => ∃ (m p : Nat) (T : List UInt8), k = m ∧ s1 = .int .u64 (m : Int) ∧ s13 = .int .i64 (p : Int) ∧ m ≤ u ∧ T.length + p = 65 ∧ Hid (digs 16 u = digs 16 m ++ T) ∧ Buf wr w.heap.size T ∧ Below w.heap.size w wr)
  case atStart => exact ⟨u, 65, [], rfl, rfl, rfl, Nat.le_refl _, rfl, (List.append_nil _).symm, ⟨_, Row.made w _ _, by rfl, by rfl⟩, (Below.refl w.heap.size w).alloc (Nat.le_refl _) _⟩
  case round =>
    obtain ⟨m, p, T, rfl, rfl, rfl, hm, hp, hD, hbuf, hbel⟩ := hrel
    have hgl : w.heap.size < wr.heap.size := by obtain ⟨xs, h, _⟩ := hbuf; exact h.2.2
    have hT4 : T.length ≤ 4 := by
      have h1 := hlen.out
      rw [hD.out, List.length_append] at h1
      omega
    obtain ⟨p, rfl⟩ : ∃ p', p = p' + 1 := ⟨p - 1, by omega⟩
    obtain ⟨⟨u0, hcell⟩, hfz⟩ := hbuf.at_ (p := p) (by omega)
    have hp64 : p < 65 := by omega
    have hp1 : (p : Int) < 65 := by omega
    have hp0 : (0 : Int) ≤ (p : Int) := by omega
    have hw4 : IntKind.u64.wrap (gk : Int) = (gk : Int) := IntWalk.u64_in _ (by omega)
    by_cases h16 : 16 ≤ gk
    · obtain ⟨d, hd0⟩ : ∃ d : Nat, d = gk % 16 := ⟨_, rfl⟩
      obtain ⟨q, hq0⟩ : ∃ q : Nat, q = gk / 16 := ⟨_, rfl⟩
      have hd16 : d < 16 := by omega
      have hand := u64_and15 (x := gk) (by omega)
      rw [← hd0] at hand
      have hquo : (gk : Int) / 16 = (q : Int) := by rw [hq0]; rfl
      have hsg := fun h => sign_at (d := d) hd16 h
      have HF := Lib.hid (show digs 16 u = digs 16 q ++ (dch d :: T) by
        rw [hD.out, digs_big (b := 16) (by decide) h16, ← hq0, ← hd0, List.append_assoc]; rfl)
      have hql : q < gk := by omega
      have hP := hbuf.put (p := p) (by omega) (dch d)
      have hd36 : (d : Int) < 36 := by omega
      have hd36n : d < 36 := by omega
      have h16' : (16 : Int) ≤ (gk : Int) := by omega
      clear hd0 hq0
      go_wp2
      go_roundg q
      case measure => omega
      case rel => exact ⟨q, p, dch d :: T, rfl, by go_num, by go_num, by omega, by simp only [List.length_cons]; omega, HF.out, hP, hbel.setCell (p := ⟨w.heap.size, p, none⟩) (Nat.le_refl _) _⟩
    · have hsg := fun h => sign_at (d := gk) (by omega) h
      have HF := Lib.hid (show digs 16 u = dch gk :: T by rw [hD.out, digs_small (by omega)]; rfl)
      have hP := hbuf.put (p := p) (by omega) (dch gk)
      have hd36 : (gk : Int) < 36 := by omega
      have hd36n : gk < 36 := by omega
      have h16' : (gk : Int) < 16 := by omega
      have hst := str_atN (B := _) (n := 65 - p) (c := 65 - p) (hP.rd (p := p) (by simp only [List.length_cons]; omega)) (by simp only [List.length_cons]; omega)
      have hp65 : (p : Int) ≤ 65 := by omega
      have hpn : ¬ 65 = p := by omega
      have hpn2 : ¬ p = 65 := by omega
      clear h16
      go_wp2
      go_ret2
      exact ⟨by rw [HF.out]; rfl, hbel.setCell (p := ⟨w.heap.size, p, none⟩) (Nat.le_refl _) _⟩
end Go.Proofs.YtaglbcniomcfnaaDoor

