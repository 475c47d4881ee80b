/- The walks of the statements of layer 6: begun, DomainStays, DomainLarge. -/
import Derived.Test.YtfandijagdiggaaDoorK14
import Derived.Test.YtfandijagdiggaaDoorK03
import Derived.Lib.SlBytesConst
namespace Go.Proofs.YtfandijagdiggaaDoor
set_option linter.all false
open Go.RowKit

theorem dlabels_any (s : List UInt8) (w : World) (hm : ML w) (hs : s.length ≤ 1000000) :
    Calls Tryd.prog 12 #[.string (str s)] w fun e w' =>
      e = .returned (.slice (some ⟨w.heap.size, 0, none⟩) (cuts 46 s).length (cuts 46 s).length) ∧ Rd w' w'.heap.size (some ⟨w.heap.size, 0, none⟩) (strs (cuts 46 s)) ∧ Below w.heap.size w w' := by
  have C := Lib.hid (split_any 46 s w hm hs)
  go_enter Tryd.func12, Tryd.ntmps12
  go_wp2_with (go_at_call 26; go_must (go_fit C.out); rintro e w1 ⟨rfl, hr1, hb1⟩)
  go_ret
  exact ⟨rfl, hr1, hb1⟩
theorem ascii_some {A : Option Addr} {c : Nat} {b s : List UInt8} {w : World} (h : dASCII b = some s) (hr : Rd w w.heap.size A (bytes b)) (hc : b.length ≤ c) (hcm : c ≤ maxLen) :
    Calls Tryd.prog 9 #[.slice A b.length c] w fun e w' => e = .returned (.tuple #[.string (str s), .int .i64 0]) ∧ Below w.heap.size w w' := by
  have := dascii_any A c b w hr hc hcm
  rwa [h] at this
theorem ascii_none {A : Option Addr} {c : Nat} {b : List UInt8} {w : World} (h : dASCII b = none) (hr : Rd w w.heap.size A (bytes b)) (hc : b.length ≤ c) (hcm : c ≤ maxLen) :
    Calls Tryd.prog 9 #[.slice A b.length c] w fun e w' => e = .returned (.tuple #[.string (str []), .int .i64 5]) ∧ Below w.heap.size w w' := by
  have := dascii_any A c b w hr hc hcm
  rwa [h] at this
def beg6 : List UInt8 := [66, 195, 156, 67, 72, 69, 82, 46, 100, 101]
def beg6t : List UInt8 := [120, 110, 45, 45, 98, 99, 104, 101, 114, 45, 107, 118, 97, 46, 100, 101]
set_option maxRecDepth 100000 in
set_option maxHeartbeats 4000000 in
theorem begun6_any (w : World) (hm : ML w) : Calls Tryd.prog 8 #[] w fun e w' => e = .returned (.bool true) ∧ Below w.heap.size w w' := by
  have p1 : dASCII beg6 = some beg6t := by decide +kernel
  have p2 : dASCII [97, 32, 98] = none := by decide +kernel
  have p3 : cuts 46 [97, 46, 98] = [[97], [98]] := by decide
  have C1 := Lib.hid fun A w (h : Rd w w.heap.size A (bytes beg6)) => ascii_some (c := 10) p1 h (by decide) (by decide)
  have C2 := Lib.hid fun A w (h : Rd w w.heap.size A (bytes [97, 32, 98])) => ascii_none (c := 3) p2 h (by decide) (by decide)
  have C3 := Lib.hid fun w h => dlabels_any [97, 46, 98] w h (by decide)
  rw [p3] at C3
  clear p1 p2 p3
  have t1 : (str beg6t).toList = beg6t := str_toL _
  have t2 : ({ data := #[120, 110, 45, 45, 98, 99, 104, 101, 114, 45, 107, 118, 97, 46, 100, 101] } : ByteArray).toList = beg6t := str_toL beg6t
  have kc := fun (w : World) (C : Array Value) (n c : Nat) => Lib.run_convert_bytes_const (P := Tryd.prog) w 22 5 C n c Tryd.underlying22 Tryd.underlying5
  go_enter Tryd.func8, Tryd.ntmps8
  go_wp2_with (first
    | (go_at_call 9; go_fit (C1.out _ (w.alloc (.cells #[.int .u8 66, .int .u8 195, .int .u8 156, .int .u8 67, .int .u8 72, .int .u8 69, .int .u8 82, .int .u8 46, .int .u8 100, .int .u8 101] 5 (10, 11))) Rd.lit); rintro e w1 ⟨rfl, hb1⟩)
    | (go_at_call 9; go_fit (C2.out _ (w1.alloc (.cells #[.int .u8 97, .int .u8 32, .int .u8 98] 5 (3, 4))) Rd.lit); rintro e w2 ⟨rfl, hb2⟩; have hb12 := bnext (bnew (bnext (bnew (Below.refl _ _) _) hb1) _) hb2)
    | (go_at_call 12; go_must (go_fit (C3.out w2 (hm.next hb12))); rintro e w3 ⟨rfl, hr3, hb3⟩))
  go_ret
  exact ⟨rfl, bnext hb12 hb3⟩
theorem any_signs {s : List UInt8} {L : List (List UInt8)} (h : Name s L) {j : Nat} (hj : j < s.length) : 32 < (gb s j).toNat ∧ (gb s j).toNat < 127 ∧ ¬ (65 ≤ (gb s j).toNat ∧ (gb s j).toNat ≤ 90) :=
  h.signs _ (List.mem_of_getElem? (gb_some hj))
theorem ascii_len {b s : List UInt8} (h : dASCII b = some s) : s.length ≤ 254 := by
  obtain ⟨L, hN, _⟩ := name_of h
  exact (dEnd_some hN.fin).2.2
set_option maxRecDepth 100000 in
set_option maxHeartbeats 8000000 in
theorem domainStays_walk (A : Option Addr) (k : Nat) (b : List UInt8) (w : World) (hm : ML w) (hr : Rd w w.heap.size A (bytes b)) (hk : b.length ≤ k) (hkm : k ≤ maxLen) :
    Calls Tryd.prog 4 #[.slice A b.length k] w fun e w' => e = .returned (.bool true) ∧ Below w.heap.size w w' := by
  by_cases h100 : (b.length : Int) ≤ 100
  · cases ho : dASCII b with
    | none =>
      have C1 := Lib.hid fun w h => ascii_none (A := A) (c := k) (w := w) ho h hk hkm
      have t1 : (str []).toList = [] := str_toL _
      clear ho
      go_enter Tryd.func4, Tryd.ntmps4
      go_wp2_with (first
        | (go_at_call 8; go_must (go_fit (begun6_any w hm)); rintro e w1 ⟨rfl, hb1⟩; have hr1 := hr.next hb1)
        | (go_at_call 9; go_must (go_fit (C1.out w1 hr1)); rintro e w2 ⟨rfl, hb2⟩))
      go_ret
      exact ⟨rfl, bnext hb1 hb2⟩
    | some s =>
      have C1 := Lib.hid fun w h => ascii_some (A := A) (c := k) (w := w) ho h hk hkm
      have ho2 := dASCII_again ho
      obtain ⟨L, hN, _⟩ := name_of ho
      have hsl := ascii_len ho
      have C2 := Lib.hid fun A c w (h : Rd w w.heap.size A (bytes s)) (h1 : s.length ≤ c) (h2 : c ≤ maxLen) => ascii_some ho2 h h1 h2
      have HS := Lib.hid fun j hj => any_signs hN (j := j) hj
      have hsz := str_size s
      have hgt := str_get s
      have hq := str_eqB s s
      rw [decide_eq_true rfl] at hq
      clear ho ho2 hN
      go_enter Tryd.func4, Tryd.ntmps4
      go_wp2_with (first
        | (go_at_call 8; go_must (go_fit (begun6_any w hm)); rintro e w1 ⟨rfl, hb1⟩; have hr1 := hr.next hb1)
        | (go_at_call 9; go_fit (C1.out w1 hr1); rintro e w2 ⟨rfl, hb2⟩)
        | (refine wpList_bytesL rfl _ _ _ _ rfl Tryd.underlying9 Tryd.underlying22 Tryd.underlying5 s rfl (by omega) ?_; intro c6 w6 hc6 hm6 hrow6 hr6 hb6 hz6)
        | (go_at_call 9; go_fit (C2.out _ _ w6 hr6 hc6 hm6); rintro e w7 ⟨rfl, hb7⟩; have hb := bnext (bnext (bnext hb1 hb2) hb6) hb7))
      go_loopg [7] (s.length) (fun m i wr => ∃ j : Nat, m = s.length - j ∧ j ≤ s.length ∧ i = .int .i64 j ∧ w7 = wr)
      case atStart => exact ⟨0, rfl, Nat.zero_le _, rfl, rfl⟩
      case round =>
        obtain ⟨j, rfl, hj, rfl, rfl⟩ := hrel
        by_cases hlt : j < s.length
        · have hlt1 : (j : Int) < (s.length : Int) := by omega
          have hj0 : (0 : Int) ≤ (j : Int) := by omega
          obtain ⟨s1, s2, s3⟩ := HS.out j hlt
          have q1 : ¬ ((gb s j).toNat : Int) ≤ 32 := by omega
          have q2 : ¬ (127 : Int) ≤ ((gb s j).toNat : Int) := by omega
          have hw4 : IntKind.i64.wrap ((j : Int) + 1) = (j : Int) + 1 := IntWalk.i64_in _ (by omega)
          by_cases q3 : (65 : Int) ≤ ((gb s j).toNat : Int)
          · have q4 : ¬ ((gb s j).toNat : Int) ≤ 90 := by omega
            go_wp2
            go_roundg (s.length - (j + 1))
            case measure => omega
            case rel => exact ⟨j + 1, rfl, by omega, by go_num, rfl⟩
          · go_wp2
            go_roundg (s.length - (j + 1))
            case measure => omega
            case rel => exact ⟨j + 1, rfl, by omega, by go_num, rfl⟩
        · obtain rfl : j = s.length := by omega
          go_wp2
          go_ret
          exact ⟨rfl, hb⟩
  · have hI : (100 : Int) < (b.length : Int) := by omega
    clear h100
    go_enter Tryd.func4, Tryd.ntmps4
    go_wp2_with (go_at_call 8; go_must (go_fit (begun6_any w hm)); rintro e w1 ⟨rfl, hb1⟩; have hr1 := hr.next hb1)
    go_ret
    exact ⟨rfl, hb1⟩

/-- The letters of DomainLarge. -/
def lgT : List UInt8 := [97, 98, 99, 100, 120, 110, 45, 48, 46, 49]
def lgA (c : UInt8) : UInt8 := gb lgT (c.toNat % 10)
def lgB (c : UInt8) : UInt8 := if 128 ≤ c.toNat ∧ 97 ≤ (lgA c).toNat ∧ (lgA c).toNat ≤ 122 then lgA c - 32 else lgA c
theorem lg_fin : ∀ k : Fin 256, (lgA (UInt8.ofNat k.val)).toNat < 128 ∧ (lgB (UInt8.ofNat k.val)).toNat < 128 ∧ (lgB (UInt8.ofNat k.val) = lgA (UInt8.ofNat k.val) ∨ (97 ≤ (lgA (UInt8.ofNat k.val)).toNat ∧ (lgA (UInt8.ofNat k.val)).toNat ≤ 122 ∧ (lgB (UInt8.ofNat k.val)).toNat = (lgA (UInt8.ofNat k.val)).toNat - 32)) := by decide +kernel
theorem lg_all (c : UInt8) : (lgA c).toNat < 128 ∧ (lgB c).toNat < 128 ∧ (lgB c = lgA c ∨ (97 ≤ (lgA c).toNat ∧ (lgA c).toNat ≤ 122 ∧ (lgB c).toNat = (lgA c).toNat - 32)) := by
  have := lg_fin ⟨c.toNat, byte_lt c⟩
  rwa [UInt8.ofNat_toNat] at this
theorem lg_same (l : List UInt8) : dASCII (l.map lgA) = dASCII (l.map lgB) := by
  refine dASCII_congr (by simp) (large_text ?_ ?_ (by simp) ?_)
  · intro c hc
    obtain ⟨x, _, rfl⟩ := List.mem_map.1 hc
    exact (lg_all x).1
  · intro c hc
    obtain ⟨x, _, rfl⟩ := List.mem_map.1 hc
    exact (lg_all x).2.1
  · intro j x y hx hy
    rw [List.getElem?_map] at hx hy
    cases e : l[j]? with
    | none => rw [e] at hx; cases hx
    | some c =>
      rw [e] at hx hy
      injection hx with hx
      injection hy with hy
      subst hx hy
      exact (lg_all c).2.2
theorem map_snocB {f : UInt8 → UInt8} {l : List UInt8} {j : Nat} {x : UInt8} (h : l[j]? = some x) : (l.map f).take (j + 1) = (l.map f).take j ++ [f x] := by
  obtain ⟨hj, e⟩ := List.getElem?_eq_some_iff.1 h
  rw [← List.map_take, ← List.map_take, take_snoc' l j hj, e, List.map_append]; rfl
set_option maxRecDepth 100000 in
set_option maxHeartbeats 8000000 in
theorem domainLarge_walk (A : Option Addr) (k : Nat) (b : List UInt8) (w : World) (hm : ML w) (hr : Rd w w.heap.size A (bytes b)) (hk : b.length ≤ k) (hkm : k ≤ maxLen) :
    Calls Tryd.prog 5 #[.slice A b.length k] w fun e w' => e = .returned (.bool true) ∧ Below w.heap.size w w' := by
  by_cases h40 : (b.length : Int) ≤ 40
  · have C1 := Lib.hid fun A c w (h : Rd w w.heap.size A (bytes (b.map lgA))) (h1 : (b.map lgA).length ≤ c) (h2 : c ≤ maxLen) => dascii_any A c (b.map lgA) w h h1 h2
    have C2 := Lib.hid fun A c w (h : Rd w w.heap.size A (bytes (b.map lgB))) (h1 : (b.map lgB).length ≤ c) (h2 : c ≤ maxLen) => dascii_any A c (b.map lgB) w h h1 h2
    rw [lg_same] at C1
    rw [List.length_map] at C1 C2
    have hgl : ∀ (k : Nat) (h : k < ({ data := #[97, 98, 99, 100, 120, 110, 45, 48, 46, 49] } : ByteArray).size), ({ data := #[97, 98, 99, 100, 120, 110, 45, 48, 46, 49] } : ByteArray)[k]'h = gb lgT k := str_get lgT
    have hzl : ({ data := #[97, 98, 99, 100, 120, 110, 45, 48, 46, 49] } : ByteArray).size = 10 := rfl
    go_enter Tryd.func5, Tryd.ntmps5
    go_wp2_with (go_at_call 8; go_must (go_fit (begun6_any w hm)); rintro e w1 ⟨rfl, hb1⟩; have hr1 := hr.next hb1)
    go_loopg [3, 4, 5] (b.length) (fun m s3 s4 i wr => ∃ (j : Nat), m = b.length - j ∧ j ≤ b.length ∧ i = .int .i64 j ∧ wr.ownsRow w1.heap.size 5 1 s3 (bytes ((b.map lgA).take j)).length (bytes ((b.map lgA).take j)) ∧ wr.ownsRow w1.heap.size 5 1 s4 (bytes ((b.map lgB).take j)).length (bytes ((b.map lgB).take j)) ∧ ApartV s3 s4 ∧ Below w1.heap.size w1 wr)
    case atStart => exact ⟨0, rfl, Nat.zero_le _, rfl, World.ownsRow_nil _ _ _ _, World.ownsRow_nil _ _ _ _, ApartV.none rfl, Below.refl _ _⟩
    case round =>
      obtain ⟨j, rfl, hj, rfl, ho3, ho4, hap, hbel⟩ := hrel
      have hq0 := hbel.size
      by_cases hlt : j < b.length
      · obtain ⟨bk, off, x, rfl, hbk, hcx, hx⟩ := (hr1.below hbel).byte_at hlt
        have hlt1 : (j : Int) < (b.length : Int) := by omega
        have hj0 : (0 : Int) ≤ (j : Int) := by omega
        have hA := Lib.hid (map_snocB (f := lgA) hx.out)
        have hB := Lib.hid (map_snocB (f := lgB) hx.out)
        obtain ⟨n, hn⟩ : ∃ n, n = x.toNat % 10 := ⟨_, rfl⟩
        have hm10 : (x.toNat : Int) % 10 = (n : Int) := by omega
        have hlt10 : n < 10 := by omega
        have hn0 : (0 : Int) ≤ (n : Int) := by omega
        have hn10 : (n : Int) < 10 := by omega
        have hx256 := byte_lt x
        have hlg := Lib.hid (lg_all x)
        obtain ⟨c, hc⟩ : ∃ c, c = lgA x := ⟨_, rfl⟩
        have hg' : gb lgT n = c := by rw [hc, hn]; rfl
        have HC := Lib.hid hc
        have HBD := Lib.hid (show lgB x = if 128 ≤ x.toNat ∧ 97 ≤ c.toNat ∧ c.toNat ≤ 122 then c - 32 else c by rw [hc]; rfl)
        clear hc hx hn
        by_cases h128 : (128 : Int) ≤ (x.toNat : Int)
        · by_cases h97 : (97 : Int) ≤ (c.toNat : Int)
          · by_cases h122 : (c.toNat : Int) ≤ 122
            · have HB2 := Lib.hid (HBD.out.trans (if_pos ⟨by omega, by omega, by omega⟩))
              have hsub : IntKind.u8.wrap ((c.toNat : Int) - 32) = ((c - 32).toNat : Int) := by
                have key : ∀ k : Fin 256, 97 ≤ k.val → (UInt8.ofNat k.val - 32).toNat = k.val - 32 := by decide +kernel
                have h := key ⟨c.toNat, byte_lt c⟩ (by show 97 ≤ c.toNat; omega)
                rw [UInt8.ofNat_toNat] at h
                rw [h, IntWalk.u8_in _ (by have := byte_lt c; omega)]
                show _ = ((c.toNat - 32 : Nat) : Int)
                omega
              go_wp2_with (first
                | (at_builtin; refine wpList_append_litAt rfl _ _ _ rfl w1.heap.size _ _ 1 1 Tryd.underlying22 info_byte rfl (by decide) _ _ _ rfl ho3 _ 1 1 _ rfl rfl (by simp [Value.oneCell']) (by rw [bytes_len, List.length_take, List.length_map]; omega) (by decide) (by omega) ?_; intro A5 c5 w5 hc5 hm5 hown5 hb5 hg5 hat5; have ho4' := own_apart ho4 hg5 hap.symm; have hap5 := (ApartV.grown hap.symm ho4 (Nat.le_succ _) hat5).symm; have hq5 := hb5.size; have hcx5 := cell_on hb5 hcx hbk)
                | (at_builtin; refine wpList_append_litAt rfl _ _ _ rfl w1.heap.size _ _ 1 1 Tryd.underlying22 info_byte rfl (by decide) _ _ _ rfl ho4' _ 1 1 _ rfl rfl (by simp [Value.oneCell']) (by rw [bytes_len, List.length_take, List.length_map]; omega) (by decide) (by omega) ?_; intro A6 c6 w6 hc6 hm6 hown6 hb6 hg6 hat6; have ho5' := own_apart hown5 hg6 hap5; have hap6 := ApartV.grown hap5 hown5 (Nat.le_succ _) hat6))
              go_roundg (b.length - (j + 1))
              case measure => omega
              case rel => exact ⟨j + 1, rfl, by omega, by go_num, own_as ho5' (by rw [hA.out, bytes_append, List.length_append]; rfl) (by rw [hA.out, bytes_append, ← HC.out]; rfl), own_as hown6 (by rw [hB.out, bytes_append, List.length_append]; rfl) (by rw [hB.out, bytes_append, HB2.out]; rfl), hap6, (hbel.trans hb5).trans hb6⟩
            · have HB2 := Lib.hid (HBD.out.trans (if_neg (by omega)))
              go_wp2_with (first
                | (at_builtin; refine wpList_append_litAt rfl _ _ _ rfl w1.heap.size _ _ 1 1 Tryd.underlying22 info_byte rfl (by decide) _ _ _ rfl ho3 _ 1 1 _ rfl rfl (by simp [Value.oneCell']) (by rw [bytes_len, List.length_take, List.length_map]; omega) (by decide) (by omega) ?_; intro A5 c5 w5 hc5 hm5 hown5 hb5 hg5 hat5; have ho4' := own_apart ho4 hg5 hap.symm; have hap5 := (ApartV.grown hap.symm ho4 (Nat.le_succ _) hat5).symm; have hq5 := hb5.size; have hcx5 := cell_on hb5 hcx hbk)
                | (at_builtin; refine wpList_append_litAt rfl _ _ _ rfl w1.heap.size _ _ 1 1 Tryd.underlying22 info_byte rfl (by decide) _ _ _ rfl ho4' _ 1 1 _ rfl rfl (by simp [Value.oneCell']) (by rw [bytes_len, List.length_take, List.length_map]; omega) (by decide) (by omega) ?_; intro A6 c6 w6 hc6 hm6 hown6 hb6 hg6 hat6; have ho5' := own_apart hown5 hg6 hap5; have hap6 := ApartV.grown hap5 hown5 (Nat.le_succ _) hat6))
              go_roundg (b.length - (j + 1))
              case measure => omega
              case rel => exact ⟨j + 1, rfl, by omega, by go_num, own_as ho5' (by rw [hA.out, bytes_append, List.length_append]; rfl) (by rw [hA.out, bytes_append, ← HC.out]; rfl), own_as hown6 (by rw [hB.out, bytes_append, List.length_append]; rfl) (by rw [hB.out, bytes_append, HB2.out]; rfl), hap6, (hbel.trans hb5).trans hb6⟩
          · have HB2 := Lib.hid (HBD.out.trans (if_neg (by omega)))
            go_wp2_with (first
              | (at_builtin; refine wpList_append_litAt rfl _ _ _ rfl w1.heap.size _ _ 1 1 Tryd.underlying22 info_byte rfl (by decide) _ _ _ rfl ho3 _ 1 1 _ rfl rfl (by simp [Value.oneCell']) (by rw [bytes_len, List.length_take, List.length_map]; omega) (by decide) (by omega) ?_; intro A5 c5 w5 hc5 hm5 hown5 hb5 hg5 hat5; have ho4' := own_apart ho4 hg5 hap.symm; have hap5 := (ApartV.grown hap.symm ho4 (Nat.le_succ _) hat5).symm; have hq5 := hb5.size; have hcx5 := cell_on hb5 hcx hbk)
              | (at_builtin; refine wpList_append_litAt rfl _ _ _ rfl w1.heap.size _ _ 1 1 Tryd.underlying22 info_byte rfl (by decide) _ _ _ rfl ho4' _ 1 1 _ rfl rfl (by simp [Value.oneCell']) (by rw [bytes_len, List.length_take, List.length_map]; omega) (by decide) (by omega) ?_; intro A6 c6 w6 hc6 hm6 hown6 hb6 hg6 hat6; have ho5' := own_apart hown5 hg6 hap5; have hap6 := ApartV.grown hap5 hown5 (Nat.le_succ _) hat6))
            go_roundg (b.length - (j + 1))
            case measure => omega
            case rel => exact ⟨j + 1, rfl, by omega, by go_num, own_as ho5' (by rw [hA.out, bytes_append, List.length_append]; rfl) (by rw [hA.out, bytes_append, ← HC.out]; rfl), own_as hown6 (by rw [hB.out, bytes_append, List.length_append]; rfl) (by rw [hB.out, bytes_append, HB2.out]; rfl), hap6, (hbel.trans hb5).trans hb6⟩
        · have HB2 := Lib.hid (HBD.out.trans (if_neg (by omega)))
          go_wp2_with (first
            | (at_builtin; refine wpList_append_litAt rfl _ _ _ rfl w1.heap.size _ _ 1 1 Tryd.underlying22 info_byte rfl (by decide) _ _ _ rfl ho3 _ 1 1 _ rfl rfl (by simp [Value.oneCell']) (by rw [bytes_len, List.length_take, List.length_map]; omega) (by decide) (by omega) ?_; intro A5 c5 w5 hc5 hm5 hown5 hb5 hg5 hat5; have ho4' := own_apart ho4 hg5 hap.symm; have hap5 := (ApartV.grown hap.symm ho4 (Nat.le_succ _) hat5).symm; have hq5 := hb5.size; have hcx5 := cell_on hb5 hcx hbk)
            | (at_builtin; refine wpList_append_litAt rfl _ _ _ rfl w1.heap.size _ _ 1 1 Tryd.underlying22 info_byte rfl (by decide) _ _ _ rfl ho4' _ 1 1 _ rfl rfl (by simp [Value.oneCell']) (by rw [bytes_len, List.length_take, List.length_map]; omega) (by decide) (by omega) ?_; intro A6 c6 w6 hc6 hm6 hown6 hb6 hg6 hat6; have ho5' := own_apart hown5 hg6 hap5; have hap6 := ApartV.grown hap5 hown5 (Nat.le_succ _) hat6))
          go_roundg (b.length - (j + 1))
          case measure => omega
          case rel => exact ⟨j + 1, rfl, by omega, by go_num, own_as ho5' (by rw [hA.out, bytes_append, List.length_append]; rfl) (by rw [hA.out, bytes_append, ← HC.out]; rfl), own_as hown6 (by rw [hB.out, bytes_append, List.length_append]; rfl) (by rw [hB.out, bytes_append, HB2.out]; rfl), hap6, (hbel.trans hb5).trans hb6⟩
      · obtain rfl : j = b.length := by omega
        rw [List.take_of_length_le (by rw [List.length_map]; exact Nat.le_refl _), bytes_len, List.length_map] at ho3 ho4
        obtain ⟨A3, c3, rfl, hc3, hm3, hx3⟩ := own_rd ho3
        obtain ⟨A4, c4, rfl, hc4, hm4, hx4⟩ := own_rd ho4
        obtain ⟨o, hO⟩ : ∃ o, o = dASCII (b.map lgB) := ⟨_, rfl⟩
        rw [← hO] at C1 C2
        clear hO
        rcases o with _ | s
        · dsimp only [nameV] at C1 C2
          have t1 : (str []).toList = [] := str_toL _
          go_wp2_with (first
            | (go_at_call 9; go_fit (C1.out A3 c3 wr hx3 hc3 hm3); rintro e w4 ⟨rfl, hb4⟩)
            | (go_at_call 9; go_fit (C2.out A4 c4 w4 (hx4.next hb4) hc4 hm4); rintro e w5 ⟨rfl, hb5⟩))
          go_ret
          exact ⟨rfl, (hb1.trans (hbel.mono hb1.size)).trans ((bnext hb4 hb5).mono (Nat.le_trans hb1.size hq0))⟩
        · dsimp only [nameV] at C1 C2
          have t1 := str_eqB s s
          rw [decide_eq_true rfl] at t1
          go_wp2_with (first
            | (go_at_call 9; go_fit (C1.out A3 c3 wr hx3 hc3 hm3); rintro e w4 ⟨rfl, hb4⟩)
            | (go_at_call 9; go_fit (C2.out A4 c4 w4 (hx4.next hb4) hc4 hm4); rintro e w5 ⟨rfl, hb5⟩))
          go_ret
          exact ⟨rfl, (hb1.trans (hbel.mono hb1.size)).trans ((bnext hb4 hb5).mono (Nat.le_trans hb1.size hq0))⟩
  · have hI : (40 : Int) < (b.length : Int) := by omega
    clear h40
    go_enter Tryd.func5, Tryd.ntmps5
    go_wp2_with (go_at_call 8; go_must (go_fit (begun6_any w hm)); rintro e w1 ⟨rfl, hb1⟩; have hr1 := hr.next hb1)
    go_ret
    exact ⟨rfl, hb1⟩
end Go.Proofs.YtfandijagdiggaaDoor
