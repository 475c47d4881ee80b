/- A part of the proof. -/
import Derived.Test.YtoapelcofjjdnaaGreatDoorR12
import Derived.Test.YtoapelcofjjdnaaGreatDoorR03
import Derived.Test.YtoapelcofjjdnaaGreatDoorR14
import Derived.Test.YtoapelcofjjdnaaGreatDoorR01
import Derived.Lib.LaidTab
import Derived.ScopeJumps
import Derived.WalkMore
import Derived.Lib.OthersKept
import Derived.Deep.LoopGhost
import Derived.Test.YtoapelcofjjdnaaGreatDoorR04
import Derived.Test.YtoapelcofjjdnaaGreatDoorR11
namespace Go.Proofs.YtoapelcofjjdnaaGreatDoor
set_option linter.all false
open Go.RowKit
def byteRow (w : World) (l : List UInt8) (t : TypeId) : Obj :=
 .cells (bytesRow (str l) (grownCap w l.length 0 t)) t ((bytesRow (str l) (grownCap w l.length 0 t)).size, (bytesRow (str l) (grownCap w l.length 0 t)).size + 1)
theorem bytes_at (w : World) (l : List UInt8) :
  (convert 9 58 (.string (str l))).run Tryz.prog w =
   .ok (.slice (some ⟨w.heap.size, 0, none⟩) l.length (grownCap w l.length 0 5)) (w.drew.alloc (byteRow w l 5)) := by
 have hl := str_size l
 rw [run_bytes_of_string w 9 58 5 (str l) Tryz.underlying9 Tryz.underlying58 Tryz.underlying5, hl]
 rfl
theorem byteRow_rd (w : World) (l : List UInt8) (t : TypeId) {B : Nat} (hB : w.heap.size < B) : Rd (w.drew.alloc (byteRow w l t)) B (some ⟨w.heap.size, 0, none⟩) (bytes l) := fun _ => by
 refine ⟨w.heap.size, 0, rfl, hB, fun j u hu => ?_⟩
 have hrow : (w.drew.alloc (byteRow w l t)).heap[w.heap.size]? = some (byteRow w l t) := heap_alloc_new w.drew _
 unfold byteRow at hrow ⊢
 have hj : j < l.length := by
  rcases Nat.lt_or_ge j l.length with h1 | h1
  · exact h1
  · rw [List.getElem?_eq_none (by rw [bytes_len]; exact h1)] at hu; cases hu
 rw [Nat.zero_add, cell_of_row _ _ j _ _ _ hrow]
 unfold bytesRow
 rw [Array.getElem?_append_left (by simpa [str] using hj)]
 unfold bytes at hu
 rw [← hu]
 simp [str]
theorem own_rdN {w : World} {base : Nat} {e : TypeId} {size : Nat} {v : Value} {n : Nat} {xs : List Value} (h : w.ownsRow base e size v n xs) :
  ∃ A c, v = .slice A n c ∧ n ≤ c ∧ c ≤ maxLen ∧ Rd w w.heap.size A xs := by
 have hl : xs.length = n * size := h.1
 rcases h.2 with ⟨rfl, rfl⟩ | ⟨g, cap, cur, rfl, hb, hg, hnc, hcm, hs, ht⟩
 · exact ⟨none, 0, rfl, Nat.le_refl _, by simp [maxLen], by have e0 : xs = [] := List.eq_nil_of_length_eq_zero (by omega); rw [e0]; exact Rd.nil⟩
 ·
  refine ⟨_, _, rfl, hnc, hcm, fun hn => ⟨g, 0, rfl, (Array.getElem?_eq_some_iff.1 hg).1, fun j u hu => ?_⟩⟩
  have hj : j < n * size := by rcases Nat.lt_or_ge j xs.length with h1 | h1; omega; rw [List.getElem?_eq_none h1] at hu; cases hu
  have := h.cellAt j hj
  rw [Nat.zero_add, this, hu]
end Go.Proofs.YtoapelcofjjdnaaGreatDoor
namespace Go.Proofs.YtoapelcofjjdnaaGreatDoor
set_option linter.all false
open Go.RowKit
theorem Rd.front {w : World} {B : Nat} {A : Option Addr} {xs ys : List Value} (h : Rd w B A (xs ++ ys)) : Rd w B A xs := by
 intro hp
 obtain ⟨b, off, e, hb, hc⟩ := h (by rw [List.length_append]; omega)
 refine ⟨b, off, e, hb, fun j u hu => hc j u ?_⟩
 rw [List.getElem?_append_left (by
  rcases Nat.lt_or_ge j xs.length with h1 | h1
  · exact h1
  · rw [List.getElem?_eq_none h1] at hu; cases hu)]
 exact hu
theorem last_is {α : Type} {L : List α} {n : Nat} {x : α} (hn : L.length = n + 1) (hx : L[n]? = some x) : L = L.dropLast ++ [x] ∧ L.getLast? = some x := by
 have h1 : L.getLast? = some x := by rw [List.getLast?_eq_getElem?, hn]; exact hx
 obtain ⟨l', e⟩ := List.getLast?_eq_some_iff.1 h1
 exact ⟨by rw [e, List.dropLast_concat], h1⟩
theorem pParts_cut {s : List UInt8} {n : Nat} (hn : (cuts 46 s).length = n + 1) (h0 : 0 < n) (hx : (cuts 46 s)[n]? = some []) : (pParts s).length = n ∧ cuts 46 s = pParts s ++ [[]] := by
 obtain ⟨h1, h2⟩ := last_is hn hx
 have e : pParts s = (cuts 46 s).dropLast := by unfold pParts; rw [if_pos ⟨by omega, h2⟩]
 exact ⟨by rw [e, List.length_dropLast, hn]; omega, by rw [e]; exact h1⟩
theorem pParts_all {s : List UInt8} {n : Nat} {x : List UInt8} (hn : (cuts 46 s).length = n + 1) (hx : (cuts 46 s)[n]? = some x) (h : n = 0 ∨ x ≠ []) : pParts s = cuts 46 s := by
 obtain ⟨_, h2⟩ := last_is hn hx
 unfold pParts
 rw [if_neg]
 rintro ⟨h3, h4⟩
 rw [h2] at h4
 injection h4 with h4
 rcases h with h | h
 · omega
 · exact h h4
theorem Rd.text {w : World} {B b off : Nat} {L : List (List UInt8)} (h : Rd w B (some ⟨b, off, none⟩) (strs L)) {k : Nat} {x : List UInt8} (hx : L[k]? = some x) : w.cell? ⟨b, off + k, none⟩ = some (.string (str x)) ∧ b < B := by
 obtain ⟨hk, e⟩ := List.getElem?_eq_some_iff.1 hx
 obtain ⟨b', off', y, e', hb, hc, hy⟩ := h.str_at hk
 injection e' with e'
 injection e' with e1 e2
 subst e1 e2
 rw [show L[k]? = some y from hy] at hx
 injection hx with hx
 rw [← hx]; exact ⟨hc, hb⟩
set_option maxRecDepth 100000 in
set_option maxHeartbeats 2000000 in
theorem split4_any (s : List UInt8) (w : World) (hm : ML w) (hs : s.length ≤ 100000) : Calls Tryz.prog 84 #[.string (str s)] w fun e w' => ∃ A c, e = .returned (.slice A (pParts s).length c) ∧ (pParts s).length ≤ c ∧ Rd w' w'.heap.size A (strs (pParts s)) ∧ Below w.heap.size w w' := by
 have hle := cuts_le 46 s
 have hpos := cuts_pos 46 s
 have C1 := Lib.hid (split_any 46 s w hm (by omega))
 obtain ⟨n, hn⟩ : ∃ n, (cuts 46 s).length = n + 1 := ⟨(cuts 46 s).length - 1, by omega⟩
 obtain ⟨x, hx⟩ : ∃ x, (cuts 46 s)[n]? = some x := ⟨_, List.getElem?_eq_getElem (by omega)⟩
 have HC := Lib.hid fun (h : 0 < n) (e : x = []) => pParts_cut hn h (by rw [hx, e])
 have HA := Lib.hid (pParts_all hn hx)
 have HX := Lib.hid hx
 have HN := Lib.hid hn
 rw [hn] at hle C1
 clear hn hx hpos
 have hL := str_toL
 rcases Nat.eq_zero_or_pos n with h0 | h0
 ·
  subst h0
  have e := HA.out (.inl rfl)
  rw [e, HN.out]
  clear e
  go_enter Tryz.func84, Tryz.ntmps84
  go_wp2_with (go_at_call 122; go_must (go_fit (C1.out)); rintro e w1 ⟨rfl, hrl, hb1⟩; have hcell := (hrl.text HX.out).1; rw [Nat.zero_add] at hcell)
  all_goals go_ret
  all_goals exact ⟨_, _, rfl, Nat.le_refl _, hrl, hb1⟩
 ·
  by_cases hxe : x = []
  ·
   obtain ⟨e1, e2⟩ := HC.out h0 hxe
   subst hxe
   rw [e1]
   have E2 := Lib.hid e2
   clear e1 e2
   go_enter Tryz.func84, Tryz.ntmps84
   go_wp2_with (go_at_call 122; go_must (go_fit (C1.out)); rintro e w1 ⟨rfl, hrl, hb1⟩; have hcell := (hrl.text HX.out).1; rw [Nat.zero_add] at hcell)
   all_goals go_ret
   all_goals
    rw [E2.out, strs_append] at hrl
    exact ⟨_, _, rfl, by omega, hrl.front, hb1⟩
  ·
   have e := HA.out (.inr hxe)
   rw [e, HN.out]
   clear e
   have hxe' : x.isEmpty = false := by cases x with | nil => exact absurd rfl hxe | cons _ _ => rfl
   clear hxe
   go_enter Tryz.func84, Tryz.ntmps84
   go_wp2_with (go_at_call 122; go_must (go_fit (C1.out)); rintro e w1 ⟨rfl, hrl, hb1⟩; have hcell := (hrl.text HX.out).1; rw [Nat.zero_add] at hcell)
   all_goals go_ret
   all_goals exact ⟨_, _, rfl, Nat.le_refl _, hrl, hb1⟩
set_option maxRecDepth 100000 in
set_option maxHeartbeats 2000000 in
theorem parts6_any (s : List UInt8) (w : World) (hs : s.length ≤ 100000) : Calls Tryz.prog 110 #[.string (str s)] w fun e w' => ∃ A c, e = .returned (.slice A (pParts s).length c) ∧ (pParts s).length ≤ c ∧ Rd w' w'.heap.size A (strs (pParts s)) ∧ Below w.heap.size w w' := by
 have hle := cuts_le 46 s
 have hpos := cuts_pos 46 s
 have C1 := Lib.hid (cut6_any s 46 w (by omega))
 obtain ⟨n, hn⟩ : ∃ n, (cuts 46 s).length = n + 1 := ⟨(cuts 46 s).length - 1, by omega⟩
 obtain ⟨x, hx⟩ : ∃ x, (cuts 46 s)[n]? = some x := ⟨_, List.getElem?_eq_getElem (by omega)⟩
 have HC := Lib.hid fun (h : 0 < n) (e : x = []) => pParts_cut hn h (by rw [hx, e])
 have HA := Lib.hid (pParts_all hn hx)
 have HX := Lib.hid hx
 have HN := Lib.hid hn
 rw [hn] at hle
 clear hn hx hpos
 have hL := str_toL
 rcases Nat.eq_zero_or_pos n with h0 | h0
 ·
  subst h0
  have e := HA.out (.inl rfl)
  rw [e, HN.out]
  clear e
  go_enter Tryz.func110, Tryz.ntmps110
  go_wp2_with (go_at_call 100; go_must (go_fit (C1.out)); rintro e w1 ⟨v1, rfl, hown1, hb1⟩; obtain ⟨g1, cap1, rfl, hg11, hg12⟩ := (own_as hown1 HN.out rfl).form (by omega); obtain ⟨A1, c1, e1, hc1, hm1, hrl⟩ := own_rdN (own_as hown1 HN.out rfl); injection e1 with e1 _ e3; subst e1 e3; have hcell := (hrl.text HX.out).1; rw [Nat.zero_add] at hcell)
  all_goals go_ret
  all_goals exact ⟨_, _, rfl, hc1, hrl, hb1⟩
 ·
  by_cases hxe : x = []
  ·
   obtain ⟨e1, e2⟩ := HC.out h0 hxe
   subst hxe
   rw [e1]
   have E2 := Lib.hid e2
   clear e1 e2
   go_enter Tryz.func110, Tryz.ntmps110
   go_wp2_with (go_at_call 100; go_must (go_fit (C1.out)); rintro e w1 ⟨v1, rfl, hown1, hb1⟩; obtain ⟨g1, cap1, rfl, hg11, hg12⟩ := (own_as hown1 HN.out rfl).form (by omega); obtain ⟨A1, c1, e1, hc1, hm1, hrl⟩ := own_rdN (own_as hown1 HN.out rfl); injection e1 with e1 _ e3; subst e1 e3; have hcell := (hrl.text HX.out).1; rw [Nat.zero_add] at hcell)
   all_goals go_ret
   all_goals
    rw [E2.out, strs_append] at hrl
    exact ⟨_, _, rfl, by omega, hrl.front, hb1⟩
  ·
   have e := HA.out (.inr hxe)
   rw [e, HN.out]
   clear e
   have hxe' : x.isEmpty = false := by cases x with | nil => exact absurd rfl hxe | cons _ _ => rfl
   clear hxe
   go_enter Tryz.func110, Tryz.ntmps110
   go_wp2_with (go_at_call 100; go_must (go_fit (C1.out)); rintro e w1 ⟨v1, rfl, hown1, hb1⟩; obtain ⟨g1, cap1, rfl, hg11, hg12⟩ := (own_as hown1 HN.out rfl).form (by omega); obtain ⟨A1, c1, e1, hc1, hm1, hrl⟩ := own_rdN (own_as hown1 HN.out rfl); injection e1 with e1 _ e3; subst e1 e3; have hcell := (hrl.text HX.out).1; rw [Nat.zero_add] at hcell)
   all_goals go_ret
   all_goals exact ⟨_, _, rfl, hc1, hrl, hb1⟩
end Go.Proofs.YtoapelcofjjdnaaGreatDoor
namespace Go.Proofs.YtoapelcofjjdnaaGreatDoor
set_option linter.all false
open Go.RowKit
set_option maxRecDepth 100000 in
set_option maxHeartbeats 2000000 in
theorem rnumber6_any (s : List UInt8) (w : World) (hs : s.length ≤ 1000000) : Calls Tryz.prog 111 #[.string (str s)] w fun e w' => e = .returned (.tuple #[.int .u64 (((pNum s).getD 0 : Nat) : Int), .bool (pNum s).isSome]) ∧ w = w' := by
  have hsz := str_size
  have hgt := str_get
  have hen := str_end s
  obtain ⟨T, b, hb, hT, hcase⟩ : ∃ (T : List UInt8) (b : Nat), b ≤ 16 ∧ T.length ≤ 1000000 ∧ ((s.length = 0 ∧ pNum s = none) ∨ (s.length ≠ 0 ∧ pNum s = cntGo b 0 T ∧
      ((b = 16 ∧ T = dr s 2 ∧ 2 ≤ s.length ∧ ((gb s 0).toNat : Int) = 48 ∧ (((gb s 1).toNat : Int) = 120 ∨ ((gb s 1).toNat : Int) = 88)) ∨
       (b = 8 ∧ T = dr s 1 ∧ 2 ≤ s.length ∧ ((gb s 0).toNat : Int) = 48 ∧ (((gb s 1).toNat : Int) == 120) = false ∧ (((gb s 1).toNat : Int) == 88) = false) ∨
       (b = 10 ∧ T = s ∧ 2 ≤ s.length ∧ (((gb s 0).toNat : Int) == 48) = false) ∨
       (b = 10 ∧ T = s ∧ s.length = 1)))) := by
    by_cases h1 : s.length = 0
    · exact ⟨[], 0, by omega, by simp, .inl ⟨h1, pNum_nil h1⟩⟩
    · by_cases hx : 2 ≤ s.length ∧ (gb s 0).toNat = 48 ∧ ((gb s 1).toNat = 120 ∨ (gb s 1).toNat = 88)
      · refine ⟨dr s 2, 16, by omega, by rw [dr_len]; omega, .inr ⟨h1, pNum_hex hx, .inl ⟨rfl, rfl, hx.1, by omega, by omega⟩⟩⟩
      · by_cases ho : 2 ≤ s.length ∧ (gb s 0).toNat = 48
        · refine ⟨dr s 1, 8, by omega, by rw [dr_len]; omega, .inr ⟨h1, ?_, .inr (.inl ⟨rfl, rfl, ho.1, by omega, by rw [beq_eq_false_iff_ne]; omega, by rw [beq_eq_false_iff_ne]; omega⟩)⟩⟩
          rw [pNum_oct hx ho]
          obtain ⟨hj, e⟩ := List.getElem?_eq_some_iff.1 (gb_some (l := s) (k := 0) (by omega))
          have e48 : gb s 0 = 48 := byte_ext ho.2
          have : s = 48 :: dr s 1 := by
            cases s with
            | nil => exact absurd rfl h1
            | cons a t => rw [show gb (a :: t) 0 = a from rfl] at e48; rw [e48]; rfl
          conv => lhs; rw [this]
          exact cnt_nought _
        · refine ⟨s, 10, by omega, hs, .inr ⟨h1, pNum_ten h1 ho, .inr (.inr ?_)⟩⟩
          by_cases hl : 2 ≤ s.length
          · exact .inl ⟨rfl, rfl, hl, by rw [beq_eq_false_iff_ne]; omega⟩
          · exact .inr ⟨rfl, rfl, by omega⟩
  rcases hcase with ⟨h1, h2⟩ | ⟨h1, h2, hc⟩
  · rw [h2]
    go_enter Tryz.func111, Tryz.ntmps111
    go_wp2
    all_goals go_ret2
    all_goals exact ⟨rfl, rfl⟩
  · obtain ⟨o, ho⟩ : ∃ o, o = cntGo b 0 T := ⟨_, rfl⟩
    rw [h2, ← ho]
    have HO := Lib.hid ho
    clear ho h2
    have main : ∀ (P : Prop), P → True := fun _ _ => trivial
    have hbI : (b : Int) ≤ 16 := by omega
    rcases hc with ⟨rfl, rfl, hl, h48, hx⟩ | ⟨rfl, rfl, hl, h48, hx1, hx2⟩ | ⟨rfl, rfl, hl, h48⟩ | ⟨rfl, rfl, hl⟩
    · have hdl := dr_len s 2
      rcases hx with hx | hx
      · skip
        go_enter Tryz.func111, Tryz.ntmps111
        go_wp2
        all_goals
          go_loopg [5, 6] ((dr s 2).length) (fun k s5 s6 wr => ∃ j n : Nat, k = (dr s 2).length - j ∧ j ≤ (dr s 2).length ∧ s6 = .int .i64 j ∧ s5 = .int .u64 n ∧ n ≤ hugeN ∧ Hid (o = cntGo 16 n ((dr s 2).drop j)) ∧ w = wr)
          case atStart => exact ⟨0, 0, rfl, Nat.zero_le _, rfl, rfl, Nat.zero_le _, HO, rfl⟩
          case round =>
            obtain ⟨j, n, rfl, hj, rfl, rfl, hn, ho, rfl⟩ := hrel
            unfold hugeN at hn
            by_cases hlt : j < (dr s 2).length
            · have hr := hexV_range (gb (dr s 2) j)
              by_cases hd : 0 ≤ hexV (gb (dr s 2) j) ∧ hexV (gb (dr s 2) j) < ((16 : Nat) : Int)
              · have HN := Lib.hid (cnt_at ho hlt hd)
                obtain ⟨d, hd1⟩ : ∃ d : Nat, hexV (gb (dr s 2) j) = (d : Int) := ⟨(hexV (gb (dr s 2) j)).toNat, by omega⟩
                have HD := Lib.hid hd1
                obtain ⟨hd2, hd3⟩ := hd
                go_wp2_with (go_at_call 109; go_must (go_fit (hex6_any _ _)); rintro e w1 ⟨rfl, rfl⟩)
                all_goals go_roundg ((dr s 2).length - (j + 1))
                all_goals first
                  | (case measure => omega)
                  | (case rel => exact ⟨j + 1, min (n * 16 + d) hugeN, rfl, by omega, by go_num, (by unfold hugeN; go_num), Nat.min_le_right _ _, (by have h := HN.out; rw [HD.out] at h; exact h), rfl⟩)
              · have HN := cnt_no ho hlt hd
                subst HN
                go_wp2_with (go_at_call 109; go_must (go_fit (hex6_any _ _)); rintro e w1 ⟨rfl, rfl⟩)
                all_goals go_ret2
                all_goals exact ⟨rfl, rfl⟩
            · obtain rfl : j = (dr s 2).length := by omega
              have := cnt_end ho
              subst this
              go_wp2
              go_ret2
              exact ⟨rfl, rfl⟩
      · skip
        go_enter Tryz.func111, Tryz.ntmps111
        go_wp2
        all_goals
          go_loopg [5, 6] ((dr s 2).length) (fun k s5 s6 wr => ∃ j n : Nat, k = (dr s 2).length - j ∧ j ≤ (dr s 2).length ∧ s6 = .int .i64 j ∧ s5 = .int .u64 n ∧ n ≤ hugeN ∧ Hid (o = cntGo 16 n ((dr s 2).drop j)) ∧ w = wr)
          case atStart => exact ⟨0, 0, rfl, Nat.zero_le _, rfl, rfl, Nat.zero_le _, HO, rfl⟩
          case round =>
            obtain ⟨j, n, rfl, hj, rfl, rfl, hn, ho, rfl⟩ := hrel
            unfold hugeN at hn
            by_cases hlt : j < (dr s 2).length
            · have hr := hexV_range (gb (dr s 2) j)
              by_cases hd : 0 ≤ hexV (gb (dr s 2) j) ∧ hexV (gb (dr s 2) j) < ((16 : Nat) : Int)
              · have HN := Lib.hid (cnt_at ho hlt hd)
                obtain ⟨d, hd1⟩ : ∃ d : Nat, hexV (gb (dr s 2) j) = (d : Int) := ⟨(hexV (gb (dr s 2) j)).toNat, by omega⟩
                have HD := Lib.hid hd1
                obtain ⟨hd2, hd3⟩ := hd
                go_wp2_with (go_at_call 109; go_must (go_fit (hex6_any _ _)); rintro e w1 ⟨rfl, rfl⟩)
                all_goals go_roundg ((dr s 2).length - (j + 1))
                all_goals first
                  | (case measure => omega)
                  | (case rel => exact ⟨j + 1, min (n * 16 + d) hugeN, rfl, by omega, by go_num, (by unfold hugeN; go_num), Nat.min_le_right _ _, (by have h := HN.out; rw [HD.out] at h; exact h), rfl⟩)
              · have HN := cnt_no ho hlt hd
                subst HN
                go_wp2_with (go_at_call 109; go_must (go_fit (hex6_any _ _)); rintro e w1 ⟨rfl, rfl⟩)
                all_goals go_ret2
                all_goals exact ⟨rfl, rfl⟩
            · obtain rfl : j = (dr s 2).length := by omega
              have := cnt_end ho
              subst this
              go_wp2
              go_ret2
              exact ⟨rfl, rfl⟩
    · have hdl := dr_len s 1
      go_enter Tryz.func111, Tryz.ntmps111
      go_wp2
      all_goals
        go_loopg [5, 6] ((dr s 1).length) (fun k s5 s6 wr => ∃ j n : Nat, k = (dr s 1).length - j ∧ j ≤ (dr s 1).length ∧ s6 = .int .i64 j ∧ s5 = .int .u64 n ∧ n ≤ hugeN ∧ Hid (o = cntGo 8 n ((dr s 1).drop j)) ∧ w = wr)
        case atStart => exact ⟨0, 0, rfl, Nat.zero_le _, rfl, rfl, Nat.zero_le _, HO, rfl⟩
        case round =>
          obtain ⟨j, n, rfl, hj, rfl, rfl, hn, ho, rfl⟩ := hrel
          unfold hugeN at hn
          by_cases hlt : j < (dr s 1).length
          · have hr := hexV_range (gb (dr s 1) j)
            by_cases hd : 0 ≤ hexV (gb (dr s 1) j) ∧ hexV (gb (dr s 1) j) < ((8 : Nat) : Int)
            · have HN := Lib.hid (cnt_at ho hlt hd)
              obtain ⟨d, hd1⟩ : ∃ d : Nat, hexV (gb (dr s 1) j) = (d : Int) := ⟨(hexV (gb (dr s 1) j)).toNat, by omega⟩
              have HD := Lib.hid hd1
              obtain ⟨hd2, hd3⟩ := hd
              go_wp2_with (go_at_call 109; go_must (go_fit (hex6_any _ _)); rintro e w1 ⟨rfl, rfl⟩)
              all_goals go_roundg ((dr s 1).length - (j + 1))
              all_goals first
                | (case measure => omega)
                | (case rel => exact ⟨j + 1, min (n * 8 + d) hugeN, rfl, by omega, by go_num, (by unfold hugeN; go_num), Nat.min_le_right _ _, (by have h := HN.out; rw [HD.out] at h; exact h), rfl⟩)
            · have HN := cnt_no ho hlt hd
              subst HN
              go_wp2_with (go_at_call 109; go_must (go_fit (hex6_any _ _)); rintro e w1 ⟨rfl, rfl⟩)
              all_goals go_ret2
              all_goals exact ⟨rfl, rfl⟩
          · obtain rfl : j = (dr s 1).length := by omega
            have := cnt_end ho
            subst this
            go_wp2
            go_ret2
            exact ⟨rfl, rfl⟩
    · have hz0 : ((T.length : Int) == 0) = false := by rw [beq_eq_false_iff_ne]; omega
      go_enter Tryz.func111, Tryz.ntmps111
      go_wp2
      all_goals
        go_loopg [5, 6] (T.length) (fun k s5 s6 wr => ∃ j n : Nat, k = T.length - j ∧ j ≤ T.length ∧ s6 = .int .i64 j ∧ s5 = .int .u64 n ∧ n ≤ hugeN ∧ Hid (o = cntGo 10 n (T.drop j)) ∧ w = wr)
        case atStart => exact ⟨0, 0, rfl, Nat.zero_le _, rfl, rfl, Nat.zero_le _, HO, rfl⟩
        case round =>
          obtain ⟨j, n, rfl, hj, rfl, rfl, hn, ho, rfl⟩ := hrel
          unfold hugeN at hn
          by_cases hlt : j < T.length
          · have hr := hexV_range (gb T j)
            by_cases hd : 0 ≤ hexV (gb T j) ∧ hexV (gb T j) < ((10 : Nat) : Int)
            · have HN := Lib.hid (cnt_at ho hlt hd)
              obtain ⟨d, hd1⟩ : ∃ d : Nat, hexV (gb T j) = (d : Int) := ⟨(hexV (gb T j)).toNat, by omega⟩
              have HD := Lib.hid hd1
              obtain ⟨hd2, hd3⟩ := hd
              go_wp2_with (go_at_call 109; go_must (go_fit (hex6_any _ _)); rintro e w1 ⟨rfl, rfl⟩)
              all_goals go_roundg (T.length - (j + 1))
              all_goals first
                | (case measure => omega)
                | (case rel => exact ⟨j + 1, min (n * 10 + d) hugeN, rfl, by omega, by go_num, (by unfold hugeN; go_num), Nat.min_le_right _ _, (by have h := HN.out; rw [HD.out] at h; exact h), rfl⟩)
            · have HN := cnt_no ho hlt hd
              subst HN
              go_wp2_with (go_at_call 109; go_must (go_fit (hex6_any _ _)); rintro e w1 ⟨rfl, rfl⟩)
              all_goals go_ret2
              all_goals exact ⟨rfl, rfl⟩
          · obtain rfl : j = T.length := by omega
            have := cnt_end ho
            subst this
            go_wp2
            go_ret2
            exact ⟨rfl, rfl⟩
    · have hl1 : T.length < 2 := by omega
      have hz0 : ((T.length : Int) == 0) = false := by rw [beq_eq_false_iff_ne]; omega
      clear hl
      go_enter Tryz.func111, Tryz.ntmps111
      go_wp2
      all_goals
        go_loopg [5, 6] (T.length) (fun k s5 s6 wr => ∃ j n : Nat, k = T.length - j ∧ j ≤ T.length ∧ s6 = .int .i64 j ∧ s5 = .int .u64 n ∧ n ≤ hugeN ∧ Hid (o = cntGo 10 n (T.drop j)) ∧ w = wr)
        case atStart => exact ⟨0, 0, rfl, Nat.zero_le _, rfl, rfl, Nat.zero_le _, HO, rfl⟩
        case round =>
          obtain ⟨j, n, rfl, hj, rfl, rfl, hn, ho, rfl⟩ := hrel
          unfold hugeN at hn
          by_cases hlt : j < T.length
          · have hr := hexV_range (gb T j)
            by_cases hd : 0 ≤ hexV (gb T j) ∧ hexV (gb T j) < ((10 : Nat) : Int)
            · have HN := Lib.hid (cnt_at ho hlt hd)
              obtain ⟨d, hd1⟩ : ∃ d : Nat, hexV (gb T j) = (d : Int) := ⟨(hexV (gb T j)).toNat, by omega⟩
              have HD := Lib.hid hd1
              obtain ⟨hd2, hd3⟩ := hd
              go_wp2_with (go_at_call 109; go_must (go_fit (hex6_any _ _)); rintro e w1 ⟨rfl, rfl⟩)
              all_goals go_roundg (T.length - (j + 1))
              all_goals first
                | (case measure => omega)
                | (case rel => exact ⟨j + 1, min (n * 10 + d) hugeN, rfl, by omega, by go_num, (by unfold hugeN; go_num), Nat.min_le_right _ _, (by have h := HN.out; rw [HD.out] at h; exact h), rfl⟩)
            · have HN := cnt_no ho hlt hd
              subst HN
              go_wp2_with (go_at_call 109; go_must (go_fit (hex6_any _ _)); rintro e w1 ⟨rfl, rfl⟩)
              all_goals go_ret2
              all_goals exact ⟨rfl, rfl⟩
          · obtain rfl : j = T.length := by omega
            have := cnt_end ho
            subst this
            go_wp2
            go_ret2
            exact ⟨rfl, rfl⟩
theorem pLast_at {s : List UInt8} {n : Nat} {x : List UInt8} (hn : (pParts s).length = n + 1) (hx : (pParts s)[n]? = some x) : pLast s = x := by
 unfold pLast; rw [(last_is hn hx).2]; rfl
theorem cuts_piece {s x : List UInt8} {n : Nat} (hx : (pParts s)[n]? = some x) : x.length ≤ s.length := by
 have h1 : x ∈ pParts s := List.mem_of_getElem? hx
 have h2 : x ∈ cuts 46 s := by
  unfold pParts at h1
  split at h1
  · exact List.dropLast_subset _ h1
  · exact h1
 exact cuts_sum 46 s x h2
theorem Rd.last {w : World} {B : Nat} {A : Option Addr} {L : List (List UInt8)} (h : Rd w B A (strs L)) {k : Nat} {x : List UInt8} (hx : L[k]? = some x) : ∃ b off, A = some ⟨b, off, none⟩ ∧ w.cell? ⟨b, off + k, none⟩ = some (.string (str x)) := by
 obtain ⟨hk, e⟩ := List.getElem?_eq_some_iff.1 hx
 obtain ⟨b', off', y, e', hb, hc, hy⟩ := h.str_at hk
 rw [show L[k]? = some y from hy] at hx
 injection hx with hx
 rw [← hx]; exact ⟨b', off', e', hc⟩
end Go.Proofs.YtoapelcofjjdnaaGreatDoor
namespace Go.Proofs.YtoapelcofjjdnaaGreatDoor
set_option linter.all false
open Go.RowKit
section
variable {o : Option Nat} {j sum : Nat} {L : List (List UInt8)} {p : List UInt8}
theorem par_drop (hx : L[j]? = some p) : L.drop j = p :: L.drop (j + 1) := by
 obtain ⟨hj, e⟩ := List.getElem?_eq_some_iff.1 hx
 rw [List.drop_eq_getElem_cons hj, e]
theorem par_none (h : o = parGo j sum (L.drop j)) (hx : L[j]? = some p) (hp : pNum p = none) : o = none := by
 rw [h, par_drop hx, parGo, hp]
theorem par_last {x : Nat} (h : o = parGo j sum (L.drop j)) (hx : L[j]? = some p) (hp : pNum p = some x) (hl : j + 1 = L.length) : o = if x < 2 ^ (8 * (4 - j)) then some (sum + x) else none := by
 have e : L.drop (j + 1) = [] := by rw [hl, List.drop_length]
 rw [h, par_drop hx, parGo, hp, e]; rfl
theorem par_more {x : Nat} (h : o = parGo j sum (L.drop j)) (hx : L[j]? = some p) (hp : pNum p = some x) (hl : j + 1 < L.length) : o = if x < 256 then parGo (j + 1) (sum + x * 2 ^ (8 * (3 - j))) (L.drop (j + 1)) else none := by
 have e : L.drop (j + 1) ≠ [] := fun e => by have := congrArg List.length e; rw [List.length_drop] at this; simp at this; omega
 rw [h, par_drop hx, parGo, hp]; simp only [if_neg e]
theorem par_end (h : o = parGo j sum (L.drop j)) (hl : L.length ≤ j) : o = some sum := by
 rw [h, List.drop_eq_nil_of_le hl]; rfl
end
theorem pow3 (j : Nat) : 2 ^ (8 * (3 - j)) ≤ 16777216 := by
 have h := Nat.pow_le_pow_right (show 0 < 2 by decide) (show 8 * (3 - j) ≤ 24 by omega)
 simpa using h
theorem castpow (v k : Nat) : (v : Int) * 2 ^ k = ((v * 2 ^ k : Nat) : Int) := by simp
theorem castpow1 (k : Nat) : (2 : Int) ^ k = ((2 ^ k : Nat) : Int) := by simp
theorem pow4 (j : Nat) : 2 ^ (8 * (4 - j)) ≤ 4294967296 := by
 have h := Nat.pow_le_pow_right (show 0 < 2 by decide) (show 8 * (4 - j) ≤ 32 by omega)
 simpa using h
theorem mul3 {v j : Nat} (h : v < 256) : v * 2 ^ (8 * (3 - j)) ≤ 4278190080 := by
 have := Nat.mul_le_mul (show v ≤ 255 by omega) (pow3 j)
 omega
theorem wrapq {v j q : Nat} (hq : q = v * 2 ^ (8 * (3 - j))) (h : q ≤ 4278190080) : wrap64 ((v : Int) * 2 ^ (8 * (3 - j))) = (q : Int) := by
 rw [castpow, ← hq]; exact IntWalk.wrap64_in _ (by omega)
theorem wraps {s q j : Nat} (hs : s ≤ j * 4294967296) (hj : j ≤ 4) (h : q ≤ 4294967296) : wrap64 ((s : Int) + (q : Int)) = (s : Int) + (q : Int) := IntWalk.wrap64_in _ (by omega)
theorem stepq {s v j : Nat} (hs : s ≤ j * 4294967296) (h : v < 256) (hj : j ≤ 4) : ∃ q : Nat, v * 2 ^ (8 * (3 - j)) = q ∧ q ≤ 4278190080 ∧ wrap64 ((v : Int) * 2 ^ (8 * (3 - j))) = (q : Int) ∧ wrap64 ((s : Int) + (q : Int)) = (s : Int) + (q : Int) := by
 have h1 := mul3 (j := j) h
 refine ⟨_, rfl, h1, wrapq rfl h1, ?_⟩
 generalize v * 2 ^ (8 * (3 - j)) = q at h1 ⊢
 exact wraps hs hj (by omega)
theorem stepl {s v j : Nat} (hs : s ≤ j * 4294967296) (h : v ≤ 1099511627776) (hj : j ≤ 4) : ∃ q : Nat, 2 ^ (8 * (4 - j)) = q ∧ q ≤ 4294967296 ∧ wrap64 ((2 : Int) ^ (8 * (4 - j))) = (q : Int) ∧ wrap64 ((s : Int) + (v : Int)) = (s : Int) + (v : Int) := by
 have h1 := pow4 j
 refine ⟨_, rfl, h1, ?_, IntWalk.wrap64_in _ (by omega)⟩
 rw [castpow1]
 generalize 2 ^ (8 * (4 - j)) = q at h1 ⊢
 exact IntWalk.wrap64_in _ (by omega)
-- What Parse hands on.
set_option maxRecDepth 100000 in
set_option maxHeartbeats 4000000 in
theorem parse4_any (s : List UInt8) (w : World) (hm : ML w) (hs : s.length ≤ 100000) : Calls Tryz.prog 42 #[.string (str s)] w fun e w' => e = .returned (.tuple #[.int .u32 (((pParse s).getD 0 : Nat) : Int), .int .i64 (if (pParse s).isSome then 0 else 5)]) ∧ Below w.heap.size w w' := by
 have C1 := Lib.hid (split4_any s w hm (by omega))
 have HL := Lib.hid fun (k : Nat) (x : List UInt8) (hx : (pParts s)[k]? = some x) => cuts_piece hx
 have HP := Lib.hid (show pParse s = if 4 < (pParts s).length then none else parGo 0 0 (pParts s) from rfl)
 have HT := Lib.hid fun m (h : pParse s = some m) => pParse_lt h
 obtain ⟨o, ho⟩ : ∃ o, o = pParse s := ⟨_, rfl⟩
 rw [← ho] at HP HT ⊢
 clear ho
 obtain ⟨L, hL⟩ : ∃ L, L = pParts s := ⟨_, rfl⟩
 rw [← hL] at C1 HL HP
 clear hL
 by_cases h4 : 4 < L.length
 ·
  have e := HP.out
  rw [if_pos h4] at e
  subst e
  go_enter Tryz.func42, Tryz.ntmps42
  go_wp2_with (go_at_call 84; go_must (go_fit (C1.out)); rintro e w1 ⟨A1, c1, rfl, hc1, hrl, hb1⟩)
  all_goals go_ret2
  all_goals exact ⟨rfl, hb1⟩
 ·
  have HO := Lib.hid (show o = parGo 0 0 (L.drop 0) by rw [HP.out, if_neg h4]; rfl)
  have h4' : L.length ≤ 4 := by omega
  clear h4 HP
  go_enter Tryz.func42, Tryz.ntmps42
  go_wp2_with (go_at_call 84; go_must (go_fit (C1.out)); rintro e w1 ⟨A1, c1, rfl, hc1, hrl, hb1⟩)
  go_loopg [5, 18] (L.length) (fun k s5 s18 wr => ∃ j sum : Nat, k = L.length - j ∧ j ≤ L.length ∧ s18 = .int .i64 j ∧ s5 = .int .i64 sum ∧ sum ≤ j * 4294967296 ∧ Hid (o = parGo j sum (L.drop j)) ∧ w1 = wr)
  case atStart => exact ⟨0, 0, rfl, Nat.zero_le _, rfl, rfl, Nat.zero_le _, HO, rfl⟩
  case round =>
   obtain ⟨j, sum, rfl, hj, rfl, rfl, hsum, ho, rfl⟩ := hrel
   by_cases hlt : j < L.length
   ·
    obtain ⟨x, hx⟩ : ∃ x, L[j]? = some x := ⟨_, List.getElem?_eq_getElem hlt⟩
    have hxl := HL.out j x hx
    have C3 := Lib.hid fun w => number4_any x w (by omega)
    obtain ⟨b, off, rfl, hcell⟩ := hrl.last hx
    cases hp : pNum x with
    | none =>
     have e := par_none ho hx hp
     subst e
     rw [hp] at C3
     clear hp hx
     go_wp2_with (go_at_call 85; go_must (go_fit (C3.out _)); rintro e w2 ⟨rfl, rfl⟩)
     all_goals go_ret2
     all_goals exact ⟨rfl, hb1⟩
    | some v =>
     have hv := pNum_le hp
     unfold hugeN at hv
     rw [hp] at C3
     by_cases hla : j + 1 = L.length
     ·
      have E := Lib.hid (par_last ho hx hp hla)
      clear hp hx
      have hla2 : ((j : Int) == (L.length : Int) - 1) = true := by rw [beq_iff_eq]; omega
      have hla3 : ¬ (j : Int) < (L.length : Int) - 1 := by omega
      obtain ⟨q, hq, hq1, hw1, hw2⟩ := stepl (v := v) hsum hv (by omega)
      rw [hq] at E
      clear hq
      by_cases hvq : v < q
      ·
       have e := E.out
       rw [if_pos hvq] at e
       have E2 := Lib.hid (show o = parGo (j + 1) (sum + v) (L.drop (j + 1)) by rw [e, hla, List.drop_length]; rfl)
       clear e E hla
       go_wp2_with (go_at_call 85; go_must (go_fit (C3.out _)); rintro e w2 ⟨rfl, rfl⟩)
       all_goals go_roundg (L.length - (j + 1))
       all_goals first
        | (case measure => omega)
        | (case rel => exact ⟨j + 1, sum + v, rfl, by omega, by go_num, by go_num, by omega, E2, rfl⟩)
      ·
       have e := E.out
       rw [if_neg hvq] at e
       subst e
       clear hla
       go_wp2_with (go_at_call 85; go_must (go_fit (C3.out _)); rintro e w2 ⟨rfl, rfl⟩)
       all_goals go_ret2
       all_goals exact ⟨rfl, hb1⟩
     ·
      have E := Lib.hid (par_more ho hx hp (by omega))
      clear hp hx
      have hj3 : j = 0 ∨ j = 1 ∨ j = 2 := by omega
      have hla1 : j + 1 < L.length := by omega
      have hla2 : ((j : Int) == (L.length : Int) - 1) = false := by rw [beq_eq_false_iff_ne]; omega
      by_cases h256 : v < 256
      ·
       have e := E.out
       rw [if_pos h256] at e
       have E2 := Lib.hid e
       clear e E
       obtain ⟨q, hq, hvq, hw1, hw2⟩ := stepq (v := v) hsum h256 (by omega)
       rw [hq] at E2
       clear hq hla hj3
       go_wp2_with (go_at_call 85; go_must (go_fit (C3.out _)); rintro e w2 ⟨rfl, rfl⟩)
       all_goals go_roundg (L.length - (j + 1))
       all_goals first
        | (case measure => omega)
        | (case rel => exact ⟨j + 1, sum + q, rfl, by omega, by go_num, by go_num, by omega, E2, rfl⟩)
      ·
       have e := E.out
       rw [if_neg h256] at e
       subst e
       go_wp2_with (go_at_call 85; go_must (go_fit (C3.out _)); rintro e w2 ⟨rfl, rfl⟩)
       all_goals go_ret2
       all_goals exact ⟨rfl, hb1⟩
   ·
    have e := par_end ho (by omega)
    subst e
    have hlt2 := HT.out _ rfl
    obtain rfl : j = L.length := by omega
    go_wp2
    all_goals go_ret2
    all_goals exact ⟨rfl, hb1⟩
end Go.Proofs.YtoapelcofjjdnaaGreatDoor
namespace Go.Proofs.YtoapelcofjjdnaaGreatDoor
set_option linter.all false
open Go.RowKit
theorem ustepq {s v j : Nat} (hs : s ≤ j * 4294967296) (h : v < 256) (hj : j ≤ 4) : ∃ q : Nat, v * 2 ^ (8 * (3 - j)) = q ∧ q ≤ 4278190080 ∧ IntKind.u64.wrap ((v : Int) * 2 ^ (8 * (3 - j))) = (q : Int) ∧ IntKind.u64.wrap ((s : Int) + (q : Int)) = (s : Int) + (q : Int) := by
 have h1 := mul3 (j := j) h
 refine ⟨_, rfl, h1, ?_, ?_⟩
 ·
  rw [castpow]
  generalize v * 2 ^ (8 * (3 - j)) = q at h1 ⊢
  exact IntWalk.u64_in _ (by omega)
 ·
  generalize v * 2 ^ (8 * (3 - j)) = q at h1 ⊢
  exact IntWalk.u64_in _ (by omega)
theorem ustepl {s v j n : Nat} (hs : s ≤ j * 4294967296) (h : v ≤ 1099511627776) (hj : j ≤ 4) (hn : n = j + 1) : ∃ q : Nat, 2 ^ (8 * (4 - j)) = q ∧ q ≤ 4294967296 ∧ IntKind.u64.wrap ((2 : Int) ^ (8 * (5 - n))) = (q : Int) ∧ IntKind.u64.wrap ((s : Int) + (v : Int)) = (s : Int) + (v : Int) := by
 have h1 := pow4 j
 rw [show 5 - n = 4 - j by omega]
 refine ⟨_, rfl, h1, ?_, IntWalk.u64_in _ (by omega)⟩
 rw [castpow1]
 generalize 2 ^ (8 * (4 - j)) = q at h1 ⊢
 exact IntWalk.u64_in _ (by omega)
set_option maxRecDepth 100000 in
set_option maxHeartbeats 4000000 in
theorem rparse4_any (s : List UInt8) (w : World) (hs : s.length ≤ 100000) : Calls Tryz.prog 72 #[.string (str s)] w fun e w' => e = .returned (.tuple #[.int .u32 (((pParse s).getD 0 : Nat) : Int), .int .i64 (if (pParse s).isSome then 0 else 5)]) ∧ Below w.heap.size w w' := by
 have C1 := Lib.hid (parts6_any s w (by omega))
 have HL := Lib.hid fun (k : Nat) (x : List UInt8) (hx : (pParts s)[k]? = some x) => cuts_piece hx
 have HP := Lib.hid (show pParse s = if 4 < (pParts s).length then none else parGo 0 0 (pParts s) from rfl)
 have HT := Lib.hid fun m (h : pParse s = some m) => pParse_lt h
 obtain ⟨o, ho⟩ : ∃ o, o = pParse s := ⟨_, rfl⟩
 rw [← ho] at HP HT ⊢
 clear ho
 obtain ⟨L, hL⟩ : ∃ L, L = pParts s := ⟨_, rfl⟩
 rw [← hL] at C1 HL HP
 clear hL
 by_cases h4 : 4 < L.length
 ·
  have e := HP.out
  rw [if_pos h4] at e
  subst e
  go_enter Tryz.func72, Tryz.ntmps72
  go_wp2_with (go_at_call 110; go_must (go_fit (C1.out)); rintro e w1 ⟨A1, c1, rfl, hc1, hrl, hb1⟩)
  all_goals go_ret2
  all_goals exact ⟨rfl, hb1⟩
 ·
  have HO := Lib.hid (show o = parGo 0 0 (L.drop 0) by rw [HP.out, if_neg h4]; rfl)
  have h4' : L.length ≤ 4 := by omega
  clear h4 HP
  go_enter Tryz.func72, Tryz.ntmps72
  go_wp2_with (go_at_call 110; go_must (go_fit (C1.out)); rintro e w1 ⟨A1, c1, rfl, hc1, hrl, hb1⟩)
  go_loopg [5, 6] (L.length) (fun k s5 s6 wr => ∃ j sum : Nat, k = L.length - j ∧ j ≤ L.length ∧ s6 = .int .i64 j ∧ s5 = .int .u64 sum ∧ sum ≤ j * 4294967296 ∧ Hid (o = parGo j sum (L.drop j)) ∧ w1 = wr)
  case atStart => exact ⟨0, 0, rfl, Nat.zero_le _, rfl, rfl, Nat.zero_le _, HO, rfl⟩
  case round =>
   obtain ⟨j, sum, rfl, hj, rfl, rfl, hsum, ho, rfl⟩ := hrel
   by_cases hlt : j < L.length
   ·
    obtain ⟨x, hx⟩ : ∃ x, L[j]? = some x := ⟨_, List.getElem?_eq_getElem hlt⟩
    have hxl := HL.out j x hx
    have C3 := Lib.hid fun w => rnumber6_any x w (by omega)
    obtain ⟨b, off, rfl, hcell⟩ := hrl.last hx
    cases hp : pNum x with
    | none =>
     have e := par_none ho hx hp
     subst e
     rw [hp] at C3
     clear hp hx
     go_wp2_with (go_at_call 111; go_must (go_fit (C3.out _)); rintro e w2 ⟨rfl, rfl⟩)
     all_goals go_ret2
     all_goals exact ⟨rfl, hb1⟩
    | some v =>
     have hv := pNum_le hp
     unfold hugeN at hv
     rw [hp] at C3
     by_cases hla : j + 1 = L.length
     ·
      have E := Lib.hid (par_last ho hx hp hla)
      clear hp hx
      have hla2 : ((j : Int) == (L.length : Int) - 1) = true := by rw [beq_iff_eq]; omega
      have hla3 : ¬ (j : Int) < (L.length : Int) - 1 := by omega
      obtain ⟨q, hq, hq1, hw1, hw2⟩ := ustepl (v := v) hsum hv (by omega) hla.symm
      rw [hq] at E
      clear hq
      by_cases hvq : v < q
      ·
       have e := E.out
       rw [if_pos hvq] at e
       have E2 := Lib.hid (show o = parGo (j + 1) (sum + v) (L.drop (j + 1)) by rw [e, hla, List.drop_length]; rfl)
       clear e E hla
       go_wp2_with (go_at_call 111; go_must (go_fit (C3.out _)); rintro e w2 ⟨rfl, rfl⟩)
       all_goals go_roundg (L.length - (j + 1))
       all_goals first
        | (case measure => omega)
        | (case rel => exact ⟨j + 1, sum + v, rfl, by omega, by go_num, by go_num, by omega, E2, rfl⟩)
      ·
       have e := E.out
       rw [if_neg hvq] at e
       subst e
       clear hla
       go_wp2_with (go_at_call 111; go_must (go_fit (C3.out _)); rintro e w2 ⟨rfl, rfl⟩)
       all_goals go_ret2
       all_goals exact ⟨rfl, hb1⟩
     ·
      have E := Lib.hid (par_more ho hx hp (by omega))
      clear hp hx
      have hj3 : j = 0 ∨ j = 1 ∨ j = 2 := by omega
      have hla1 : j + 1 < L.length := by omega
      have hla2 : ((j : Int) == (L.length : Int) - 1) = false := by rw [beq_eq_false_iff_ne]; omega
      by_cases h256 : v < 256
      ·
       have e := E.out
       rw [if_pos h256] at e
       have E2 := Lib.hid e
       clear e E
       obtain ⟨q, hq, hvq, hw1, hw2⟩ := ustepq (v := v) hsum h256 (by omega)
       rw [hq] at E2
       clear hq hla hj3
       go_wp2_with (go_at_call 111; go_must (go_fit (C3.out _)); rintro e w2 ⟨rfl, rfl⟩)
       all_goals go_roundg (L.length - (j + 1))
       all_goals first
        | (case measure => omega)
        | (case rel => exact ⟨j + 1, sum + q, rfl, by omega, by go_num, by go_num, by omega, E2, rfl⟩)
      ·
       have e := E.out
       rw [if_neg h256] at e
       subst e
       go_wp2_with (go_at_call 111; go_must (go_fit (C3.out _)); rintro e w2 ⟨rfl, rfl⟩)
       all_goals go_ret2
       all_goals exact ⟨rfl, hb1⟩
   ·
    have e := par_end ho (by omega)
    subst e
    have hlt2 := HT.out _ rfl
    obtain rfl : j = L.length := by omega
    go_wp2
    all_goals go_ret2
    all_goals exact ⟨rfl, hb1⟩
end Go.Proofs.YtoapelcofjjdnaaGreatDoor
namespace Go.Proofs.YtoapelcofjjdnaaGreatDoor
set_option linter.all false
open Go.RowKit
theorem str_atN {w : World} {B n : Nat} {A : Option Addr} {c : Nat} {l : List UInt8} (hr : Rd w B A (bytes l)) (hn : n = l.length) : (convert 58 9 (.slice A n c)).run Tryz.prog w = .ok (.string (str l)) w :=
 run_strM Tryz.underlying58 Tryz.underlying5 Tryz.underlying9 hr hn
end Go.Proofs.YtoapelcofjjdnaaGreatDoor
namespace Go.Proofs.YtoapelcofjjdnaaGreatDoor
set_option linter.all false
open Go.RowKit
end Go.Proofs.YtoapelcofjjdnaaGreatDoor
namespace Go.Proofs.YtoapelcofjjdnaaGreatDoor
set_option linter.all false
open Go.RowKit
theorem slash_len (sp : Bool) (s : List UInt8) : (slash sp s).length = s.length := by unfold slash; split <;> simp
theorem own_cut {w : World} {base n c k : Nat} {e : TypeId} {A : Option Addr} {xs : List Value} (h : w.ownsRow base e 1 (.slice A n c) n xs) (hk : k ≤ n) : w.ownsRow base e 1 (.slice A k c) k (xs.take k) := by
 refine ⟨by rw [List.length_take, h.1]; omega, ?_⟩
 rcases h.2 with ⟨hv, h0⟩ | ⟨g, cap, cur, hv, hb, hg, hnc, hcm, hs, ht⟩
 ·
  injection hv with h1 h2 h3
  subst h1 h3
  exact .inl ⟨by rw [show k = 0 by omega], by omega⟩
 ·
  injection hv with h1 h2 h3
  subst h1 h3
  refine .inr ⟨g, c, cur, rfl, hb, hg, by omega, hcm, hs, ?_⟩
  rw [← ht, List.take_take]
  congr 1
  omega
end Go.Proofs.YtoapelcofjjdnaaGreatDoor
namespace Go.Proofs.YtoapelcofjjdnaaGreatDoor
set_option linter.all false
open Go.RowKit
theorem Rd.far {w w' : World} {A : Option Addr} {xs : List Value} (h : Rd w w.heap.size A xs) (hb : Below w.heap.size w w') : Rd w' w'.heap.size A xs := (h.below hb).mono hb.size
theorem pGo_step {out : List (List UInt8)} {x : List UInt8} {r : List (List UInt8)} : pGo out (x :: r) = if r = [] then pLastP out x else pGo (pNext out x) r := by
 cases r with
 | nil => rfl
 | cons y t => rfl
theorem pGo_next {b out cs : List (List UInt8)} {j : Nat} {x : List UInt8} (h : pGo b cs = pGo out (cs.drop j)) (hx : cs[j]? = some x) :
  pGo b cs = if j + 1 = cs.length then pGo (pLastP out x) (cs.drop (j + 1)) else pGo (pNext out x) (cs.drop (j + 1)) := by
 obtain ⟨hj, e⟩ := List.getElem?_eq_some_iff.1 hx
 rw [h, List.drop_eq_getElem_cons hj, e, pGo_step]
 by_cases hl : j + 1 = cs.length
 · rw [if_pos hl, if_pos (List.drop_eq_nil_of_le (by omega)), List.drop_eq_nil_of_le (by omega)]; rfl
 ·
  rw [if_neg hl, if_neg]
  intro h0
  have := congrArg List.length h0
  rw [List.length_drop, List.length_nil] at this
  omega
theorem dropLast_take {α : Type} (l : List α) : l.take (l.length - 1) = l.dropLast := (List.dropLast_eq_take).symm
end Go.Proofs.YtoapelcofjjdnaaGreatDoor
