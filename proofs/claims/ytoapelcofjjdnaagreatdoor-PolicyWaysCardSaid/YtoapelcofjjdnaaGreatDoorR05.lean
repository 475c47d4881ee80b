/- A part of the proof. -/
import Derived.Test.YtoapelcofjjdnaaGreatDoorR03
import Derived.Deep.CutRange
import Derived.Deep.RegionLaw
import Derived.Deep.RegionHeld3
import Derived.Test.YtoapelcofjjdnaaGreatDoorR04
namespace Go.Proofs.YtoapelcofjjdnaaGreatDoor
set_option linter.all false
open Go.RowKit
theorem run_strN {P : Program} {w : World} {src dst e : TypeId} {B n : Nat} {A : Option Addr} {c : Nat} {l : List UInt8} (hs : P.underlying src = some (.slice e)) (he : P.underlying e = some (.int .u8)) (hd : P.underlying dst = some .string)
  (hr : Rd w B A (bytes l)) (hn : n = l.length) : (convert src dst (.slice A n c)).run P w = .ok (.string (str l)) w := by subst hn; exact run_str hs he hd hr
theorem str_beq (a b : List UInt8) : ((str a).toList == (str b).toList) = decide (a = b) := by
 rw [ByteArray.toList_eq, ByteArray.toList_eq, str_data, str_data]
 rw [Bool.eq_iff_iff]; simp
def atHead (a : Int) (n : Nat) : Int := if n = 1 then a else if n = 2 then a % 32 else if n = 3 then a % 16 else a % 8
def atAcc (l : List UInt8) (n : Nat) : Nat → Int
 | 0 => 0
 | 1 => atHead (bt l 0) n
 | j + 2 => atAcc l n (j + 1) * 64 + bt l (j + 1) % 64
theorem atAcc_one (l : List UInt8) (n : Nat) : atAcc l n 1 = atHead (bt l 0) n := rfl
theorem atAcc_step (l : List UInt8) (n : Nat) {j : Nat} (h : 1 ≤ j) : atAcc l n (j + 1) = atAcc l n j * 64 + bt l j % 64 := by
 match j, h with
 | j + 1, _ => rfl
theorem atHead_range (l : List UInt8) (n : Nat) : 0 ≤ atHead (bt l 0) n ∧ atHead (bt l 0) n < 256 := by
 have := bt_range l 0
 unfold atHead; (repeat' split) <;> omega
theorem atAcc_range (l : List UInt8) (n : Nat) : ∀ j, j ≤ 4 → 0 ≤ atAcc l n j ∧ atAcc l n j < 67108864 := by
 have h := atHead_range l n
 have r1 : 0 ≤ bt l 1 % 64 ∧ bt l 1 % 64 < 64 := by omega
 have r2 : 0 ≤ bt l 2 % 64 ∧ bt l 2 % 64 < 64 := by omega
 have r3 : 0 ≤ bt l 3 % 64 ∧ bt l 3 % 64 < 64 := by omega
 intro j hj
 match j, hj with
 | 0, _ => simp [atAcc]
 | 1, _ => rw [atAcc_one]; omega
 | 2, _ => rw [atAcc_step l n (by omega), atAcc_one]; omega
 | 3, _ => rw [atAcc_step l n (by omega), atAcc_step l n (by omega), atAcc_one]; omega
 | 4, _ => rw [atAcc_step l n (by omega), atAcc_step l n (by omega), atAcc_step l n (by omega), atAcc_one]; omega
theorem atAcc_less (l : List UInt8) (n : Nat) : ∀ j, j ≤ 3 → atAcc l n j < 1048576 := by
 have h := atHead_range l n
 have r1 : 0 ≤ bt l 1 % 64 ∧ bt l 1 % 64 < 64 := by omega
 have r2 : 0 ≤ bt l 2 % 64 ∧ bt l 2 % 64 < 64 := by omega
 intro j hj
 match j, hj with
 | 0, _ => simp [atAcc]
 | 1, _ => rw [atAcc_one]; omega
 | 2, _ => rw [atAcc_step l n (by omega), atAcc_one]; omega
 | 3, _ => rw [atAcc_step l n (by omega), atAcc_step l n (by omega), atAcc_one]; omega
def hit (l : List UInt8) (n : Nat) : Bool := decide (shortN (atAcc l n n) = n ∧ enc1 (atAcc l n n) = l.take n)
theorem hit_dec {l : List UInt8} {n : Nat} (hn : 1 ≤ n) (h : hit l n = true) : dec1 l = (atAcc l n n, n) := by
 obtain ⟨h1, h2⟩ := of_decide_eq_true h
 unfold shortN at h1
 split at h1
 ·
  rename_i hok
  have e : enc1 (atAcc l n n) = enc0 (atAcc l n n) := by unfold enc1; rw [cpFix_of hok]
  rw [e] at h2
  have := dec1_enc0 hok (l.drop n)
  rw [h2, List.take_append_drop, h1] at this
  exact this
 · omega
theorem dec_hit {l : List UInt8} (hl : 0 < l.length) (h : 0 < (dec1 l).2) : hit l (dec1 l).2 = true := by
 have ho := dec1_ok l
 have ht := take_dec1 h hl
 have b0 := bt_range l 0
 have b1 := bt_range l 1
 have b2 := bt_range l 2
 have b3 := bt_range l 3
 have key : (dec1 l).1 = atAcc l (dec1 l).2 (dec1 l).2 := by
  revert h
  unfold dec1 val2 val3 val4 cont
  (repeat' split)
  · intro _; rw [atAcc_one]; rfl
  · intro _; simp only []; rw [atAcc_step l 2 (by omega), atAcc_one]; unfold atHead; rw [if_neg (by omega), if_pos rfl]; omega
  · intro _; simp only []; rw [atAcc_step l 3 (by omega), atAcc_step l 3 (by omega), atAcc_one]; unfold atHead; rw [if_neg (by omega), if_neg (by omega), if_pos rfl]; omega
  · intro _; simp only []; rw [atAcc_step l 4 (by omega), atAcc_step l 4 (by omega), atAcc_step l 4 (by omega), atAcc_one]; unfold atHead; rw [if_neg (by omega), if_neg (by omega), if_neg (by omega)]; omega
  · intro h; simp at h
 unfold hit
 refine decide_eq_true ⟨?_, by rw [← key, ht]⟩
 rw [← key]
 unfold shortN
 rw [if_pos ho]
 have hlen := congrArg List.length ht
 have hle := dec1_len hl
 rw [List.length_take, enc1, cpFix_of ho, enc0_len] at hlen
 omega
theorem dec_none {l : List UInt8} (h : (dec1 l).2 = 0) : dec1 l = (65533, 0) := by
 revert h
 unfold dec1
 (repeat' split) <;> simp
set_option maxRecDepth 100000 in
set_option maxHeartbeats 2000000 in
theorem at_any (bk off cap : Nat) (l : List UInt8) (w : World) (hl : 0 < l.length) (hcap : l.length ≤ cap) (hcm : cap ≤ maxLen) (hbk : bk < w.heap.size) (hr : Rd w w.heap.size (some ⟨bk, off, none⟩) (bytes l)) :
  Calls Tryz.prog 136 #[.slice (some ⟨bk, off, none⟩) l.length cap] w fun e w' => e = .returned (.tuple #[.int .i32 (dec1 l).1, .int .i64 (dec1 l).2]) ∧ Below w.heap.size w w' := by
 unfold maxLen at hcm
 have hr0 : ∀ j, j < l.length → w.cell? ⟨bk, off + j, none⟩ = some (.int .u8 (bt l j)) := by
  obtain ⟨b', o', e, _, hc⟩ := hr (by rw [bytes_len]; exact hl)
  injection e with e; injection e with e1 e2
  subst e1; subst e2
  exact fun j hj => bt_cell hc j hj
 have HR0 := Lib.hid hr0
 clear hr0
 go_enter Tryz.func136, Tryz.ntmps136
 go_wp2
 go_loopg [4] 4 (fun k s4 wr => ∃ n : Nat, k = 5 - n ∧ 1 ≤ n ∧ n ≤ 5 ∧ s4 = .int .i64 n ∧ Hid (∀ m, 1 ≤ m → m < n → (dec1 l).2 ≠ m) ∧ Below w.heap.size w wr)
 case atStart => exact ⟨1, rfl, Nat.le_refl _, by decide, rfl, fun m h1 h2 => by omega, Below.refl _ _⟩
 case round =>
  obtain ⟨n, rfl, hn1, hn5, rfl, hno, hbel⟩ := hrel
  by_cases hin : n ≤ 4 ∧ n ≤ l.length
  ·
   obtain ⟨hn4, hnl⟩ := hin
   have hn4i : (n : Int) ≤ 4 := by omega
   have hnli : (n : Int) ≤ (l.length : Int) := by omega
   have c0 : wr.cell? ⟨bk, off, none⟩ = some (.int .u8 (bt l 0)) := by
    have := HR0.out 0 hl
    rw [Nat.add_zero] at this
    exact (hbel.cell (p := ⟨bk, off, none⟩) hbk).trans this
   have b0 := bt_range l 0
   obtain ⟨a0, ha0⟩ : ∃ a, a = bt l 0 := ⟨_, rfl⟩
   rw [← ha0] at c0 b0
   have HA := Lib.hid ha0
   clear ha0
   have d5 : bits .and .i32 a0 31 = a0 % 32 := i32_and_mask 5 (by decide) b0.1 (by omega)
   have d4 : bits .and .i32 a0 15 = a0 % 16 := i32_and_mask 4 (by decide) b0.1 (by omega)
   have d3 : bits .and .i32 a0 7 = a0 % 8 := i32_and_mask 3 (by decide) b0.1 (by omega)
   obtain ⟨b00, b01⟩ := b0
   go_upto_if 22 with (fail)
   go_cut [5] from 7 to 60 (fun s5 wc => s5 = .int .i32 (atHead a0 n) ∧ Below w.heap.size w wc)
   case first =>
    have hn : n = 1 ∨ n = 2 ∨ n = 3 ∨ n = 4 := by omega
    rcases hn with rfl | rfl | rfl | rfl
    ·
     go_wp2
     go_meet
     case rel => exact ⟨rfl, hbel⟩
    all_goals
     go_wp2
     go_quiet (fail)
     go_wp2
     go_meet
     case rel => exact ⟨rfl, below_drewN hbel _⟩
   case rest =>
    obtain ⟨rfl, hbel2⟩ := hcut
    clear d5 d4 d3
    go_wp2
    go_loopg [5, 6] (n - 1) (fun k s5 s6 wq => ∃ j : Nat, k = n - j ∧ 1 ≤ j ∧ j ≤ n ∧ s6 = .int .i64 j ∧ s5 = .int .i32 (atAcc l n j) ∧ Below w.heap.size w wq)
    case atStart => exact ⟨1, rfl, Nat.le_refl _, hn1, rfl, by rw [HA.out]; rfl, hbel2⟩
    case round =>
     obtain ⟨j, rfl, hj1, hjn, rfl, rfl, hbel3⟩ := hrel
     by_cases hlt : j < n
     ·
      have cj : wr.cell? ⟨bk, off + j, none⟩ = some (.int .u8 (bt l j)) := (hbel3.cell (p := ⟨bk, off + j, none⟩) hbk).trans (HR0.out j (by omega))
      have bj := bt_range l j
      have ra := atAcc_range l n j (by omega)
      have rb := atAcc_less l n j (by omega)
      have hst := atAcc_step l n hj1
      obtain ⟨x, hx⟩ : ∃ x, x = bt l j := ⟨_, rfl⟩
      obtain ⟨y, hy⟩ : ∃ y, y = atAcc l n j := ⟨_, rfl⟩
      rw [← hx, ← hy] at hst
      rw [← hx] at cj bj
      rw [← hy] at ra rb ⊢
      have HST := Lib.hid hst
      clear hst hx hy
      obtain ⟨x0, x1⟩ := bj
      obtain ⟨y0, y1⟩ := ra
      have f6 : bits .and .u8 x 63 = x % 64 := and_mask 6 (by decide) x0 x1
      have g6 : bits .or .i32 (y * 64) (x % 64) = y * 64 + x % 64 := i32_or_low y.toNat (by omega) (by omega) (by omega) (by omega)
      go_wp2
      go_roundg (n - (j + 1))
      case measure => omega
      case rel => exact ⟨j + 1, rfl, by omega, by omega, by go_num, by rw [HST.out], hbel3⟩
     ·
      obtain rfl : j = n := by omega
      obtain ⟨R, hR⟩ : ∃ R, R = atAcc l j j := ⟨_, rfl⟩
      rw [← hR]
      have HRR := Lib.hid hR
      have hlt1 : ¬ ((j : Int) < (j : Int)) := by omega
      have hjc : (j : Int) ≤ (cap : Int) := by omega
      have hj0 : (0 : Int) ≤ (j : Int) := by omega
      have hRr : 0 ≤ R ∧ R < 67108864 := by rw [hR]; exact atAcc_range l j j hn4
      have hRd : Rd wr wr.heap.size (some ⟨bk, off, none⟩) (bytes (l.take j)) := by
       have := ((hr.below hbel3).mono hbel3.size).take j
       unfold bytes at this ⊢
       rwa [← List.map_take] at this
      clear hR
      go_upto_region 11 with (fail)
      go_cut [58] from 7 to 60 (fun v wc => v = .bool (hit l j) ∧ Below w.heap.size w wc)
      case first =>
       by_cases hq : ((shortN R : Int) == (j : Int)) = true
       ·
        have hs0 := run_strN (P := Tryz.prog) (src := 58) (dst := 9) (e := 5) (c := cap) (n := j) Tryz.underlying58 Tryz.underlying5 Tryz.underlying9 hRd.drew (by rw [List.length_take]; omega)
        go_region_with (first
         | (go_at_call 159; refine (short_any R _).mono ?_; rintro e w1 ⟨rfl, rfl⟩)
         | (go_at_call 160; refine (one_any R wr.drew).mono ?_; rintro e w1 ⟨v1, rfl, hown1, hb1⟩; obtain ⟨A1, c1, rfl, hc1, hm1, hn1', hr1⟩ := Rd.of_own hown1; have hs1 := run_strN (P := Tryz.prog) (src := 58) (dst := 9) (e := 5) (c := c1) Tryz.underlying58 Tryz.underlying5 Tryz.underlying9 hr1 (bytes_len _); have hs2 := run_strN (P := Tryz.prog) (src := 58) (dst := 9) (e := 5) (c := cap) (n := j) Tryz.underlying58 Tryz.underlying5 Tryz.underlying9 (hRd.drew.below (B := wr.heap.size) hb1) (by rw [List.length_take]; omega)))
        all_goals
         (try go_wp2)
         go_meet
         case rel =>
          refine ⟨?_, (Below.drew hbel3).trans (Below.mono hb1 hbel3.size)⟩
          rw [str_beq]
          unfold hit
          rw [← HRR.out]
          have hq' : shortN R = j := by have h := hq; simp at h; omega
          simp [hq']
       ·
        have hq : ((shortN R : Int) == (j : Int)) = false := by simpa using hq
        go_quiet ((go_at_call 159; exact Calls.quiet_of_same ((short_any R _).mono fun _ _ ⟨h1, h2⟩ => ⟨h1, h2.symm⟩)))
        go_wp2
        go_meet
        case rel => exact ⟨by unfold hit; rw [← HRR.out]; rw [decide_eq_false (fun h => by simp [h.1] at hq)], below_drewN hbel3 _⟩
      case rest =>
       obtain ⟨rfl, hbel4⟩ := hcut
       obtain ⟨bb, hbb⟩ : ∃ bb, bb = hit l j := ⟨_, rfl⟩
       rw [← hbb]
       have HB := Lib.hid hbb
       clear hbb
       cases bb
       case true =>
        have hh : Hid (hit l j = true) := HB.out.symm
        clear HB
        go_wp2
        go_ret2
        rw [hit_dec hn1 hh.out, HRR.out]
        exact ⟨rfl, hbel4⟩
       case false =>
        have hh : Hid (hit l j = false) := HB.out.symm
        clear HB
        go_wp2
        go_roundg (5 - (j + 1))
        case measure => omega
        case rel =>
         refine ⟨j + 1, rfl, by omega, by omega, by go_num, fun m h1 h2 => ?_, hbel4⟩
         rcases Nat.lt_or_ge m j with h3 | h3
         · exact hno.out m h1 h3
         ·
          obtain rfl : m = j := by omega
          intro e
          have := dec_hit hl (by omega)
          rw [e] at this
          rw [hh.out] at this
          cases this
  ·
   have H : Hid ((dec1 l).2 = 0) := by
    have h4 := dec1_le l
    have hle := dec1_len hl
    have hno' := hno.out
    rcases Nat.eq_zero_or_pos (dec1 l).2 with h | h
    · exact h
    · exact absurd rfl (hno' _ h (by omega))
   have hout : (4 : Int) < n ∨ (l.length : Int) < n := by omega
   by_cases h4 : (n : Int) ≤ 4
   all_goals
    go_wp2
    go_ret2
    rw [dec_none H.out]
    exact ⟨rfl, hbel⟩
end Go.Proofs.YtoapelcofjjdnaaGreatDoor
namespace Go.Proofs.YtoapelcofjjdnaaGreatDoor
set_option linter.all false
open Go.RowKit
set_option maxRecDepth 100000 in
set_option maxHeartbeats 2000000 in
theorem rdecode_any (A : Option Addr) (c : Nat) (l : List UInt8) (w : World) (hr : Rd w w.heap.size A (bytes l)) (hc : l.length ≤ c) (hcm : c ≤ maxLen) (hl : l.length ≤ 400000) :
    Calls Tryz.prog 107 #[.slice A l.length c] w fun e w' => ∃ v, e = .returned v ∧
      w'.ownsRow w.heap.size 21 1 v (runes (uDec l)).length (runes (uDec l)) ∧ Below w.heap.size w w' := by
  go_enter Tryz.func107, Tryz.ntmps107
  go_wp2
  go_loopg [0, 3] (l.length) (fun k s0 v wr => ∃ (A' : Option Addr) (c' : Nat) (rest : List UInt8) (done : List Int), s0 = .slice A' rest.length c' ∧ rest.length = k ∧ rest.length ≤ c' ∧ c' ≤ maxLen ∧ Rd wr w.heap.size A' (bytes rest) ∧
    Hid (uDec l = done ++ uDec rest ∧ done.length + rest.length ≤ l.length) ∧ wr.ownsRow w.heap.size 21 1 v (runes done).length (runes done) ∧ Below w.heap.size w wr)
  case atStart => exact ⟨A, c, l, [], rfl, rfl, hc, hcm, hr, ⟨rfl, by simp⟩, World.ownsRow_nil _ _ _ _, Below.refl _ _⟩
  case round =>
    obtain ⟨A', c', rest, done, rfl, rfl, hc', hcm', hr', hd, hown, hbel⟩ := hrel
    by_cases h0 : 0 < rest.length
    · have hrd := hr'
      obtain ⟨bk, off, rfl, hbk, hcell⟩ := hr' (by rw [bytes_len]; exact h0)
      have hone := at_any bk off c' rest wr h0 hc' hcm' (Nat.lt_of_lt_of_le hbk hbel.size) (hrd.mono hbel.size)
      have hbd := dec1_bd rest h0
      obtain ⟨r, hr1⟩ : ∃ r, r = (dec1 rest).1 := ⟨_, rfl⟩
      obtain ⟨n, hn1⟩ : ∃ n, n = (dec1 rest).2 := ⟨_, rfl⟩
      rw [← hr1, ← hn1] at hone
      rw [← hn1] at hbd
      have HONE := Lib.hid hone
      have H1 := Lib.hid hr1
      have H2 := Lib.hid hn1
      clear hone hr1 hn1 hcell
      unfold maxLen at hcm'
      obtain ⟨hn0, hn4⟩ := hbd
      have hw := hbel.size
      have hlen : (runes done).length ≤ 500000 := by have := hd.out.2; rw [runes_len]; omega
      have hrw : Rd wr w.heap.size (some ⟨bk, off, none⟩) (bytes rest) := hrd
      have h1i : (1 : Int) ≤ (rest.length : Int) := by omega
      have hni : (n : Int) ≤ (rest.length : Int) := by omega
      have hn00 : (0 : Int) ≤ (n : Int) := by omega
      rcases Nat.eq_zero_or_pos n with hz | hz
      · subst hz
        by_cases hcs : c' = 1
        · subst hcs
          go_wp2_with (go_at_call 136; go_must (go_fit HONE.out); rintro e w1 ⟨rfl, hb1⟩; have hown1 := own_below hown hb1 (Nat.le_refl _); have hw1 := hb1.size)
          go_region_law (refine step_append_cells rfl _ _ _ rfl w.heap.size _ _ 1 4 Tryz.underlying127 info_i32u rfl (by decide) _ _ _ rfl (hown1.alloc _) w1.heap.size #[.int .i32 r] 1 1 21 (0, 0) rfl (heap_alloc_new w1 _) rfl (by simp [Value.oneCell']) (by omega) (by decide) (by simp; omega) ?_; intro A2 c2 w2 hc2 hm2 hown2 hb2' hg2; have hb2 : Below w.heap.size w1 w2 := (((Below.refl _ _).alloc (Nat.le_trans hw hw1) _).drew).trans hb2')
          all_goals (try go_wp2)
          all_goals go_roundg ((rest.drop (1)).length)
          all_goals
            first
            | (case measure => rw [List.length_drop]; omega)
            | (case rel =>
                 refine ⟨_, _, rest.drop (1), done ++ [r], slice_len (by first | (rw [List.length_drop]; omega) | rw [List.length_drop]), rfl, by rw [List.length_drop]; omega, by unfold maxLen; omega, rd_step ((hrw.below (hb1.mono hw)).below hb2) (by omega), ?_, own_eq hown2 ?_ ?_, (hbel.trans (hb1.mono hw)).trans hb2⟩
                 · obtain ⟨d1, d2⟩ := hd.out
                   refine ⟨?_, by rw [List.length_append, List.length_drop]; simp; omega⟩
                   rw [d1, uDec_step h0, ← H1.out, ← H2.out]; simp
                 · rw [runes_append, List.length_append]; rfl
                 · rw [runes_append]; rfl)
        · go_wp2_with (go_at_call 136; go_must (go_fit HONE.out); rintro e w1 ⟨rfl, hb1⟩; have hown1 := own_below hown hb1 (Nat.le_refl _); have hw1 := hb1.size)
          go_region_law (refine step_append_cells rfl _ _ _ rfl w.heap.size _ _ 1 4 Tryz.underlying127 info_i32u rfl (by decide) _ _ _ rfl (hown1.alloc _) w1.heap.size #[.int .i32 r] 1 1 21 (0, 0) rfl (heap_alloc_new w1 _) rfl (by simp [Value.oneCell']) (by omega) (by decide) (by simp; omega) ?_; intro A2 c2 w2 hc2 hm2 hown2 hb2' hg2; have hb2 : Below w.heap.size w1 w2 := (((Below.refl _ _).alloc (Nat.le_trans hw hw1) _).drew).trans hb2')
          all_goals (try go_wp2)
          all_goals go_roundg ((rest.drop (1)).length)
          all_goals
            first
            | (case measure => rw [List.length_drop]; omega)
            | (case rel =>
                 refine ⟨_, _, rest.drop (1), done ++ [r], slice_len (by first | (rw [List.length_drop]; omega) | rw [List.length_drop]), rfl, by rw [List.length_drop]; omega, by unfold maxLen; omega, rd_step ((hrw.below (hb1.mono hw)).below hb2) (by omega), ?_, own_eq hown2 ?_ ?_, (hbel.trans (hb1.mono hw)).trans hb2⟩
                 · obtain ⟨d1, d2⟩ := hd.out
                   refine ⟨?_, by rw [List.length_append, List.length_drop]; simp; omega⟩
                   rw [d1, uDec_step h0, ← H1.out, ← H2.out]; simp
                 · rw [runes_append, List.length_append]; rfl
                 · rw [runes_append]; rfl)
      · have hmx : (if (n : Int) < 1 then (1 : Int) else (n : Int)) = (n : Int) := if_neg (by omega)
        by_cases hcs : c' = n
        · subst hcs
          go_wp2_with (go_at_call 136; go_must (go_fit HONE.out); rintro e w1 ⟨rfl, hb1⟩; have hown1 := own_below hown hb1 (Nat.le_refl _); have hw1 := hb1.size)
          go_region_law (refine step_append_cells rfl _ _ _ rfl w.heap.size _ _ 1 4 Tryz.underlying127 info_i32u rfl (by decide) _ _ _ rfl (hown1.alloc _) w1.heap.size #[.int .i32 r] 1 1 21 (0, 0) rfl (heap_alloc_new w1 _) rfl (by simp [Value.oneCell']) (by omega) (by decide) (by simp; omega) ?_; intro A2 c2 w2 hc2 hm2 hown2 hb2' hg2; have hb2 : Below w.heap.size w1 w2 := (((Below.refl _ _).alloc (Nat.le_trans hw hw1) _).drew).trans hb2')
          all_goals (try go_wp2)
          all_goals go_roundg ((rest.drop (c')).length)
          all_goals
            first
            | (case measure => rw [List.length_drop]; omega)
            | (case rel =>
                 refine ⟨_, _, rest.drop (c'), done ++ [r], slice_len (by first | (rw [List.length_drop]; omega) | rw [List.length_drop]), rfl, by rw [List.length_drop]; omega, by unfold maxLen; omega, rd_step ((hrw.below (hb1.mono hw)).below hb2) (by omega), ?_, own_eq hown2 ?_ ?_, (hbel.trans (hb1.mono hw)).trans hb2⟩
                 · obtain ⟨d1, d2⟩ := hd.out
                   refine ⟨?_, by rw [List.length_append, List.length_drop]; simp; omega⟩
                   rw [d1, uDec_step h0, ← H1.out, ← H2.out]; simp [show max c' 1 = c' from by omega]
                 · rw [runes_append, List.length_append]; rfl
                 · rw [runes_append]; rfl)
        · go_wp2_with (go_at_call 136; go_must (go_fit HONE.out); rintro e w1 ⟨rfl, hb1⟩; have hown1 := own_below hown hb1 (Nat.le_refl _); have hw1 := hb1.size)
          go_region_law (refine step_append_cells rfl _ _ _ rfl w.heap.size _ _ 1 4 Tryz.underlying127 info_i32u rfl (by decide) _ _ _ rfl (hown1.alloc _) w1.heap.size #[.int .i32 r] 1 1 21 (0, 0) rfl (heap_alloc_new w1 _) rfl (by simp [Value.oneCell']) (by omega) (by decide) (by simp; omega) ?_; intro A2 c2 w2 hc2 hm2 hown2 hb2' hg2; have hb2 : Below w.heap.size w1 w2 := (((Below.refl _ _).alloc (Nat.le_trans hw hw1) _).drew).trans hb2')
          all_goals (try go_wp2)
          all_goals go_roundg ((rest.drop (n)).length)
          all_goals
            first
            | (case measure => rw [List.length_drop]; omega)
            | (case rel =>
                 refine ⟨_, _, rest.drop (n), done ++ [r], slice_len (by first | (rw [List.length_drop]; omega) | rw [List.length_drop]), rfl, by rw [List.length_drop]; omega, by unfold maxLen; omega, rd_step ((hrw.below (hb1.mono hw)).below hb2) (by omega), ?_, own_eq hown2 ?_ ?_, (hbel.trans (hb1.mono hw)).trans hb2⟩
                 · obtain ⟨d1, d2⟩ := hd.out
                   refine ⟨?_, by rw [List.length_append, List.length_drop]; simp; omega⟩
                   rw [d1, uDec_step h0, ← H1.out, ← H2.out]; simp [show max n 1 = n from by omega]
                 · rw [runes_append, List.length_append]; rfl
                 · rw [runes_append]; rfl)
    · have h00 : rest = [] := List.eq_nil_of_length_eq_zero (by omega)
      subst h00
      go_wp2
      go_ret
      have e : uDec l = done := by have := hd.out.1; rw [uDec_nil, List.append_nil] at this; exact this
      rw [e]
      exact ⟨_, rfl, hown, hbel⟩
end Go.Proofs.YtoapelcofjjdnaaGreatDoor
