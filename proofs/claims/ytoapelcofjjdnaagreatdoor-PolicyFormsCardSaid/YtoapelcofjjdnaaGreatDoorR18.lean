/- A part of the proof. -/
import Derived.Test.YtoapelcofjjdnaaGreatDoorR15
import Derived.Test.YtoapelcofjjdnaaGreatDoorR12
import Derived.Test.YtoapelcofjjdnaaGreatDoorR14
import Derived.Test.YtoapelcofjjdnaaGreatDoorR05
import Derived.Test.YtoapelcofjjdnaaGreatDoorR01
import Derived.IntWalk
import Derived.Test.YtoapelcofjjdnaaGreatDoorR08
namespace Go.Proofs.YtoapelcofjjdnaaGreatDoor
set_option linter.all false
open Go.RowKit
def upd (f : UInt8 → UInt8) (s : List UInt8) (j : Nat) : List UInt8 := (tk s j).map f ++ dr s j
theorem upd_len (f : UInt8 → UInt8) (s : List UInt8) {j : Nat} (h : j ≤ s.length) : (upd f s j).length = s.length := by
 unfold upd; rw [List.length_append, List.length_map, tk_len, dr_len]; omega
theorem upd_end (f : UInt8 → UInt8) (s : List UInt8) : upd f s s.length = s.map f := by
 unfold upd tk dr; rw [List.take_length, List.drop_length, List.append_nil]
theorem dr_next {s : List UInt8} {j : Nat} (h : j < s.length) : dr s j = gb s j :: dr s (j + 1) := by
 obtain ⟨hj, e⟩ := List.getElem?_eq_some_iff.1 (gb_some h)
 unfold dr
 rw [List.drop_eq_getElem_cons hj, e]
theorem upd_next (f : UInt8 → UInt8) {s : List UInt8} {j : Nat} (h : j < s.length) : upd f s (j + 1) = (tk s j).map f ++ f (gb s j) :: dr s (j + 1) := by
 unfold upd; rw [tk_next h, List.map_append, List.append_assoc]; rfl
theorem upd_at (f : UInt8 → UInt8) {s : List UInt8} {j : Nat} (h : j < s.length) : (bytes (upd f s j))[j]? = some (.int .u8 ((gb s j).toNat : Int)) := by
 unfold upd bytes
 rw [dr_next h, List.map_append, List.getElem?_append_right (by simp [tk_len]; omega)]
 have : j - (List.map (fun c : UInt8 => Value.int .u8 (c.toNat : Int)) ((tk s j).map f)).length = 0 := by simp [tk_len]; omega
 rw [this]; rfl
theorem upd_set (f : UInt8 → UInt8) {s : List UInt8} {j : Nat} (h : j < s.length) : (bytes (upd f s j)).set j (.int .u8 ((f (gb s j)).toNat : Int)) = bytes (upd f s (j + 1)) := by
 rw [upd_next f h]
 unfold upd bytes
 rw [dr_next h, List.map_append, List.map_append, List.set_append_right _ _ (by simp [tk_len]; omega)]
 have : j - (List.map (fun c : UInt8 => Value.int .u8 (c.toNat : Int)) ((tk s j).map f)).length = 0 := by simp [tk_len]; omega
 rw [this]; rfl
theorem upd_same (f : UInt8 → UInt8) {s : List UInt8} {j : Nat} (h : j < s.length) (e : f (gb s j) = gb s j) : upd f s (j + 1) = upd f s j := by
 rw [upd_next f h, e]; unfold upd; rw [dr_next h]
end Go.Proofs.YtoapelcofjjdnaaGreatDoor
namespace Go.Proofs.YtoapelcofjjdnaaGreatDoor
set_option linter.all false
open Go.RowKit
theorem lowB_nat {c : UInt8} (h1 : 65 ≤ c.toNat) (h2 : c.toNat ≤ 90) : (lowB c).toNat = c.toNat + 32 := by
 unfold lowB
 rw [if_pos ⟨h1, h2⟩, UInt8.toNat_add, show (32 : UInt8).toNat = 32 from rfl, Nat.mod_eq_of_lt (by omega)]
theorem lowB_same {c : UInt8} (h : ¬ (65 ≤ c.toNat ∧ c.toNat ≤ 90)) : lowB c = c := if_neg h
theorem str_atL {w : World} {B n : Nat} {A : Option Addr} {c : Nat} {l : List UInt8} (hr : Rd w B A (bytes l)) (hn : n = l.length) : (convert 58 9 (.slice A n c)).run Tryz.prog w = .ok (.string (str l)) w :=
 run_strM Tryz.underlying58 Tryz.underlying5 Tryz.underlying9 hr hn
set_option maxRecDepth 100000 in
set_option maxHeartbeats 4000000 in
theorem lowr_any (s : List UInt8) (w : World) (hs : s.length ≤ 1000000) :
  Calls Tryz.prog 56 #[.string (str s)] w fun e w' => e = .returned (.string (str (lows s))) ∧ Below w.heap.size w w' := by
 go_enter Tryz.func56, Tryz.ntmps56
 go_wp2_with (refine wpList_bytesL rfl _ _ _ _ rfl Tryz.underlying9 Tryz.underlying58 Tryz.underlying5 s rfl (by omega) ?_; intro c3 w3 hc3 hm3 hrow3 hr3 hb3 hz3)
 go_loopg [4] (s.length) (fun k s4 wr => ∃ j : Nat, k = s.length - j ∧ j ≤ s.length ∧ s4 = .int .i64 j ∧ Row wr w.heap.size (bytes (upd lowB s j)) ∧ Below w.heap.size w wr ∧ w.heap.size < wr.heap.size)
 case atStart => exact ⟨0, rfl, Nat.zero_le _, rfl, hrow3, hb3, hz3⟩
 case round =>
  clear hrow3 hr3 hb3 hz3
  obtain ⟨j, rfl, hj, rfl, hrow, hbel, hz⟩ := hrel
  by_cases hlt : j < s.length
  ·
   have hlt1 : (j : Int) < (s.length : Int) := by omega
   have hj0 : (0 : Int) ≤ (j : Int) := by omega
   have hc := hrow.1 j _ (upd_at lowB hlt)
   have hf := hrow.2.1 j (by rw [bytes_len, upd_len _ _ hj]; exact hlt)
   have hcb := byte_lt (gb s j)
   by_cases h1 : (65 : Int) ≤ ((gb s j).toNat : Int)
   ·
    by_cases h2 : ((gb s j).toNat : Int) ≤ 90
    ·
     have HS := Lib.hid (Row.set hrow (j := j) (by rw [bytes_len, upd_len _ _ hj]; exact hlt) (.int .u8 ((lowB (gb s j)).toNat : Int)))
     rw [upd_set lowB hlt, show ((lowB (gb s j)).toNat : Int) = ((gb s j).toNat : Int) + 32 by rw [lowB_nat (by omega) (by omega)]; omega] at HS
     have q1 : IntKind.u8.wrap (((gb s j).toNat : Int) + 32) = ((gb s j).toNat : Int) + 32 := IntWalk.u8_in _ (by omega)
     have q2 : IntKind.u8.wrap (((gb s j).toNat : Int) + 97) = ((gb s j).toNat : Int) + 97 := IntWalk.u8_in _ (by omega)
     have q3 : IntKind.u8.wrap (((gb s j).toNat : Int) + 97 - 65) = ((gb s j).toNat : Int) + 32 := by rw [IntWalk.u8_in _ (by omega)]; omega
     go_wp2
     go_roundg (s.length - (j + 1))
     case measure => omega
     case rel => exact ⟨j + 1, rfl, by omega, by go_num, HS.out, Below.setCell hbel (p := ⟨w.heap.size, j, none⟩) (Nat.le_refl _) _, by simpa using hz⟩
    ·
     have HS := Lib.hid (upd_same lowB hlt (lowB_same (by omega)))
     have h2' : (90 : Int) < ((gb s j).toNat : Int) := by omega
     clear h2
     go_wp2
     go_roundg (s.length - (j + 1))
     case measure => omega
     case rel => exact ⟨j + 1, rfl, by omega, by go_num, by rw [HS.out]; exact hrow, hbel, hz⟩
   ·
    have HS := Lib.hid (upd_same lowB hlt (lowB_same (by omega)))
    have h1' : ((gb s j).toNat : Int) < 65 := by omega
    clear h1
    go_wp2
    go_roundg (s.length - (j + 1))
    case measure => omega
    case rel => exact ⟨j + 1, rfl, by omega, by go_num, by rw [HS.out]; exact hrow, hbel, hz⟩
  ·
   obtain rfl : j = s.length := by omega
   rw [upd_end] at hrow
   have hst := str_atL (c := c3) (l := lows s) (hrow.rd hz) (lows_len s).symm
   go_wp2
   go_ret
   exact ⟨rfl, hbel⟩
end Go.Proofs.YtoapelcofjjdnaaGreatDoor
namespace Go.Proofs.YtoapelcofjjdnaaGreatDoor
set_option linter.all false
open Go.RowKit
set_option maxRecDepth 100000 in
set_option maxHeartbeats 4000000 in
theorem default_any (t : List UInt8) (w : World) :
  Calls Tryz.prog 97 #[.string (str t)] w fun e w' => e = .returned (.int .i64 (uDef t)) ∧ w = w' := by
 have htl := str_toL t
 by_cases h1 : t = [104, 116, 116, 112]
 ·
  have HE := Lib.hid (show uDef t = 80 by unfold uDef uHttp uHttps; rw [if_pos h1])
  have q1 : (t == [104, 116, 116, 112]) = true := by rw [h1]; rfl
  clear h1
  go_enter Tryz.func97, Tryz.ntmps97
  go_wp2
  go_ret
  exact ⟨ret_int HE.out.symm, rfl⟩
 ·
  have q1 : (t == [104, 116, 116, 112]) = false := by rw [beq_eq_false_iff_ne]; exact h1
  by_cases h2 : t = [119, 115]
  ·
   have HE := Lib.hid (show uDef t = 80 by unfold uDef uHttp uHttps; rw [if_neg h1, if_pos h2])
   have q2 : (t == [119, 115]) = true := by rw [h2]; rfl
   clear h1 h2
   go_enter Tryz.func97, Tryz.ntmps97
   go_wp2
   go_ret
   exact ⟨ret_int HE.out.symm, rfl⟩
  ·
   have q2 : (t == [119, 115]) = false := by rw [beq_eq_false_iff_ne]; exact h2
   by_cases h3 : t = [104, 116, 116, 112, 115]
   ·
    have HE := Lib.hid (show uDef t = 443 by unfold uDef uHttp uHttps; rw [if_neg h1, if_neg h2, if_pos h3])
    have q3 : (t == [104, 116, 116, 112, 115]) = true := by rw [h3]; rfl
    clear h1 h2 h3
    go_enter Tryz.func97, Tryz.ntmps97
    go_wp2
    go_ret
    exact ⟨ret_int HE.out.symm, rfl⟩
   ·
    have q3 : (t == [104, 116, 116, 112, 115]) = false := by rw [beq_eq_false_iff_ne]; exact h3
    by_cases h4 : t = [119, 115, 115]
    ·
     have HE := Lib.hid (show uDef t = 443 by unfold uDef uHttp uHttps; rw [if_neg h1, if_neg h2, if_neg h3, if_pos h4])
     have q4 : (t == [119, 115, 115]) = true := by rw [h4]; rfl
     clear h1 h2 h3 h4
     go_enter Tryz.func97, Tryz.ntmps97
     go_wp2
     go_ret
     exact ⟨ret_int HE.out.symm, rfl⟩
    ·
     have q4 : (t == [119, 115, 115]) = false := by rw [beq_eq_false_iff_ne]; exact h4
     by_cases h5 : t = [102, 116, 112]
     ·
      have HE := Lib.hid (show uDef t = 21 by unfold uDef uHttp uHttps; rw [if_neg h1, if_neg h2, if_neg h3, if_neg h4, if_pos h5])
      have q5 : (t == [102, 116, 112]) = true := by rw [h5]; rfl
      clear h1 h2 h3 h4 h5
      go_enter Tryz.func97, Tryz.ntmps97
      go_wp2
      go_ret
      exact ⟨ret_int HE.out.symm, rfl⟩
     ·
      have q5 : (t == [102, 116, 112]) = false := by rw [beq_eq_false_iff_ne]; exact h5
      have HE := Lib.hid (show uDef t = -1 by unfold uDef uHttp uHttps; rw [if_neg h1, if_neg h2, if_neg h3, if_neg h4, if_neg h5])
      clear h1 h2 h3 h4 h5
      go_enter Tryz.func97, Tryz.ntmps97
      go_wp2
      go_ret
      exact ⟨ret_int HE.out.symm, rfl⟩
set_option maxRecDepth 100000 in
set_option maxHeartbeats 1000000 in
theorem special_any (t : List UInt8) (w : World) :
  Calls Tryz.prog 57 #[.string (str t)] w fun e w' => e = .returned (.bool (uSp t)) ∧ w = w' := by
 have C := Lib.hid (default_any t w)
 have HE := Lib.hid (show uSp t = decide (0 < uDef t) from rfl)
 obtain ⟨d, hd⟩ : ∃ d, d = uDef t := ⟨_, rfl⟩
 rw [← hd] at C HE
 clear hd
 go_enter Tryz.func57, Tryz.ntmps57
 go_wp2_with (go_at_call 97; go_must (go_fit C.out); rintro e w1 ⟨rfl, rfl⟩)
 go_ret
 exact ⟨ret_bool HE.out.symm, rfl⟩
theorem while_atU {P : UInt8 → Bool} {s : List UInt8} {j : Nat} (h : (s.take j).all P = true) (hj : j ≤ s.length) (hs : j = s.length ∨ P (gb s j) = false) : s.takeWhile P = s.take j := by
 have ha : ∀ c ∈ s.take j, P c = true := List.all_eq_true.1 h
 have key : ∀ (a t : List UInt8), (∀ c ∈ a, P c = true) → (t = [] ∨ ∃ c r, t = c :: r ∧ P c = false) → (a ++ t).takeWhile P = a := by
  intro a
  induction a with
  | nil =>
   intro t _ ht
   rcases ht with rfl | ⟨c, r, rfl, hc⟩
   · rfl
   · rw [List.nil_append, List.takeWhile_cons, if_neg (by rw [hc]; decide)]
  | cons c a ih => intro t h ht; rw [List.cons_append, List.takeWhile_cons, if_pos (h c (by simp)), ih t (fun x hx => h x (by simp [hx])) ht]
 have := key (s.take j) (s.drop j) ha (by
  rcases hs with rfl | hs
  · exact .inl List.drop_length
  ·
   by_cases hlt : j < s.length
   ·
    obtain ⟨hj', e⟩ := List.getElem?_eq_some_iff.1 (gb_some hlt)
    exact .inr ⟨gb s j, s.drop (j + 1), by rw [List.drop_eq_getElem_cons hj', e], hs⟩
   · exact .inl (List.drop_eq_nil_of_le (by omega)))
 rwa [List.take_append_drop] at this
theorem all_snocU {P : UInt8 → Bool} {s : List UInt8} {j : Nat} (h : (s.take j).all P = true) (hj : j < s.length) (hp : P (gb s j) = true) : (s.take (j + 1)).all P = true := by
 obtain ⟨hj', e⟩ := List.getElem?_eq_some_iff.1 (gb_some hj)
 rw [take_snoc' s j hj', e, List.all_append, h, List.all_cons, hp]; rfl
theorem sls_take {sp : Bool} {s : List UInt8} {j : Nat} (h : (s.take j).all (uSl sp) = true) (hj : j ≤ s.length) (hs : j = s.length ∨ uSl sp (gb s j) = false) : uSls sp s = j := by
 unfold uSls
 rw [(while_atU h hj hs)]
 rw [List.length_take]; omega
set_option maxRecDepth 100000 in
set_option maxHeartbeats 4000000 in
theorem slashes_any (s : List UInt8) (sp : Bool) (w : World) (hs : s.length ≤ 100000) :
  Calls Tryz.prog 60 #[.string (str s), .bool sp] w fun e w' => e = .returned (.int .i64 (uSls sp s : Int)) ∧ w = w' := by
 have hsz := str_size s
 have hgt := str_get s
 go_enter Tryz.func60, Tryz.ntmps60
 go_wp2
 go_loopg [5] (s.length) (fun k s5 wr => ∃ j : Nat, k = s.length - j ∧ j ≤ s.length ∧ s5 = .int .i64 j ∧ Hid ((s.take j).all (uSl sp) = true) ∧ w = wr)
 case atStart => exact ⟨0, rfl, Nat.zero_le _, rfl, rfl, rfl⟩
 case round =>
  obtain ⟨j, rfl, hj, rfl, hn, rfl⟩ := hrel
  by_cases hlt : j < s.length
  ·
   have hlt1 : (j : Int) < (s.length : Int) := by omega
   have hj0 : (0 : Int) ≤ (j : Int) := by omega
   by_cases h47 : (gb s j).toNat = 47
   ·
    have q1 : (((gb s j).toNat : Int) == 47) = true := by rw [beq_iff_eq]; omega
    have HN := Lib.hid (all_snocU hn.out hlt (show uSl sp (gb s j) = true by unfold uSl; rw [decide_eq_true h47, Bool.true_or]))
    clear h47
    go_wp2
    go_roundg (s.length - (j + 1))
    case measure => omega
    case rel => exact ⟨j + 1, rfl, by omega, by go_num, HN.out, rfl⟩
   ·
    have q1 : (((gb s j).toNat : Int) == 47) = false := by rw [beq_eq_false_iff_ne]; omega
    cases sp with
    | false =>
     have HN := Lib.hid (sls_take hn.out hj (.inr (show uSl false (gb s j) = false by unfold uSl; rw [decide_eq_false h47, Bool.false_and]; rfl)))
     clear h47
     go_wp2
     go_ret
     exact ⟨ret_int (by rw [HN.out]), rfl⟩
    | true =>
     by_cases h92 : (gb s j).toNat = 92
     ·
      have q2 : (((gb s j).toNat : Int) == 92) = true := by rw [beq_iff_eq]; omega
      have HN := Lib.hid (all_snocU hn.out hlt (show uSl true (gb s j) = true by unfold uSl; rw [decide_eq_true h92, Bool.true_and, Bool.or_true]))
      clear h47 h92
      go_wp2
      go_roundg (s.length - (j + 1))
      case measure => omega
      case rel => exact ⟨j + 1, rfl, by omega, by go_num, HN.out, rfl⟩
     ·
      have q2 : (((gb s j).toNat : Int) == 92) = false := by rw [beq_eq_false_iff_ne]; omega
      have HN := Lib.hid (sls_take hn.out hj (.inr (show uSl true (gb s j) = false by unfold uSl; rw [decide_eq_false h47, decide_eq_false h92]; rfl)))
      clear h47 h92
      go_wp2
      go_ret
      exact ⟨ret_int (by rw [HN.out]), rfl⟩
  ·
   obtain rfl : j = s.length := by omega
   have HN := Lib.hid (sls_take hn.out hj (.inl rfl))
   clear hlt
   go_wp2
   go_ret
   exact ⟨ret_int (by rw [HN.out]), rfl⟩
theorem sch_step {s : List UInt8} {i : Nat} (h : i < s.length) : uSchGo i (s.drop i) = if (gb s i).toNat = 58 then i else if uLet (gb s i) = true ∨ (i ≠ 0 ∧ uSig (gb s i) = true) then uSchGo (i + 1) (s.drop (i + 1)) else 0 := by
 obtain ⟨hj, e⟩ := List.getElem?_eq_some_iff.1 (gb_some h)
 rw [List.drop_eq_getElem_cons hj, e]; rfl
theorem sch_end {s : List UInt8} : uSchGo s.length (s.drop s.length) = 0 := by rw [List.drop_length]; rfl
set_option maxRecDepth 100000 in
set_option maxHeartbeats 8000000 in
theorem scheme_any (s : List UInt8) (w : World) (hs : s.length ≤ 100000) :
  Calls Tryz.prog 55 #[.string (str s)] w fun e w' => e = .returned (.int .i64 (uSch s : Int)) ∧ w = w' := by
 have hsz := str_size s
 have hgt := str_get s
 go_enter Tryz.func55, Tryz.ntmps55
 go_wp2
 go_loopg [3] (s.length) (fun k s3 wr => ∃ j : Nat, k = s.length - j ∧ j ≤ s.length ∧ s3 = .int .i64 j ∧ Hid (uSch s = uSchGo j (s.drop j)) ∧ w = wr)
 case atStart => exact ⟨0, rfl, Nat.zero_le _, rfl, rfl, rfl⟩
 case round =>
  obtain ⟨j, rfl, hj, rfl, hn, rfl⟩ := hrel
  by_cases hlt : j < s.length
  ·
   have hlt1 : (j : Int) < (s.length : Int) := by omega
   have hj0 : (0 : Int) ≤ (j : Int) := by omega
   have HS := Lib.hid (hn.out.trans (sch_step hlt))
   obtain ⟨c, hc⟩ : ∃ c : Int, c = ((gb s j).toNat : Int) := ⟨_, rfl⟩
   by_cases h58 : (gb s j).toNat = 58
   ·
    have q0 : (c == 58) = true := by rw [beq_iff_eq]; omega
    have q1 : ¬ (97 : Int) ≤ c := by omega
    have q2 : ¬ (65 : Int) ≤ c := by omega
    rw [hc] at q0 q1 q2
    have HN := Lib.hid (HS.out.trans (if_pos h58))
    have h58I : ((gb s j).toNat : Int) = 58 := by omega
    clear hc h58
    go_wp2
    go_ret
    exact ⟨ret_int (by have h := HN.out; omega), rfl⟩
   ·
    have q0 : (((gb s j).toNat : Int) == 58) = false := by rw [beq_eq_false_iff_ne]; omega
    by_cases hl1 : 97 ≤ (gb s j).toNat ∧ (gb s j).toNat ≤ 122
    ·
     have q1 : (97 : Int) ≤ ((gb s j).toNat : Int) := by omega
     have q2 : ((gb s j).toNat : Int) ≤ 122 := by omega
     have HN := Lib.hid (HS.out.trans ((if_neg h58).trans (if_pos (.inl (decide_eq_true (.inl hl1))))))
     clear hc h58 hl1
     go_wp2
     go_roundg (s.length - (j + 1))
     case measure => omega
     case rel => exact ⟨j + 1, rfl, by omega, by go_num, HN.out, rfl⟩
    ·
     by_cases hl2 : 65 ≤ (gb s j).toNat ∧ (gb s j).toNat ≤ 90
     ·
      have q1 : ((gb s j).toNat : Int) < 97 := by omega
      have q2 : (65 : Int) ≤ ((gb s j).toNat : Int) := by omega
      have q3 : ((gb s j).toNat : Int) ≤ 90 := by omega
      have HN := Lib.hid (HS.out.trans ((if_neg h58).trans (if_pos (.inl (decide_eq_true (.inr hl2))))))
      clear hc h58 hl1 hl2
      go_wp2
      go_roundg (s.length - (j + 1))
      case measure => omega
      case rel => exact ⟨j + 1, rfl, by omega, by go_num, HN.out, rfl⟩
     ·
      have hL : uLet (gb s j) = false := decide_eq_false (by omega)
      by_cases hj1 : j = 0
      ·
       subst hj1
       have HN := Lib.hid (HS.out.trans ((if_neg h58).trans (if_neg (by rw [hL]; rintro (e | ⟨e, _⟩); cases e; exact e rfl))))
       rcases (show ((gb s 0).toNat : Int) < 65 ∨ ((90 : Int) < ((gb s 0).toNat : Int) ∧ ((gb s 0).toNat : Int) < 97) ∨ (122 : Int) < ((gb s 0).toNat : Int) by omega) with q1 | ⟨q1, q2⟩ | q1
       ·
        have q3 : ((gb s 0).toNat : Int) < 97 := by omega
        clear hc h58 hl1 hl2 hL
        go_wp2
        go_ret
        exact ⟨ret_int (by have h := HN.out; omega), rfl⟩
       ·
        have q3 : (65 : Int) ≤ ((gb s 0).toNat : Int) := by omega
        have d90 : decide (((gb s 0).toNat : Int) ≤ 90) = false := decide_eq_false (by omega)
        clear hc h58 hl1 hl2 hL
        go_wp2
        go_ret
        exact ⟨ret_int (by have h := HN.out; omega), rfl⟩
       ·
        have q3 : (97 : Int) ≤ ((gb s 0).toNat : Int) := by omega
        have d122 : decide (((gb s 0).toNat : Int) ≤ 122) = false := decide_eq_false (by omega)
        have q4 : (65 : Int) ≤ ((gb s 0).toNat : Int) := by omega
        have q5 : (90 : Int) < ((gb s 0).toNat : Int) := by omega
        have d90 : decide (((gb s 0).toNat : Int) ≤ 90) = false := decide_eq_false (by omega)
        clear hc h58 hl1 hl2 hL
        go_wp2
        go_ret
        exact ⟨ret_int (by have h := HN.out; omega), rfl⟩
      ·
       have qj : ((j : Int) == 0) = false := by rw [beq_eq_false_iff_ne]; omega
       have HG := Lib.hid fun (h : uSig (gb s j) = true) => HS.out.trans ((if_neg h58).trans (if_pos (.inr ⟨hj1, h⟩)))
       have HO := Lib.hid fun (h : uSig (gb s j) = false) => HS.out.trans ((if_neg h58).trans (if_neg (by rw [hL, h]; rintro (e | ⟨_, e⟩) <;> cases e)))
       rcases (show ((gb s j).toNat = 43 ∨ (gb s j).toNat = 45 ∨ (gb s j).toNat = 46) ∨ ((gb s j).toNat < 48 ∧ (gb s j).toNat ≠ 43 ∧ (gb s j).toNat ≠ 45 ∧ (gb s j).toNat ≠ 46) ∨ (48 ≤ (gb s j).toNat ∧ (gb s j).toNat ≤ 57) ∨ (57 < (gb s j).toNat ∧ (gb s j).toNat < 65) ∨ (90 < (gb s j).toNat ∧ (gb s j).toNat < 97) ∨ 122 < (gb s j).toNat by omega) with k | k | k | k | k | k
       ·
        have HN := Lib.hid (HG.out (decide_eq_true (by omega)))
        have q1 : ((gb s j).toNat : Int) < 97 := by omega
        have q2 : ((gb s j).toNat : Int) < 65 := by omega
        have q3 : ((gb s j).toNat : Int) < 48 := by omega
        clear HG HO h58 hl1 hl2 hL hj1
        rcases k with k | k | k
        ·
         have e1 : (((gb s j).toNat : Int) == 43) = true := by rw [beq_iff_eq]; omega
         clear k hc
         go_wp2
         go_roundg (s.length - (j + 1))
         case measure => omega
         case rel => exact ⟨j + 1, rfl, by omega, by go_num, HN.out, rfl⟩
        ·
         have e1 : (((gb s j).toNat : Int) == 43) = false := by rw [beq_eq_false_iff_ne]; omega
         have e2 : (((gb s j).toNat : Int) == 45) = true := by rw [beq_iff_eq]; omega
         clear k hc
         go_wp2
         go_roundg (s.length - (j + 1))
         case measure => omega
         case rel => exact ⟨j + 1, rfl, by omega, by go_num, HN.out, rfl⟩
        ·
         have e1 : (((gb s j).toNat : Int) == 43) = false := by rw [beq_eq_false_iff_ne]; omega
         have e2 : (((gb s j).toNat : Int) == 45) = false := by rw [beq_eq_false_iff_ne]; omega
         have e3 : (((gb s j).toNat : Int) == 46) = true := by rw [beq_iff_eq]; omega
         clear k hc
         go_wp2
         go_roundg (s.length - (j + 1))
         case measure => omega
         case rel => exact ⟨j + 1, rfl, by omega, by go_num, HN.out, rfl⟩
       ·
        have HN := Lib.hid (HO.out (decide_eq_false (by omega)))
        have q1 : ((gb s j).toNat : Int) < 97 := by omega
        have q2 : ((gb s j).toNat : Int) < 65 := by omega
        have q3 : ((gb s j).toNat : Int) < 48 := by omega
        have e1 : (((gb s j).toNat : Int) == 43) = false := by rw [beq_eq_false_iff_ne]; omega
        have e2 : (((gb s j).toNat : Int) == 45) = false := by rw [beq_eq_false_iff_ne]; omega
        have e3 : (((gb s j).toNat : Int) == 46) = false := by rw [beq_eq_false_iff_ne]; omega
        clear HG HO h58 hl1 hl2 hL hj1 k hc
        go_wp2
        go_ret
        exact ⟨ret_int (by have h := HN.out; omega), rfl⟩
       ·
        have HN := Lib.hid (HG.out (decide_eq_true (by omega)))
        have q1 : ((gb s j).toNat : Int) < 97 := by omega
        have q2 : ((gb s j).toNat : Int) < 65 := by omega
        have q3 : (48 : Int) ≤ ((gb s j).toNat : Int) := by omega
        have q4 : ((gb s j).toNat : Int) ≤ 57 := by omega
        clear HG HO h58 hl1 hl2 hL hj1 k hc
        go_wp2
        go_roundg (s.length - (j + 1))
        case measure => omega
        case rel => exact ⟨j + 1, rfl, by omega, by go_num, HN.out, rfl⟩
       ·
        have HN := Lib.hid (HO.out (decide_eq_false (by omega)))
        have q1 : ((gb s j).toNat : Int) < 97 := by omega
        have q2 : ((gb s j).toNat : Int) < 65 := by omega
        have q3 : (48 : Int) ≤ ((gb s j).toNat : Int) := by omega
        have q4 : (57 : Int) < ((gb s j).toNat : Int) := by omega
        have d57 : decide (((gb s j).toNat : Int) ≤ 57) = false := decide_eq_false (by omega)
        have e1 : (((gb s j).toNat : Int) == 43) = false := by rw [beq_eq_false_iff_ne]; omega
        have e2 : (((gb s j).toNat : Int) == 45) = false := by rw [beq_eq_false_iff_ne]; omega
        have e3 : (((gb s j).toNat : Int) == 46) = false := by rw [beq_eq_false_iff_ne]; omega
        clear HG HO h58 hl1 hl2 hL hj1 k hc
        go_wp2
        go_ret
        exact ⟨ret_int (by have h := HN.out; omega), rfl⟩
       ·
        have HN := Lib.hid (HO.out (decide_eq_false (by omega)))
        have q1 : ((gb s j).toNat : Int) < 97 := by omega
        have q2 : (65 : Int) ≤ ((gb s j).toNat : Int) := by omega
        have q3 : (48 : Int) ≤ ((gb s j).toNat : Int) := by omega
        have q4 : (57 : Int) < ((gb s j).toNat : Int) := by omega
        have d57 : decide (((gb s j).toNat : Int) ≤ 57) = false := decide_eq_false (by omega)
        have q5 : (90 : Int) < ((gb s j).toNat : Int) := by omega
        have d90 : decide (((gb s j).toNat : Int) ≤ 90) = false := decide_eq_false (by omega)
        have e1 : (((gb s j).toNat : Int) == 43) = false := by rw [beq_eq_false_iff_ne]; omega
        have e2 : (((gb s j).toNat : Int) == 45) = false := by rw [beq_eq_false_iff_ne]; omega
        have e3 : (((gb s j).toNat : Int) == 46) = false := by rw [beq_eq_false_iff_ne]; omega
        clear HG HO h58 hl1 hl2 hL hj1 k hc
        go_wp2
        go_ret
        exact ⟨ret_int (by have h := HN.out; omega), rfl⟩
       ·
        have HN := Lib.hid (HO.out (decide_eq_false (by omega)))
        have q1 : (97 : Int) ≤ ((gb s j).toNat : Int) := by omega
        have q2 : (65 : Int) ≤ ((gb s j).toNat : Int) := by omega
        have q3 : (48 : Int) ≤ ((gb s j).toNat : Int) := by omega
        have q4 : (57 : Int) < ((gb s j).toNat : Int) := by omega
        have d57 : decide (((gb s j).toNat : Int) ≤ 57) = false := decide_eq_false (by omega)
        have q5 : (90 : Int) < ((gb s j).toNat : Int) := by omega
        have d90 : decide (((gb s j).toNat : Int) ≤ 90) = false := decide_eq_false (by omega)
        have q6 : (122 : Int) < ((gb s j).toNat : Int) := by omega
        have d122 : decide (((gb s j).toNat : Int) ≤ 122) = false := decide_eq_false (by omega)
        have e1 : (((gb s j).toNat : Int) == 43) = false := by rw [beq_eq_false_iff_ne]; omega
        have e2 : (((gb s j).toNat : Int) == 45) = false := by rw [beq_eq_false_iff_ne]; omega
        have e3 : (((gb s j).toNat : Int) == 46) = false := by rw [beq_eq_false_iff_ne]; omega
        clear HG HO h58 hl1 hl2 hL hj1 k hc
        go_wp2
        go_ret
        exact ⟨ret_int (by have h := HN.out; omega), rfl⟩
  ·
   obtain rfl : j = s.length := by omega
   have HN := Lib.hid (hn.out.trans sch_end)
   clear hlt
   go_wp2
   go_ret
   exact ⟨ret_int (by have h := HN.out; omega), rfl⟩
end Go.Proofs.YtoapelcofjjdnaaGreatDoor
namespace Go.Proofs.YtoapelcofjjdnaaGreatDoor
set_option linter.all false
open Go.RowKit
theorem ws_yes {c : UInt8} (h : (c.toNat : Int) ≤ 32) : uWs c = true := decide_eq_true (by omega)
theorem ws_no {c : UInt8} (h : (32 : Int) < (c.toNat : Int)) : uWs c = false := decide_eq_false (by omega)
theorem keep_yes {c : UInt8} (h : c.toNat ≠ 9 ∧ c.toNat ≠ 10 ∧ c.toNat ≠ 13) : uKeep c = true := decide_eq_true h
theorem keep_no {c : UInt8} (h : c.toNat = 9 ∨ c.toNat = 10 ∨ c.toNat = 13) : uKeep c = false := decide_eq_false (by omega)
theorem str_atU {w : World} {B n : Nat} {A : Option Addr} {c : Nat} {l : List UInt8} (hr : Rd w B A (bytes l)) (hn : n = l.length) : (convert 58 9 (.slice A n c)).run Tryz.prog w = .ok (.string (str l)) w :=
 run_strM Tryz.underlying58 Tryz.underlying5 Tryz.underlying9 hr hn
set_option maxRecDepth 100000 in
set_option maxHeartbeats 8000000 in
theorem clean_any (s : List UInt8) (w : World) (hs : s.length ≤ 100000) :
  Calls Tryz.prog 54 #[.string (str s)] w fun e w' => e = .returned (.string (str (uClean s))) ∧ Below w.heap.size w w' := by
 go_enter Tryz.func54, Tryz.ntmps54
 go_wp2
 go_loopg [0] (s.length) (fun k s0 wr => ∃ l : List UInt8, k = l.length ∧ l.length ≤ s.length ∧ s0 = .string (str l) ∧ Hid (uTrimL l = uTrimL s) ∧ w = wr)
 case atStart => exact ⟨s, rfl, Nat.le_refl _, rfl, rfl, rfl⟩
 case round =>
  obtain ⟨l, rfl, hl, rfl, hT, rfl⟩ := hrel
  have hsz := str_size l
  have hgt := str_get l
  have hen := str_end l
  by_cases hp : 0 < l.length
  ·
   have hpI : (0 : Int) < (l.length : Int) := by omega
   have hp1 : (1 : Int) ≤ (l.length : Int) := by omega
   by_cases hw : ((gb l 0).toNat : Int) ≤ 32
   ·
    have HN := Lib.hid (show uTrimL (dr l 1) = uTrimL s by rw [trimL_on hp (ws_yes hw), hT.out])
    have HK := Lib.hid (show (dr l 1).length = l.length - 1 by rw [dr_len])
    go_wp2
    go_roundg (l.length - 1)
    case measure => omega
    case rel => exact ⟨dr l 1, HK.out.symm, by rw [HK.out]; omega, by go_num, HN.out, rfl⟩
   ·
    have hwI : (32 : Int) < ((gb l 0).toNat : Int) := by omega
    have HL := Lib.hid (show l = uTrimL s by rw [← hT.out]; exact (trimL_end hp (ws_no hwI)).symm)
    clear hw
    go_wp2
    go_loopg [0] (l.length) (fun k s0 wr => ∃ m : List UInt8, k = m.length ∧ m.length ≤ s.length ∧ s0 = .string (str m) ∧ Hid (uTrimR m = uTrimR (uTrimL s)) ∧ w = wr)
    case atStart => exact ⟨l, rfl, hl, rfl, (by rw [HL.out]; exact Lib.hid rfl), rfl⟩
    case round =>
     obtain ⟨m, rfl, hm, rfl, hR, rfl⟩ := hrel
     have hsz2 := str_size m
     have hgt2 := str_get m
     have hfr2 := str_front m
     by_cases hp2 : 0 < m.length
     ·
      have hp2I : (0 : Int) < (m.length : Int) := by omega
      obtain ⟨M, hM⟩ : ∃ M, M = m.length - 1 := ⟨_, rfl⟩
      have hMI : (m.length : Int) - 1 = (M : Int) := by omega
      have hMw : IntKind.i64.wrap (M : Int) = (M : Int) := IntWalk.i64_in _ (by omega)
      have hM0 : (0 : Int) ≤ (M : Int) := by omega
      have hM2 : (M : Int) ≤ (m.length : Int) := by omega
      have hM3 : (M : Int) < (m.length : Int) := by omega
      by_cases hw2 : ((gb m M).toNat : Int) ≤ 32
      ·
       have HN := Lib.hid (show uTrimR (tk m M) = uTrimR (uTrimL s) by rw [hM, trimR_on hp2 (by rw [← hM]; exact ws_yes hw2), hR.out])
       have HK := Lib.hid (show (tk m M).length = M by rw [tk_len]; omega)
       clear hM
       go_wp2
       go_roundg M
       case measure => omega
       case rel => exact ⟨tk m M, HK.out.symm, by rw [HK.out]; omega, by go_num, HN.out, rfl⟩
      ·
       have hw2I : (32 : Int) < ((gb m M).toNat : Int) := by omega
       have HM := Lib.hid (show m = uTrimR (uTrimL s) by rw [← hR.out]; exact (trimR_end hp2 (by rw [← hM]; exact ws_no hw2I)).symm)
       clear hw2 hM
       go_wp2
       go_loopg [3, 4] (m.length) (fun k v i wr => ∃ j : Nat, k = m.length - j ∧ j ≤ m.length ∧ i = .int .i64 j ∧ wr.ownsRow w.heap.size 5 1 v (bytes ((m.take j).filter uKeep)).length (bytes ((m.take j).filter uKeep)) ∧ Below w.heap.size w wr)
       case atStart => exact ⟨0, rfl, Nat.zero_le _, rfl, World.ownsRow_nil _ _ _ _, Below.refl _ _⟩
       case round =>
        obtain ⟨j, rfl, hj, rfl, hown, hbel⟩ := hrel
        have hq0 := hbel.size
        have hbl : (bytes ((m.take j).filter uKeep)).length ≤ 100000 := by
         rw [bytes_len]
         have h1 := List.length_filter_le uKeep (m.take j)
         rw [List.length_take] at h1; omega
        by_cases hlt : j < m.length
        ·
         skip
         have hlt1 : (j : Int) < (m.length : Int) := by omega
         have hj0 : (0 : Int) ≤ (j : Int) := by omega
         have HF := Lib.hid (filter_next (P := uKeep) hlt)
         by_cases hk : (gb m j).toNat ≠ 9 ∧ (gb m j).toNat ≠ 10 ∧ (gb m j).toNat ≠ 13
         ·
          have q1 : (((gb m j).toNat : Int) != 9) = true := by rw [bne_iff_ne]; omega
          have q2 : (((gb m j).toNat : Int) != 10) = true := by rw [bne_iff_ne]; omega
          have q3 : (((gb m j).toNat : Int) != 13) = true := by rw [bne_iff_ne]; omega
          have HN := Lib.hid (HF.out.trans (by rw [if_pos (keep_yes hk)]))
          clear hk HF
          go_wp2_with (at_builtin; refine wpList_append_lit rfl _ _ _ rfl w.heap.size _ _ 1 1 Tryz.underlying58 info_byte rfl (by decide) _ _ _ rfl hown _ 1 1 _ rfl rfl (by simp [Value.oneCell']) (by omega) (by decide) (by omega) ?_; intro A2 c2 w2 hc2 hm2 hown2 hb2 hg2)
          go_roundg (m.length - (j + 1))
          case measure => omega
          case rel => exact ⟨j + 1, rfl, by omega, by go_num, own_as hown2 (by rw [HN.out, bytes_append, List.length_append]; rfl) (by rw [HN.out, bytes_append]; rfl), hbel.trans hb2⟩
         ·
          have HN := Lib.hid (HF.out.trans (by rw [if_neg (by rw [keep_no (by omega)]; decide), List.append_nil]))
          by_cases k9 : (gb m j).toNat = 9
          ·
           have q1 : (((gb m j).toNat : Int) != 9) = false := by rw [bne_eq_false_iff_eq]; omega
           clear hk HF k9
           go_wp2
           go_roundg (m.length - (j + 1))
           case measure => omega
           case rel => exact ⟨j + 1, rfl, by omega, by go_num, own_as hown (by rw [HN.out]) (by rw [HN.out]), hbel⟩
          ·
           have q1 : (((gb m j).toNat : Int) != 9) = true := by rw [bne_iff_ne]; omega
           by_cases k10 : (gb m j).toNat = 10
           ·
            have q2 : (((gb m j).toNat : Int) != 10) = false := by rw [bne_eq_false_iff_eq]; omega
            clear hk HF k9 k10
            go_wp2
            go_roundg (m.length - (j + 1))
            case measure => omega
            case rel => exact ⟨j + 1, rfl, by omega, by go_num, own_as hown (by rw [HN.out]) (by rw [HN.out]), hbel⟩
           ·
            have q2 : (((gb m j).toNat : Int) != 10) = true := by rw [bne_iff_ne]; omega
            have q3 : (((gb m j).toNat : Int) != 13) = false := by rw [bne_eq_false_iff_eq]; omega
            clear hk HF k9 k10
            go_wp2
            go_roundg (m.length - (j + 1))
            case measure => omega
            case rel => exact ⟨j + 1, rfl, by omega, by go_num, own_as hown (by rw [HN.out]) (by rw [HN.out]), hbel⟩
        ·
         obtain rfl : j = m.length := by omega
         rw [List.take_length] at hown
         have HC := Lib.hid (show uClean s = m.filter uKeep by unfold uClean; rw [← HM.out])
         have hst := fun A c => str_atU (A := A) (c := c) (w := wr) (B := wr.heap.size) (l := m.filter uKeep) (n := (bytes (m.filter uKeep)).length)
         obtain ⟨A3, c3, rfl, hc3, hm3, hx3⟩ := own_rd hown
         go_wp2_with (refine wpList_strL rfl _ _ _ _ rfl Tryz.underlying58 Tryz.underlying5 Tryz.underlying9 _ _ _ _ (m.filter uKeep) rfl (bytes_len _) hx3 ?_)
         go_ret
         rw [HC.out]
         exact ⟨rfl, hbel⟩
     ·
      have hp2I : ¬ (0 : Int) < (m.length : Int) := by omega
      have HM := Lib.hid (show m = uTrimR (uTrimL s) by
       rw [← hR.out]
       cases m with
       | nil => rfl
       | cons c t => exact absurd (Nat.succ_pos _) hp2)
      clear hp2
      go_wp2
      go_loopg [3, 4] (m.length) (fun k v i wr => ∃ j : Nat, k = m.length - j ∧ j ≤ m.length ∧ i = .int .i64 j ∧ wr.ownsRow w.heap.size 5 1 v (bytes ((m.take j).filter uKeep)).length (bytes ((m.take j).filter uKeep)) ∧ Below w.heap.size w wr)
      case atStart => exact ⟨0, rfl, Nat.zero_le _, rfl, World.ownsRow_nil _ _ _ _, Below.refl _ _⟩
      case round =>
       obtain ⟨j, rfl, hj, rfl, hown, hbel⟩ := hrel
       have hq0 := hbel.size
       have hbl : (bytes ((m.take j).filter uKeep)).length ≤ 100000 := by
        rw [bytes_len]
        have h1 := List.length_filter_le uKeep (m.take j)
        rw [List.length_take] at h1; omega
       by_cases hlt : j < m.length
       ·
        skip
        exfalso; omega
       ·
        obtain rfl : j = m.length := by omega
        rw [List.take_length] at hown
        have HC := Lib.hid (show uClean s = m.filter uKeep by unfold uClean; rw [← HM.out])
        have hst := fun A c => str_atU (A := A) (c := c) (w := wr) (B := wr.heap.size) (l := m.filter uKeep) (n := (bytes (m.filter uKeep)).length)
        obtain ⟨A3, c3, rfl, hc3, hm3, hx3⟩ := own_rd hown
        go_wp2_with (refine wpList_strL rfl _ _ _ _ rfl Tryz.underlying58 Tryz.underlying5 Tryz.underlying9 _ _ _ _ (m.filter uKeep) rfl (bytes_len _) hx3 ?_)
        go_ret
        rw [HC.out]
        exact ⟨rfl, hbel⟩
  ·
   have hpI : ¬ (0 : Int) < (l.length : Int) := by omega
   have HL := Lib.hid (show l = uTrimL s by
    rw [← hT.out]
    cases l with
    | nil => rfl
    | cons c t => exact absurd (Nat.succ_pos _) hp)
   clear hp
   go_wp2
   go_loopg [0] (l.length) (fun k s0 wr => ∃ m : List UInt8, k = m.length ∧ m.length ≤ s.length ∧ s0 = .string (str m) ∧ Hid (uTrimR m = uTrimR (uTrimL s)) ∧ w = wr)
   case atStart => exact ⟨l, rfl, hl, rfl, (by rw [HL.out]; exact Lib.hid rfl), rfl⟩
   case round =>
    obtain ⟨m, rfl, hm, rfl, hR, rfl⟩ := hrel
    have hsz2 := str_size m
    have hgt2 := str_get m
    have hfr2 := str_front m
    by_cases hp2 : 0 < m.length
    ·
     have hp2I : (0 : Int) < (m.length : Int) := by omega
     obtain ⟨M, hM⟩ : ∃ M, M = m.length - 1 := ⟨_, rfl⟩
     have hMI : (m.length : Int) - 1 = (M : Int) := by omega
     have hMw : IntKind.i64.wrap (M : Int) = (M : Int) := IntWalk.i64_in _ (by omega)
     have hM0 : (0 : Int) ≤ (M : Int) := by omega
     have hM2 : (M : Int) ≤ (m.length : Int) := by omega
     have hM3 : (M : Int) < (m.length : Int) := by omega
     by_cases hw2 : ((gb m M).toNat : Int) ≤ 32
     ·
      have HN := Lib.hid (show uTrimR (tk m M) = uTrimR (uTrimL s) by rw [hM, trimR_on hp2 (by rw [← hM]; exact ws_yes hw2), hR.out])
      have HK := Lib.hid (show (tk m M).length = M by rw [tk_len]; omega)
      clear hM
      go_wp2
      go_roundg M
      case measure => omega
      case rel => exact ⟨tk m M, HK.out.symm, by rw [HK.out]; omega, by go_num, HN.out, rfl⟩
     ·
      have hw2I : (32 : Int) < ((gb m M).toNat : Int) := by omega
      have HM := Lib.hid (show m = uTrimR (uTrimL s) by rw [← hR.out]; exact (trimR_end hp2 (by rw [← hM]; exact ws_no hw2I)).symm)
      clear hw2 hM
      go_wp2
      go_loopg [3, 4] (m.length) (fun k v i wr => ∃ j : Nat, k = m.length - j ∧ j ≤ m.length ∧ i = .int .i64 j ∧ wr.ownsRow w.heap.size 5 1 v (bytes ((m.take j).filter uKeep)).length (bytes ((m.take j).filter uKeep)) ∧ Below w.heap.size w wr)
      case atStart => exact ⟨0, rfl, Nat.zero_le _, rfl, World.ownsRow_nil _ _ _ _, Below.refl _ _⟩
      case round =>
       obtain ⟨j, rfl, hj, rfl, hown, hbel⟩ := hrel
       have hq0 := hbel.size
       have hbl : (bytes ((m.take j).filter uKeep)).length ≤ 100000 := by
        rw [bytes_len]
        have h1 := List.length_filter_le uKeep (m.take j)
        rw [List.length_take] at h1; omega
       by_cases hlt : j < m.length
       ·
        skip
        have hlt1 : (j : Int) < (m.length : Int) := by omega
        have hj0 : (0 : Int) ≤ (j : Int) := by omega
        have HF := Lib.hid (filter_next (P := uKeep) hlt)
        by_cases hk : (gb m j).toNat ≠ 9 ∧ (gb m j).toNat ≠ 10 ∧ (gb m j).toNat ≠ 13
        ·
         have q1 : (((gb m j).toNat : Int) != 9) = true := by rw [bne_iff_ne]; omega
         have q2 : (((gb m j).toNat : Int) != 10) = true := by rw [bne_iff_ne]; omega
         have q3 : (((gb m j).toNat : Int) != 13) = true := by rw [bne_iff_ne]; omega
         have HN := Lib.hid (HF.out.trans (by rw [if_pos (keep_yes hk)]))
         clear hk HF
         go_wp2_with (at_builtin; refine wpList_append_lit rfl _ _ _ rfl w.heap.size _ _ 1 1 Tryz.underlying58 info_byte rfl (by decide) _ _ _ rfl hown _ 1 1 _ rfl rfl (by simp [Value.oneCell']) (by omega) (by decide) (by omega) ?_; intro A2 c2 w2 hc2 hm2 hown2 hb2 hg2)
         go_roundg (m.length - (j + 1))
         case measure => omega
         case rel => exact ⟨j + 1, rfl, by omega, by go_num, own_as hown2 (by rw [HN.out, bytes_append, List.length_append]; rfl) (by rw [HN.out, bytes_append]; rfl), hbel.trans hb2⟩
        ·
         have HN := Lib.hid (HF.out.trans (by rw [if_neg (by rw [keep_no (by omega)]; decide), List.append_nil]))
         by_cases k9 : (gb m j).toNat = 9
         ·
          have q1 : (((gb m j).toNat : Int) != 9) = false := by rw [bne_eq_false_iff_eq]; omega
          clear hk HF k9
          go_wp2
          go_roundg (m.length - (j + 1))
          case measure => omega
          case rel => exact ⟨j + 1, rfl, by omega, by go_num, own_as hown (by rw [HN.out]) (by rw [HN.out]), hbel⟩
         ·
          have q1 : (((gb m j).toNat : Int) != 9) = true := by rw [bne_iff_ne]; omega
          by_cases k10 : (gb m j).toNat = 10
          ·
           have q2 : (((gb m j).toNat : Int) != 10) = false := by rw [bne_eq_false_iff_eq]; omega
           clear hk HF k9 k10
           go_wp2
           go_roundg (m.length - (j + 1))
           case measure => omega
           case rel => exact ⟨j + 1, rfl, by omega, by go_num, own_as hown (by rw [HN.out]) (by rw [HN.out]), hbel⟩
          ·
           have q2 : (((gb m j).toNat : Int) != 10) = true := by rw [bne_iff_ne]; omega
           have q3 : (((gb m j).toNat : Int) != 13) = false := by rw [bne_eq_false_iff_eq]; omega
           clear hk HF k9 k10
           go_wp2
           go_roundg (m.length - (j + 1))
           case measure => omega
           case rel => exact ⟨j + 1, rfl, by omega, by go_num, own_as hown (by rw [HN.out]) (by rw [HN.out]), hbel⟩
       ·
        obtain rfl : j = m.length := by omega
        rw [List.take_length] at hown
        have HC := Lib.hid (show uClean s = m.filter uKeep by unfold uClean; rw [← HM.out])
        have hst := fun A c => str_atU (A := A) (c := c) (w := wr) (B := wr.heap.size) (l := m.filter uKeep) (n := (bytes (m.filter uKeep)).length)
        obtain ⟨A3, c3, rfl, hc3, hm3, hx3⟩ := own_rd hown
        go_wp2_with (refine wpList_strL rfl _ _ _ _ rfl Tryz.underlying58 Tryz.underlying5 Tryz.underlying9 _ _ _ _ (m.filter uKeep) rfl (bytes_len _) hx3 ?_)
        go_ret
        rw [HC.out]
        exact ⟨rfl, hbel⟩
    ·
     have hp2I : ¬ (0 : Int) < (m.length : Int) := by omega
     have HM := Lib.hid (show m = uTrimR (uTrimL s) by
      rw [← hR.out]
      cases m with
      | nil => rfl
      | cons c t => exact absurd (Nat.succ_pos _) hp2)
     clear hp2
     go_wp2
     go_loopg [3, 4] (m.length) (fun k v i wr => ∃ j : Nat, k = m.length - j ∧ j ≤ m.length ∧ i = .int .i64 j ∧ wr.ownsRow w.heap.size 5 1 v (bytes ((m.take j).filter uKeep)).length (bytes ((m.take j).filter uKeep)) ∧ Below w.heap.size w wr)
     case atStart => exact ⟨0, rfl, Nat.zero_le _, rfl, World.ownsRow_nil _ _ _ _, Below.refl _ _⟩
     case round =>
      obtain ⟨j, rfl, hj, rfl, hown, hbel⟩ := hrel
      have hq0 := hbel.size
      have hbl : (bytes ((m.take j).filter uKeep)).length ≤ 100000 := by
       rw [bytes_len]
       have h1 := List.length_filter_le uKeep (m.take j)
       rw [List.length_take] at h1; omega
      by_cases hlt : j < m.length
      ·
       skip
       exfalso; omega
      ·
       obtain rfl : j = m.length := by omega
       rw [List.take_length] at hown
       have HC := Lib.hid (show uClean s = m.filter uKeep by unfold uClean; rw [← HM.out])
       have hst := fun A c => str_atU (A := A) (c := c) (w := wr) (B := wr.heap.size) (l := m.filter uKeep) (n := (bytes (m.filter uKeep)).length)
       obtain ⟨A3, c3, rfl, hc3, hm3, hx3⟩ := own_rd hown
       go_wp2_with (refine wpList_strL rfl _ _ _ _ rfl Tryz.underlying58 Tryz.underlying5 Tryz.underlying9 _ _ _ _ (m.filter uKeep) rfl (bytes_len _) hx3 ?_)
       go_ret
       rw [HC.out]
       exact ⟨rfl, hbel⟩
end Go.Proofs.YtoapelcofjjdnaaGreatDoor
namespace Go.Proofs.YtoapelcofjjdnaaGreatDoor
set_option linter.all false
open Go.RowKit
def uRow (o : Uo) (v : Value) : Array Value := #[.string (str o.sch), .string (str o.host), .bool o.has, .int .i64 o.port, v, .bool o.opq, .string (str o.query), .bool o.asks, .string (str o.frag), .bool o.marks]
def UrAt (w : World) (g : Nat) (o : Uo) (v : Value) : Prop := w.heap[g]? = some (.cells (uRow o v) 44 (0, 0))
section
variable {w w' : World} {g : Nat} {o : Uo} {v : Value}
theorem UrAt.lt (h : UrAt w g o v) : g < w.heap.size := lt_of_block h
theorem UrAt.c0 (h : UrAt w g o v) : w.cell? ⟨g, 0, none⟩ = some (.string (str o.sch)) := cell_of_row _ _ 0 _ _ _ h
theorem UrAt.c1 (h : UrAt w g o v) : w.cell? ⟨g, 1, none⟩ = some (.string (str o.host)) := cell_of_row _ _ 1 _ _ _ h
theorem UrAt.c2 (h : UrAt w g o v) : w.cell? ⟨g, 2, none⟩ = some (.bool o.has) := cell_of_row _ _ 2 _ _ _ h
theorem UrAt.c3 (h : UrAt w g o v) : w.cell? ⟨g, 3, none⟩ = some (.int .i64 o.port) := cell_of_row _ _ 3 _ _ _ h
theorem UrAt.c4 (h : UrAt w g o v) : w.cell? ⟨g, 4, none⟩ = some (v) := cell_of_row _ _ 4 _ _ _ h
theorem UrAt.c5 (h : UrAt w g o v) : w.cell? ⟨g, 5, none⟩ = some (.bool o.opq) := cell_of_row _ _ 5 _ _ _ h
theorem UrAt.c6 (h : UrAt w g o v) : w.cell? ⟨g, 6, none⟩ = some (.string (str o.query)) := cell_of_row _ _ 6 _ _ _ h
theorem UrAt.c7 (h : UrAt w g o v) : w.cell? ⟨g, 7, none⟩ = some (.bool o.asks) := cell_of_row _ _ 7 _ _ _ h
theorem UrAt.c8 (h : UrAt w g o v) : w.cell? ⟨g, 8, none⟩ = some (.string (str o.frag)) := cell_of_row _ _ 8 _ _ _ h
theorem UrAt.c9 (h : UrAt w g o v) : w.cell? ⟨g, 9, none⟩ = some (.bool o.marks) := cell_of_row _ _ 9 _ _ _ h
theorem UrAt.fr (h : UrAt w g o v) (j : Nat) : w.frozen? ⟨g, j, none⟩ = false := Lib.frozen_of_heap h j
theorem UrAt.keep (h : UrAt w g o v) (hk : w'.heap[g]? = w.heap[g]?) : UrAt w' g o v := hk.trans h
theorem UrAt.next (h : UrAt w g o v) (hb : Below w.heap.size w w') : UrAt w' g o v := h.keep (hb.block g h.lt)
theorem UrAt.s0 (h : UrAt w g o v) (t : List UInt8) : UrAt (w.setCell ⟨g, 0, none⟩ (.string (str t))) g { o with sch := t } v := by
 unfold UrAt at h ⊢; unfold World.setCell; simp only [Array.getElem?_modify, if_true, h]; rfl
theorem UrAt.s1 (h : UrAt w g o v) (t : List UInt8) : UrAt (w.setCell ⟨g, 1, none⟩ (.string (str t))) g { o with host := t } v := by
 unfold UrAt at h ⊢; unfold World.setCell; simp only [Array.getElem?_modify, if_true, h]; rfl
theorem UrAt.s2 (h : UrAt w g o v) (b : Bool) : UrAt (w.setCell ⟨g, 2, none⟩ (.bool b)) g { o with has := b } v := by
 unfold UrAt at h ⊢; unfold World.setCell; simp only [Array.getElem?_modify, if_true, h]; rfl
theorem UrAt.s3 (h : UrAt w g o v) (p : Int) : UrAt (w.setCell ⟨g, 3, none⟩ (.int .i64 p)) g { o with port := p } v := by
 unfold UrAt at h ⊢; unfold World.setCell; simp only [Array.getElem?_modify, if_true, h]; rfl
theorem UrAt.s4 (h : UrAt w g o v) (u : Value) : UrAt (w.setCell ⟨g, 4, none⟩ u) g o u := by
 unfold UrAt at h ⊢; unfold World.setCell; simp only [Array.getElem?_modify, if_true, h]; rfl
theorem UrAt.s5 (h : UrAt w g o v) (b : Bool) : UrAt (w.setCell ⟨g, 5, none⟩ (.bool b)) g { o with opq := b } v := by
 unfold UrAt at h ⊢; unfold World.setCell; simp only [Array.getElem?_modify, if_true, h]; rfl
theorem UrAt.s6 (h : UrAt w g o v) (t : List UInt8) : UrAt (w.setCell ⟨g, 6, none⟩ (.string (str t))) g { o with query := t } v := by
 unfold UrAt at h ⊢; unfold World.setCell; simp only [Array.getElem?_modify, if_true, h]; rfl
theorem UrAt.s7 (h : UrAt w g o v) (b : Bool) : UrAt (w.setCell ⟨g, 7, none⟩ (.bool b)) g { o with asks := b } v := by
 unfold UrAt at h ⊢; unfold World.setCell; simp only [Array.getElem?_modify, if_true, h]; rfl
theorem UrAt.s8 (h : UrAt w g o v) (t : List UInt8) : UrAt (w.setCell ⟨g, 8, none⟩ (.string (str t))) g { o with frag := t } v := by
 unfold UrAt at h ⊢; unfold World.setCell; simp only [Array.getElem?_modify, if_true, h]; rfl
theorem UrAt.s9 (h : UrAt w g o v) (b : Bool) : UrAt (w.setCell ⟨g, 9, none⟩ (.bool b)) g { o with marks := b } v := by
 unfold UrAt at h ⊢; unfold World.setCell; simp only [Array.getElem?_modify, if_true, h]; rfl
theorem UrAt.made (w : World) (o : Uo) (v : Value) : UrAt (w.alloc (.cells (uRow o v) 44)) w.heap.size o v := by
 unfold UrAt World.alloc; simp
theorem UrAt.as {o' : Uo} (h : UrAt w g o v) (e : o = o') : UrAt w g o' v := e ▸ h
end
theorem set_gbU (w : World) (g j : Nat) (v : Value) : w.grownBy (w.setCell ⟨g, j, none⟩ v) (some g) :=
 ⟨rfl, rfl, rfl, by simp [World.setCell], fun k _ hk => Below.heap_setCell _ _ _ _ (fun e => hk (by simp [e]))⟩
theorem port_same {o : Uo} {p : Int} (h : o.port = p) : o = { o with port := p } := by cases o; cases h; rfl
theorem port_step {s : List UInt8} {i x : Nat} (h : i < s.length) : uPortGo x (s.drop i) = if 48 ≤ (gb s i).toNat ∧ (gb s i).toNat ≤ 57 then uPortGo (min (x * 10 + ((gb s i).toNat - 48)) 100000) (s.drop (i + 1)) else none := by
 obtain ⟨hj, e⟩ := List.getElem?_eq_some_iff.1 (gb_some h)
 rw [List.drop_eq_getElem_cons hj, e]; rfl
def PortR (w w' : World) (g : Nat) (o : Uo) (v : Value) (r : Option Int) (e : Ending) : Prop := match r with
 | none => e = .returned (.int .i64 6) ∧ w = w'
 | some p => e = .returned (.int .i64 0) ∧ UrAt w' g { o with port := p } v ∧ w.grownBy w' (some g)
set_option maxRecDepth 100000 in
set_option maxHeartbeats 8000000 in
theorem uport_any (g : Nat) (o : Uo) (v : Value) (s : List UInt8) (w : World) (h : UrAt w g o v) (hp : o.port = -1) (hs : s.length ≤ 100000) :
  Calls Tryz.prog 99 #[.pointer (some ⟨g, 0, none⟩), .string (str s)] w fun e w' => PortR w w' g o v (uPort o.sch s) e := by
 have hsz := str_size s
 have hgt := str_get s
 have c0 := h.c0
 have c3 := h.c3
 have f3 := h.fr 3
 have HW := Lib.hid (h.as (port_same hp))
 have HS3 := Lib.hid fun p => h.s3 p
 have HU := Lib.hid h
 obtain ⟨sch, hsch⟩ : ∃ z, z = o.sch := ⟨_, rfl⟩
 rw [← hsch] at c0 ⊢
 clear hsch h
 have CD := Lib.hid fun w => default_any sch w
 go_enter Tryz.func99, Tryz.ntmps99
 go_wp2
 go_loopg [5, 6] (s.length) (fun k s5 s6 wr => ∃ j x : Nat, k = s.length - j ∧ j ≤ s.length ∧ s6 = .int .i64 j ∧ s5 = .int .i64 (x : Int) ∧ x ≤ 100000 ∧ Hid (uPortGo 0 s = uPortGo x (s.drop j)) ∧ w = wr)
 case atStart => exact ⟨0, 0, rfl, Nat.zero_le _, rfl, rfl, by omega, rfl, rfl⟩
 case round =>
  obtain ⟨j, x, rfl, hj, rfl, rfl, hx, hn, rfl⟩ := hrel
  by_cases hlt : j < s.length
  ·
   have hlt1 : (j : Int) < (s.length : Int) := by omega
   have hj0 : (0 : Int) ≤ (j : Int) := by omega
   have HS := Lib.hid (hn.out.trans (port_step hlt))
   by_cases h1 : ((gb s j).toNat : Int) < 48
   ·
    have HN := Lib.hid (show uPort sch s = none by unfold uPort; rw [HS.out, if_neg (by omega)]; rfl)
    go_wp2
    go_ret
    rw [HN.out]
    exact ⟨rfl, rfl⟩
   ·
    have h1I : (48 : Int) ≤ ((gb s j).toNat : Int) := by omega
    by_cases h2 : (57 : Int) < ((gb s j).toNat : Int)
    ·
     have HN := Lib.hid (show uPort sch s = none by unfold uPort; rw [HS.out, if_neg (by omega)]; rfl)
     clear h1
     go_wp2
     go_ret
     rw [HN.out]
     exact ⟨rfl, rfl⟩
    ·
     have h2I : ((gb s j).toNat : Int) ≤ 57 := by omega
     obtain ⟨y, hy⟩ : ∃ y : Nat, y = min (x * 10 + ((gb s j).toNat - 48)) 100000 := ⟨_, rfl⟩
     have HN := Lib.hid (show uPortGo 0 s = uPortGo y (s.drop (j + 1)) by rw [HS.out, if_pos (by omega), hy])
     have q1 : IntKind.i64.wrap ((x : Int) * 10) = (x : Int) * 10 := IntWalk.i64_in _ (by omega)
     have q2 : IntKind.u8.wrap (((gb s j).toNat : Int) - 48) = ((gb s j).toNat : Int) - 48 := IntWalk.u8_in _ (by omega)
     have q3 : IntKind.i64.wrap (((gb s j).toNat : Int) - 48) = ((gb s j).toNat : Int) - 48 := IntWalk.i64_in _ (by omega)
     have q4 : IntKind.i64.wrap ((x : Int) * 10 + (((gb s j).toNat : Int) - 48)) = (x : Int) * 10 + (((gb s j).toNat : Int) - 48) := IntWalk.i64_in _ (by omega)
     have q5 : min ((x : Int) * 10 + (((gb s j).toNat : Int) - 48)) 100000 = (y : Int) := by omega
     have hyl : y ≤ 100000 := by omega
     clear h1 h2 hy
     go_wp2
     go_roundg (s.length - (j + 1))
     case measure => omega
     case rel => exact ⟨j + 1, y, rfl, by omega, by go_num, by go_num, hyl, HN.out, rfl⟩
  ·
   obtain rfl : j = s.length := by omega
   clear hlt
   have HG := Lib.hid (show uPortGo 0 s = if 65535 < x then none else some x by rw [hn.out, List.drop_length]; rfl)
   by_cases hbig : (65535 : Int) < (x : Int)
   ·
    have HN := Lib.hid (show uPort sch s = none by unfold uPort; rw [HG.out, if_pos (by omega)]; rfl)
    go_wp2
    go_ret
    rw [HN.out]
    exact ⟨rfl, rfl⟩
   ·
    have hbigI : (x : Int) ≤ 65535 := by omega
    have HV := Lib.hid (show uPort sch s = some (if s ≠ [] ∧ (x : Int) ≠ uDef sch then (x : Int) else -1) by unfold uPort; rw [HG.out, if_neg (by omega)]; rfl)
    have htl := str_toL s
    clear hbig
    by_cases h0 : s = []
    ·
     have q0 : (s == []) = true := by rw [h0]; rfl
     have q0' : (s != []) = false := by rw [h0]; rfl
     have HN := Lib.hid (HV.out.trans (by rw [if_neg fun e => e.1 h0]))
     clear h0
     go_wp2
     go_ret
     rw [HN.out]
     exact ⟨rfl, HW.out, World.grownBy.refl _ _⟩
    ·
     have q0 : (s == []) = false := by rw [beq_eq_false_iff_ne]; exact h0
     have q0' : (s != []) = true := by rw [bne_iff_ne]; exact h0
     obtain ⟨d, hd⟩ : ∃ d, d = uDef sch := ⟨_, rfl⟩
     rw [← hd] at CD HV
     clear hd
     by_cases hx1 : (x : Int) = d
     ·
      have q1 : ((x : Int) != d) = false := by rw [bne_eq_false_iff_eq]; exact hx1
      have HN := Lib.hid (HV.out.trans (by rw [if_neg fun e => e.2 hx1]))
      clear hx1 h0
      go_wp2_with (go_at_call 97; go_must (go_fit (CD.out _)); rintro e w1 ⟨rfl, rfl⟩)
      go_ret
      rw [HN.out]
      exact ⟨rfl, HW.out, World.grownBy.refl _ _⟩
     ·
      have q1 : ((x : Int) != d) = true := by rw [bne_iff_ne]; exact hx1
      have HN := Lib.hid (HV.out.trans (by rw [if_pos ⟨h0, hx1⟩]))
      clear hx1 h0
      go_wp2_with (go_at_call 97; go_must (go_fit (CD.out _)); rintro e w1 ⟨rfl, rfl⟩)
      go_ret
      rw [HN.out]
      exact ⟨rfl, HS3.out _, set_gbU _ _ _ _⟩
end Go.Proofs.YtoapelcofjjdnaaGreatDoor
namespace Go.Proofs.YtoapelcofjjdnaaGreatDoor
set_option linter.all false
open Go.RowKit
theorem showP_next {l : List (List UInt8)} {j : Nat} {x : List UInt8} (h : l[j]? = some x) : pShowP (l.take (j + 1)) = pShowP (l.take j) ++ [47] ++ x := by
 obtain ⟨hj, e⟩ := List.getElem?_eq_some_iff.1 h
 rw [take_snoc' l j hj, e]
 unfold pShowP
 rw [List.flatMap_append]
 simp
theorem showP_le {l : List (List UInt8)} {j : Nat} : (pShowP (l.take j)).length ≤ (pShowP l).length := by
 conv => rhs; rw [← List.take_append_drop j l]
 unfold pShowP
 rw [List.flatMap_append, List.length_append]; omega
theorem bldStrN (B b : Nat) (l s : List UInt8) (w : World) (h : Bld w B b l) (hl : l.length + s.length ≤ 100000000) (hB : B ≤ w.heap.size) :
  Calls Tryz.prog 81 #[.pointer (some ⟨b, 0, none⟩), .string (str s)] w fun e w' => e = .returned (.tuple #[.int .i64 s.length, .nilIface]) ∧ Bld w' B b (l ++ s) ∧ Below B w w' := by
 refine (writeString_any B b (bytes l) (str s) w h (by rw [bytes_len, str_size]; omega) hB).mono ?_
 rintro e w' ⟨rfl, h1, h2⟩
 refine ⟨by rw [str_size], .inr ?_, h2⟩
 rw [bytes_append]
 have : Lib.strCells (str s) = bytes s := by unfold Lib.strCells; rw [str_data]; rfl
 rw [this] at h1
 exact h1
set_option maxRecDepth 100000 in
set_option maxHeartbeats 4000000 in
theorem pshow_any (A : Option Addr) (c : Nat) (l : List (List UInt8)) (w : World) (hr : Rd w w.heap.size A (strs l)) (hl : l.length ≤ 1000000) (hT : (pShowP l).length ≤ 10000000) :
  Calls Tryz.prog 103 #[.slice A l.length c] w fun e w' => e = .returned (.string (str (pShowP l))) ∧ Below w.heap.size w w' := by
 have hB0 := Bld.fresh w
 have hbA : Below w.heap.size w (w.alloc (.cells #[.pointer none, .slice none 0 0] 96)) := (Below.refl _ _).alloc (Nat.le_refl _) _
 have HT := Lib.hid hT
 clear hT
 go_enter Tryz.func103, Tryz.ntmps103
 go_wp2
 go_loopg [8] l.length (fun k s8 wr => ∃ j : Nat, k = l.length - j ∧ j ≤ l.length ∧ s8 = .int .i64 (j : Int) ∧ Bld wr w.heap.size w.heap.size (pShowP (l.take j)) ∧ Below w.heap.size w wr)
 case atStart => exact ⟨0, rfl, Nat.zero_le _, rfl, hB0, hbA⟩
 case round =>
  clear hB0 hbA
  obtain ⟨j, rfl, hj, rfl, hB, hbel⟩ := hrel
  have hq0 := hbel.size
  by_cases hlt : j < l.length
  ·
   obtain ⟨b, off, x, rfl, hb', hc, hx⟩ := (hr.below hbel).str_at (k := j) hlt
   have hlt1 : (j : Int) < (l.length : Int) := by omega
   have hj0 : (0 : Int) ≤ (j : Int) := by omega
   have hle := showP_le (l := l) (j := j + 1)
   have hTT := HT.out
   have HX := Lib.hid (showP_next hx.out)
   rw [HX.out, List.length_append, List.length_append] at hle
   simp only [List.length_cons, List.length_nil] at hle
   have C1 := Lib.hid (bldStrN w.heap.size w.heap.size _ [47] wr hB (by simp only [List.length_cons, List.length_nil]; omega) hq0)
   have C2 := Lib.hid fun w2 h q => bldStrN w.heap.size w.heap.size (pShowP (l.take j) ++ [47]) x w2 h (by rw [List.length_append]; simp only [List.length_cons, List.length_nil]; omega) q
   clear hx
   have hs47 : str [47] = { data := #[47] } := rfl
   go_wp2_with (first
    | (go_at_call 81; go_fit C1.out; rintro e w1 ⟨rfl, hB1, hb1⟩; have hc1 := cell_on hb1 hc (by omega))
    | (go_at_call 81; go_must (go_fit (C2.out w1 hB1 (Nat.le_trans hq0 hb1.size))); rintro e w2 ⟨rfl, hB2, hb2⟩))
   go_roundg (l.length - (j + 1))
   case measure => omega
   case rel => exact ⟨j + 1, rfl, by omega, by go_num, by rw [HX.out]; exact hB2, (hbel.trans hb1).trans hb2⟩
  ·
   obtain rfl : j = l.length := by omega
   rw [List.take_length] at hB
   have C3 := Lib.hid (bldString w.heap.size w.heap.size _ wr hB hq0)
   go_wp2_with (go_at_call 83; go_must (go_fit C3.out); rintro e w1 ⟨rfl, hb1⟩)
   go_ret
   exact ⟨rfl, hbel.trans hb1⟩
end Go.Proofs.YtoapelcofjjdnaaGreatDoor
namespace Go.Proofs.YtoapelcofjjdnaaGreatDoor
set_option linter.all false
open Go.RowKit
set_option maxRecDepth 100000 in
set_option maxHeartbeats 2000000 in
theorem rsingle_any (s : List UInt8) (w : World) (hs : s.length ≤ 1000000) :
  Calls Tryz.prog 102 #[.string (str s)] w fun e w' => e = .returned (.bool (pSingle s)) ∧ Below w.heap.size w w' := by
 have C := Lib.hid (lowr_any s w hs)
 have HS := Lib.hid (single_iff s)
 have htl := str_toL s
 have htl2 := str_toL (lows s)
 by_cases h1 : s = [46]
 ·
  have HE := Lib.hid (show pSingle s = true by rw [HS.out, decide_eq_true h1]; rfl)
  have q1 : (s == [46]) = true := by rw [h1]; rfl
  clear h1
  go_enter Tryz.func102, Tryz.ntmps102
  go_wp2
  go_ret
  exact ⟨ret_bool HE.out.symm, Below.refl _ _⟩
 ·
  have q1 : (s == [46]) = false := by rw [beq_eq_false_iff_ne]; exact h1
  by_cases h2 : lows s = [37, 50, 101]
  ·
   have HE := Lib.hid (show pSingle s = true by rw [HS.out, decide_eq_true h2, Bool.or_true])
   have q2 : (lows s == [37, 50, 101]) = true := by rw [h2]; rfl
   obtain ⟨t, ht⟩ : ∃ t, t = lows s := ⟨_, rfl⟩
   rw [← ht] at q2 htl2 C
   clear h1 h2 ht
   go_enter Tryz.func102, Tryz.ntmps102
   go_wp2_with (go_at_call 56; go_must (go_fit C.out); rintro e w1 ⟨rfl, hb1⟩)
   go_ret
   exact ⟨ret_bool HE.out.symm, hb1⟩
  ·
   have HE := Lib.hid (show pSingle s = false by rw [HS.out, decide_eq_false h1, decide_eq_false h2]; rfl)
   have q2 : (lows s == [37, 50, 101]) = false := by rw [beq_eq_false_iff_ne]; exact h2
   obtain ⟨t, ht⟩ : ∃ t, t = lows s := ⟨_, rfl⟩
   rw [← ht] at q2 htl2 C
   clear h1 h2 ht
   go_enter Tryz.func102, Tryz.ntmps102
   go_wp2_with (go_at_call 56; go_must (go_fit C.out); rintro e w1 ⟨rfl, hb1⟩)
   go_ret
   exact ⟨ret_bool HE.out.symm, hb1⟩
set_option maxRecDepth 100000 in
set_option maxHeartbeats 4000000 in
theorem rdouble_any (s : List UInt8) (w : World) (hs : s.length ≤ 1000000) :
  Calls Tryz.prog 101 #[.string (str s)] w fun e w' => e = .returned (.bool (pDouble s)) ∧ Below w.heap.size w w' := by
 have C := Lib.hid (lowr_any s w hs)
 have HS := Lib.hid (double_iff s)
 obtain ⟨t, ht⟩ : ∃ t, t = lows s := ⟨_, rfl⟩
 rw [← ht] at C HS
 have htl := str_toL t
 clear ht
 by_cases h1 : t = [46, 46]
 ·
  have HE := Lib.hid (show pDouble s = true by rw [HS.out, decide_eq_true h1]; rfl)
  have q1 : (t == [46, 46]) = true := by rw [h1]; rfl
  clear h1
  go_enter Tryz.func101, Tryz.ntmps101
  go_wp2_with (go_at_call 56; go_must (go_fit C.out); rintro e w1 ⟨rfl, hb1⟩)
  go_ret
  exact ⟨ret_bool HE.out.symm, hb1⟩
 ·
  have q1 : (t == [46, 46]) = false := by rw [beq_eq_false_iff_ne]; exact h1
  by_cases h2 : t = [46, 37, 50, 101]
  ·
   have HE := Lib.hid (show pDouble s = true by rw [HS.out, decide_eq_true h2, Bool.true_or, Bool.or_true])
   have q2 : (t == [46, 37, 50, 101]) = true := by rw [h2]; rfl
   clear h1 h2
   go_enter Tryz.func101, Tryz.ntmps101
   go_wp2_with (go_at_call 56; go_must (go_fit C.out); rintro e w1 ⟨rfl, hb1⟩)
   go_ret
   exact ⟨ret_bool HE.out.symm, hb1⟩
  ·
   have q2 : (t == [46, 37, 50, 101]) = false := by rw [beq_eq_false_iff_ne]; exact h2
   by_cases h3 : t = [37, 50, 101, 46]
   ·
    have HE := Lib.hid (show pDouble s = true by rw [HS.out, decide_eq_true h3, Bool.true_or, Bool.or_true, Bool.or_true])
    have q3 : (t == [37, 50, 101, 46]) = true := by rw [h3]; rfl
    clear h1 h2 h3
    go_enter Tryz.func101, Tryz.ntmps101
    go_wp2_with (go_at_call 56; go_must (go_fit C.out); rintro e w1 ⟨rfl, hb1⟩)
    go_ret
    exact ⟨ret_bool HE.out.symm, hb1⟩
   ·
    have q3 : (t == [37, 50, 101, 46]) = false := by rw [beq_eq_false_iff_ne]; exact h3
    by_cases h4 : t = [37, 50, 101, 37, 50, 101]
    ·
     have HE := Lib.hid (show pDouble s = true by rw [HS.out, decide_eq_true h4, Bool.or_true, Bool.or_true, Bool.or_true])
     have q4 : (t == [37, 50, 101, 37, 50, 101]) = true := by rw [h4]; rfl
     clear h1 h2 h3 h4
     go_enter Tryz.func101, Tryz.ntmps101
     go_wp2_with (go_at_call 56; go_must (go_fit C.out); rintro e w1 ⟨rfl, hb1⟩)
     go_ret
     exact ⟨ret_bool HE.out.symm, hb1⟩
    ·
     have q4 : (t == [37, 50, 101, 37, 50, 101]) = false := by rw [beq_eq_false_iff_ne]; exact h4
     have HE := Lib.hid (show pDouble s = false by rw [HS.out, decide_eq_false h1, decide_eq_false h2, decide_eq_false h3, decide_eq_false h4]; rfl)
     clear h1 h2 h3 h4
     go_enter Tryz.func101, Tryz.ntmps101
     go_wp2_with (go_at_call 56; go_must (go_fit C.out); rintro e w1 ⟨rfl, hb1⟩)
     go_ret
     exact ⟨ret_bool HE.out.symm, hb1⟩
set_option maxRecDepth 100000 in
set_option maxHeartbeats 4000000 in
theorem rshowP_any (A : Option Addr) (c : Nat) (l : List (List UInt8)) (w : World) (hr : Rd w w.heap.size A (strs l)) (hl : l.length ≤ 1000000) (hT : (pShowP l).length ≤ 10000000) :
  Calls Tryz.prog 104 #[.slice A l.length c] w fun e w' => e = .returned (.string (str (pShowP l))) ∧ w = w' := by
 have HT := Lib.hid hT
 clear hT
 go_enter Tryz.func104, Tryz.ntmps104
 go_wp2
 go_loopg [3, 4] l.length (fun k s3 s4 wr => ∃ j : Nat, k = l.length - j ∧ j ≤ l.length ∧ s3 = .string (str (pShowP (l.take j))) ∧ s4 = .int .i64 (j : Int) ∧ w = wr)
 case atStart => exact ⟨0, rfl, Nat.zero_le _, rfl, rfl, rfl⟩
 case round =>
  obtain ⟨j, rfl, hj, rfl, rfl, rfl⟩ := hrel
  by_cases hlt : j < l.length
  ·
   obtain ⟨b, off, x, rfl, hb', hc, hx⟩ := hr.str_at (k := j) hlt
   have hlt1 : (j : Int) < (l.length : Int) := by omega
   have hj0 : (0 : Int) ≤ (j : Int) := by omega
   have hle := showP_le (l := l) (j := j + 1)
   have hTT := HT.out
   have HX := Lib.hid (showP_next hx.out)
   rw [HX.out, List.length_append, List.length_append] at hle
   simp only [List.length_cons, List.length_nil] at hle
   obtain ⟨S, hS⟩ : ∃ S, S = pShowP (l.take j) := ⟨_, rfl⟩
   rw [← hS] at hle HX ⊢
   have y1 := str_size S
   have y2 := str_size x
   have e1 : str S ++ { data := #[47] } = str (S ++ [47]) := str_app S [47]
   have e2 : str (S ++ [47]) ++ str x = str (S ++ [47] ++ x) := str_app _ x
   have y3 : (str (S ++ [47])).size = S.length + 1 := by rw [str_size, List.length_append]; rfl
   have k1 : (9223372036854775807 < S.length + 1) = False := eq_false (by omega)
   have k2 : (9223372036854775807 < S.length + 1 + x.length) = False := eq_false (by omega)
   clear hx hS
   go_wp2
   go_roundg (l.length - (j + 1))
   case measure => omega
   case rel => exact ⟨j + 1, rfl, by omega, by rw [HX.out]; simp, by go_num, rfl⟩
  ·
   obtain rfl : j = l.length := by omega
   rw [List.take_length]
   go_wp2
   go_ret
   exact ⟨rfl, rfl⟩
end Go.Proofs.YtoapelcofjjdnaaGreatDoor
namespace Go.Proofs.YtoapelcofjjdnaaGreatDoor
set_option linter.all false
open Go.RowKit
def slB (c : UInt8) : UInt8 := if c = 92 then 47 else c
theorem own_lit0 (w : World) : (w.alloc (.cells #[] 9)).ownsRow w.heap.size 9 1 (.slice (some ⟨w.heap.size, 0, none⟩) 0 0) 0 [] := World.ownsRow_lit w #[] 0 (Nat.le_refl _) (by decide) rfl
theorem own_lit0B (w : World) {B : Nat} (h : B ≤ w.heap.size) : (w.alloc (.cells #[] 9)).ownsRow B 9 1 (.slice (some ⟨w.heap.size, 0, none⟩) 0 0) 0 [] := World.ownsRow_lit w #[] 0 h (by decide) rfl
theorem own_zero {w : World} {B n c : Nat} {e : TypeId} {A : Option Addr} {xs : List Value} (h : w.ownsRow B e 1 (.slice A (0 + n) c) (0 + n) ([] ++ xs)) : w.ownsRow B e 1 (.slice A n c) n xs := by rwa [Nat.zero_add, List.nil_append] at h
theorem pRel2 {base cs out : List (List UInt8)} {w2 w10 : World} {i m c : Nat} {A : Option Addr} {z : List UInt8} {v : Value} (hl : out.length = m)
  (hown : w10.ownsRow w2.heap.size 9 1 (.slice A (m + 1) c) (m + 1) (strs out ++ #[Value.string (str z)].toList)) (hI : pGo base cs = pGo (out ++ [z]) (cs.drop (i + 1)))
  (hj : i + 1 ≤ cs.length) (hb : m ≤ base.length + i) (hbel : Below w2.heap.size w2 w10) (hv : v = .int .i64 ((i + 1 : Nat) : Int)) :
  ∃ (j : Nat) (o : List (List UInt8)) (A' : Option Addr) (c' : Nat), cs.length - (i + 1) = cs.length - j ∧ j ≤ cs.length ∧ v = .int .i64 (j : Int) ∧ Value.slice A (m + 1) c = .slice A' o.length c' ∧
   w10.ownsRow w2.heap.size 9 1 (.slice A' o.length c') o.length (strs o) ∧ o.length ≤ base.length + j ∧ Hid (pGo base cs = pGo o (cs.drop j)) ∧ Below w2.heap.size w2 w10 := by
 have hl2 : (out ++ [z]).length = m + 1 := by rw [List.length_append, hl]; rfl
 refine ⟨i + 1, out ++ [z], A, c, rfl, hj, hv, by rw [hl2], ?_, by rw [hl2]; omega, hI, hbel⟩
 rw [hl2, strs_append]; exact hown
theorem own_none {w : World} {B n c : Nat} {e : TypeId} {A : Option Addr} {xs : List Value} (h : w.ownsRow B e 1 (.slice A n c) n xs) : A = none → n = 0 ∧ c = 0 := by
 intro hA
 rcases h.2 with ⟨hv, h0⟩ | ⟨g, cap, cur, hv, _⟩
 ·
  injection hv with _ _ h3
  exact ⟨h0, h3⟩
 ·
  injection hv with h1
  rw [hA] at h1; cases h1
theorem rd_row8 {w w' : World} {B g off : Nat} {xs : List Value} {row : Option Nat} (h : Rd w B (some ⟨g, off, none⟩) xs) (hg : w.grownBy w' row) (hne : row ≠ some g) : Rd w' w'.heap.size (some ⟨g, off, none⟩) xs := fun hn => by
 obtain ⟨b, o, e, hb, hc⟩ := h hn
 injection e with e
 injection e with e1 e2
 subst e1 e2
 have hlt := World.block_lt_of_cell? _ _ (hc 0 _ (List.getElem?_eq_getElem hn))
 exact ⟨g, off, rfl, Nat.lt_of_lt_of_le hlt hg.size, fun j u hu => hg.cell (hc j u hu) (fun e => hne e.symm)⟩
section
variable {P : Program} {w : World} {ops : Array Oper} {o : Oper} {a : Act} {Q : Exit → Act → World → Prop} {K : Act → World → Prop} {E : Prop}
theorem step_append_pa (hgd : o.guard = none) (s x : Operand) (t : TypeId)
  (ho : o.op = .call { callee := .builtin .append, args := #[s, x], argTypes := #[t, t] })
  (base : Nat) (e : TypeId) (z : Value) (size bytes : Nat) (ht : P.underlying t = some (.slice e))
  (hinfo : (P.info? e).map (fun i => (i.zero, i.size, i.bytes)) = some (some z, size, bytes)) (hzs : z.cells.size = size) (hsz : 0 < size)
  (v : Value) (n : Nat) (xs : List Value) (hs : a.eval s = v) (hown : w.ownsRow base e size v n xs)
  (A : Option Addr) (m c : Nat) (news : List Value) (hx : a.eval x = .slice A m c) (hl : news.length = m * size) (hnone : A = none → m = 0 ∧ c = 0)
  (hc : ∀ ad, A = some ad → ∀ j u, news[j]? = some u → w.cell? (ad.add j) = some u) (h1 : ∀ u ∈ news, u.oneCell' = true)
  (h63 : n + m ≤ 1000000) (hb : bytes ≤ 1000) (hbase : base ≤ w.heap.size)
  (h : ∀ A' c' w', n + m ≤ c' → c' ≤ maxLen → w'.ownsRow base e size (.slice A' (n + m) c') (n + m) (xs ++ news) → Below base w w' → w.grownBy w' v.ownBlock → K (a.put o.dst (.slice A' (n + m) c')) w') :
  if Region.wanted o (yielded ops a.tmps) = true then Oper.wp P o a w K Q else E := by
 obtain ⟨i, hi, hz, hsize, hby⟩ := info_parts hinfo
 have hbytes : (n + m) * bytes ≤ 140737488355328 := by
  calc (n + m) * bytes ≤ 1000000 * 1000 := Nat.mul_le_mul h63 hb
   _ ≤ 140737488355328 := by decide
 have hw : Region.wanted o (yielded ops a.tmps) = true := by simp [Region.wanted, hgd]
 rw [if_pos hw]
 cases A with
 | some ad =>
  obtain ⟨v', w', hrun, h2, h3, _⟩ := run_append_own_at (P := P) w base t o.type e i z size bytes ht hi hz hsize hby hzs hsz v n xs hown ad m c news hl (hc ad rfl) h1 (by simp only [maxLen]; omega) hbytes hbase
  obtain ⟨A', c', rfl, q1, q2⟩ := own_shape h2
  unfold Oper.wp execOp
  simp only [ho, resolve, invoke, builtin, Sem.run_bind, Sem.run_pure, Result.andThen_ok, List.map_toArray, List.map_cons, List.map_nil, hs, hx, hrun]
  exact h A' c' w' q1 q2 h2 ((Below.refl _ _).grown h3 hbase fun k hk => (hown.lt k hk).1) h3
 | none =>
  obtain ⟨rfl, rfl⟩ := hnone rfl
  have hn : news = [] := List.eq_nil_of_length_eq_zero (by omega)
  subst hn
  have hrun := run_append_owned_none (P := P) (w := w) base t o.type e i size ht hi v n xs hown
  obtain ⟨A', c', rfl, q1, q2⟩ := own_shape hown
  unfold Oper.wp execOp
  simp only [ho, resolve, invoke, builtin, Sem.run_bind, Sem.run_pure, Result.andThen_ok, List.map_toArray, List.map_cons, List.map_nil, hs, hx, hrun]
  exact h A' c' w q1 q2 (by rw [List.append_nil]; exact hown) (Below.refl _ _) (World.grownBy.refl w _)
end
theorem rd_anyP {w : World} {B : Nat} {A : Option Addr} {xs : List Value} (h : Rd w B A xs) : ∀ ad, A = some ad → ∀ j u, xs[j]? = some u → w.cell? (ad.add j) = some u := by
 intro ad e j u hu
 have hj : j < xs.length := (List.getElem?_eq_some_iff.1 hu).1
 obtain ⟨b, off, e2, _, hc⟩ := h (by omega)
 rw [e] at e2
 injection e2 with e2
 rw [e2, Addr.add_lit]
 exact hc j u hu
theorem rd_heap {W W' : World} {B : Nat} {A : Option Addr} {xs : List Value} (h : Rd W B A xs) (e : ∀ k : Nat, W'.heap[k]? = W.heap[k]?) : Rd W' B A xs := h.keep fun p _ => World.cell?_of_block (e p.block)
theorem byteRow_on (w : World) (l : List UInt8) : Rd (w.alloc (byteRow w l 5)).drew (w.alloc (byteRow w l 5)).drew.heap.size (some ⟨w.heap.size, 0, none⟩) (bytes l) := byteRow_rd w l _ (by simp)
theorem byteRow_at (w : World) (o : Obj) (l : List UInt8) : Rd (((w.alloc o).alloc (byteRow (w.alloc o).drew l 5)).drew.drew) (w.heap.size + 2) (some ⟨w.heap.size + 1, 0, none⟩) (bytes l) := by
 have h := byteRow_rd (w.alloc o).drew l 5 (B := w.heap.size + 2) (by simp)
 have e : (w.alloc o).drew.heap.size = w.heap.size + 1 := by simp
 rw [e] at h
 exact rd_heap h (fun _ => rfl)
theorem byteRow_b4 (w : World) (o : Obj) (l : List UInt8) : Rd (((w.alloc (byteRow w.drew l 5)).alloc o).drew.drew) (w.heap.size + 2) (some ⟨w.heap.size, 0, none⟩) (bytes l) := by
 have h := byteRow_rd w.drew l 5 (B := w.heap.size + 1) (by simp)
 exact rd_heap ((h.alloc (by simp) o).mono (Nat.le_succ _)) (fun _ => rfl)
theorem opG0 {α : Type} {a0 : α} {l : List α} : (List.toArray (a0 :: l))[0]? = some a0 := rfl
theorem opG1 {α : Type} {a0 a1 : α} {l : List α} : (List.toArray (a0 :: a1 :: l))[1]? = some a1 := rfl
theorem opG2 {α : Type} {a0 a1 a2 : α} {l : List α} : (List.toArray (a0 :: a1 :: a2 :: l))[2]? = some a2 := rfl
theorem opG3 {α : Type} {a0 a1 a2 a3 : α} {l : List α} : (List.toArray (a0 :: a1 :: a2 :: a3 :: l))[3]? = some a3 := rfl
theorem opG4 {α : Type} {a0 a1 a2 a3 a4 : α} {l : List α} : (List.toArray (a0 :: a1 :: a2 :: a3 :: a4 :: l))[4]? = some a4 := rfl
theorem opG5 {α : Type} {a0 a1 a2 a3 a4 a5 : α} {l : List α} : (List.toArray (a0 :: a1 :: a2 :: a3 :: a4 :: a5 :: l))[5]? = some a5 := rfl
theorem opG6 {α : Type} {a0 a1 a2 a3 a4 a5 a6 : α} {l : List α} : (List.toArray (a0 :: a1 :: a2 :: a3 :: a4 :: a5 :: a6 :: l))[6]? = some a6 := rfl
theorem opG7 {α : Type} {a0 a1 a2 a3 a4 a5 a6 a7 : α} {l : List α} : (List.toArray (a0 :: a1 :: a2 :: a3 :: a4 :: a5 :: a6 :: a7 :: l))[7]? = some a7 := rfl
theorem opG8 {α : Type} {a0 a1 a2 a3 a4 a5 a6 a7 a8 : α} {l : List α} : (List.toArray (a0 :: a1 :: a2 :: a3 :: a4 :: a5 :: a6 :: a7 :: a8 :: l))[8]? = some a8 := rfl
theorem opG9 {α : Type} {a0 a1 a2 a3 a4 a5 a6 a7 a8 a9 : α} {l : List α} : (List.toArray (a0 :: a1 :: a2 :: a3 :: a4 :: a5 :: a6 :: a7 :: a8 :: a9 :: l))[9]? = some a9 := rfl
theorem opG10 {α : Type} {a0 a1 a2 a3 a4 a5 a6 a7 a8 a9 a10 : α} {l : List α} : (List.toArray (a0 :: a1 :: a2 :: a3 :: a4 :: a5 :: a6 :: a7 :: a8 :: a9 :: a10 :: l))[10]? = some a10 := rfl
theorem opG11 {α : Type} {a0 a1 a2 a3 a4 a5 a6 a7 a8 a9 a10 a11 : α} {l : List α} : (List.toArray (a0 :: a1 :: a2 :: a3 :: a4 :: a5 :: a6 :: a7 :: a8 :: a9 :: a10 :: a11 :: l))[11]? = some a11 := rfl
set_option maxRecDepth 100000 in
set_option maxHeartbeats 16000000 in
theorem rpath_any (s : List UInt8) (sp : Bool) (A : Option Addr) (c : Nat) (base : List (List UInt8)) (w : World) (hr : Rd w w.heap.size A (strs base)) (hs : s.length ≤ 30000) (hb : base.length ≤ 10000) :
  Calls Tryz.prog 63 #[.string (str s), .bool sp, .slice A base.length c] w fun e w' => ∃ v, e = .returned v ∧ w'.ownsRow w.heap.size 9 1 v (pParseP s sp base).length (strs (pParseP s sp base)) ∧ Below w.heap.size w w' := by
 cases sp
 case' false =>
  go_enter Tryz.func63, Tryz.ntmps63
  go_wp2_with (refine wpList_bytesL rfl _ _ _ _ rfl Tryz.underlying9 Tryz.underlying58 Tryz.underlying5 s rfl (by omega) ?_; intro c3 w3 hc3 hm3 hrow3 hr3 hb3 hz3)
  go_loopg [8] 0 (fun k s8 wr => k = 0 ∧ s8 = .int .i64 0 ∧ w3 = wr)
  case atStart => exact ⟨rfl, rfl, rfl⟩
  case' round =>
   obtain ⟨rfl, rfl, rfl⟩ := hrel
   by_cases h0 : s.length = 0
   case' pos =>
    have h0I : ¬ (0 : Int) < (s.length : Int) := by omega
   case' neg =>
    have h0I : (0 : Int) < (s.length : Int) := by omega
   all_goals
    clear h0
    have hst := str_atL (c := c3) (n := s.length) (l := slash false s) (hrow3.rd hz3) (slash_len false s).symm
    have C1 := Lib.hid (cut6_any (slash false s) 47 w3 (by rw [slash_len]; omega))
    have HP := Lib.hid (show pParseP s false base = pGo base (cuts 47 (slash false s)) from rfl)
    have hcl := cuts_le 47 (slash false s)
    rw [slash_len] at hcl
    have HL := Lib.hid fun (x : List UInt8) (hx : x ∈ cuts 47 (slash false s)) => (show x.length ≤ 30000 by have := cuts_sum 47 (slash false s) x hx; rw [slash_len] at this; omega)
    obtain ⟨cs, hcse⟩ : ∃ cs, cs = cuts 47 (slash false s) := ⟨_, rfl⟩
    rw [← hcse] at C1 HP hcl HL
    obtain ⟨T, hT⟩ : ∃ T, T = slash false s := ⟨_, rfl⟩
    rw [← hT] at hst C1
    obtain ⟨R, hR⟩ : ∃ R, R = pParseP s false base := ⟨_, rfl⟩
    rw [← hR] at HP
    have HR := Lib.hid hR
    have h47 : ((47 : UInt8).toNat : Int) = 47 := rfl
    have HBB := Lib.hid hb3
    clear hcse hT hR
 case' true =>
  go_enter Tryz.func63, Tryz.ntmps63
  go_wp2_with (refine wpList_bytesL rfl _ _ _ _ rfl Tryz.underlying9 Tryz.underlying58 Tryz.underlying5 s rfl (by omega) ?_; intro c3 w3 hc3 hm3 hrow3 hr3 hb3 hz3)
  go_loopg [8] s.length (fun k s8 wr => ∃ j : Nat, k = s.length - j ∧ j ≤ s.length ∧ s8 = .int .i64 (j : Int) ∧ Row wr w.heap.size (bytes (upd slB s j)) ∧ Below w.heap.size w wr ∧ w.heap.size < wr.heap.size)
  case atStart => exact ⟨0, rfl, Nat.zero_le _, rfl, hrow3, hb3, hz3⟩
  case' round =>
   clear hrow3 hr3 hb3 hz3
   obtain ⟨j, rfl, hj, rfl, hrow, hbel, hz⟩ := hrel
   by_cases hlt : j < s.length
   ·
    have hlt1 : (j : Int) < (s.length : Int) := by omega
    have hj0 : (0 : Int) ≤ (j : Int) := by omega
    have hc := hrow.1 j _ (upd_at slB hlt)
    have hf := hrow.2.1 j (by rw [bytes_len, upd_len _ _ hj]; exact hlt)
    by_cases h1 : gb s j = 92
    ·
     have hB1 : (((gb s j).toNat : Int) == 92) = true := by rw [h1]; rfl
     have HS := Lib.hid (Row.set hrow (j := j) (by rw [bytes_len, upd_len _ _ hj]; exact hlt) (.int .u8 ((slB (gb s j)).toNat : Int)))
     rw [upd_set slB hlt, show ((slB (gb s j)).toNat : Int) = 47 by rw [h1]; rfl] at HS
     clear h1
     go_wp2
     go_roundg (s.length - (j + 1))
     case measure => omega
     case rel => exact ⟨j + 1, rfl, by omega, by go_num, HS.out, Below.setCell hbel (p := ⟨w.heap.size, j, none⟩) (Nat.le_refl _) _, by simpa using hz⟩
    ·
     have hB1 : (((gb s j).toNat : Int) == 92) = false := by rw [beq_eq_false_iff_ne]; exact fun e => h1 (byte_ext (by show _ = 92; omega))
     have HS := Lib.hid (upd_same slB hlt (show slB (gb s j) = gb s j from if_neg h1))
     clear h1
     go_wp2
     go_roundg (s.length - (j + 1))
     case measure => omega
     case rel => exact ⟨j + 1, rfl, by omega, by go_num, by rw [HS.out]; exact hrow, hbel, hz⟩
   obtain rfl : j = s.length := by omega
   rw [upd_end] at hrow
   have hst := str_atL (c := c3) (n := s.length) (l := slash true s) ((show Row wr w.heap.size (bytes (slash true s)) from hrow).rd hz) (slash_len true s).symm
   have C1 := Lib.hid (cut6_any (slash true s) 47 wr (by rw [slash_len]; omega))
   have HP := Lib.hid (show pParseP s true base = pGo base (cuts 47 (slash true s)) from rfl)
   have hcl := cuts_le 47 (slash true s)
   rw [slash_len] at hcl
   have HL := Lib.hid fun (x : List UInt8) (hx : x ∈ cuts 47 (slash true s)) => (show x.length ≤ 30000 by have := cuts_sum 47 (slash true s) x hx; rw [slash_len] at this; omega)
   obtain ⟨cs, hcse⟩ : ∃ cs, cs = cuts 47 (slash true s) := ⟨_, rfl⟩
   rw [← hcse] at C1 HP hcl HL
   obtain ⟨T, hT⟩ : ∃ T, T = slash true s := ⟨_, rfl⟩
   rw [← hT] at hst C1
   obtain ⟨R, hR⟩ : ∃ R, R = pParseP s true base := ⟨_, rfl⟩
   rw [← hR] at HP
   have HR := Lib.hid hR
   have h47 : ((47 : UInt8).toNat : Int) = 47 := rfl
   have HBB := Lib.hid hbel
   clear hcse hT hR
 all_goals
  go_wp2_with (first
   | (go_at_call 100; go_must (go_fit C1.out); rintro e w2 ⟨v2, rfl, hown2, hb2⟩; obtain ⟨A2, c2, rfl, hc2, hm2, hr2⟩ := own_rdN hown2; have hbw := bnext HBB.out hb2; have hrb := hr.below hbw; have hq2 := hbw.size)
   | (at_builtin; refine wpList_append_rd rfl _ _ _ rfl w2.heap.size _ _ 16 Tryz.underlying38 info_strU rfl _ 0 [] rfl (own_lit0 w2) w.heap.size A base.length c (strs base) rfl (by rw [strs_len]) (hrb.alloc hbw.size _) (strs_one _) (by omega) (by decide) (by simp) ?_; intro A5 c5 w5 hc5 hm5 hown5 hb5 hg5; simp only [Nat.zero_add] at hc5))
  have hown5' := own_zero hown5
  have hb25 : Below w2.heap.size w2 w5 := ((Below.refl w2.heap.size w2).alloc (Nat.le_refl _) _).trans hb5
  clear hown5 hown2 hst
  go_loopg [10, 11] cs.length (fun k s10 s11 wr => ∃ (i : Nat) (out : List (List UInt8)) (A' : Option Addr) (c' : Nat), k = cs.length - i ∧ i ≤ cs.length ∧ s11 = .int .i64 (i : Int) ∧ s10 = .slice A' out.length c' ∧
   wr.ownsRow w2.heap.size 9 1 (.slice A' out.length c') out.length (strs out) ∧ out.length ≤ base.length + i ∧ Hid (pGo base cs = pGo out (cs.drop i)) ∧ Below w2.heap.size w2 wr)
  case atStart => exact ⟨0, base, A5, c5, rfl, Nat.zero_le _, rfl, by simp, hown5', Nat.le_refl _, rfl, hb25⟩
  case round =>
   clear hown5' hb25 hb5 hg5
   obtain ⟨i, out, A', c', rfl, hi, rfl, rfl, hown, hol, hinv, hbel⟩ := hrel
   have hq0 := hbel.size
   by_cases hlt : i < cs.length
   ·
    obtain ⟨b, off, x, rfl, hb', hc2i, hx⟩ := hr2.str_at (k := i) hlt
    have hc := cell_on hbel hc2i hb'
    have hxl := HL.out x (List.mem_of_getElem? hx.out)
    have HI := Lib.hid (pGo_next hinv.out hx.out)
    have hlt1 : (i : Int) < (cs.length : Int) := by omega
    have hi0 : (0 : Int) ≤ (i : Int) := by omega
    have CD := Lib.hid (rdouble_any x wr (by omega))
    have hw1 : IntKind.i64.wrap ((cs.length : Int) - 1) = (cs.length : Int) - 1 := IntWalk.i64_in _ (by omega)
    have hw2 : IntKind.i64.wrap ((out.length : Int) - 1) = (out.length : Int) - 1 := IntWalk.i64_in _ (by omega)
    have hw3 : IntKind.i64.wrap ((i : Int) + 1) = (i : Int) + 1 := IntWalk.i64_in _ (by omega)
    obtain ⟨m, hm0⟩ : ∃ m : Nat, m = out.length - 1 := ⟨_, rfl⟩
    have hmx : max ((out.length : Int) - 1) 0 = (m : Int) := by omega
    have hmo : m ≤ out.length := by omega
    have hdl : (strs out).take m = strs out.dropLast := by rw [hm0]; unfold strs; rw [← List.map_take, dropLast_take]
    have hdn : out.dropLast.length = m := by rw [List.length_dropLast, hm0]
    clear hm0
    have hml : (m : Int) ≤ (out.length : Int) := by omega
    have hm00 : (0 : Int) ≤ (m : Int) := by omega
    obtain ⟨_, _, e0, hnc, hcm⟩ := own_shape hown
    injection e0 with e1 e2 e3; subst e1; subst e3
    clear e2
    have hmc : (m : Int) ≤ (c' : Int) := by omega
    have CS := Lib.hid fun w => rsingle_any x w (by omega)
    have CE := Lib.hid fun A c w h => percent_any 4 A c x w h (by omega)
    by_cases hD : pDouble x = true
    ·
     have HO := Lib.hid (own_cut hown hmo)
     rw [hdl] at HO
     have hnx : pNext out x = out.dropLast := by unfold pNext; rw [if_pos hD]
     have hls : pLastP out x = out.dropLast ++ [[]] := by unfold pLastP; rw [if_pos hD]
     rw [hD] at CD
     rw [hnx, hls] at HI
     have HDN := Lib.hid hdn
     clear hD hx hdl hnx hls hdn hown
     by_cases hl : i + 1 = cs.length
     ·
      have hlst : ((i : Int) == (cs.length : Int) - 1) = true := by rw [beq_iff_eq]; omega
      have HI2 := Lib.hid (show pGo base cs = pGo (out.dropLast ++ [[]]) (cs.drop (i + 1)) by rw [HI.out, if_pos hl])
      clear HI
      go_wp2_with (first
       | (go_at_call 101; go_must (go_fit CD.out); rintro e w6 ⟨rfl, hb6⟩; have HO3 := own_below HO.out hb6 (Nat.le_refl _); obtain ⟨A7, c7, e7, hc7, hm7, hr7⟩ := own_rdN HO3; injection e7 with e7 _ e8; subst e7; subst e8; have hq6 := hb6.size)
       | (at_builtin; refine wpList_append_rd rfl _ _ _ rfl w2.heap.size _ _ 16 Tryz.underlying38 info_strU rfl _ 0 [] rfl (own_lit0B w6 (by omega)) w6.heap.size A' m c' (strs out.dropLast) rfl (by rw [strs_len, HDN.out]) (hr7.alloc (Nat.le_refl _) _) (strs_one _) (by omega) (by decide) (by simp; omega) ?_; intro A8 c8 w8 hc8 hm8 hown8 hb8 hg8; have hown9 := own_zero hown8; have hq8 := hg8.size; simp only [Nat.zero_add] at hc8)
       | (at_builtin; refine wpList_append_lit rfl _ _ _ rfl w2.heap.size _ _ 1 16 Tryz.underlying38 info_strU rfl (by decide) _ _ _ rfl hown9 _ 1 1 _ rfl rfl (by simp [Value.oneCell']) (by omega) (by decide) (by simp at hq8; omega) ?_; intro A10 c10 w10 hc10 hm10 hown10 hb10 hg10))
      go_roundg (cs.length - (i + 1))
      case measure => omega
      case rel => exact pRel2 HDN.out hown10 HI2.out (by omega) (by omega) ((((hbel.trans (hb6.mono hq0)).alloc (by omega) _).trans hb8).trans hb10) (by go_num)
     ·
      have hlst : ((i : Int) == (cs.length : Int) - 1) = false := by rw [beq_eq_false_iff_ne]; omega
      have HI2 := Lib.hid (show pGo base cs = pGo out.dropLast (cs.drop (i + 1)) by rw [HI.out, if_neg hl])
      clear HI
      go_wp2_with (go_at_call 101; go_must (go_fit CD.out); rintro e w6 ⟨rfl, hb6⟩; have HO3 := own_below HO.out hb6 (Nat.le_refl _))
      go_roundg (cs.length - (i + 1))
      case measure => omega
      case rel => exact ⟨i + 1, out.dropLast, A', c', rfl, by omega, by go_num, by rw [HDN.out], by rw [HDN.out]; exact HO3, by rw [HDN.out]; omega, HI2.out, hbel.trans (hb6.mono hq0)⟩
    ·
     have hD' : pDouble x = false := by simpa using hD
     rw [hD'] at CD
     by_cases hS : pSingle x = true
     ·
      have hnx : pNext out x = out := by unfold pNext; rw [if_neg hD, if_pos hS]
      have hls : pLastP out x = out ++ [[]] := by unfold pLastP; rw [if_neg hD, if_pos hS]
      rw [hS] at CS
      rw [hnx, hls] at HI
      have HO := Lib.hid hown
      clear hD hD' hS hx hdl hdn hnx hls hown
      by_cases hl : i + 1 = cs.length
      ·
       have hlst : ((i : Int) == (cs.length : Int) - 1) = true := by rw [beq_iff_eq]; omega
       have HI2 := Lib.hid (show pGo base cs = pGo (out ++ [[]]) (cs.drop (i + 1)) by rw [HI.out, if_pos hl])
       clear HI
       go_wp2_with (first
        | (go_at_call 101; go_must (go_fit CD.out); rintro e w6 ⟨rfl, hb6⟩; have hc6 := cell_on hb6 hc (by omega))
        | (go_at_call 102; go_must (go_fit (CS.out w6)); rintro e w7 ⟨rfl, hb7⟩; have hb67 := bnext hb6 hb7; have HO3 := own_below HO.out hb67 (Nat.le_refl _); obtain ⟨A7, c7, e7, hc7, hm7, hr7⟩ := own_rdN HO3; injection e7 with e7 _ e8; subst e7; subst e8; have hq6 := hb67.size)
        | (at_builtin; refine wpList_append_rd rfl _ _ _ rfl w2.heap.size _ _ 16 Tryz.underlying38 info_strU rfl _ 0 [] rfl (own_lit0B w7 (by omega)) w7.heap.size A' out.length c' (strs out) rfl (by rw [strs_len]) (hr7.alloc (Nat.le_refl _) _) (strs_one _) (by omega) (by decide) (by simp; omega) ?_; intro A8 c8 w8 hc8 hm8 hown8 hb8 hg8; have hown9 := own_zero hown8; have hq8 := hg8.size; simp only [Nat.zero_add] at hc8)
        | (at_builtin; refine wpList_append_lit rfl _ _ _ rfl w2.heap.size _ _ 1 16 Tryz.underlying38 info_strU rfl (by decide) _ _ _ rfl hown9 _ 1 1 _ rfl rfl (by simp [Value.oneCell']) (by omega) (by decide) (by simp at hq8; omega) ?_; intro A10 c10 w10 hc10 hm10 hown10 hb10 hg10))
       go_roundg (cs.length - (i + 1))
       case measure => omega
       case rel => exact pRel2 rfl hown10 HI2.out (by omega) (by omega) ((((hbel.trans (hb67.mono hq0)).alloc (by omega) _).trans hb8).trans hb10) (by go_num)
      ·
       have hlst : ((i : Int) == (cs.length : Int) - 1) = false := by rw [beq_eq_false_iff_ne]; omega
       have HI2 := Lib.hid (show pGo base cs = pGo out (cs.drop (i + 1)) by rw [HI.out, if_neg hl])
       clear HI
       go_wp2_with (first
        | (go_at_call 101; go_must (go_fit CD.out); rintro e w6 ⟨rfl, hb6⟩; have hc6 := cell_on hb6 hc (by omega))
        | (go_at_call 102; go_must (go_fit (CS.out w6)); rintro e w7 ⟨rfl, hb7⟩; have hb67 := bnext hb6 hb7; have HO3 := own_below HO.out hb67 (Nat.le_refl _)))
       go_roundg (cs.length - (i + 1))
       case measure => omega
       case rel => exact ⟨i + 1, out, A', c', rfl, by omega, by go_num, rfl, HO3, by omega, HI2.out, hbel.trans (hb67.mono hq0)⟩
     ·
      have hS' : pSingle x = false := by simpa using hS
      have hnx : pNext out x = out ++ [pEnc 4 x] := by unfold pNext; rw [if_neg hD, if_neg hS]
      have hls : pLastP out x = out ++ [pEnc 4 x] := by unfold pLastP; rw [if_neg hD, if_neg hS]
      rw [hS'] at CS
      rw [hnx, hls, ite_self] at HI
      have HO := Lib.hid hown
      clear hD hD' hS hS' hx hdl hdn hnx hls hown
      obtain ⟨bl, hbl⟩ : ∃ bl : Bool, ((i : Int) == (cs.length : Int) - 1) = bl := ⟨_, rfl⟩
      go_wp2_with (first
       | (go_at_call 101; go_must (go_fit CD.out); rintro e w6 ⟨rfl, hb6⟩; have hc6 := cell_on hb6 hc (by omega))
       | (go_at_call 102; go_must (go_fit (CS.out w6)); rintro e w7 ⟨rfl, hb7⟩; have hb67 := bnext hb6 hb7; have HO3 := own_below HO.out hb67 (Nat.le_refl _); obtain ⟨A7, c7, e7, hc7, hm7, hr7⟩ := own_rdN HO3; injection e7 with e7 _ e8; subst e7; subst e8; have hq6 := hb67.size; have hc7' := cell_on hb7 hc6 (by have := hb6.size; omega)))
      have hkb := fun w => bytes_at w x
      have HNN := Lib.hid (own_none HO3)
      have H1 := Lib.hid (own_lit0B w7 (B := w2.heap.size) (by omega))
      have H2 := Lib.hid fun o => (show ((w7.alloc o).alloc (.cells #[] 9)).ownsRow w2.heap.size 9 1 (.slice (some ⟨w7.heap.size + 1, 0, none⟩) 0 0) 0 [] by
       have h := own_lit0B (w7.alloc o) (B := w2.heap.size) (by simp; omega)
       simpa using h)
      have H3 := Lib.hid fun o => (own_lit0B w7 (B := w2.heap.size) (by omega)).alloc o
      have HB7 := hbel.trans (hb67.mono hq0)
      have hl7 : w2.heap.size ≤ w7.heap.size := by omega
      have hcB := hc2i
      refine wp_region_held_drew (S := fun w' => w'.cell? ⟨b, off + i, none⟩ = some (.string (str x))) (by kernel_rfl) hc7' (fun hHeld => ?_)
      refine wpAnyH_take (i := 1) (v := ?_) opG1 (by kernel_rfl) (by kernel_rfl) (by kernel_rfl) (fun _ _ _ h => h) (Or.inl ⟨by rfl, ?_⟩) (by assumption) ?_
      rotate_left
      · (intro w hSw; (try dsimp only at hSw); go_simp; (try with_reducible rfl))
      try simp only [Act.put, List.setIfInBounds_toArray, List.set_cons_zero, List.set_cons_succ]
      refine wpAnyH_take (i := 3) (v := ?_) opG3 (by kernel_rfl) (by kernel_rfl) (by kernel_rfl) (fun _ _ _ h => h) (Or.inl ⟨by rfl, ?_⟩) (by assumption) ?_
      rotate_left
      · (intro w hSw; (try dsimp only at hSw); go_simp; (try with_reducible rfl))
      try simp only [Act.put, List.setIfInBounds_toArray, List.set_cons_zero, List.set_cons_succ]
      refine wpAnyH_take (i := 4) (v := ?_) opG4 (by kernel_rfl) (by kernel_rfl) (by kernel_rfl) (fun _ _ _ h => h) (Or.inl ⟨by rfl, ?_⟩) (by assumption) ?_
      rotate_left
      · (intro w hSw; (try dsimp only at hSw); go_simp; (try with_reducible rfl))
      try simp only [Act.put, List.setIfInBounds_toArray, List.set_cons_zero, List.set_cons_succ]
      refine wpAnyH_take (i := 5) (v := ?_) opG5 (by kernel_rfl) (by kernel_rfl) (by kernel_rfl) (fun _ _ _ h => h) (Or.inl ⟨by rfl, ?_⟩) (by assumption) ?_
      rotate_left
      · (intro w hSw; (try dsimp only at hSw); go_simp; (try with_reducible rfl))
      try simp only [Act.put, List.setIfInBounds_toArray, List.set_cons_zero, List.set_cons_succ]
      refine wpAnyH_take (i := 6) (v := ?_) opG6 (by kernel_rfl) (by kernel_rfl) (by kernel_rfl) (fun _ _ _ h => h) (Or.inl ⟨by rfl, ?_⟩) (by assumption) ?_
      rotate_left
      · (intro w hSw; (try dsimp only at hSw); go_simp; (try with_reducible rfl))
      try simp only [Act.put, List.setIfInBounds_toArray, List.set_cons_zero, List.set_cons_succ]
      refine wpAnyH_ready (rs := [0, 7]) (by kernel_rfl) (by simp) (AllReadyH.cons opG0 (fun K hK => ?_) (AllReadyH.cons opG7 (fun K hK => ?_) AllReadyH.nil))
      ·
       go_simp
       refine hK.out _ _ ?_ (fun hHeld => ?_)
       · (try dsimp only); first | exact cell_on (HB7.alloc hl7 _) hcB hb' | exact cell_on (Below.drew (HB7.alloc hl7 _)) hcB hb' | exact cell_on (Below.drew (Below.drew (HB7.alloc hl7 _))) hcB hb' | exact cell_on (Below.drew (Below.drew (Below.drew (HB7.alloc hl7 _)))) hcB hb'
       clear hK K
       try simp only [Act.put, List.setIfInBounds_toArray, List.set_cons_zero, List.set_cons_succ]
       refine wpAnyH_ready (rs := [2, 7]) (by kernel_rfl) (by simp) (AllReadyH.cons opG2 (fun K hK => ?_) (AllReadyH.cons opG7 (fun K hK => ?_) AllReadyH.nil))
       ·
        refine step_append_pa rfl _ _ _ rfl w2.heap.size _ _ 1 16 Tryz.underlying38 info_strU rfl (by decide) (.slice (some ⟨w7.heap.size, 0, none⟩) 0 0) 0 [] rfl H1.out A' out.length c' (strs out) rfl (by rw [strs_len]; simp) HNN.out (rd_anyP (hr7.alloc (Nat.le_refl _) _)) (strs_one _) (by omega) (by decide) (by simp; omega) ?_
        intro A8 c8 w8 hc8 hm8 hown8 hb8 hg8
        have hown9 := own_zero hown8
        have hq8 : w7.heap.size + 1 ≤ w8.heap.size := Nat.le_trans (by simp) hg8.size
        simp only [Nat.zero_add] at hc8 ⊢
        have hbz : Below w2.heap.size w2 w8 := ((HB7.alloc hl7 _).drew).trans hb8
        have hc8b := cell_on hbz hcB hb'
        refine hK.out _ _ ?_ (fun hHeld => ?_)
        · (try dsimp only); exact hc8b
        clear hK K
        try simp only [Act.put, List.setIfInBounds_toArray, List.set_cons_zero, List.set_cons_succ]
        refine wpAnyH_ready (rs := [7]) (by kernel_rfl) (by simp) (AllReadyH.cons opG7 (fun K hK => ?_) AllReadyH.nil)
        go_simp
        refine hK.out _ _ ?_ (fun hHeld => ?_)
        · (try dsimp only); first | exact cell_on (hbz.alloc (by omega) _) hcB hb' | exact cell_on (Below.drew (hbz.alloc (by omega) _)) hcB hb' | exact cell_on (Below.drew (Below.drew (hbz.alloc (by omega) _))) hcB hb' | exact cell_on (Below.drew (Below.drew (Below.drew (hbz.alloc (by omega) _)))) hcB hb'
        clear hK K
        try simp only [Act.put, List.setIfInBounds_toArray, List.set_cons_zero, List.set_cons_succ]
        refine wpAnyH_ready (rs := [8]) (by kernel_rfl) (by simp) (AllReadyH.cons opG8 (fun K hK => ?_) AllReadyH.nil)
        refine step_call2 rfl _ _ _ _ rfl (fun _ _ => rfl) (.int .i64 4) (.slice (some ⟨w8.heap.size, 0, none⟩) x.length _) rfl rfl _ (CE.out _ _ (w8.alloc (byteRow w8 x 5)).drew (byteRow_on w8 x)) ?_
        rintro e w9 ⟨rfl, hb9⟩
        refine ⟨_, rfl, ?_⟩
        have hown9' := own_below (w := (w8.alloc (byteRow w8 x 5)).drew) (hown9.alloc (byteRow w8 x 5)) hb9 (Nat.le_refl _)
        have hbz9 : Below w2.heap.size w2 w9 := ((hbz.alloc (by omega) (byteRow w8 x 5)).drew).trans (hb9.mono (by simp; omega))
        have hc9b := cell_on hbz9 hcB hb'
        have hq9 := hbz9.size
        refine hK.out _ _ ?_ (fun hHeld => ?_)
        · (try dsimp only); exact hc9b
        clear hK K
        try simp only [Act.put, List.setIfInBounds_toArray, List.set_cons_zero, List.set_cons_succ]
        refine wpAnyH_ready (rs := [9]) (by kernel_rfl) (by simp) (AllReadyH.cons opG9 (fun K hK => ?_) AllReadyH.nil)
        go_simp
        refine hK.out _ _ ?_ (fun hHeld => ?_)
        · (try dsimp only); first | exact cell_on (hbz9.alloc hq9 _) hcB hb' | exact cell_on (Below.drew (hbz9.alloc hq9 _)) hcB hb' | exact cell_on (Below.drew (Below.drew (hbz9.alloc hq9 _))) hcB hb' | exact cell_on (Below.drew (Below.drew (Below.drew (hbz9.alloc hq9 _)))) hcB hb'
        clear hK K
        try simp only [Act.put, List.setIfInBounds_toArray, List.set_cons_zero, List.set_cons_succ]
        refine wpAnyH_ready (rs := [10]) (by kernel_rfl) (by simp) (AllReadyH.cons opG10 (fun K hK => ?_) AllReadyH.nil)
        refine step_append_cells rfl _ _ _ rfl w2.heap.size _ _ 1 16 Tryz.underlying38 info_strU rfl (by decide) _ _ _ rfl (hown9'.alloc _) w9.heap.size _ 1 1 9 (0, 0) rfl (heap_alloc_new w9 _) rfl (by simp [Value.oneCell']) (by omega) (by decide) (by simp; omega) ?_
        intro A10 c10 w10 hc10 hm10 hown10 hb10 hg10
        have hbz10 : Below w2.heap.size w2 w10 := (hbz9.alloc hq9 _).trans hb10
        refine hK.out _ _ ?_ (fun hHeld => ?_)
        · (try dsimp only); first | exact cell_on hbz10 hcB hb' | exact cell_on (Below.drew hbz10) hcB hb' | exact cell_on (Below.drew (Below.drew hbz10)) hcB hb' | exact cell_on (Below.drew (Below.drew (Below.drew hbz10))) hcB hb'
        clear hK K
        try simp only [Act.put, List.setIfInBounds_toArray, List.set_cons_zero, List.set_cons_succ]
        refine wpAnyH_take (i := 11) (v := ?_) opG11 (by kernel_rfl) (by kernel_rfl) (by kernel_rfl) (fun _ _ _ h => h) (Or.inl ⟨by rfl, ?_⟩) (by assumption) ?_
        rotate_left
        · (intro w hSw; (try dsimp only at hSw); go_simp; (try with_reducible rfl))
        try simp only [Act.put, List.setIfInBounds_toArray, List.set_cons_zero, List.set_cons_succ]
        refine wpAnyH_done (by kernel_rfl) ?_ _
        go_wp2
        go_roundg (cs.length - (i + 1))
        case measure => omega
        case rel => exact pRel2 rfl hown10 HI.out (by omega) (by omega) hbz10 (by go_num)
       ·
        go_simp
        refine hK.out _ _ ?_ (fun hHeld => ?_)
        · (try dsimp only); first | exact cell_on ((HB7.alloc hl7 _).alloc (by simp; omega) _) hcB hb' | exact cell_on (Below.drew ((HB7.alloc hl7 _).alloc (by simp; omega) _)) hcB hb' | exact cell_on (Below.drew (Below.drew ((HB7.alloc hl7 _).alloc (by simp; omega) _))) hcB hb' | exact cell_on (Below.drew (Below.drew (Below.drew ((HB7.alloc hl7 _).alloc (by simp; omega) _)))) hcB hb'
        clear hK K
        try simp only [Act.put, List.setIfInBounds_toArray, List.set_cons_zero, List.set_cons_succ]
        refine wpAnyH_ready (rs := [2]) (by kernel_rfl) (by simp) (AllReadyH.cons opG2 (fun K hK => ?_) AllReadyH.nil)
        refine step_append_pa rfl _ _ _ rfl w2.heap.size _ _ 1 16 Tryz.underlying38 info_strU rfl (by decide) (.slice (some ⟨w7.heap.size, 0, none⟩) 0 0) 0 [] rfl (H3.out _) A' out.length c' (strs out) rfl (by rw [strs_len]; simp) HNN.out (rd_anyP ((hr7.alloc (Nat.le_refl _) _).alloc (by simp) _)) (strs_one _) (by omega) (by decide) (by simp; omega) ?_
        intro A8 c8 w8 hc8 hm8 hown8 hb8 hg8
        have hown9 := own_zero hown8
        have hq8 : w7.heap.size + 1 ≤ w8.heap.size := Nat.le_trans (by simp) hg8.size
        simp only [Nat.zero_add] at hc8 ⊢
        have hbz : Below w2.heap.size w2 w8 := (((HB7.alloc hl7 _).alloc (by simp; omega) _).drew.drew).trans hb8
        have hc8b := cell_on hbz hcB hb'
        refine hK.out _ _ ?_ (fun hHeld => ?_)
        · (try dsimp only); exact hc8b
        clear hK K
        try simp only [Act.put, List.setIfInBounds_toArray, List.set_cons_zero, List.set_cons_succ]
        refine wpAnyH_ready (rs := [8]) (by kernel_rfl) (by simp) (AllReadyH.cons opG8 (fun K hK => ?_) AllReadyH.nil)
        refine step_call2 rfl _ _ _ _ rfl (fun _ _ => rfl) (.int .i64 4) (.slice (some ⟨w7.heap.size + 1, 0, none⟩) x.length _) rfl rfl _ (CE.out _ _ w8 (rd_row8 (byteRow_at w7 (.cells #[] 9) x) hg8 (fun e => by have e2 : some w7.heap.size = some (w7.heap.size + 1) := e; injection e2 with e2; omega))) ?_
        rintro e w9 ⟨rfl, hb9⟩
        refine ⟨_, rfl, ?_⟩
        have hown9' := own_below (w := w8) hown9 hb9 (Nat.le_refl _)
        have hbz9 : Below w2.heap.size w2 w9 := (hbz).trans (hb9.mono (by omega))
        have hc9b := cell_on hbz9 hcB hb'
        have hq9 := hbz9.size
        refine hK.out _ _ ?_ (fun hHeld => ?_)
        · (try dsimp only); exact hc9b
        clear hK K
        try simp only [Act.put, List.setIfInBounds_toArray, List.set_cons_zero, List.set_cons_succ]
        refine wpAnyH_ready (rs := [9]) (by kernel_rfl) (by simp) (AllReadyH.cons opG9 (fun K hK => ?_) AllReadyH.nil)
        go_simp
        refine hK.out _ _ ?_ (fun hHeld => ?_)
        · (try dsimp only); first | exact cell_on (hbz9.alloc hq9 _) hcB hb' | exact cell_on (Below.drew (hbz9.alloc hq9 _)) hcB hb' | exact cell_on (Below.drew (Below.drew (hbz9.alloc hq9 _))) hcB hb' | exact cell_on (Below.drew (Below.drew (Below.drew (hbz9.alloc hq9 _)))) hcB hb'
        clear hK K
        try simp only [Act.put, List.setIfInBounds_toArray, List.set_cons_zero, List.set_cons_succ]
        refine wpAnyH_ready (rs := [10]) (by kernel_rfl) (by simp) (AllReadyH.cons opG10 (fun K hK => ?_) AllReadyH.nil)
        refine step_append_cells rfl _ _ _ rfl w2.heap.size _ _ 1 16 Tryz.underlying38 info_strU rfl (by decide) _ _ _ rfl (hown9'.alloc _) w9.heap.size _ 1 1 9 (0, 0) rfl (heap_alloc_new w9 _) rfl (by simp [Value.oneCell']) (by omega) (by decide) (by simp; omega) ?_
        intro A10 c10 w10 hc10 hm10 hown10 hb10 hg10
        have hbz10 : Below w2.heap.size w2 w10 := (hbz9.alloc hq9 _).trans hb10
        refine hK.out _ _ ?_ (fun hHeld => ?_)
        · (try dsimp only); first | exact cell_on hbz10 hcB hb' | exact cell_on (Below.drew hbz10) hcB hb' | exact cell_on (Below.drew (Below.drew hbz10)) hcB hb' | exact cell_on (Below.drew (Below.drew (Below.drew hbz10))) hcB hb'
        clear hK K
        try simp only [Act.put, List.setIfInBounds_toArray, List.set_cons_zero, List.set_cons_succ]
        refine wpAnyH_take (i := 11) (v := ?_) opG11 (by kernel_rfl) (by kernel_rfl) (by kernel_rfl) (fun _ _ _ h => h) (Or.inl ⟨by rfl, ?_⟩) (by assumption) ?_
        rotate_left
        · (intro w hSw; (try dsimp only at hSw); go_simp; (try with_reducible rfl))
        try simp only [Act.put, List.setIfInBounds_toArray, List.set_cons_zero, List.set_cons_succ]
        refine wpAnyH_done (by kernel_rfl) ?_ _
        go_wp2
        go_roundg (cs.length - (i + 1))
        case measure => omega
        case rel => exact pRel2 rfl hown10 HI.out (by omega) (by omega) hbz10 (by go_num)
      ·
       go_simp
       refine hK.out _ _ ?_ (fun hHeld => ?_)
       · (try dsimp only); first | exact cell_on (HB7.alloc hl7 _) hcB hb' | exact cell_on (Below.drew (HB7.alloc hl7 _)) hcB hb' | exact cell_on (Below.drew (Below.drew (HB7.alloc hl7 _))) hcB hb' | exact cell_on (Below.drew (Below.drew (Below.drew (HB7.alloc hl7 _)))) hcB hb'
       clear hK K
       try simp only [Act.put, List.setIfInBounds_toArray, List.set_cons_zero, List.set_cons_succ]
       refine wpAnyH_ready (rs := [0]) (by kernel_rfl) (by simp) (AllReadyH.cons opG0 (fun K hK => ?_) AllReadyH.nil)
       go_simp
       refine hK.out _ _ ?_ (fun hHeld => ?_)
       · (try dsimp only); first | exact cell_on ((HB7.alloc hl7 _).alloc (by simp; omega) _) hcB hb' | exact cell_on (Below.drew ((HB7.alloc hl7 _).alloc (by simp; omega) _)) hcB hb' | exact cell_on (Below.drew (Below.drew ((HB7.alloc hl7 _).alloc (by simp; omega) _))) hcB hb' | exact cell_on (Below.drew (Below.drew (Below.drew ((HB7.alloc hl7 _).alloc (by simp; omega) _)))) hcB hb'
       clear hK K
       try simp only [Act.put, List.setIfInBounds_toArray, List.set_cons_zero, List.set_cons_succ]
       refine wpAnyH_ready (rs := [2]) (by kernel_rfl) (by simp) (AllReadyH.cons opG2 (fun K hK => ?_) AllReadyH.nil)
       refine step_append_pa rfl _ _ _ rfl w2.heap.size _ _ 1 16 Tryz.underlying38 info_strU rfl (by decide) (.slice (some ⟨w7.heap.size + 1, 0, none⟩) 0 0) 0 [] rfl (H2.out _) A' out.length c' (strs out) rfl (by rw [strs_len]; simp) HNN.out (rd_anyP ((hr7.alloc (Nat.le_refl _) _).alloc (by simp) _)) (strs_one _) (by omega) (by decide) (by simp; omega) ?_
       intro A8 c8 w8 hc8 hm8 hown8 hb8 hg8
       have hown9 := own_zero hown8
       have hq8 : w7.heap.size + 1 ≤ w8.heap.size := Nat.le_trans (by simp) hg8.size
       simp only [Nat.zero_add] at hc8 ⊢
       have hbz : Below w2.heap.size w2 w8 := (((HB7.alloc hl7 _).alloc (by simp; omega) _).drew.drew).trans hb8
       have hc8b := cell_on hbz hcB hb'
       refine hK.out _ _ ?_ (fun hHeld => ?_)
       · (try dsimp only); exact hc8b
       clear hK K
       try simp only [Act.put, List.setIfInBounds_toArray, List.set_cons_zero, List.set_cons_succ]
       refine wpAnyH_ready (rs := [8]) (by kernel_rfl) (by simp) (AllReadyH.cons opG8 (fun K hK => ?_) AllReadyH.nil)
       refine step_call2 rfl _ _ _ _ rfl (fun _ _ => rfl) (.int .i64 4) (.slice (some ⟨w7.heap.size, 0, none⟩) x.length _) rfl rfl _ (CE.out _ _ w8 (rd_row8 (byteRow_b4 w7 (.cells #[] 9) x) hg8 (fun e => by have e2 : some (w7.heap.size + 1) = some w7.heap.size := e; injection e2 with e2; omega))) ?_
       rintro e w9 ⟨rfl, hb9⟩
       refine ⟨_, rfl, ?_⟩
       have hown9' := own_below (w := w8) hown9 hb9 (Nat.le_refl _)
       have hbz9 : Below w2.heap.size w2 w9 := (hbz).trans (hb9.mono (by omega))
       have hc9b := cell_on hbz9 hcB hb'
       have hq9 := hbz9.size
       refine hK.out _ _ ?_ (fun hHeld => ?_)
       · (try dsimp only); exact hc9b
       clear hK K
       try simp only [Act.put, List.setIfInBounds_toArray, List.set_cons_zero, List.set_cons_succ]
       refine wpAnyH_ready (rs := [9]) (by kernel_rfl) (by simp) (AllReadyH.cons opG9 (fun K hK => ?_) AllReadyH.nil)
       go_simp
       refine hK.out _ _ ?_ (fun hHeld => ?_)
       · (try dsimp only); first | exact cell_on (hbz9.alloc hq9 _) hcB hb' | exact cell_on (Below.drew (hbz9.alloc hq9 _)) hcB hb' | exact cell_on (Below.drew (Below.drew (hbz9.alloc hq9 _))) hcB hb' | exact cell_on (Below.drew (Below.drew (Below.drew (hbz9.alloc hq9 _)))) hcB hb'
       clear hK K
       try simp only [Act.put, List.setIfInBounds_toArray, List.set_cons_zero, List.set_cons_succ]
       refine wpAnyH_ready (rs := [10]) (by kernel_rfl) (by simp) (AllReadyH.cons opG10 (fun K hK => ?_) AllReadyH.nil)
       refine step_append_cells rfl _ _ _ rfl w2.heap.size _ _ 1 16 Tryz.underlying38 info_strU rfl (by decide) _ _ _ rfl (hown9'.alloc _) w9.heap.size _ 1 1 9 (0, 0) rfl (heap_alloc_new w9 _) rfl (by simp [Value.oneCell']) (by omega) (by decide) (by simp; omega) ?_
       intro A10 c10 w10 hc10 hm10 hown10 hb10 hg10
       have hbz10 : Below w2.heap.size w2 w10 := (hbz9.alloc hq9 _).trans hb10
       refine hK.out _ _ ?_ (fun hHeld => ?_)
       · (try dsimp only); first | exact cell_on hbz10 hcB hb' | exact cell_on (Below.drew hbz10) hcB hb' | exact cell_on (Below.drew (Below.drew hbz10)) hcB hb' | exact cell_on (Below.drew (Below.drew (Below.drew hbz10))) hcB hb'
       clear hK K
       try simp only [Act.put, List.setIfInBounds_toArray, List.set_cons_zero, List.set_cons_succ]
       refine wpAnyH_take (i := 11) (v := ?_) opG11 (by kernel_rfl) (by kernel_rfl) (by kernel_rfl) (fun _ _ _ h => h) (Or.inl ⟨by rfl, ?_⟩) (by assumption) ?_
       rotate_left
       · (intro w hSw; (try dsimp only at hSw); go_simp; (try with_reducible rfl))
       try simp only [Act.put, List.setIfInBounds_toArray, List.set_cons_zero, List.set_cons_succ]
       refine wpAnyH_done (by kernel_rfl) ?_ _
       go_wp2
       go_roundg (cs.length - (i + 1))
       case measure => omega
       case rel => exact pRel2 rfl hown10 HI.out (by omega) (by omega) hbz10 (by go_num)
   ·
    obtain rfl : i = cs.length := by omega
    have HE := Lib.hid (show R = out by rw [HP.out, hinv.out, List.drop_length]; rfl)
    go_wp2
    go_ret
    refine ⟨_, rfl, ?_, hbw.trans (hbel.mono hq2)⟩
    rw [← HR.out, HE.out]
    exact own_base hown hq2
end Go.Proofs.YtoapelcofjjdnaaGreatDoor
