/- A part of the proof. -/
import Derived.Test.YtoapelcofjjdnaaGreatDoorH01
import Derived.Test.YtoapelcofjjdnaaGreatDoorH10
import Derived.Test.YtoapelcofjjdnaaGreatDoorH11
import Derived.Test.YtoapelcofjjdnaaGreatDoorH09
namespace Go.Proofs.YtoapelcofjjdnaaGreatDoor
set_option linter.all false
open Go.RowKit
def IdxP (c : Int) (l : List Int) (i : Int) : Prop := (i = -1 ∧ c ∉ l) ∨ ∃ a t : List Int, l = a ++ c :: t ∧ c ∉ a ∧ i = (a.length : Int)
theorem idx_none {c : Int} {l : List Int} (h : c ∉ l) : IdxP c l (-1) := .inl ⟨rfl, h⟩
theorem idx_here {c : Int} {l : List Int} {j : Nat} {x : Int} (h : l[j]? = some x) (hn : c ∉ l.take j) (e : x = c) : IdxP c l (j : Int) := by
 obtain ⟨hj, e2⟩ := List.getElem?_eq_some_iff.1 h
 refine .inr ⟨l.take j, l.drop (j + 1), ?_, hn, by rw [List.length_take]; omega⟩
 rw [← e, ← e2, ← List.drop_eq_getElem_cons hj, List.take_append_drop]
theorem idx_next {c : Int} {l : List Int} {j : Nat} {x : Int} (h : l[j]? = some x) (hn : c ∉ l.take j) (e : x ≠ c) : c ∉ l.take (j + 1) := by
 obtain ⟨hj, e2⟩ := List.getElem?_eq_some_iff.1 h
 rw [take_snoc' l j hj, e2]
 intro hm
 rcases List.mem_append.1 hm with hm | hm
 · exact hn hm
 · exact e (List.mem_singleton.1 hm).symm
theorem idx_mem_iff {c : Int} {l : List Int} {i : Int} (h : IdxP c l i) : decide (0 ≤ i) = decide (c ∈ l) := by
 rcases h with ⟨rfl, h⟩ | ⟨a, t, rfl, _, rfl⟩
 · rw [decide_eq_false h]; rfl
 · rw [decide_eq_true (show c ∈ a ++ c :: t by simp), decide_eq_true_iff]; omega
set_option maxRecDepth 100000 in
set_option maxHeartbeats 2000000 in
theorem indexZ_any (ch : Int) (A : Option Addr) (c : Nat) (l : List Int) (w : World) (hr : Rd w w.heap.size A (runes l)) (hl : l.length ≤ 1000000) :
  Calls Tryz.prog 142 #[.slice A l.length c, .int .i32 ch] w fun e w' => ∃ i : Int, e = .returned (.int .i64 i) ∧ Hid (IdxP ch l i) ∧ Below w.heap.size w w' := by
 go_enter Tryz.func142, Tryz.ntmps142
 go_wp2
 go_loopg [8] (l.length) (fun k i wr => ∃ j : Nat, k = l.length - j ∧ j ≤ l.length ∧ i = .int .i64 j ∧ Hid (ch ∉ l.take j) ∧ Below w.heap.size w wr)
 case atStart => exact ⟨0, rfl, Nat.zero_le _, rfl, (fun h => by cases h), Below.refl _ _⟩
 case round =>
  obtain ⟨j, rfl, hj, rfl, hn, hbel⟩ := hrel
  by_cases hlt : j < l.length
  ·
   obtain ⟨b, off, x, rfl, hb, hc, hx⟩ := (hr.below hbel).rune_at hlt
   have hlt1 : (j : Int) < (l.length : Int) := by omega
   have hj0 : (0 : Int) ≤ (j : Int) := by omega
   by_cases he : x = ch
   ·
    subst he
    have HI := Lib.hid (idx_here hx.out hn.out rfl)
    go_wp2
    go_ret
    exact ⟨_, rfl, HI.out, hbel⟩
   ·
    have hb1 : (x == ch) = false := by rw [beq_eq_false_iff_ne]; exact he
    have HI := Lib.hid (idx_next hx.out hn.out he)
    clear he
    go_wp2
    go_roundg (l.length - (j + 1))
    case measure => omega
    case rel => exact ⟨j + 1, rfl, by omega, by go_num, HI.out, hbel⟩
  ·
   obtain rfl : j = l.length := by omega
   have HI := Lib.hid (show IdxP ch l (-1) from idx_none (by have h := hn.out; rwa [List.take_length] at h))
   go_wp2
   go_ret
   exact ⟨_, rfl, HI.out, hbel⟩
set_option maxRecDepth 100000 in
set_option maxHeartbeats 1000000 in
theorem containsZ_any (ch : Int) (A : Option Addr) (c : Nat) (l : List Int) (w : World) (hr : Rd w w.heap.size A (runes l)) (hl : l.length ≤ 1000000) :
  Calls Tryz.prog 116 #[.slice A l.length c, .int .i32 ch] w fun e w' => e = .returned (.bool (decide (ch ∈ l))) ∧ Below w.heap.size w w' := by
 go_enter Tryz.func116, Tryz.ntmps116
 go_wp2_with (go_at_call 142; go_must (go_fit (indexZ_any ch A c l w hr hl)); rintro e w1 ⟨i, rfl, hi, hb1⟩)
 go_ret
 exact ⟨ret_bool (idx_mem_iff hi.out), hb1⟩
set_option maxRecDepth 100000 in
set_option maxHeartbeats 4000000 in
theorem equalZ_any (A A2 : Option Addr) (c c2 : Nat) (l m : List Int) (w : World) (hr : Rd w w.heap.size A (runes l)) (hr2 : Rd w w.heap.size A2 (runes m)) (hl : l.length ≤ 1000000) (hm : m.length ≤ 1000000) :
  Calls Tryz.prog 172 #[.slice A l.length c, .slice A2 m.length c2] w fun e w' => e = .returned (.bool (sameB l m)) ∧ Below w.heap.size w w' := by
 by_cases hlen : l.length = m.length
 ·
  have hlb : ((l.length : Int) != (m.length : Int)) = false := by simp [hlen]
  have HL := Lib.hid hlen
  clear hlen
  go_enter Tryz.func172, Tryz.ntmps172
  go_wp2
  clear hlb
  go_loopg [13] (l.length) (fun k i wr => ∃ j : Nat, k = l.length - j ∧ j ≤ l.length ∧ i = .int .i64 j ∧ Hid (l.take j = m.take j) ∧ Below w.heap.size w wr)
  case atStart => exact ⟨0, rfl, Nat.zero_le _, rfl, rfl, Below.refl _ _⟩
  case round =>
   obtain ⟨j, rfl, hj, rfl, hs, hbel⟩ := hrel
   by_cases hlt : j < l.length
   ·
    obtain ⟨b, off, x, rfl, hb, hc1, hx⟩ := (hr.below hbel).rune_at hlt
    obtain ⟨b2, off2, y, rfl, hb2, hd1, hy⟩ := (hr2.below hbel).rune_at (k := j) (by have := HL.out; omega)
    have hlt2 : (j : Int) < (m.length : Int) := by have := HL.out; omega
    have hlt1 : (j : Int) < (l.length : Int) := by omega
    have hj0 : (0 : Int) ≤ (j : Int) := by omega
    have HT := Lib.hid (take_same hs.out hx.out hy.out)
    by_cases h1 : x = y
    ·
     subst h1
     have HE := Lib.hid (HT.out.1 rfl)
     go_wp2
     go_quiet (fail)
     go_wp2
     go_roundg (l.length - (j + 1))
     case measure => omega
     case rel => exact ⟨j + 1, rfl, by omega, by go_num, HE.out, below_drewN hbel _⟩
    ·
     have q1 : (x != y) = true := by simpa using h1
     have HE := Lib.hid (HT.out.2 h1)
     clear h1
     go_wp2
     go_quiet (fail)
     go_wp2
     go_ret
     exact ⟨ret_bool (by unfold sameB; rw [decide_eq_false HE.out]), below_drewN hbel _⟩
   ·
    obtain rfl : j = l.length := by omega
    have HE := Lib.hid (show sameB l m = true by
     have h := hs.out
     rw [List.take_length, HL.out, List.take_length] at h
     exact decide_eq_true h)
    go_wp2
    go_ret
    exact ⟨ret_bool HE.out.symm, hbel⟩
 ·
  have hlb : ((l.length : Int) != (m.length : Int)) = true := by simp; omega
  have HE := Lib.hid (show sameB l m = false from decide_eq_false fun e => hlen (by rw [e]))
  clear hlen
  go_enter Tryz.func172, Tryz.ntmps172
  go_wp2
  go_ret
  exact ⟨ret_bool HE.out.symm, Below.refl _ _⟩
theorem any_takeD {α : Type} {P : α → Bool} {l : List α} {j : Nat} {x : α} (h : l[j]? = some x) (hf : (l.take j).any P = false) (hx : P x = false) : (l.take (j + 1)).any P = false := by
 obtain ⟨hj, e⟩ := List.getElem?_eq_some_iff.1 h
 rw [take_snoc' l j hj, e, List.any_append, hf]; simp [hx]
theorem any_hereD {α : Type} {P : α → Bool} {l : List α} {j : Nat} {x : α} (h : l[j]? = some x) (hx : P x = true) : l.any P = true :=
 List.any_eq_true.2 ⟨x, List.mem_of_getElem? h, hx⟩
theorem marked_prefix (s : List UInt8) : Lib.hasPrefix s dMark = dMarked s := by
 unfold Lib.hasPrefix dMarked
 rw [Bool.eq_iff_iff, decide_eq_true_iff, List.isPrefixOf_iff_prefix]
theorem cutPrefix_any (s : List UInt8) (w : World) :
  Calls Tryz.prog 154 #[.string (str s), .string (str dMark)] w fun e w' => e = .returned (.tuple #[.string (str (if dMarked s = true then s.drop 4 else s)), .bool (dMarked s)]) ∧ w = w' := by
 refine (Tryz.strings_CutPrefix (str s) (str dMark) w).mono fun e w' ⟨he, hw⟩ => ⟨?_, hw.symm⟩
 rw [he, str_data, str_data]
 unfold Lib.trimPrefix
 rw [marked_prefix]; rfl
theorem trim_dot (s : List UInt8) : Lib.trimSuffix s [46] = dTrim s := by
 unfold Lib.trimSuffix Lib.hasSuffix dTrim
 by_cases h : s.getLast? = some 46
 ·
  rw [if_pos h, if_pos]
  · exact (List.dropLast_eq_take).symm
  rw [List.isSuffixOf_iff_suffix]
  refine ⟨s.dropLast, ?_⟩
  have hne : s ≠ [] := fun e => by rw [e] at h; cases h
  rw [List.getLast?_eq_some_getLast hne] at h
  injection h with h
  rw [← h]; exact List.dropLast_concat_getLast hne
 ·
  rw [if_neg h, if_neg]
  intro h2
  rw [List.isSuffixOf_iff_suffix] at h2
  obtain ⟨t, rfl⟩ := h2
  exact h (by simp)
theorem trimDot_any (s : List UInt8) (w : World) (hs : s.length ≤ 1000000) :
  Calls Tryz.prog 51 #[.string (str s), .string (str [46])] w fun e w' => e = .returned (.string (str (dTrim s))) ∧ w = w' := by
 refine (Tryz.strings_TrimSuffix (str s) (str [46]) w (by rw [str_size]; omega)).mono fun e w' ⟨he, hw⟩ => ⟨?_, hw.symm⟩
 rw [he, str_data, str_data, trim_dot]; rfl
def dSet : List UInt8 := [35, 47, 58, 60, 62, 63, 64, 91, 92, 93, 94, 124, 37]
set_option maxRecDepth 100000 in
set_option maxHeartbeats 1000000 in
theorem dno_any (c : UInt8) (w : World) : Calls Tryz.prog 117 #[.int .u8 (c.toNat : Int)] w fun e w' => e = .returned (.bool (dNo c)) ∧ w = w' := by
 by_cases h1 : c.toNat ≤ 32
 ·
  have h1' : (c.toNat : Int) ≤ 32 := by omega
  have e : dNo c = true := by unfold dNo; rw [decide_eq_true (.inl h1)]; rfl
  rw [e]
  clear h1 e
  go_enter Tryz.func117, Tryz.ntmps117
  go_wp2
  go_ret
  exact ⟨rfl, rfl⟩
 ·
  have h1' : ¬ (c.toNat : Int) ≤ 32 := by omega
  by_cases h2 : c.toNat = 127
  ·
   have h2' : ((c.toNat : Int) == 127) = true := by rw [h2]; rfl
   have e : dNo c = true := by unfold dNo; rw [decide_eq_true (.inr h2)]; rfl
   rw [e]
   clear h1 h2 e
   go_enter Tryz.func117, Tryz.ntmps117
   go_wp2
   go_ret
   exact ⟨rfl, rfl⟩
  ·
   have h2' : ((c.toNat : Int) == 127) = false := by rw [beq_eq_false_iff_ne]; omega
   have e : dNo c = dSet.contains c := by unfold dNo; rw [decide_eq_false (by omega)]; rfl
   rw [e]
   clear h1 h2 e
   go_enter Tryz.func117, Tryz.ntmps117
   go_wp2_with (go_at_call 79; go_must (go_fit (indexByte_any dSet _ _)); rintro e w2 ⟨rfl, rfl⟩)
   go_ret
   exact ⟨ret_bool (idx_mem dSet c), rfl⟩
set_option maxRecDepth 100000 in
set_option maxHeartbeats 2000000 in
theorem idxNo_any (A : Option Addr) (c : Nat) (l : List UInt8) (w : World) (hr : Rd w w.heap.size A (bytes l)) (hl : l.length ≤ 1000000) :
  Calls Tryz.prog 78 #[.slice A l.length c, .func (.func 117) #[] #[]] w fun e w' => ∃ i : Int, e = .returned (.int .i64 i) ∧ Hid (0 ≤ i ↔ l.any dNo = true) ∧ Below w.heap.size w w' := by
 go_enter Tryz.func78, Tryz.ntmps78
 go_wp2
 go_loopg [8] (l.length) (fun k i wr => ∃ j : Nat, k = l.length - j ∧ j ≤ l.length ∧ i = .int .i64 j ∧ Hid ((l.take j).any dNo = false) ∧ Below w.heap.size w wr)
 case atStart => exact ⟨0, rfl, Nat.zero_le _, rfl, rfl, Below.refl _ _⟩
 case round =>
  obtain ⟨j, rfl, hj, rfl, hn, hbel⟩ := hrel
  by_cases hlt : j < l.length
  ·
   obtain ⟨b, off, x, rfl, hb, hc, hx⟩ := (hr.below hbel).byte_at hlt
   have hlt1 : (j : Int) < (l.length : Int) := by omega
   have hj0 : (0 : Int) ≤ (j : Int) := by omega
   have C := Lib.hid fun w => dno_any x w
   by_cases hp : dNo x = true
   ·
    have HP := Lib.hid hp
    rw [hp] at C
    clear hp
    go_wp2_with (go_at_call 117; go_must (go_fit (C.out _)); rintro e w1 ⟨rfl, rfl⟩)
    go_ret
    exact ⟨_, rfl, ⟨fun _ => any_hereD hx.out HP.out, fun _ => by omega⟩, hbel⟩
   ·
    have hp := Bool.eq_false_iff.2 hp
    have HP := Lib.hid hp
    rw [hp] at C
    clear hp
    go_wp2_with (go_at_call 117; go_must (go_fit (C.out _)); rintro e w1 ⟨rfl, rfl⟩)
    go_roundg (l.length - (j + 1))
    case measure => omega
    case rel => exact ⟨j + 1, rfl, by omega, by go_num, any_takeD hx.out hn.out HP.out, hbel⟩
  ·
   obtain rfl : j = l.length := by omega
   go_wp2
   go_ret
   have h := hn.out
   rw [List.take_length] at h
   exact ⟨_, rfl, ⟨fun h1 => absurd h1 (by omega), fun h1 => by rw [h] at h1; cases h1⟩, hbel⟩
set_option maxRecDepth 100000 in
set_option maxHeartbeats 1000000 in
theorem hasNo_any (A : Option Addr) (c : Nat) (l : List UInt8) (w : World) (hr : Rd w w.heap.size A (bytes l)) (hl : l.length ≤ 1000000) :
  Calls Tryz.prog 39 #[.slice A l.length c, .func (.func 117) #[] #[]] w fun e w' => e = .returned (.bool (l.any dNo)) ∧ Below w.heap.size w w' := by
 go_enter Tryz.func39, Tryz.ntmps39
 go_wp2_with (go_at_call 78; go_must (go_fit (idxNo_any A c l w hr hl)); rintro e w1 ⟨i, rfl, hi, hb1⟩)
 go_ret
 exact ⟨ret_bool (by rw [Bool.eq_iff_iff, decide_eq_true_eq]; exact hi.out), hb1⟩
set_option maxRecDepth 100000 in
set_option maxHeartbeats 400000 in
theorem wide_any (x : Int) (w : World) : Calls Tryz.prog 168 #[.int .i32 x] w fun e w' => e = .returned (.bool (wideR x)) ∧ Below w.heap.size w w' := by
 go_enter Tryz.func168, Tryz.ntmps168
 go_wp2
 go_ret
 exact ⟨ret_bool (by unfold wideR; rfl), Below.refl _ _⟩
set_option maxRecDepth 100000 in
set_option maxHeartbeats 2000000 in
theorem idxDWide (A : Option Addr) (c : Nat) (l : List Int) (w : World) (hr : Rd w w.heap.size A (runes l)) (hl : l.length ≤ 1000000) :
  Calls Tryz.prog 189 #[.slice A l.length c, .func (.func 168) #[] #[]] w fun e w' => ∃ i : Int, e = .returned (.int .i64 i) ∧ Hid (0 ≤ i ↔ l.any wideR = true) ∧ Below w.heap.size w w' := by
 go_enter Tryz.func189, Tryz.ntmps189
 go_wp2
 go_loopg [8] (l.length) (fun k i wr => ∃ j : Nat, k = l.length - j ∧ j ≤ l.length ∧ i = .int .i64 j ∧ Hid ((l.take j).any wideR = false) ∧ Below w.heap.size w wr)
 case atStart => exact ⟨0, rfl, Nat.zero_le _, rfl, rfl, Below.refl _ _⟩
 case round =>
  obtain ⟨j, rfl, hj, rfl, hn, hbel⟩ := hrel
  by_cases hlt : j < l.length
  ·
   obtain ⟨b, off, x, rfl, hb, hc, hx⟩ := (hr.below hbel).rune_at hlt
   have hlt1 : (j : Int) < (l.length : Int) := by omega
   have hj0 : (0 : Int) ≤ (j : Int) := by omega
   have C := Lib.hid fun w => wide_any x w
   by_cases hp : wideR x = true
   ·
    have HP := Lib.hid hp
    rw [hp] at C
    clear hp
    go_wp2_with (go_at_call 168; go_must (go_fit (C.out _)); rintro e w1 ⟨rfl, hb1⟩)
    go_ret
    exact ⟨_, rfl, ⟨fun _ => any_here hx.out HP.out, fun _ => by omega⟩, bnext hbel hb1⟩
   ·
    have hp := Bool.eq_false_iff.2 hp
    have HP := Lib.hid hp
    rw [hp] at C
    clear hp
    go_wp2_with (go_at_call 168; go_must (go_fit (C.out _)); rintro e w1 ⟨rfl, hb1⟩)
    go_roundg (l.length - (j + 1))
    case measure => omega
    case rel => exact ⟨j + 1, rfl, by omega, by go_num, any_take hx.out hn.out HP.out, bnext hbel hb1⟩
  ·
   obtain rfl : j = l.length := by omega
   go_wp2
   go_ret
   have h := hn.out
   rw [List.take_length] at h
   exact ⟨_, rfl, ⟨fun h1 => absurd h1 (by omega), fun h1 => by rw [h] at h1; cases h1⟩, hbel⟩
set_option maxRecDepth 100000 in
set_option maxHeartbeats 1000000 in
theorem hasDWide (A : Option Addr) (c : Nat) (l : List Int) (w : World) (hr : Rd w w.heap.size A (runes l)) (hl : l.length ≤ 1000000) :
  Calls Tryz.prog 167 #[.slice A l.length c, .func (.func 168) #[] #[]] w fun e w' => e = .returned (.bool (l.any wideR)) ∧ Below w.heap.size w w' := by
 go_enter Tryz.func167, Tryz.ntmps167
 go_wp2_with (go_at_call 189; go_must (go_fit (idxDWide A c l w hr hl)); rintro e w1 ⟨i, rfl, hi, hb1⟩)
 go_ret
 exact ⟨ret_bool (by rw [Bool.eq_iff_iff, decide_eq_true_eq]; exact hi.out), hb1⟩
theorem any_wide (l : List Int) : l.any wideR = dWide l := rfl
end Go.Proofs.YtoapelcofjjdnaaGreatDoor
