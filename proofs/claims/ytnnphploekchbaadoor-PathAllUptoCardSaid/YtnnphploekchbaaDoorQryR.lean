/- The walks of the reference's plain, right; bytes turned in place. -/
import Derived.Test.YtnnphploekchbaaDoorQryB
import Derived.Test.YtnnphploekchbaaDoorCutR
import Derived.Test.YtnnphploekchbaaDoorPctS
import Derived.Test.YtnnphploekchbaaDoorRefC
namespace Go.Proofs.YtnnphploekchbaaDoor
set_option linter.all false
open Go.RowKit

/-- A text of which the first j bytes were turned. -/
def upd (f : UInt8 → UInt8) (s : List UInt8) (j : Nat) : List UInt8 := (tk s j).map f ++ dr s j
theorem upd_len (f : UInt8 → UInt8) (s : List UInt8) {j : Nat} (h : j ≤ s.length) : (upd f s j).length = s.length := by
  unfold upd; rw [List.length_append, List.length_map, tk_len, dr_len]; omega
theorem upd_zero (f : UInt8 → UInt8) (s : List UInt8) : upd f s 0 = s := rfl
theorem upd_end (f : UInt8 → UInt8) (s : List UInt8) : upd f s s.length = s.map f := by
  unfold upd tk dr; rw [List.take_length, List.drop_length, List.append_nil]
theorem dr_next {s : List UInt8} {j : Nat} (h : j < s.length) : dr s j = gb s j :: dr s (j + 1) := by
  obtain ⟨hj, e⟩ := List.getElem?_eq_some_iff.1 (gb_some h)
  unfold dr
  rw [List.drop_eq_getElem_cons hj, e]
theorem upd_next (f : UInt8 → UInt8) {s : List UInt8} {j : Nat} (h : j < s.length) : upd f s (j + 1) = (tk s j).map f ++ f (gb s j) :: dr s (j + 1) := by
  unfold upd; rw [tk_next h, List.map_append, List.append_assoc]; rfl
theorem upd_at (f : UInt8 → UInt8) {s : List UInt8} {j : Nat} (h : j < s.length) : (bytes (upd f s j))[j]? = some (.int .u8 ((gb s j).toNat : Int)) := by
  unfold upd bytes
  rw [dr_next h, List.map_append, List.getElem?_append_right (by simp [tk_len]; omega)]
  have : j - (List.map (fun c : UInt8 => Value.int .u8 (c.toNat : Int)) ((tk s j).map f)).length = 0 := by simp [tk_len]; omega
  rw [this]; rfl
theorem upd_set (f : UInt8 → UInt8) {s : List UInt8} {j : Nat} (h : j < s.length) : (bytes (upd f s j)).set j (.int .u8 ((f (gb s j)).toNat : Int)) = bytes (upd f s (j + 1)) := by
  rw [upd_next f h]
  unfold upd bytes
  rw [dr_next h, List.map_append, List.map_append, List.set_append_right _ _ (by simp [tk_len]; omega)]
  have : j - (List.map (fun c : UInt8 => Value.int .u8 (c.toNat : Int)) ((tk s j).map f)).length = 0 := by simp [tk_len]; omega
  rw [this]; rfl
theorem upd_same (f : UInt8 → UInt8) {s : List UInt8} {j : Nat} (h : j < s.length) (e : f (gb s j) = gb s j) : upd f s (j + 1) = upd f s j := by
  rw [upd_next f h, e]; unfold upd; rw [dr_next h]

set_option maxRecDepth 100000 in
set_option maxHeartbeats 4000000 in
theorem plainq_any (s : List UInt8) (w : World) (hs : s.length ≤ 10000) :
    Calls Tryd.prog 55 #[.string (str s)] w fun e w' => e = .returned (.string (str (qText s))) ∧ Below w.heap.size w w' := by
  obtain ⟨a1, h1⟩ : ∃ a, a = s.map plus := ⟨_, rfl⟩
  obtain ⟨a2, h2⟩ : ∃ a, a = pDec a1 := ⟨_, rfl⟩
  obtain ⟨a3, h3⟩ : ∃ a, a = uDec a2 := ⟨_, rfl⟩
  obtain ⟨a4, h4⟩ : ∃ a, a = uEnc a3 := ⟨_, rfl⟩
  have l1 : a1.length = s.length := by rw [h1, List.length_map]
  have l2 : a2.length ≤ a1.length := by rw [h2]; exact pDec_len_le _
  have l3 : a3.length ≤ a2.length := by rw [h3]; exact uDec_len_le _
  have HQ := Lib.hid (show qText s = a4 by unfold qText; rw [h4, h3, h2, h1])
  have H1 := Lib.hid (show upd plus s s.length = a1 by rw [upd_end, h1])
  have C2 := Lib.hid fun w => plain_any a1 w (by omega)
  rw [← h2] at C2
  have C3 := Lib.hid fun A c w (hr : Rd w w.heap.size A (bytes a2)) (hc : a2.length ≤ c) (hcm : c ≤ maxLen) => rdecode_any A c a2 w hr hc hcm (by omega)
  rw [← h3] at C3
  have C4 := Lib.hid fun A c w (hr : Rd w w.heap.size A (runes a3)) => rencode_any A c a3 w hr (by omega)
  rw [← h4] at C4
  clear h1 h2 h3 h4
  go_enter Tryd.func55, Tryd.ntmps55
  go_wp2_with (refine wpList_bytesL rfl _ _ _ _ rfl Tryd.underlying9 Tryd.underlying42 Tryd.underlying5 s rfl (by omega) ?_; intro c3 w3 hc3 hm3 hrow3 hr3 hb3 hz3)
  go_loopg [4] (s.length) (fun k s4 wr => ∃ j : Nat, k = s.length - j ∧ j ≤ s.length ∧ s4 = .int .i64 j ∧ Row wr w.heap.size (bytes (upd plus s j)) ∧ Below w.heap.size w wr ∧ w.heap.size < wr.heap.size)
  case atStart => exact ⟨0, rfl, Nat.zero_le _, rfl, hrow3, hb3, hz3⟩
  case round =>
    clear hrow3 hr3 hb3 hz3
    obtain ⟨j, rfl, hj, rfl, hrow, hbel, hz⟩ := hrel
    by_cases hlt : j < s.length
    · have hlt1 : (j : Int) < (s.length : Int) := by omega
      have hj0 : (0 : Int) ≤ (j : Int) := by omega
      have hc := hrow.1 j _ (upd_at plus hlt)
      have hf := hrow.2.1 j (by rw [bytes_len, upd_len _ _ hj]; exact hlt)
      by_cases hp : (gb s j).toNat = 43
      · have hp' : ((gb s j).toNat : Int) = 43 := by omega
        have HS := Lib.hid (Row.set hrow (j := j) (by rw [bytes_len, upd_len _ _ hj]; exact hlt) (.int .u8 ((plus (gb s j)).toNat : Int)))
        rw [upd_set plus hlt, show ((plus (gb s j)).toNat : Int) = 32 by rw [byte_ext (a := gb s j) (b := 43) hp]; rfl] at HS
        clear hp
        go_wp2
        go_roundg (s.length - (j + 1))
        case measure => omega
        case rel => exact ⟨j + 1, rfl, by omega, by go_num, HS.out, Below.setCell hbel (p := ⟨w.heap.size, j, none⟩) (Nat.le_refl _) _, by simpa using hz⟩
      · have hp' : ¬ ((gb s j).toNat : Int) = 43 := by omega
        have HS := Lib.hid (upd_same plus hlt (if_neg (fun e => hp (by rw [e]; rfl))))
        clear hp
        go_wp2
        go_roundg (s.length - (j + 1))
        case measure => omega
        case rel => exact ⟨j + 1, rfl, by omega, by go_num, by rw [HS.out]; exact hrow, hbel, hz⟩
    · obtain rfl : j = s.length := by omega
      rw [H1.out] at hrow
      have hst := str_atN (c := c3) (hrow.rd hz) l1.symm
      go_wp2_with (first
        | (go_at_call 77; go_must (go_fit (C2.out wr)); rintro e w2 ⟨v2, rfl, hown2, hb2⟩; rw [bytes_len] at hown2; obtain ⟨A2, c2, rfl, hc2, hm2, hx2⟩ := own_rd hown2)
        | (go_at_call 58; go_must (go_fit (C3.out A2 c2 w2 hx2 hc2 hm2)); rintro e w4 ⟨v4, rfl, hown4, hb4⟩; rw [runes_len] at hown4; obtain ⟨A4, c4, rfl, hc4, hm4, hx4⟩ := own_rd hown4)
        | (go_at_call 57; go_must (go_fit (C4.out A4 c4 w4 hx4)); rintro e w5 ⟨v5, rfl, hown5, hb5⟩; rw [bytes_len] at hown5; obtain ⟨A5, c5, rfl, hc5, hm5, hx5⟩ := own_rd hown5; have hs5 := str_atN (c := c5) hx5 rfl))
      go_ret
      exact ⟨by rw [HQ.out]; rfl, bnext (bnext (bnext hbel hb2) hb4) hb5⟩

set_option maxRecDepth 100000 in
set_option maxHeartbeats 2000000 in
theorem right_any (s : List UInt8) (w : World) (hs : s.length ≤ 10000) :
    Calls Tryd.prog 33 #[.string (str s)] w fun e w' => e = .returned (.string (str (qRight s))) ∧ Below w.heap.size w w' := by
  obtain ⟨a3, h3⟩ : ∃ a, a = uDec s := ⟨_, rfl⟩
  obtain ⟨a4, h4⟩ : ∃ a, a = uEnc a3 := ⟨_, rfl⟩
  have l3 : a3.length ≤ s.length := by rw [h3]; exact uDec_len_le _
  have HQ := Lib.hid (show qRight s = a4 by unfold qRight; rw [h4, h3])
  have C3 := Lib.hid fun A c w (hr : Rd w w.heap.size A (bytes s)) (hc : s.length ≤ c) (hcm : c ≤ maxLen) => rdecode_any A c s w hr hc hcm (by omega)
  rw [← h3] at C3
  have C4 := Lib.hid fun A c w (hr : Rd w w.heap.size A (runes a3)) => rencode_any A c a3 w hr (by omega)
  rw [← h4] at C4
  clear h3 h4
  go_enter Tryd.func33, Tryd.ntmps33
  go_wp2_with (first
    | (refine wpList_bytesL rfl _ _ _ _ rfl Tryd.underlying9 Tryd.underlying42 Tryd.underlying5 s rfl (by omega) ?_; intro c3 w3 hc3 hm3 hrow3 hr3 hb3 hz3)
    | (go_at_call 58; go_must (go_fit (C3.out _ c3 w3 hr3 hc3 hm3)); rintro e w4 ⟨v4, rfl, hown4, hb4⟩; rw [runes_len] at hown4; obtain ⟨A4, c4, rfl, hc4, hm4, hx4⟩ := own_rd hown4)
    | (go_at_call 57; go_must (go_fit (C4.out A4 c4 w4 hx4)); rintro e w5 ⟨v5, rfl, hown5, hb5⟩; rw [bytes_len] at hown5; obtain ⟨A5, c5, rfl, hc5, hm5, hx5⟩ := own_rd hown5; have hs5 := str_atN (c := c5) hx5 rfl))
  go_ret
  exact ⟨by rw [HQ.out]; rfl, bnext (bnext hb3 hb4) hb5⟩
end Go.Proofs.YtnnphploekchbaaDoor

