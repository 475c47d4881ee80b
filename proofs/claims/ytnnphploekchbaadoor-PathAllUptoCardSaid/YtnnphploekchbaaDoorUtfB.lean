/- The walks of utf.walk with its two closures, utf.Decode, utf.Valid. -/
import Derived.Test.YtnnphploekchbaaDoorUtfA
import Derived.Deep.DeepFit
namespace Go.Proofs.YtnnphploekchbaaDoor
set_option linter.all false
open Go.RowKit

theorem info_i32u : (Tryd.prog.info? 21).map (fun i => (i.zero, i.size, i.bytes)) = some (some (.int .i32 0), 1, 4) := by kernel_rfl

set_option maxRecDepth 100000 in
set_option maxHeartbeats 1000000 in
theorem decode1_any (g : Nat) (v : Value) (xs : List Value) (r k : Int) (w : World) (hb : Box w g 74 v) (hown : w.ownsRow (g + 1) 21 1 v xs.length xs) (hl : xs.length ≤ 500000) :
    Calls Tryd.prog 97 #[.int .i32 r, .int .i64 k, .pointer (some ⟨g, 0, none⟩)] w fun e w' => e = .returned (.tuple #[]) ∧
      ∃ v', Box w' g 74 v' ∧ w'.ownsRow (g + 1) 21 1 v' (xs.length + 1) (xs ++ [.int .i32 r]) ∧ Below g w w' := by
  have hc := hb.cell
  have hg := hb.lt
  go_enter Tryd.func97, Tryd.ntmps97
  go_wp2_with (at_builtin; refine wpList_append_lit rfl (.tmp 5) (.tmp 7) _ rfl (g + 1) _ _ 1 4 Tryd.underlying74 info_i32u rfl (by decide) v _ xs rfl hown #[.int .i32 r] 1 1 _ rfl rfl (by simp [Value.oneCell']) (by omega) (by decide) (by omega) ?_; intro A1 c1 w1 hc1 hm1 hown1 hb1 hg1; have hcc := (hb.below hb1 (by omega)).cell; have hff := (hb.below hb1 (by omega)).free)
  go_end0
  refine ⟨rfl, _, (hb.below hb1 (by omega)).set _, ownsRow_setCell_below hown1 (by simp) _, (hb1.mono (by omega)).setCell (by simp) _⟩

theorem slice_len {A : Option Addr} {c n m : Nat} (h : n = m) : Value.slice A n c = .slice A m c := by rw [h]
theorem rd_step {w : World} {B bk off : Nat} {rest : List UInt8} {k j : Nat} (h : Rd w B (some ⟨bk, off, none⟩) (bytes rest)) (hj : j = off + k ∨ rest.length ≤ k) : Rd w B (some ⟨bk, j, none⟩) (bytes (rest.drop k)) := by
  by_cases hk : rest.length ≤ k
  · rw [List.drop_eq_nil_of_le hk]; exact Rd.nil
  · have e : j = off + k := by omega
    subst e
    unfold bytes
    rw [List.map_drop]
    exact h.dropAt k
theorem own_eq {w : World} {base : Nat} {e : TypeId} {size n m : Nat} {v : Value} {xs ys : List Value} (h : w.ownsRow base e size v n xs) (hn : n = m) (hx : xs = ys) : w.ownsRow base e size v m ys := by
  subst hn; subst hx; exact h
theorem dec1_bd (l : List UInt8) (h : 0 < l.length) : (dec1 l).2 ≤ l.length ∧ (dec1 l).2 ≤ 4 := ⟨dec1_len h, dec1_le l⟩

set_option maxRecDepth 100000 in
set_option maxHeartbeats 400000 in
theorem walkD_any (g : Nat) (A : Option Addr) (c : Nat) (l : List UInt8) (v : Value) (xs : List Value) (w : World) (hr : Rd w g A (bytes l)) (hc : l.length ≤ c) (hcm : c ≤ maxLen)
    (hb : Box w g 74 v) (hown : w.ownsRow (g + 1) 21 1 v xs.length xs) (hl : xs.length + l.length ≤ 400000) :
    Calls Tryd.prog 96 #[.slice A l.length c, .func (.func 97) #[] #[.pointer (some ⟨g, 0, none⟩)]] w fun e w' => e = .returned (.tuple #[]) ∧
      ∃ v', Box w' g 74 v' ∧ w'.ownsRow (g + 1) 21 1 v' (xs ++ runes (uDec l)).length (xs ++ runes (uDec l)) ∧ Below g w w' := by
  go_enter Tryd.func96, Tryd.ntmps96
  go_wp2
  go_loopg [0] (l.length) (fun k s0 wr => ∃ (A' : Option Addr) (c' : Nat) (rest : List UInt8) (done : List Int) (v' : Value), s0 = .slice A' rest.length c' ∧ rest.length = k ∧ rest.length ≤ c' ∧ c' ≤ maxLen ∧ Rd wr g A' (bytes rest) ∧
    Hid (uDec l = done ++ uDec rest ∧ done.length + rest.length ≤ l.length) ∧ Box wr g 74 v' ∧ wr.ownsRow (g + 1) 21 1 v' (xs ++ runes done).length (xs ++ runes done) ∧ Below g w wr)
  case atStart => exact ⟨A, c, l, [], v, rfl, rfl, hc, hcm, hr, ⟨rfl, by simp⟩, hb, by simpa [runes] using hown, Below.refl _ _⟩
  case round =>
    obtain ⟨A', c', rest, done, v', rfl, rfl, hc', hcm', hr', hd, hb', hown', hbel⟩ := hrel
    by_cases h0 : 0 < rest.length
    · have hrd := hr'
      obtain ⟨bk, off, rfl, hbk, hcell⟩ := hr' (by rw [bytes_len]; exact h0)
      have hone := uone_any bk off c' rest wr h0 hc' hcm' hcell
      have hbd := dec1_bd rest h0
      obtain ⟨r, hr1⟩ : ∃ r, r = (dec1 rest).1 := ⟨_, rfl⟩
      obtain ⟨n, hn1⟩ : ∃ n, n = (dec1 rest).2 := ⟨_, rfl⟩
      rw [← hr1, ← hn1] at hone
      rw [← hn1] at hbd
      have HONE := Lib.hid hone
      clear hone
      have H1 := Lib.hid hr1
      have H2 := Lib.hid hn1
      clear hr1 hn1 hcell
      unfold maxLen at hcm'
      obtain ⟨hn0, hn4⟩ := hbd
      have hlen : (xs ++ runes done).length ≤ 500000 := by have := hd.out.2; rw [List.length_append, runes_len]; omega
      go_wp2_with (first
        | (go_at_call 111; go_must (go_fit HONE.out); rintro e w1 ⟨rfl, rfl⟩)
        | (go_at_call 97; go_must (go_fit (decode1_any g v' (xs ++ runes done) r n wr hb' hown' hlen)); rintro e w1 ⟨rfl, v1, hb1, hown1, hbel1⟩))
      all_goals go_roundg ((rest.drop (max n 1)).length)
      all_goals
        first
        | (case measure => rw [List.length_drop]; omega)
        | (case rel =>
             refine ⟨_, _, rest.drop (max n 1), done ++ [r], v1, slice_len (by rw [List.length_drop]; omega), rfl, by rw [List.length_drop]; omega, by unfold maxLen; omega, rd_step (hrd.below hbel1) (by omega), ?_, hb1, own_eq hown1 ?_ ?_, hbel.trans hbel1⟩
             · obtain ⟨d1, d2⟩ := hd.out
               refine ⟨?_, by rw [List.length_append, List.length_drop]; simp; omega⟩
               rw [d1, uDec_step h0, ← H1.out, ← H2.out]; simp
             · rw [List.length_append, List.length_append, runes_append, List.length_append]; rfl
             · rw [runes_append]; simp [runes])
    · have h00 : rest = [] := List.eq_nil_of_length_eq_zero (by omega)
      subst h00
      go_wp2
      go_end0
      have e : uDec l = done := by have := hd.out.1; rw [uDec_nil, List.append_nil] at this; exact this
      rw [e]
      exact ⟨rfl, v', hb', hown', hbel⟩
end Go.Proofs.YtnnphploekchbaaDoor

