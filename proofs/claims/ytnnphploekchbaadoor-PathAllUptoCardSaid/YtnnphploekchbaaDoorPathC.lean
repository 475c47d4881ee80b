/- The walks of path.cut, path.Parse, path.Show. -/
import Derived.Test.YtnnphploekchbaaDoorPathB
import Derived.Test.YtnnphploekchbaaDoorLibA
import Derived.Test.YtnnphploekchbaaDoorPctB
import Derived.Test.YtnnphploekchbaaDoorCutR
namespace Go.Proofs.YtnnphploekchbaaDoor
set_option linter.all false
open Go.RowKit

theorem slash_len (sp : Bool) (s : List UInt8) : (slash sp s).length = s.length := by unfold slash; split <;> simp
set_option maxRecDepth 100000 in
set_option maxHeartbeats 1000000 in
theorem pcut_any (s : List UInt8) (sp : Bool) (w : World) (hm : ML w) (hs : s.length ≤ 1000000) :
    Calls Tryd.prog 43 #[.string (str s), .bool sp] w fun e w' =>
      ∃ g, e = .returned (.slice (some ⟨g, 0, none⟩) (pCut sp s).length (pCut sp s).length) ∧ Rd w' w'.heap.size (some ⟨g, 0, none⟩) (strs (pCut sp s)) ∧ Below w.heap.size w w' ∧ w.heap.size ≤ g := by
  cases sp with
  | true =>
    have C1 := Lib.hid (replace_any 92 47 s w hm hs (by decide))
    have C2 := Lib.hid fun w h => split_any 47 (slash true s) w h (by rw [slash_len]; exact hs)
    have HS := Lib.hid (show s.map (fun c => if c = 92 then 47 else c) = slash true s from rfl)
    rw [HS.out] at C1
    have hst : (str [92]) = { data := #[92] } := rfl
    go_enter Tryd.func43, Tryd.ntmps43
    go_wp2_with (first
      | (go_at_call 66; go_must (go_fit C1.out); rintro e w1 ⟨rfl, hb1⟩)
      | (go_at_call 51; go_must (go_fit (C2.out w1 (hm.next hb1))); rintro e w2 ⟨rfl, hr2, hb2⟩))
    go_ret
    exact ⟨_, rfl, hr2, bnext hb1 hb2, hb1.size⟩
  | false =>
    have C2 := Lib.hid (split_any 47 (slash false s) w hm (by rw [slash_len]; exact hs))
    have C2 := Lib.hid (show Calls Tryd.prog 51 #[.string (str s), .string (str [47])] w fun e w' =>
      e = .returned (.slice (some ⟨w.heap.size, 0, none⟩) (cuts 47 (slash false s)).length (cuts 47 (slash false s)).length) ∧ Rd w' w'.heap.size (some ⟨w.heap.size, 0, none⟩) (strs (cuts 47 (slash false s))) ∧ Below w.heap.size w w' from C2.out)
    go_enter Tryd.func43, Tryd.ntmps43
    go_wp2_with (go_at_call 51; go_must (go_fit C2.out); rintro e w2 ⟨rfl, hr2, hb2⟩)
    go_ret
    exact ⟨_, rfl, hr2, hb2, Nat.le_refl _⟩

theorem own_cut {w : World} {base n c k : Nat} {e : TypeId} {A : Option Addr} {xs : List Value} (h : w.ownsRow base e 1 (.slice A n c) n xs) (hk : k ≤ n) : w.ownsRow base e 1 (.slice A k c) k (xs.take k) := by
  refine ⟨by rw [List.length_take, h.1]; omega, ?_⟩
  rcases h.2 with ⟨hv, h0⟩ | ⟨g, cap, cur, hv, hb, hg, hnc, hcm, hs, ht⟩
  · injection hv with h1 h2 h3
    subst h1 h3
    exact .inl ⟨by rw [show k = 0 by omega], by omega⟩
  · injection hv with h1 h2 h3
    subst h1 h3
    refine .inr ⟨g, c, cur, rfl, hb, hg, by omega, hcm, hs, ?_⟩
    rw [← ht, List.take_take]
    congr 1
    omega
/-- slices.Clone of texts. -/
theorem clone_any (A : Option Addr) (c : Nat) (l : List (List UInt8)) (w : World) (hr : Rd w w.heap.size A (strs l)) (hl : l.length ≤ 1000000) :
    Calls Tryd.prog 42 #[.slice A l.length c] w fun e w' => ∃ v, e = .returned v ∧ w'.ownsRow w.heap.size 9 1 v l.length (strs l) ∧ Below w.heap.size w w' := by
  by_cases h0 : l = []
  · subst h0
    rcases A with _ | a
    · refine (Tryd.slices_Clone_string_nil 0 c w).mono fun e w' ⟨he, hw⟩ => ⟨_, he, ?_, hw ▸ Below.refl _ _⟩
      exact World.ownsRow_nil _ _ _ _
    · refine (Tryd.slices_Clone_string_zero a c w).mono fun e w' ⟨v, he, ho, _, hb⟩ => ⟨v, he, ho, hb⟩
  · obtain ⟨b, off, rfl, hb, hc⟩ := hr (by rw [strs_len]; exact List.length_pos_iff.2 h0)
    have h := Tryd.slices_Clone_string b off l.length c (l.map str) w (by rw [List.length_map]; exact Nat.le_refl _) (by omega) (fun j hj => by
      rw [List.length_map] at hj
      refine hc j _ ?_
      unfold strs
      rw [List.getElem?_map, List.getD_eq_getElem?_getD, List.getElem?_map, List.getElem?_eq_getElem hj]; rfl)
    refine h.mono fun e w' ⟨v, he, ho, _, hb⟩ => ⟨v, he, ?_, hb⟩
    have e : ((l.map str).take l.length).map Value.string = strs l := by
      rw [List.take_of_length_le (by rw [List.length_map]; exact Nat.le_refl _)]; unfold strs; rw [List.map_map]; rfl
    rw [e] at ho
    exact ho
end Go.Proofs.YtnnphploekchbaaDoor

