/- The walk of the statement PunyDecodes. -/
import Derived.Test.YtalpkjdbennicaaLawPuny2
import Derived.Test.YtalpkjdbennicaaPunyM
namespace Go.Proofs.Ytalpkjdbennicaa
set_option linter.all false
open Go.RowKit

set_option maxRecDepth 100000 in
set_option maxHeartbeats 4000000 in
theorem punyDecodes_walk (s : List UInt8) (w : World) (hsm : s.length ≤ 9223372036854775807) :
    Calls Try.prog 19 #[.string (str s)] w fun e w' => e = .returned (.bool true) ∧ Below w.heap.size w w' := by
  have hsz := str_size s
  by_cases h210 : (s.length : Int) ≤ 210
  · have C1 := Lib.hid fun w => pdecode_any s w (by omega)
    have C2 := Lib.hid fun w => runpuny_any s w (by omega)
    obtain ⟨o, ho⟩ : ∃ o, unpuny s = o := ⟨_, rfl⟩
    rw [ho] at C1 C2
    rcases o with _ | l
    · clear ho
      have C3 := Lib.hid fun (w : World) => same_any none none 0 0 [] [] w Rd.nil Rd.nil (by decide) (by decide)
      rw [sameB_self] at C3
      go_enter Try.func19, Try.ntmps19
      go_wp2_with (first
        | (go_at_call 43; go_must (go_fit (begun5_any w)); rintro e w1 ⟨rfl, hb1⟩)
        | (go_at_call 46; go_must (go_fit (C1.out w1)); rintro e w2 ⟨hb2, rfl⟩)
        | (go_at_call 47; go_must (go_fit (C2.out w2)); rintro e w3 ⟨hb3, rfl⟩)
        | (go_at_call 26; go_must (go_fit (C3.out w3)); rintro e w4 ⟨rfl, hb4⟩))
      go_ret
      exact ⟨ret_bool rfl, bnext (bnext (bnext hb1 hb2) hb3) hb4⟩
    · have hl := unpuny_63 ho
      clear ho
      have C3 := Lib.hid fun A2 A3 c2 c3 w (h : Rd w w.heap.size A2 (runes l)) (h' : Rd w w.heap.size A3 (runes l)) => same_any A2 A3 c2 c3 l l w h h' (by omega) (by omega)
      rw [sameB_self] at C3
      go_enter Try.func19, Try.ntmps19
      go_wp2_with (first
        | (go_at_call 43; go_must (go_fit (begun5_any w)); rintro e w1 ⟨rfl, hb1⟩)
        | (go_at_call 46; go_must (go_fit (C1.out w1)); rintro e w2 ⟨hb2, v2, rfl, hown2⟩; obtain ⟨A2, c2, rfl, hc2, hm2, hx2⟩ := own_rd hown2)
        | (go_at_call 47; go_must (go_fit (C2.out w2)); rintro e w3 ⟨hb3, v3, rfl, hown3⟩; obtain ⟨A3, c3, rfl, hc3, hm3, hy3⟩ := own_rd hown3; have hx3 := hx2.next hb3)
        | (go_at_call 26; go_must (go_fit (C3.out A2 A3 c2 c3 w3 hx3 hy3)); rintro e w4 ⟨rfl, hb4⟩))
      go_ret
      exact ⟨ret_bool rfl, bnext (bnext (bnext hb1 hb2) hb3) hb4⟩
  · have h210' : 210 < (s.length : Int) := by omega
    clear h210
    go_enter Try.func19, Try.ntmps19
    go_wp2_with (go_at_call 43; go_must (go_fit (begun5_any w)); rintro e w1 ⟨rfl, hb1⟩)
    go_ret
    exact ⟨rfl, hb1⟩
end Go.Proofs.Ytalpkjdbennicaa
