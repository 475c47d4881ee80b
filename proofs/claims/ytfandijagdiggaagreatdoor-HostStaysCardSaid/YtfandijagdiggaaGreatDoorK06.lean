/- The walks of the statements of layer 2, utf: each returns true and turns nothing that was there. -/
import Derived.Test.YtfandijagdiggaaGreatDoorK05
import Derived.Lib.SlBytesConst
import Derived.Test.YtfandijagdiggaaGreatDoorK00
namespace Go.Proofs.YtfandijagdiggaaGreatDoor
set_option linter.all false
open Go.RowKit

theorem str_toList (l : List UInt8) : (str l).toList = l := by rw [ByteArray.toList_eq, str_data]

theorem str_at {w : World} {B n : Nat} {A : Option Addr} {c : Nat} {l : List UInt8} (hr : Rd w B A (bytes l)) (hn : n = l.length) : (convert 58 9 (.slice A n c)).run Tryz.prog w = .ok (.string (str l)) w :=
  run_strN Tryz.underlying58 Tryz.underlying5 Tryz.underlying9 hr hn

end Go.Proofs.YtfandijagdiggaaGreatDoor

namespace Go.Proofs.YtfandijagdiggaaGreatDoor
set_option linter.all false
open Go.RowKit

/-- The row that '[]rune(s)' lays. -/
def runeRow (w : World) (l : List Int) (t : TypeId) : Obj :=
  .cells ((runes l).toArray ++ Array.replicate (grownCap w l.length 0 t - l.length) (.int .i32 0)) t

theorem runes_at (w : World) {b : List UInt8} (h : b.length ≤ 1000000) :
    (convert 9 127 (.string (str b))).run Tryz.prog w =
      .ok (.slice (some ⟨w.heap.size, 0, none⟩) (uDec b).length (grownCap w (uDec b).length 0 21)) (w.drew.alloc (runeRow w (uDec b) 21)) := by
  have e : Conv.runesFrom (str b) (str b).size 0 #[] = (runes (uDec b)).toArray := by rw [runes_of_text, str_data]
  have hsz : (Conv.runesFrom (str b) (str b).size 0 #[]).size = (uDec b).length := by rw [e, List.size_toArray, runes_len]
  have hl := uDec_len_le b
  have := run_runes_of_string (P := Tryz.prog) w 9 127 21 (str b) Tryz.underlying9 Tryz.underlying127 Tryz.underlying21 (by rw [hsz]; omega)
  rw [hsz] at this
  rw [this, e]
  rfl

theorem runeRow_rd (w : World) (l : List Int) (t : TypeId) {B : Nat} (hB : w.heap.size < B) : Rd (w.drew.alloc (runeRow w l t)) B (some ⟨w.heap.size, 0, none⟩) (runes l) := fun _ => by
  refine ⟨w.heap.size, 0, rfl, hB, fun j u hu => ?_⟩
  have hj : j < (runes l).length := by
    rcases Nat.lt_or_ge j (runes l).length with h1 | h1
    · exact h1
    · rw [List.getElem?_eq_none h1] at hu; cases hu
  rw [Nat.zero_add]
  have hrow : (w.drew.alloc (runeRow w l t)).heap[w.heap.size]? = some (runeRow w l t) := heap_alloc_new w.drew _
  unfold runeRow at hrow ⊢
  rw [cell_of_row _ _ j _ _ _ hrow, Array.getElem?_append_left (by simpa using hj), ← hu]
  simp

def fixes (l : List Int) : List Int := l.map cpFix
theorem fixes_len (l : List Int) : (fixes l).length = l.length := List.length_map ..
theorem map_snoc {l : List Int} {j : Nat} {x : Int} (h : l[j]? = some x) (f : Int → Int) : (l.take (j + 1)).map f = (l.take j).map f ++ [f x] := by
  obtain ⟨hj, hx⟩ := List.getElem?_eq_some_iff.1 h
  rw [take_snoc' l j hj, hx, List.map_append]; rfl

theorem uBack_fin (b : List UInt8) : (uVal b == ((str (uEnc (uDec b))).toList == (str b).toList)) = true := by
  rw [str_toList, str_toList, uVal_iff]; by_cases h : uEnc (uDec b) = b <;> simp [h]
theorem fixes_snoc {l : List Int} {j : Nat} {x : Int} (h : l[j]? = some x) : fixes (l.take (j + 1)) = fixes (l.take j) ++ [cpFix x] := map_snoc h cpFix

end Go.Proofs.YtfandijagdiggaaGreatDoor
