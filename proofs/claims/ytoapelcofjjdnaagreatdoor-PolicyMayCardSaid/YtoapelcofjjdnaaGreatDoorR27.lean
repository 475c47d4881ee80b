/- A part of the proof. -/
import Derived.Test.YtoapelcofjjdnaaGreatDoorR03
import Derived.Test.YtoapelcofjjdnaaGreatDoorR15
import Derived.Test.YtoapelcofjjdnaaGreatDoorRows
import Derived.Test.YtoapelcofjjdnaaGreatDoorTie
import Derived.Test.YtoapelcofjjdnaaGreatDoorCards
import Derived.ProofKit
import Derived.OpenShut
import Derived.ShutString
import Derived.ChangeOld
import Derived.Below
import Derived.LaidMore
import Derived.Lay
import Derived.SevenTiedAt
import Derived.Stop.Joined
import Derived.Deep.Slices
import Derived.SliceStrings
namespace Go.Proofs.YtoapelcofjjdnaaGreatDoor
set_option linter.all false
open Go.ChangeShapes Go.WideShapes Go.ChangeAt Go.RowKit Go.Deep
theorem cardOwn : ownKnob Tryz.prog.godebug = none := by kernel_rfl
theorem cardLaidOut : laidOutB Tryz.prog = true := by kernel_rfl
theorem lifted_both {H : Type} {enc : TypeId × Value → H} {a : Assume} {C : Checked} {os : Os} {f : FuncId} {fn : Func} {s : ChangeSpec} {conds : List PathCond} {apart fresh handsOn again : Bool} {X : World → Array Value → Prop}
  (hX : ∀ (w w' : World) (args : Array Value), w.heap = w'.heap → X w args → X w' args)
  (own : ownKnob C.prog.godebug = none) (started : os.Started) (noInit : C.prog.inits.idxOf? f = none) (hfn : C.prog.funcs[f]? = some fn)
  (wit : ∃ (w : World) (tape : Tape) (i : Input), w.os = os ∧ (w.forCall tape i).Shaped C.prog ∧ i.vars = [] ∧ Input.okWide C.prog (w.forCall tape i) .any w.heap.size f i ∧
   ((s.pre enc C.prog fn conds apart (w.forCall tape i).memory i.args ∧ X (w.forCall tape i).memory i.args) ∧ sizedMet enc C.prog fn (OpenSpec.ofChange s) apart (w.forCall tape i).memory i.args) ∧ a.holds C.prog (lone (Frame.enter C.prog f i.args .normal) [] (w.forCall tape i)))
  (walk : ∀ (W : World) (base : Nat) (args : Array Value) (ds gs : List (DataW H)) (before : List MemPlace),
   (∀ (j : Nat) t v, fn.params[j]? = some t → args[j]? = some v → Value.okWide C.prog W .any base t v) →
   DataW.Whole enc C.prog fn.params.toList s.vars apart W args.toList ds gs before → X W args → W.ShapedOpen C.prog →
   Calls C.prog f args W fun e W' => ∃ v, e = .returned v ∧ s.post enc C.prog fn apart fresh handsOn again W args v W') :
  ReturnsInHanded a C os f .any (fun w args => (s.pre enc C.prog fn conds apart w args ∧ X w args) ∧ sizedMet enc C.prog fn (OpenSpec.ofChange s) apart w args) (s.post enc C.prog fn apart fresh handsOn again) := by
 refine returnsInHanded_of_calls own started noInit wit fun w tape i _ hsh _ hok hpre hholds => ?_
 obtain ⟨_, _, _, fn', hfn', _, _, _, _, hval⟩ := hok
 obtain rfl : fn' = fn := Option.some.inj (hfn'.symm.trans hfn)
 obtain ⟨⟨⟨ds, gs, before, hw, _⟩, hx⟩, _⟩ := hpre
 exact (walk (w.forCall tape i) w.heap.size i.args ds gs before hval (DataW.Whole.of_heap (w' := w.forCall tape i) (by rfl) hw) (hX _ _ _ (by rfl) hx) hsh).mono fun e W' ⟨v, he, hp⟩ => by
  subst he
  exact ChangeSpec.post_blind hp
theorem ml_of {W : World} (h : W.ShapedOpen Tryz.prog) : ML W := by
 have h1 := Go.Proofs.cell_of_shapedOpen_int (g := 0) (zero := #[.int .i64 0]) (t := 3) h (of_decide_eq_true (by kernel_rfl)) (by kernel_rfl) rfl (by kernel_rfl) (by kernel_rfl) Tryz.underlying3
 exact h1
theorem plain_spot {w : World} {a : Addr} {v : Value} (h : w.cell? a = some v) : ∃ b off, a = ⟨b, off, none⟩ ∧ b < w.heap.size := by
 obtain ⟨b, off, spot⟩ := a
 have hspot : spot = none := by simpa using World.cell?_spot h
 subst hspot
 exact ⟨b, off, rfl, World.block_lt_of_cell? _ _ h⟩
theorem add_off (b off n : Nat) : (⟨b, off, none⟩ : Addr).add n = ⟨b, off + n, none⟩ := Go.WideShapes.add_plain ..
section
variable {H : Type} {enc : TypeId × Value → H} {W : World} {base : Nat} {spare : Nat → Bool} {held : Bool}
theorem open_texts {len c : Nat} {A : Option Addr} {d : DataW H} {p : List MemPlace} (h : DataW.Trod enc Tryz.prog W base spare held 38 (.slice A len c) d p) :
  ∃ l : List (List UInt8), len = l.length ∧ len ≤ c ∧ c ≤ maxLen ∧ Rd W W.heap.size A (strs l) ∧ ∀ x ∈ l, x.length ≤ maxLen := by
 obtain ⟨fuel, hf⟩ := h
 rcases open_slice1 Tryz.underlying38 (by kernel_rfl) hf with ⟨hcs, _⟩ | ⟨a, len', cap, m, n, V, D, Pl, hcs, _, hl, hm, hmm, _, hV⟩
 ·
  simp [Value.cells] at hcs
  obtain ⟨rfl, rfl, rfl⟩ := hcs
  exact ⟨[], rfl, Nat.le_refl _, by simp [maxLen], Rd.nil, by simp⟩
 ·
  simp [Value.cells] at hcs
  obtain ⟨rfl, rfl, rfl⟩ := hcs
  have hle : len ≤ m := by rw [hmm]; split <;> omega
  have hg : ∀ i, i < len → ∃ x : List UInt8, W.cell? (a.add i) = some (.string (str x)) ∧ x.length ≤ maxLen := fun i hi => by
   obtain ⟨h1, h2⟩ := hV i (by omega)
   obtain ⟨s, e1, _, e3⟩ := DataW.trod_string Tryz.underlying9 h2
   injection e1 with e1
   refine ⟨s.data.toList, by rw [h1, e1, str_of], ?_⟩
   rw [← str_size, str_of]; exact e3
  obtain ⟨X, hX⟩ := choose_lt (α := List UInt8) (p := fun i x => W.cell? (a.add i) = some (.string (str x)) ∧ x.length ≤ maxLen) hg
  refine ⟨(List.range len).map X, by simp, hl, hm, fun hp => ?_, ?_⟩
  ·
   rw [strs_len, List.length_map, List.length_range] at hp
   obtain ⟨b, off, rfl, hb⟩ := plain_spot (hX 0 hp).1
   refine ⟨b, off, rfl, hb, fun j u hu => ?_⟩
   unfold strs at hu
   rw [List.getElem?_map, List.getElem?_map] at hu
   rcases Nat.lt_or_ge j len with hj | hj
   ·
    rw [List.getElem?_range hj] at hu
    injection hu with hu
    rw [← hu, ← add_off]
    exact (hX j hj).1
   · rw [List.getElem?_eq_none (by simpa using hj)] at hu; cases hu
  ·
   intro x hx
   obtain ⟨i, hi, rfl⟩ := List.mem_map.1 hx
   exact (hX i (List.mem_range.1 hi)).2
-- A slice of pairs that came in.
end
end Go.Proofs.YtoapelcofjjdnaaGreatDoor
