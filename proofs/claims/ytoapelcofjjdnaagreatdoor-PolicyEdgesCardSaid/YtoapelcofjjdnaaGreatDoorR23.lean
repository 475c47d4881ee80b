/- A part of the proof. -/
import Derived.Test.YtoapelcofjjdnaaGreatDoorR19
import Derived.Laws.IdiomCopy
import Derived.Deep.MidRow
import Derived.StillTailTactics
import Derived.Shelf.Spec.SlicesInsert
import Derived.Laws.StructEq
import Derived.Laws.Tables
import Derived.Laws.Cover2
import Derived.Test.YtoapelcofjjdnaaGreatDoorR02
import Derived.Test.YtoapelcofjjdnaaGreatDoorR12
import Derived.Deep.RegionHeld3
namespace Go.Proofs.YtoapelcofjjdnaaGreatDoor
set_option linter.all false
open Go.RowKit
def lay {α : Type} (xs : List α) (o : Nat) (vs : List α) : List α := xs.take o ++ vs ++ xs.drop (o + vs.length)
theorem lay_nil {α : Type} (xs : List α) (o : Nat) : lay xs o [] = xs := by simp [lay]
theorem lay_cons {α : Type} {xs : List α} {o : Nat} (v : α) (r : List α) (h : o < xs.length) : lay (xs.set o v) (o + 1) r = lay xs o (v :: r) := by
 unfold lay
 rw [take_snoc' _ o (by rw [List.length_set]; exact h), List.take_set, List.set_eq_of_length_le (by rw [List.length_take]; omega), List.drop_set, if_pos (by omega), List.length_cons, show o + 1 + r.length = o + (r.length + 1) by omega]
 simp
theorem lay_len {α : Type} {xs vs : List α} {o : Nat} (h : o + vs.length ≤ xs.length) : (lay xs o vs).length = xs.length := by
 unfold lay; simp; omega
theorem Row.sets {g : Nat} : ∀ (vs : List Value) (o : Nat) (xs : List Value) (w : World), Row w g xs → o + vs.length ≤ xs.length → Row (w.setCells g o vs) g (lay xs o vs) := by
 intro vs
 induction vs with
 | nil => intro o xs w h _; rw [lay_nil]; exact h
 | cons v r ih =>
  intro o xs w h hl
  simp only [List.length_cons] at hl
  rw [← lay_cons v r (by omega)]
  exact ih _ _ _ (h.set (by omega) v) (by rw [List.length_set]; omega)
theorem sets_gb {g : Nat} : ∀ (vs : List Value) (o : Nat) (w : World), w.grownBy (w.setCells g o vs) (some g) := by
 intro vs
 induction vs with
 | nil => intro o w; exact World.grownBy.refl _ _
 | cons v r ih => intro o w; exact (set_gb w g o v).trans (ih _ _)
section
variable {P : Program} {w : World} {ops : Array Oper} {rest : List Oper} {o : Oper} {a : Act} {Q : Exit → Act → World → Prop}
theorem wpList_copy_row (hgd : o.guard = none) (d s : Operand) (dT sT : TypeId)
  (ho : o.op = .call { callee := .builtin .copy, args := #[d, s], argTypes := #[dT, sT] }) (elem : TypeId) (hu : P.underlying dT = some (.slice elem)) (hsz : (P.info? elem).map (·.size) = some 1)
  (dp : Option Addr) (dLen dCap : Nat) (hd : a.eval d = .slice dp dLen dCap) (A : Option Addr) (m c : Nat) (hs : a.eval s = .slice A m c)
  (X off : Nat) (xs : List Value) (hr : Row w X xs) (B : Nat) (cs : List Value) (hcs : Rd w B A cs) (hm : cs.length = m) (hdp : 0 < m → dp = some ⟨X, off, none⟩) (hle : m ≤ dLen) (hfit : off + m ≤ xs.length) (h1 : ∀ v ∈ cs, v.oneCell' = true)
  (h : ∀ w', Row w' X (lay xs off cs) → w.grownBy w' (some X) → wpList P ops Q rest (a.put o.dst (.int .i64 (m : Int))) w') : wpList P ops Q (o :: rest) a w := by
 subst hm
 rcases Nat.eq_zero_or_pos cs.length with h0 | h0
 ·
  have e : cs = [] := List.eq_nil_of_length_eq_zero h0
  subst e
  have hrun := run_copy_none (P := P) w dT sT o.type elem dp A dLen dCap 0 c hu hsz (by simp)
  exact wpList_copy_runI w hgd d s dT sT ho _ _ hd hs hrun (h w (by rw [lay_nil]; exact hr) (World.grownBy.refl _ _))
 ·
  obtain rfl := hdp h0
  obtain ⟨b, o2, rfl, hb, hc⟩ := hcs h0
  have hrun := run_copy_cells (P := P) w dT sT o.type elem X off dLen dCap ⟨b, o2, none⟩ cs.length c cs hu hsz (by simp [Nat.min_def]; omega) (fun j v hv => by rw [Addr.add_lit]; exact hc j v hv)
   (fun j hj => by rw [hr.1 (off + j) _ (List.getElem?_eq_getElem (by omega))]; rfl) (fun j hj => hr.2.1 _ (by omega)) h1
  exact wpList_copy_runI w hgd d s dT sT ho _ _ hd hs hrun (h _ (Row.sets cs off xs w hr (by omega)) (sets_gb _ _ _))
end
def adr (o : Option (List Nat)) : Value := .agg (u16s (o.getD (noughts 8))).toArray
def ret6 (o : Option (List Nat)) : Ending := .returned (.tuple #[adr o, .int .i64 (if o.isSome = true then 0 else 5)])
theorem Row.range {w : World} {X : Nat} {xs : List Value} (h : Row w X xs) : w.rangeAt X 0 xs := fun j v hv => by rw [Nat.zero_add]; exact h.1 j v hv
theorem results_row {P : Program} {fn : Func} {t u : Tmp} {ty : TypeId} (h : fn.results = #[.cell t ty, .tmp u]) {tmps : Array Value} {w : World} {R : Nat} {us : List Value} {d : TypeDesc}
  (ht : tmps.getD t undef = .pointer (some ⟨R, 0, none⟩)) (hR : Row w R us) (hu : P.underlying ty = some d) (hd : d.isRow = true) (hi : (P.info? ty).map (·.size) = some us.length) :
  (results fn tmps).run P w = .ok (.tuple #[.agg us.toArray, tmps.getD u undef]) w := by
 have hl := run_loadVar_mid (P := P) w R 0 ty us d hR.range hu hd hi
 have ht2 : tmps[t]?.getD undef = .pointer (some ⟨R, 0, none⟩) := by rw [← Array.getD_eq_getD_getElem?]; exact ht
 simp [results, h, ht2, asAddr, hl]
theorem info_arr8 : (Tryz.prog.info? 24).map (·.size) = some 8 := by kernel_rfl
-- The end of Parse: what block R holds is handed on.
theorem ret6_none : ret6 none = .returned (.tuple #[.agg #[.int .u16 0, .int .u16 0, .int .u16 0, .int .u16 0, .int .u16 0, .int .u16 0, .int .u16 0, .int .u16 0], .int .i64 5]) := by rfl
theorem u16s_take (l : List Nat) (k : Nat) : (u16s l).take k = u16s (l.take k) := by unfold u16s; rw [List.map_take]
theorem u16s_drop (l : List Nat) (k : Nat) : (u16s l).drop k = u16s (l.drop k) := by unfold u16s; rw [List.map_drop]
theorem u16s_lay (xs vs : List Nat) (o : Nat) : lay (u16s xs) o (u16s vs) = u16s (lay xs o vs) := by
 unfold lay; rw [u16s_append, u16s_append, u16s_take, u16s_len, u16s_drop]
theorem u16s_one (l : List Nat) : ∀ u ∈ u16s l, u.oneCell' = true := by
 intro u hu
 obtain ⟨c, _, rfl⟩ := List.mem_map.1 hu
 rfl
theorem info_u16s : (Tryz.prog.info? 23).map (·.size) = some 1 := by kernel_rfl
theorem eight {l : List Nat} (h : l.length = 8) : ∃ a b c d e f g i, l = [a, b, c, d, e, f, g, i] := by
 match l, h with
 | [a, b, c, d, e, f, g, i], _ => exact ⟨a, b, c, d, e, f, g, i, rfl⟩
-- The way to a number: K the number of pieces ahead of the gap (an integer), PRE what stands ahead of the copies.
-- The way to a number. WY: the world ahead of the copies; K: how many pieces stand ahead, as the walk has it; DA, DL: where the second copy begins, and how much room is there; SA, SC: its source.
-- The way to a number. WY: the world ahead of the copies; K: how many pieces stand ahead, as the walk has it; DA: where the second copy begins; SA: its source.
end Go.Proofs.YtoapelcofjjdnaaGreatDoor
namespace Go.Proofs.YtoapelcofjjdnaaGreatDoor
set_option linter.all false
open Go.RowKit
end Go.Proofs.YtoapelcofjjdnaaGreatDoor
namespace Go.Proofs.YtoapelcofjjdnaaGreatDoor
set_option linter.all false
open Go.RowKit
def DBt (w : World) : Prop := w.cell? ⟨7, 15, none⟩ = some (.int .u8 4)
theorem DBt.next {w w' : World} (h : DBt w) (hb : Below w.heap.size w w') : DBt w' := (hb.cell (p := ⟨_, 15, none⟩) (World.block_lt_of_cell? _ _ h)).trans h
def Buf (w : World) (g : Nat) (T : List UInt8) : Prop := ∃ xs, Row w g xs ∧ xs.length = 65 ∧ xs.drop (65 - T.length) = bytes T
theorem Buf.put {w : World} {g : Nat} {T : List UInt8} {p : Nat} (h : Buf w g T) (hT : T.length + p = 64) (c : UInt8) : Buf (w.setCell ⟨g, p, none⟩ (.int .u8 (c.toNat : Int))) g (c :: T) := by
 obtain ⟨xs, h1, h2, h3⟩ := h
 refine ⟨xs.set p (.int .u8 (c.toNat : Int)), h1.set (by omega) _, by simpa using h2, ?_⟩
 rw [List.length_cons, show 65 - (T.length + 1) = p by omega, List.drop_set, if_neg (by omega), Nat.sub_self, List.drop_eq_getElem_cons (by omega), List.set_cons_zero]
 rw [show 65 - T.length = p + 1 by omega] at h3
 rw [h3]; rfl
theorem Buf.at_ {w : World} {g : Nat} {T : List UInt8} {p : Nat} (h : Buf w g T) (hp : p < 65) : (∃ u, w.cell? ⟨g, p, none⟩ = some u) ∧ w.frozen? ⟨g, p, none⟩ = false := by
 obtain ⟨xs, h1, h2, h3⟩ := h
 exact ⟨⟨_, h1.1 p _ (List.getElem?_eq_getElem (by omega))⟩, h1.2.1 p (by omega)⟩
theorem Buf.rd {w : World} {g : Nat} {T : List UInt8} (h : Buf w g T) {p : Nat} (hp : p = 65 - T.length) : Rd w w.heap.size (some ⟨g, p, none⟩) (bytes T) := by
 obtain ⟨xs, h1, h2, h3⟩ := h
 have := (h1.rd h1.2.2).dropAt p
 rw [Nat.zero_add, hp, h3] at this
 rw [hp]; exact this
end Go.Proofs.YtoapelcofjjdnaaGreatDoor
namespace Go.Proofs.YtoapelcofjjdnaaGreatDoor
set_option linter.all false
open Go.RowKit
theorem digs16_len {u : Nat} (h : u < 65536) : (digs 16 u).length ≤ 4 := by
 have := digs_len (b := 16) (by decide) 4 u (by omega)
 omega
theorem hexs_len : ∀ (l : List Nat), (∀ x ∈ l, x < 65536) → (hexs (digs 16) l).length ≤ 5 * l.length := by
 intro l
 induction l with
 | nil => intro _; exact Nat.le_refl _
 | cons x l ih =>
  intro h
  have h1 := digs16_len (h x (by simp))
  have h2 := ih (fun y hy => h y (by simp [hy]))
  cases l with
  | nil => rw [hexs_one]; simp; omega
  | cons y r =>
   rw [hexs_more, List.length_append, List.length_cons]
   simp only [List.length_cons] at *
   omega
theorem u16s_get {l : List Nat} {j x : Nat} (h : l[j]? = some x) : (u16s l)[j]? = some (.int .u16 (x : Int)) := by
 unfold u16s; rw [List.getElem?_map, h]; rfl
end Go.Proofs.YtoapelcofjjdnaaGreatDoor
namespace Go.Proofs.YtoapelcofjjdnaaGreatDoor
set_option linter.all false
open Go.RowKit
section
variable {a0 a1 a2 a3 a4 a5 a6 a7 : Nat}
end
theorem Row.far {w : World} {g : Nat} {xs : List Value} (h : Row w g xs) (o : Obj) : Row (w.alloc o) g xs := h.below ((Below.refl w.heap.size w).alloc (Nat.le_refl _) o) h.2.2
def L8 (w : World) : Prop := EV w ∧ DBt w
theorem L8.next {w w' : World} (h : L8 w) (hb : Below w.heap.size w w') : L8 w' := ⟨h.1.next hb, h.2.next hb⟩
theorem show6_len {a : List Nat} (h : ∀ x ∈ a, x < 65536) (h8 : a.length = 8) : (pShow6 a).length ≤ 100 := by
 have h1 := hexs_len a h
 have h2 := hexs_len (a.take (rowI a 8).1) (fun x hx => h x (List.mem_of_mem_take hx))
 have h3 := hexs_len (a.drop ((rowI a 8).1 + (rowI a 8).2)) (fun x hx => h x (List.mem_of_mem_drop hx))
 rw [List.length_take] at h2
 rw [List.length_drop] at h3
 unfold pShow6 pShowD
 split
 · omega
 · rw [List.length_append, List.length_cons, List.length_cons]; omega
end Go.Proofs.YtoapelcofjjdnaaGreatDoor
namespace Go.Proofs.YtoapelcofjjdnaaGreatDoor
set_option linter.all false
open Go.RowKit
theorem gapRow_len {a : List Nat} (h16 : ∀ x ∈ a, x < 65536) (h8 : a.length = 8) (g n i : Nat) : (gapRow (digs 16) a g n i).length ≤ 90 := by
 have h1 := hexs_len (a.take i) (fun x hx => h16 x (List.mem_of_mem_take hx))
 have h2 := hexs_len (a.take g) (fun x hx => h16 x (List.mem_of_mem_take hx))
 have h3 := hexs_len ((a.take i).drop (g + n)) (fun x hx => h16 x (List.mem_of_mem_take (List.mem_of_mem_drop hx)))
 rw [List.length_take] at h1 h2
 rw [List.length_drop, List.length_take] at h3
 unfold gapRow
 split
 · omega
 · rw [List.length_append, List.length_cons, List.length_cons]; omega
theorem at_yes {a : List Nat} {i n d : Nat} {f : Int} (h : rAt (rowI a i) = f ∧ rLong (rowI a i) = n) (hz : zrun (a.drop i) = d) (hn : n < d) : rAt (rowI a (i + 1)) = (i : Int) ∧ rLong (rowI a (i + 1)) = d := by
 have := rAt_hit (a := a) (i := i) (by rw [h.2, hz]; exact hn)
 rw [hz] at this
 exact this
theorem at_no {a : List Nat} {i n d : Nat} {f : Int} (h : rAt (rowI a i) = f ∧ rLong (rowI a i) = n) (hz : zrun (a.drop i) = d) (hn : ¬ n < d) : rAt (rowI a (i + 1)) = f ∧ rLong (rowI a (i + 1)) = n := by
 have := rAt_miss (a := a) (i := i) (by rw [h.2, hz]; exact hn)
 rw [h.1, h.2] at this
 exact this
end Go.Proofs.YtoapelcofjjdnaaGreatDoor
namespace Go.Proofs.YtoapelcofjjdnaaGreatDoor
set_option linter.all false
open Go.RowKit
theorem hexTab : ∀ d, d < 16 → ({ data := #[48, 49, 50, 51, 52, 53, 54, 55, 56, 57, 97, 98, 99, 100, 101, 102] } : ByteArray).extract d (d + 1) = str [dch d] := by decide +kernel
set_option maxRecDepth 100000 in
set_option maxHeartbeats 4000000 in
theorem piece6r_any (n : Nat) (w : World) (hn : n < 65536) : Calls Tryz.prog 35 #[.int .u16 (n : Int)] w fun e w' => e = .returned (.string (str (digs 16 n))) ∧ Below w.heap.size w w' := by
 have hlen := Lib.hid (digs16_len hn)
 go_enter Tryz.func35, Tryz.ntmps35
 go_wp2
 go_loopg [0, 3] n (fun k s0 s3 wr => ∃ (m : Nat) (T : List UInt8), k = m ∧ s0 = .int .u16 (m : Int) ∧ s3 = .string (str T) ∧ m ≤ n ∧ T.length ≤ 4 ∧ Hid (digs 16 n = digs 16 m ++ T) ∧ w = wr)
 case atStart => exact ⟨n, [], rfl, rfl, rfl, Nat.le_refl _, by simp, (List.append_nil _).symm, rfl⟩
 case round =>
  obtain ⟨_, T, rfl, rfl, rfl, hm, hT, hD, rfl⟩ := hrel
  obtain ⟨d, hd⟩ : ∃ d : Nat, d = gk % 16 := ⟨_, rfl⟩
  obtain ⟨q, hq⟩ : ∃ q : Nat, q = gk / 16 := ⟨_, rfl⟩
  have hd16 : d < 16 := by omega
  have hrem : ((gk : Int)).tmod 16 = (d : Int) := by rw [hd]; exact (Int.ofNat_tmod gk 16).symm
  have hquo : ((gk : Int)).tdiv 16 = (q : Int) := by rw [hq]; exact (Int.ofNat_tdiv gk 16).symm
  have hv0 : IntKind.u16.wrap (d : Int) = (d : Int) := IntWalk.u16_in _ (by omega)
  have hv1 : IntKind.u16.wrap ((d : Int) + 1) = (d : Int) + 1 := IntWalk.u16_in _ (by omega)
  have hv3 : IntKind.u16.wrap (q : Int) = (q : Int) := IntWalk.u16_in _ (by omega)
  have hx1 : (d : Int) ≤ (d : Int) + 1 := by omega
  have hx2 : (d : Int) + 1 ≤ 16 := by omega
  have hx3 : (0 : Int) ≤ (d : Int) := by omega
  have hmid : ({ data := #[48, 49, 50, 51, 52, 53, 54, 55, 56, 57, 97, 98, 99, 100, 101, 102] } : ByteArray).extract d (d + 1) = str [dch d] := hexTab d hd16
  have e1 : str [dch d] ++ str T = str (dch d :: T) := str_app [dch d] T
  have y1 := str_size T
  have y2 : (str [dch d]).size = 1 := str_size [dch d]
  have k1 : (9223372036854775807 < 1 + T.length) = False := eq_false (by omega)
  by_cases hq1 : q = 0
  ·
   have HF := Lib.hid (show digs 16 n = dch d :: T by
    rw [hD.out, digs_small (show gk < 16 by omega), show d = gk by omega]; rfl)
   have hz : ((q : Int) == 0) = true := by rw [beq_iff_eq]; omega
   clear hd hq
   go_wp2
   go_ret
   exact ⟨by rw [HF.out]; rfl, Below.refl _ _⟩
  ·
   have HF := Lib.hid (show digs 16 n = digs 16 q ++ dch d :: T by
    rw [hD.out, digs_big (b := 16) (by decide) (show 16 ≤ gk by omega), ← hq, ← hd, List.append_assoc]; rfl)
   have hz : ((q : Int) == 0) = false := by rw [beq_eq_false_iff_ne]; omega
   have hqm : q < gk := by omega
   have HT := Lib.hid (show (dch d :: T).length ≤ 4 by
    have h1 := hlen.out
    rw [HF.out, List.length_append] at h1
    omega)
   clear hd hq hq1
   go_wp2
   go_roundg q
   case measure => omega
   case rel => exact ⟨q, dch d :: T, rfl, by go_num, rfl, by omega, HT.out, HF.out, rfl⟩
set_option maxRecDepth 100000 in
set_option maxHeartbeats 16000000 in
theorem show6r_any (a : List Nat) (a0 a1 a2 a3 a4 a5 a6 a7 : Nat) (ha : a = [a0, a1, a2, a3, a4, a5, a6, a7]) (h16 : ∀ x ∈ a, x < 65536) (w : World) :
  Calls Tryz.prog 16 #[.agg #[.int .u16 (a0 : Int), .int .u16 (a1 : Int), .int .u16 (a2 : Int), .int .u16 (a3 : Int), .int .u16 (a4 : Int), .int .u16 (a5 : Int), .int .u16 (a6 : Int), .int .u16 (a7 : Int)]] w fun e w' => e = .returned (.string (str (pShow6 a))) ∧ Below w.heap.size w w' := by
 have hb0 : Below w.heap.size w (w.alloc (.cells #[.int .u16 (a0 : Int), .int .u16 (a1 : Int), .int .u16 (a2 : Int), .int .u16 (a3 : Int), .int .u16 (a4 : Int), .int .u16 (a5 : Int), .int .u16 (a6 : Int), .int .u16 (a7 : Int)] 24)) := (Below.refl _ _).alloc (Nat.le_refl _) _
 have hR : Row (w.alloc (.cells #[.int .u16 (a0 : Int), .int .u16 (a1 : Int), .int .u16 (a2 : Int), .int .u16 (a3 : Int), .int .u16 (a4 : Int), .int .u16 (a5 : Int), .int .u16 (a6 : Int), .int .u16 (a7 : Int)] 24)) w.heap.size (u16s a) := by rw [ha]; exact Row.made w #[.int .u16 (a0 : Int), .int .u16 (a1 : Int), .int .u16 (a2 : Int), .int .u16 (a3 : Int), .int .u16 (a4 : Int), .int .u16 (a5 : Int), .int .u16 (a6 : Int), .int .u16 (a7 : Int)] 24
 have hl8 : a.length = 8 := by rw [ha]; rfl
 have H16 := Lib.hid h16
 clear ha h16
 go_enter Tryz.func16, Tryz.ntmps16
 go_wp2
 generalize w.alloc (.cells #[.int .u16 (a0 : Int), .int .u16 (a1 : Int), .int .u16 (a2 : Int), .int .u16 (a3 : Int), .int .u16 (a4 : Int), .int .u16 (a5 : Int), .int .u16 (a6 : Int), .int .u16 (a7 : Int)] 24) = wr at *
 go_loopg [3, 4, 5] 8 (fun k s5 s6 s7 wx => ∃ (i n : Nat) (f : Int), k = 8 - i ∧ i ≤ 8 ∧ s7 = .int .i64 (i : Int) ∧ s5 = .int .i64 f ∧ s6 = .int .i64 (n : Int) ∧ n ≤ 8 ∧ Hid (rAt (rowI a i) = f ∧ rLong (rowI a i) = n) ∧ wr = wx)
 case atStart => exact ⟨0, 1, -1, rfl, by omega, rfl, rfl, rfl, by omega, ⟨rfl, rfl⟩, rfl⟩
 case round =>
  obtain ⟨i, n, f, rfl, hi, rfl, rfl, rfl, hn, hrow, rfl⟩ := hrel
  by_cases hlt : i < 8
  ·
   have hi8 : (i : Int) < 8 := by omega
   go_wp2
   go_loopg [6] (8 - i) (fun k s8 wx => ∃ d : Nat, k = 8 - i - d ∧ i + d ≤ 8 ∧ s8 = .int .i64 (d : Int) ∧ Hid (zrun (a.drop i) = d + zrun (a.drop (i + d))) ∧ wr = wx)
   case atStart => exact ⟨0, rfl, by omega, rfl, by show _ = 0 + _; rw [Nat.zero_add]; rfl, rfl⟩
   case round =>
    obtain ⟨d, rfl, hd, rfl, hz, rfl⟩ := hrel
    have hw1 : IntKind.i64.wrap ((i : Int) + (d : Int)) = (i : Int) + (d : Int) := IntWalk.i64_in _ (by omega)
    obtain ⟨j, hj⟩ : ∃ j, j = i + d := ⟨_, rfl⟩
    have hsum : (i : Int) + (d : Int) = (j : Int) := by omega
    rw [hsum] at hw1
    rw [← hj] at hz hd
    by_cases hj8 : j < 8
    ·
     obtain ⟨x, hx⟩ : ∃ x, a[j]? = some x := ⟨_, List.getElem?_eq_getElem (by omega)⟩
     have hc := hR.1 j _ (u16s_get hx)
     have hj8' : (j : Int) < 8 := by omega
     have hj0 : (0 : Int) ≤ (j : Int) := by omega
     by_cases hx0 : x = 0
     ·
      subst hx0
      have HZ := Lib.hid (show zrun (a.drop i) = (d + 1) + zrun (a.drop (i + (d + 1))) by rw [hz.out, zrun_hit hx, show j + 1 = i + (d + 1) by omega]; omega)
      have hjd : i + (d + 1) ≤ 8 := by omega
      clear hx hj
      go_wp2
      go_roundg (8 - i - (d + 1))
      case measure => omega
      case rel => exact ⟨d + 1, rfl, hjd, by go_num, HZ.out, rfl⟩
     ·
      have hxb : ((x : Int) == 0) = false := by rw [beq_eq_false_iff_ne]; omega
      have HZ := Lib.hid (show zrun (a.drop i) = d by rw [hz.out, zrun_miss hx hx0]; omega)
      have hd8 : d ≤ 8 := by omega
      clear hx hx0 hj
      by_cases hdn : n < d
      ·
       have HR := Lib.hid (at_yes hrow.out HZ.out hdn)
       have hdnI : (n : Int) < (d : Int) := by omega
       go_wp2
       go_roundg (8 - (i + 1))
       case measure => omega
       case rel => exact ⟨i + 1, d, _, rfl, by omega, by go_num, rfl, rfl, by omega, HR.out, rfl⟩
      ·
       have HR := Lib.hid (at_no hrow.out HZ.out hdn)
       have hdnI : ¬ (n : Int) < (d : Int) := by omega
       go_wp2
       go_roundg (8 - (i + 1))
       case measure => omega
       case rel => exact ⟨i + 1, n, f, rfl, by omega, by go_num, rfl, rfl, hn, HR.out, rfl⟩
    ·
     have HZ := Lib.hid (show zrun (a.drop i) = d by rw [hz.out, zrun_end (by omega)]; omega)
     have hj8I : ¬ (j : Int) < 8 := by omega
     have hd8 : d ≤ 8 := by omega
     clear hj hj8
     by_cases hdn : n < d
     ·
      have HR := Lib.hid (at_yes hrow.out HZ.out hdn)
      have hdnI : (n : Int) < (d : Int) := by omega
      go_wp2
      go_roundg (8 - (i + 1))
      case measure => omega
      case rel => exact ⟨i + 1, d, _, rfl, by omega, by go_num, rfl, rfl, by omega, HR.out, rfl⟩
     ·
      have HR := Lib.hid (at_no hrow.out HZ.out hdn)
      have hdnI : ¬ (n : Int) < (d : Int) := by omega
      go_wp2
      go_roundg (8 - (i + 1))
      case measure => omega
      case rel => exact ⟨i + 1, n, f, rfl, by omega, by go_num, rfl, rfl, hn, HR.out, rfl⟩
  ·
   obtain rfl : i = 8 := by omega
   have HG := Lib.hid fun (i : Nat) (h : i < 8) => (show (i : Int) = f ↔ i = rowG a by have := gapG_at (s := rowI a 8) h; rw [hrow.out.1] at this; exact this)
   have HNN := Lib.hid (show rowN a = n from hrow.out.2)
   clear hrow hlt
   have HZ := Lib.hid (rowT_zero (a := a) hl8)
   have hng := rowN_pos (a := a) hl8
   have hgl := rowG_le (a := a) hl8
   have hgi := Lib.hid (rowG_in (a := a) hl8)
   have HGap := Lib.hid (rowT_gap (a := a) hl8)
   have HCs := Lib.hid fun (i x : Nat) (hx : a[i]? = some x) h1 h2 => rowT_cases hl8 H16.out hx (i := i) h1 h2
   have HL := Lib.hid fun i => (show (rowT a i).length ≤ 90 from gapRow_len H16.out hl8 _ _ i)
   have HE := Lib.hid (rowT_end (a := a) hl8)
   rw [HNN.out] at hng hgi HGap HCs
   obtain ⟨G, hG⟩ : ∃ G, G = rowG a := ⟨_, rfl⟩
   rw [← hG] at HG hgl hgi HGap HCs
   obtain ⟨W, hW⟩ : ∃ W, W = rowT a := ⟨_, rfl⟩
   rw [← hW] at HGap HCs HL HE HZ
   clear hG hW HNN
   go_wp2
   go_loopg [7, 8] 8 (fun k s9 s10 wx => ∃ i : Nat, k = 8 - i ∧ i ≤ 8 ∧ s9 = .string (str (W i)) ∧ s10 = .int .i64 (i : Int) ∧ (i ≤ G ∨ G + n ≤ i) ∧ Row wx w.heap.size (u16s a) ∧ Below w.heap.size w wx)
   case atStart => exact ⟨0, rfl, by omega, by rw [HZ.out]; rfl, rfl, .inl (Nat.zero_le _), hR, hb0⟩
   case round =>
    clear hR hb0
    obtain ⟨i, rfl, hi, rfl, rfl, hin, hR, hbel⟩ := hrel
    have hq0 := hbel.size
    by_cases hlt : i < 8
    ·
     have hi8 : (i : Int) < 8 := by omega
     have hi0 : (0 : Int) ≤ (i : Int) := by omega
     have hWl := HL.out i
     obtain ⟨S, hS⟩ : ∃ S, S = W i := ⟨_, rfl⟩
     rw [← hS] at hWl ⊢
     have ySS := str_size S
     by_cases hg : i = G
     ·
      have hfi := (HG.out i hlt).2 hg
      have hgn := hgi.out (by omega)
      obtain ⟨U, hU⟩ : ∃ Z0, Z0 = S ++ [58, 58] := ⟨_, rfl⟩
      have eU : str S ++ { data := #[58, 58] } = str U := (str_app S [58, 58]).trans (by rw [hU])
      have nU : U.length ≤ 100 := by rw [hU, List.length_append]; simp only [List.length_cons, List.length_nil]; omega
      have yU := str_size U
      have kU : (9223372036854775807 < S.length + 2) = False := eq_false (by omega)
      have HU := Lib.hid (show U = W (i + n) by rw [hU, hS, hg]; exact (HGap.out (by omega)).symm)
      have hw1 : IntKind.i64.wrap ((i : Int) + (n : Int)) = (i : Int) + (n : Int) := IntWalk.i64_in _ (by omega)
      have hw2 : IntKind.i64.wrap ((i : Int) + (n : Int) - 1) = (i : Int) + (n : Int) - 1 := IntWalk.i64_in _ (by omega)
      have hw3 : IntKind.i64.wrap ((i : Int) + (n : Int) - 1 + 1) = (i : Int) + (n : Int) := by rw [IntWalk.i64_in _ (by omega)]; omega
      clear hU hS
      go_wp2
      go_roundg (8 - (i + n))
      case measure => omega
      case rel => exact ⟨i + n, rfl, by omega, by rw [HU.out], by go_num, .inr (by omega), hR, hbel⟩
     ·
      have hfi : ((i : Int) == f) = false := by rw [beq_eq_false_iff_ne]; exact fun e => hg ((HG.out i hlt).1 e)
      obtain ⟨x, hx⟩ : ∃ x, a[i]? = some x := ⟨_, List.getElem?_eq_getElem (by omega)⟩
      have hx16 := H16.out x (List.mem_of_getElem? hx)
      have hc := hR.1 i _ (u16s_get hx)
      have hcs := HCs.out i x hx hg hin
      have hnx : i + 1 ≤ G ∨ G + n ≤ i + 1 := by omega
      rw [← hS] at hcs
      have hxl := digs16_len hx16
      have CP := Lib.hid (piece6r_any x wr hx16)
      obtain ⟨X, hX⟩ : ∃ X, X = digs 16 x := ⟨_, rfl⟩
      rw [← hX] at hcs hxl CP
      have y2 := str_size X
      have HCC := Lib.hid hcs
      clear hcs hx hS hX
      rcases HCC.out with ⟨h0, h1⟩ | ⟨p, h0, h1⟩ | ⟨p, c, h0, hc58, h1⟩
      ·
       subst h0
       have HU := Lib.hid h1.symm
       clear h1
       have e1 : ({ data := #[] } : ByteArray) ++ str X = str X := str_app [] X
       have e0 : str [] = { data := #[] } := rfl
       have etl : ({ data := #[] } : ByteArray).toList = [] := str_toL []
       have k1 : (9223372036854775807 < X.length) = False := eq_false (by omega)
       go_wp2_with (go_at_call 35; go_must (go_fit CP.out); rintro e w3 ⟨rfl, hb3⟩)
       go_roundg (8 - (i + 1))
       case measure => omega
       case rel => exact ⟨i + 1, rfl, by omega, by rw [← HU.out], by go_num, hnx, hR.below hb3 hR.2.2, hbel.trans (hb3.mono hq0)⟩
      ·
       have hl : S.length = p.length + 1 := by rw [h0]; simp
       have hgq : gb S p.length = 58 := by rw [h0]; unfold gb; rw [List.getD_eq_getElem?_getD, List.getElem?_append_right (Nat.le_refl _), Nat.sub_self]; rfl
       have HU := Lib.hid h1.symm
       have hgt := str_get S
       have htl := str_toL S
       have hne : S.isEmpty = false := by rw [h0]; simp
       have hn' : (S = []) = False := eq_false (by rw [h0]; simp)
       obtain ⟨q, hq⟩ : ∃ q, q = p.length := ⟨_, rfl⟩
       rw [← hq] at hl hgq
       rw [hl] at hWl ySS
       have e1 : str S ++ str X = str (S ++ X) := str_app S X
       have k1 : (9223372036854775807 < q + 1 + X.length) = False := eq_false (by omega)
       have hw1 : IntKind.i64.wrap ((q : Int)) = (q : Int) := IntWalk.i64_in _ (by omega)
       have hq1 : (0 : Int) ≤ (q : Int) := by omega
       clear h0 h1 hq
       go_wp2_with (go_at_call 35; go_must (go_fit CP.out); rintro e w3 ⟨rfl, hb3⟩)
       go_roundg (8 - (i + 1))
       case measure => omega
       case rel => exact ⟨i + 1, rfl, by omega, by rw [← HU.out], by go_num, hnx, hR.below hb3 hR.2.2, hbel.trans (hb3.mono hq0)⟩
      ·
       have hl : S.length = p.length + 1 := by rw [h0]; simp
       have hgq : gb S p.length = c := by rw [h0]; unfold gb; rw [List.getD_eq_getElem?_getD, List.getElem?_append_right (Nat.le_refl _), Nat.sub_self]; rfl
       have HU := Lib.hid h1.symm
       have hgt := str_get S
       have htl := str_toL S
       have hne : S.isEmpty = false := by rw [h0]; simp
       have hn' : (S = []) = False := eq_false (by rw [h0]; simp)
       have hcb : ((c.toNat : Int) == 58) = false := by rw [beq_eq_false_iff_ne]; exact fun e => hc58 (byte_ext (by show c.toNat = 58; omega))
       obtain ⟨q, hq⟩ : ∃ q, q = p.length := ⟨_, rfl⟩
       rw [← hq] at hl hgq
       rw [hl] at hWl ySS
       have e0 : str S ++ { data := #[58] } = str (S ++ [58]) := str_app S [58]
       have e1 : str (S ++ [58]) ++ str X = str (S ++ [58] ++ X) := str_app _ X
       have y3 : (str (S ++ [58])).size = q + 1 + 1 := by rw [str_size, List.length_append, hl]; rfl
       have k1 : (9223372036854775807 < q + 1 + 1) = False := eq_false (by omega)
       have k2 : (9223372036854775807 < q + 1 + 1 + X.length) = False := eq_false (by omega)
       have hw1 : IntKind.i64.wrap ((q : Int)) = (q : Int) := IntWalk.i64_in _ (by omega)
       have hq1 : (0 : Int) ≤ (q : Int) := by omega
       clear h0 h1 hq hc58
       go_wp2_with (go_at_call 35; go_must (go_fit CP.out); rintro e w3 ⟨rfl, hb3⟩)
       go_roundg (8 - (i + 1))
       case measure => omega
       case rel => exact ⟨i + 1, rfl, by omega, by rw [← HU.out]; simp, by go_num, hnx, hR.below hb3 hR.2.2, hbel.trans (hb3.mono hq0)⟩
    ·
     obtain rfl : i = 8 := by omega
     go_wp2
     go_ret
     exact ⟨by rw [← HE.out]; rfl, hbel⟩
end Go.Proofs.YtoapelcofjjdnaaGreatDoor
namespace Go.Proofs.YtoapelcofjjdnaaGreatDoor
set_option linter.all false
open Go.RowKit
theorem dec_fold_ge : ∀ (l : List UInt8) (n : Nat), l.all decOk = true → n * 10 ^ l.length ≤ l.foldl (fun n c => n * 10 + (c.toNat - 48)) n := by
 intro l
 induction l with
 | nil => intro n _; simp
 | cons c t ih =>
  intro n h
  rw [List.all_cons, Bool.and_eq_true] at h
  rw [List.foldl_cons, List.length_cons, Nat.pow_succ]
  have := ih (n * 10 + (c.toNat - 48)) h.2
  have h2 : n * 10 * 10 ^ t.length ≤ (n * 10 + (c.toNat - 48)) * 10 ^ t.length := Nat.mul_le_mul_right _ (by omega)
  have e : n * (10 ^ t.length * 10) = n * 10 * 10 ^ t.length := by rw [Nat.mul_assoc, Nat.mul_comm (10 ^ t.length)]
  omega
theorem dec_fold_lt : ∀ (l : List UInt8) (n : Nat), l.all decOk = true → l.foldl (fun n c => n * 10 + (c.toNat - 48)) n < (n + 1) * 10 ^ l.length := by
 intro l
 induction l with
 | nil => intro n _; simp
 | cons c t ih =>
  intro n h
  rw [List.all_cons, Bool.and_eq_true] at h
  have hc := of_decide_eq_true h.1
  rw [List.foldl_cons, List.length_cons, Nat.pow_succ]
  have := ih (n * 10 + (c.toNat - 48)) h.2
  have h2 : (n * 10 + (c.toNat - 48) + 1) * 10 ^ t.length ≤ ((n + 1) * 10) * 10 ^ t.length := Nat.mul_le_mul_right _ (by omega)
  have e : (n + 1) * (10 ^ t.length * 10) = ((n + 1) * 10) * 10 ^ t.length := by rw [Nat.mul_assoc, Nat.mul_comm (10 ^ t.length)]
  omega
theorem decN_lt (l : List UInt8) (h : l.all decOk = true) : decN l < 10 ^ l.length := by have := dec_fold_lt l 0 h; simpa [decN] using this
theorem rByte_prog (p : List UInt8) : rByte p = if 1 ≤ p.length ∧ p.length ≤ 3 ∧ ¬ (1 < p.length ∧ gb p 0 = 48) ∧ p.all decOk = true ∧ decN p ≤ 255 then some (decN p) else none := by
 unfold rByte
 by_cases ha : p.all decOk = true
 ·
  have key : okByte p = true ↔ 1 ≤ p.length ∧ p.length ≤ 3 ∧ ¬ (1 < p.length ∧ gb p 0 = 48) ∧ decN p ≤ 255 := by
   unfold okByte
   rw [decide_eq_true_iff]
   cases p with
   | nil => simp
   | cons c t =>
    have hg : gb (c :: t) 0 = c := rfl
    rw [hg]
    constructor
    ·
     rintro ⟨_, h2, h3⟩
     have hn : ¬ (1 < (c :: t).length ∧ c = 48) := by
      rintro ⟨h4, h5⟩
      rcases h3 with h3 | h3
      · injection h3 with _ h3; subst h3; simp at h4
      · exact h3 (by rw [h5]; rfl)
     refine ⟨by simp, ?_, hn, by omega⟩
     rcases Nat.lt_or_ge 3 (c :: t).length with h4 | h4
     ·
      exfalso
      have hc : c ≠ 48 := fun e => hn ⟨by omega, e⟩
      rw [List.all_cons, Bool.and_eq_true] at ha
      have hd := of_decide_eq_true ha.1
      have hc1 : 1 ≤ c.toNat - 48 := by
       have : c.toNat ≠ 48 := fun e => hc (byte_ext e)
       omega
      have h5 := dec_fold_ge t (0 * 10 + (c.toNat - 48)) ha.2
      have h6 : decN (c :: t) = t.foldl (fun n c => n * 10 + (c.toNat - 48)) (0 * 10 + (c.toNat - 48)) := rfl
      have h7 : 10 ^ 3 ≤ 10 ^ t.length := Nat.pow_le_pow_right (by decide) (by simp at h4; omega)
      have h8 : 1 * 10 ^ t.length ≤ (0 * 10 + (c.toNat - 48)) * 10 ^ t.length := Nat.mul_le_mul_right _ (by omega)
      have h9 : (10 : Nat) ^ 3 = 1000 := rfl
      omega
     · exact h4
    ·
     rintro ⟨_, h2, h3, h4⟩
     refine ⟨by simp, by omega, ?_⟩
     by_cases hc : c = 48
     ·
      left
      have : ¬ 1 < (c :: t).length := fun h => h3 ⟨h, hc⟩
      have ht : t = [] := List.eq_nil_of_length_eq_zero (by rw [List.length_cons] at this; omega)
      rw [hc, ht]
     ·
      right
      intro e
      injection e with e
      exact hc e
  by_cases hk : okByte p = true
  ·
   obtain ⟨k1, k2, k3, k4⟩ := key.1 hk
   rw [if_pos ⟨ha, hk⟩, if_pos ⟨k1, k2, k3, ha, k4⟩]
  · rw [if_neg (fun h => hk h.2), if_neg (fun h => hk (key.2 ⟨h.1, h.2.1, h.2.2.1, h.2.2.2.2⟩))]
 · rw [if_neg (fun h => ha h.1), if_neg (fun h => ha h.2.2.2.1)]
theorem rBytes_next {b cs : List (List UInt8)} {j : Nat} {p : List UInt8} {acc : List Nat} (h : rBytes b = (rBytes (cs.drop j)).map (acc ++ ·)) (hp : cs[j]? = some p) :
  (rByte p = none → rBytes b = none) ∧ ∀ n, rByte p = some n → rBytes b = (rBytes (cs.drop (j + 1))).map ((acc ++ [n]) ++ ·) := by
 obtain ⟨hj, e⟩ := List.getElem?_eq_some_iff.1 hp
 rw [List.drop_eq_getElem_cons hj, e, rBytes] at h
 constructor
 · intro h1; rw [h1] at h; exact h
 ·
  intro n h1
  rw [h1] at h
  rw [h]
  cases rBytes (cs.drop (j + 1)) with
  | none => rfl
  | some r => show some (acc ++ n :: r) = some (acc ++ [n] ++ r); simp
theorem take_all_next {P : UInt8 → Bool} {p : List UInt8} {k : Nat} (h : (tk p k).all P = true) (hk : k < p.length) (hp : P (gb p k) = true) : (tk p (k + 1)).all P = true := by
 rw [tk_next hk, List.all_append, h]
 simp [hp]
theorem not_all_at {P : UInt8 → Bool} {p : List UInt8} {k : Nat} (hk : k < p.length) (hp : P (gb p k) = false) : p.all P = false := by
 rw [Bool.eq_false_iff]
 intro h
 have := List.all_eq_true.1 h (gb p k) (List.mem_of_getElem? (gb_some hk))
 rw [hp] at this; cases this
theorem decN_next {p : List UInt8} {k : Nat} (hk : k < p.length) : decN (tk p (k + 1)) = decN (tk p k) * 10 + ((gb p k).toNat - 48) := by rw [tk_next hk, decN_snoc]
theorem tk_whole (p : List UInt8) : tk p p.length = p := List.take_length
def FourP (w : World) (o : Option (List Nat)) (e : Ending) (w' : World) : Prop :=
 match o with
 | none => e = .returned (.tuple #[.slice none 0 0, .bool false]) ∧ Below w.heap.size w w'
 | some l => ∃ g c, e = .returned (.tuple #[.slice (some ⟨g, 0, none⟩) l.length c, .bool true]) ∧ Rd w' w'.heap.size (some ⟨g, 0, none⟩) (u16s l) ∧ w.heap.size ≤ g ∧ Below w.heap.size w w'
theorem u16_pair {a b : Nat} (ha : a < 256) (hb : b < 256) : bits .or .u16 ((a : Int) * 256) (b : Int) = ((a * 256 + b : Nat) : Int) := by
 have e : ((a : Int) * 256) = ((a * 256 : Nat) : Int) := by omega
 rw [e, u16_or_nat _ _ (by omega) (by omega)]
 have h1 := Nat.shiftLeft_add_eq_or_of_lt (b := b) (i := 8) (show b < 2 ^ 8 from hb) a
 rw [Nat.shiftLeft_eq] at h1
 have : a * 2 ^ 8 = a * 256 := rfl
 rw [this] at h1
 rw [← h1]
set_option maxRecDepth 100000 in
set_option maxHeartbeats 16000000 in
theorem four6r_any (s : List UInt8) (w : World) (hs : s.length ≤ 1000) :
  Calls Tryz.prog 134 #[.string (str s)] w (FourP w (rFour s)) := by
 have C1 := Lib.hid (cut6_any s 46 w (by omega))
 have HP := Lib.hid (show rFour s = if (cuts 46 s).length = 4 then (rBytes (cuts 46 s)).map two else none from rfl)
 have HL := Lib.hid fun (p : List UInt8) (h : p ∈ cuts 46 s) => (show p.length ≤ 1000 by have := cuts_sum 46 s p h; omega)
 have hcl := cuts_le 46 s
 obtain ⟨cs, hcse⟩ : ∃ cs, cs = cuts 46 s := ⟨_, rfl⟩
 rw [← hcse] at C1 HP HL hcl
 clear hcse
 have h46 : ((46 : UInt8).toNat : Int) = 46 := rfl
 by_cases h4 : cs.length = 4
 ·
  have HP2 := Lib.hid (show rFour s = (rBytes cs).map two by rw [HP.out, if_pos h4])
  have h4b : ((cs.length : Int) != 4) = false := by simp [h4]
  clear HP
  go_enter Tryz.func134, Tryz.ntmps134
  go_wp2_with (go_at_call 100; go_must (go_fit C1.out); rintro e w1 ⟨v1, rfl, hown1, hb1⟩; obtain ⟨A1, c1, rfl, hc1, hm1, hr1⟩ := own_rdN hown1)
  clear hown1
  have hX0 : Row (w1.alloc (.cells #[.int .u16 0, .int .u16 0, .int .u16 0, .int .u16 0] 166)) w1.heap.size (u16s ([] ++ noughts (4 - 0))) := Row.made w1 #[.int .u16 0, .int .u16 0, .int .u16 0, .int .u16 0] 166
  have hbA := bnew hb1 (.cells #[.int .u16 0, .int .u16 0, .int .u16 0, .int .u16 0] 166)
  have hbB : Below w1.heap.size w1 (w1.alloc (.cells #[.int .u16 0, .int .u16 0, .int .u16 0, .int .u16 0] 166)) := (Below.refl _ _).alloc (Nat.le_refl _) _
  have hl4 : (cs.length : Int) = 4 := by omega
  go_loopg [6] 4 (fun k s6 wr => ∃ (i : Nat) (nums : List Nat), k = 4 - i ∧ i ≤ 4 ∧ s6 = .int .i64 (i : Int) ∧ nums.length = i ∧ Hid (∀ n ∈ nums, n < 256) ∧ Row wr w1.heap.size (u16s (nums ++ noughts (4 - i))) ∧ Hid (rBytes cs = (rBytes (cs.drop i)).map (nums ++ ·)) ∧ Below w.heap.size w wr ∧ Below w1.heap.size w1 wr)
  case atStart => exact ⟨0, [], rfl, by omega, rfl, rfl, (fun n h => by cases h), hX0, by show rBytes cs = (rBytes cs).map ([] ++ ·); cases rBytes cs <;> rfl, hbA, hbB⟩
  case round =>
   clear hX0 hbA hbB
   obtain ⟨i, nums, rfl, hi, rfl, hnl, hn256, hX, hinv, hbel, hbel1⟩ := hrel
   by_cases hlt : i < 4
   ·
    obtain ⟨b, off, p, rfl, hb', hc0, hx⟩ := hr1.str_at (k := i) (by omega)
    have hc := cell_on hbel1 hc0 hb'
    have hi4 : (i : Int) < 4 := by omega
    have hi0 : (0 : Int) ≤ (i : Int) := by omega
    have hil : (i : Int) < (cs.length : Int) := by omega
    have HNX := Lib.hid (rBytes_next hinv.out hx.out)
    have hRP := Lib.hid (rByte_prog p)
    have hpl := HL.out p (List.mem_of_getElem? hx.out)
    have hsz := str_size p
    have hgt := str_get p
    clear hx
    by_cases h1 : 1 ≤ p.length
    ·
     by_cases h3 : p.length ≤ 3
     ·
      have h1I : ¬ (p.length : Int) < 1 := by omega
      have h3I : ¬ (3 : Int) < (p.length : Int) := by omega
      by_cases h0 : 1 < p.length ∧ gb p 0 = 48
      ·
       have HN := Lib.hid (show rFour s = none by rw [HP2.out, HNX.out.1 (by rw [hRP.out, if_neg (fun h => h.2.2.1 h0)])]; rfl)
       have h0I : (1 : Int) < (p.length : Int) := by omega
       have h00 : (0 : Int) < (p.length : Int) := by omega
       have hg0 : gb p 0 = 48 := h0.2
       clear h0
       go_wp2
       go_ret2
       rw [HN.out]
       exact ⟨rfl, hbel⟩
      ·
       by_cases hl1 : 1 < p.length
       ·
        have h0I : (1 : Int) < (p.length : Int) := by omega
        have h00 : (0 : Int) < (p.length : Int) := by omega
        have hg0 : (((gb p 0).toNat : Int) == 48) = false := by
         rw [beq_eq_false_iff_ne]
         exact fun e => h0 ⟨hl1, byte_ext (by show (gb p 0).toNat = 48; omega)⟩
        have H0 := Lib.hid h0
        clear h0
        go_wp2
        go_loopg [7] p.length (fun k s7 wx => ∃ k' : Nat, k = p.length - k' ∧ k' ≤ p.length ∧ s7 = .int .i64 (k' : Int) ∧ Hid ((tk p k').all decOk = true) ∧ Row wx w1.heap.size (u16s (nums ++ [decN (tk p k')] ++ noughts (3 - i))) ∧ Below w.heap.size w wx ∧ Below w1.heap.size w1 wx)
        case atStart =>
         refine ⟨0, rfl, Nat.zero_le _, rfl, rfl, ?_, hbel, hbel1⟩
         have e : nums ++ [decN (tk p 0)] ++ noughts (3 - i) = nums ++ noughts (4 - i) := by
          rw [List.append_assoc, show 4 - i = (3 - i) + 1 by omega]; rfl
         rw [e]; exact hX
        case round =>
         clear hX hbel hbel1 hc
         obtain ⟨k, rfl, hk, rfl, hall, hX, hbel, hbel1⟩ := hrel
         have hc := cell_on hbel1 hc0 hb'
         obtain ⟨v, hv⟩ : ∃ v, v = decN (tk p k) := ⟨_, rfl⟩
         have hxi : (u16s (nums ++ [v] ++ noughts (3 - i)))[i]? = some (.int .u16 (v : Int)) := by
          refine u16s_get ?_
          rw [List.append_assoc, List.getElem?_append_right (by omega), hnl, Nat.sub_self]; rfl
         rw [← hv] at hX
         have hcx := hX.1 i _ hxi
         have hfx := hX.2.1 i (List.getElem?_eq_some_iff.1 hxi).1
         have hvl : v < 10 ^ k := by
          have := decN_lt _ hall.out
          rw [tk_len, Nat.min_eq_left hk] at this
          rw [hv]; exact this
         by_cases hkl : k < p.length
         ·
          have hkI : (k : Int) < (p.length : Int) := by omega
          have hk0 : (0 : Int) ≤ (k : Int) := by omega
          have hcb := byte_lt (gb p k)
          by_cases hd1 : 48 ≤ (gb p k).toNat
          ·
           by_cases hd2 : (gb p k).toNat ≤ 57
           ·
            have hd1I : ¬ ((gb p k).toNat : Int) < 48 := by omega
            have hd2I : ¬ (57 : Int) < ((gb p k).toNat : Int) := by omega
            have hv100 : v < 100 := Nat.lt_of_lt_of_le hvl (Nat.le_trans (Nat.pow_le_pow_right (by decide) (show k ≤ 2 by omega)) (by decide))
            have HA := Lib.hid (take_all_next hall.out hkl (decide_eq_true ⟨hd1, hd2⟩))
            obtain ⟨u, hu⟩ : ∃ u : Nat, u = v * 10 + ((gb p k).toNat - 48) := ⟨_, rfl⟩
            have HU := Lib.hid (show decN (tk p (k + 1)) = u by rw [decN_next hkl, ← hv, hu])
            have w1' : IntKind.u16.wrap ((v : Int) * 10) = (v : Int) * 10 := IntWalk.u16_in _ (by omega)
            have w2' : IntKind.u8.wrap (((gb p k).toNat : Int) - 48) = ((gb p k).toNat : Int) - 48 := IntWalk.u8_in _ (by omega)
            have w3' : IntKind.u16.wrap (((gb p k).toNat : Int) - 48) = ((gb p k).toNat : Int) - 48 := IntWalk.u16_in _ (by omega)
            have w4' : IntKind.u16.wrap ((v : Int) * 10 + (((gb p k).toNat : Int) - 48)) = (u : Int) := by rw [IntWalk.u16_in _ (by omega)]; omega
            have hSet := hX.set (j := i) (List.getElem?_eq_some_iff.1 hxi).1 (.int .u16 (u : Int))
            have eS : (u16s (nums ++ [v] ++ noughts (3 - i))).set i (.int .u16 (u : Int)) = u16s (nums ++ [u] ++ noughts (3 - i)) := by
             have : (nums ++ [v] ++ noughts (3 - i)).set i u = nums ++ [u] ++ noughts (3 - i) := by
              rw [List.append_assoc, List.set_append_right _ _ (by omega), hnl, Nat.sub_self, List.append_assoc]; rfl
             rw [← this]; unfold u16s; rw [List.map_set]
            rw [eS] at hSet
            have HSet := Lib.hid hSet
            have hbS := Lib.hid (hbel.setCell (p := ⟨w1.heap.size, i, none⟩) hb1.size (.int .u16 (u : Int)))
            have hbS1 := Lib.hid (hbel1.setCell (p := ⟨w1.heap.size, i, none⟩) (Nat.le_refl _) (.int .u16 (u : Int)))
            clear hv hu hvl hd1 hd2 hSet eS hxi
            go_wp2
            go_region
            all_goals go_wp2
            all_goals go_roundg (p.length - (k + 1))
            all_goals first
             | (case measure => omega)
             | (case rel => exact ⟨k + 1, rfl, by omega, by go_num, HA.out, by rw [HU.out]; exact HSet.out, hbS.out.drew, hbS1.out.drew⟩)
           ·
            have hd1I : ¬ ((gb p k).toNat : Int) < 48 := by omega
            have hd2I : (57 : Int) < ((gb p k).toNat : Int) := by omega
            have HN := Lib.hid (show rFour s = none by rw [HP2.out, HNX.out.1 (by rw [hRP.out, if_neg (fun h => by rw [not_all_at hkl (decide_eq_false (fun e => hd2 e.2))] at h; cases h.2.2.2.1)])]; rfl)
            clear hv hvl hxi hX
            go_wp2
            go_ret2
            rw [HN.out]
            exact ⟨rfl, hbel⟩
          ·
           have hd1I : ((gb p k).toNat : Int) < 48 := by omega
           have HN := Lib.hid (show rFour s = none by rw [HP2.out, HNX.out.1 (by rw [hRP.out, if_neg (fun h => by rw [not_all_at hkl (decide_eq_false (fun e => hd1 e.1))] at h; cases h.2.2.2.1)])]; rfl)
           clear hv hvl hxi hX
           go_wp2
           go_ret2
           rw [HN.out]
           exact ⟨rfl, hbel⟩
         ·
          obtain rfl : k = p.length := by omega
          have hall' := hall.out
          rw [tk_whole] at hv hall'
          by_cases h255 : v ≤ 255
          ·
           have h255I : ¬ (255 : Int) < (v : Int) := by omega
           have HI := Lib.hid (HNX.out.2 v (by rw [hRP.out, if_pos ⟨h1, h3, H0.out, hall', by rw [← hv]; exact h255⟩, hv]))
           have e : nums ++ [v] ++ noughts (3 - i) = (nums ++ [v]) ++ noughts (4 - (i + 1)) := by rw [show 4 - (i + 1) = 3 - i by omega]
           rw [e] at hX
           have HX := Lib.hid hX
           have HLT := Lib.hid (show ∀ n ∈ nums ++ [v], n < 256 from fun n hn => by
            rcases List.mem_append.1 hn with hn | hn
            · exact hn256.out n hn
            · rw [List.mem_singleton.1 hn]; omega)
           clear hv hvl hxi e hX
           go_wp2
           go_roundg (4 - (i + 1))
           case measure => omega
           case rel => exact ⟨i + 1, nums ++ [v], rfl, by omega, by go_num, by rw [List.length_append, hnl]; rfl, HLT.out, HX.out, HI.out, hbel, hbel1⟩
          ·
           have h255I : (255 : Int) < (v : Int) := by omega
           have HN := Lib.hid (show rFour s = none by rw [HP2.out, HNX.out.1 (by rw [hRP.out, if_neg (fun h => h255 (by rw [hv]; exact h.2.2.2.2))])]; rfl)
           clear hv hvl hxi hX
           go_wp2
           go_ret2
           rw [HN.out]
           exact ⟨rfl, hbel⟩
       ·
        have h0I : ¬ (1 : Int) < (p.length : Int) := by omega
        have H0 := Lib.hid h0
        clear h0
        go_wp2
        go_loopg [7] p.length (fun k s7 wx => ∃ k' : Nat, k = p.length - k' ∧ k' ≤ p.length ∧ s7 = .int .i64 (k' : Int) ∧ Hid ((tk p k').all decOk = true) ∧ Row wx w1.heap.size (u16s (nums ++ [decN (tk p k')] ++ noughts (3 - i))) ∧ Below w.heap.size w wx ∧ Below w1.heap.size w1 wx)
        case atStart =>
         refine ⟨0, rfl, Nat.zero_le _, rfl, rfl, ?_, hbel, hbel1⟩
         have e : nums ++ [decN (tk p 0)] ++ noughts (3 - i) = nums ++ noughts (4 - i) := by
          rw [List.append_assoc, show 4 - i = (3 - i) + 1 by omega]; rfl
         rw [e]; exact hX
        case round =>
         clear hX hbel hbel1 hc
         obtain ⟨k, rfl, hk, rfl, hall, hX, hbel, hbel1⟩ := hrel
         have hc := cell_on hbel1 hc0 hb'
         obtain ⟨v, hv⟩ : ∃ v, v = decN (tk p k) := ⟨_, rfl⟩
         have hxi : (u16s (nums ++ [v] ++ noughts (3 - i)))[i]? = some (.int .u16 (v : Int)) := by
          refine u16s_get ?_
          rw [List.append_assoc, List.getElem?_append_right (by omega), hnl, Nat.sub_self]; rfl
         rw [← hv] at hX
         have hcx := hX.1 i _ hxi
         have hfx := hX.2.1 i (List.getElem?_eq_some_iff.1 hxi).1
         have hvl : v < 10 ^ k := by
          have := decN_lt _ hall.out
          rw [tk_len, Nat.min_eq_left hk] at this
          rw [hv]; exact this
         by_cases hkl : k < p.length
         ·
          have hkI : (k : Int) < (p.length : Int) := by omega
          have hk0 : (0 : Int) ≤ (k : Int) := by omega
          have hcb := byte_lt (gb p k)
          by_cases hd1 : 48 ≤ (gb p k).toNat
          ·
           by_cases hd2 : (gb p k).toNat ≤ 57
           ·
            have hd1I : ¬ ((gb p k).toNat : Int) < 48 := by omega
            have hd2I : ¬ (57 : Int) < ((gb p k).toNat : Int) := by omega
            have hv100 : v < 100 := Nat.lt_of_lt_of_le hvl (Nat.le_trans (Nat.pow_le_pow_right (by decide) (show k ≤ 2 by omega)) (by decide))
            have HA := Lib.hid (take_all_next hall.out hkl (decide_eq_true ⟨hd1, hd2⟩))
            obtain ⟨u, hu⟩ : ∃ u : Nat, u = v * 10 + ((gb p k).toNat - 48) := ⟨_, rfl⟩
            have HU := Lib.hid (show decN (tk p (k + 1)) = u by rw [decN_next hkl, ← hv, hu])
            have w1' : IntKind.u16.wrap ((v : Int) * 10) = (v : Int) * 10 := IntWalk.u16_in _ (by omega)
            have w2' : IntKind.u8.wrap (((gb p k).toNat : Int) - 48) = ((gb p k).toNat : Int) - 48 := IntWalk.u8_in _ (by omega)
            have w3' : IntKind.u16.wrap (((gb p k).toNat : Int) - 48) = ((gb p k).toNat : Int) - 48 := IntWalk.u16_in _ (by omega)
            have w4' : IntKind.u16.wrap ((v : Int) * 10 + (((gb p k).toNat : Int) - 48)) = (u : Int) := by rw [IntWalk.u16_in _ (by omega)]; omega
            have hSet := hX.set (j := i) (List.getElem?_eq_some_iff.1 hxi).1 (.int .u16 (u : Int))
            have eS : (u16s (nums ++ [v] ++ noughts (3 - i))).set i (.int .u16 (u : Int)) = u16s (nums ++ [u] ++ noughts (3 - i)) := by
             have : (nums ++ [v] ++ noughts (3 - i)).set i u = nums ++ [u] ++ noughts (3 - i) := by
              rw [List.append_assoc, List.set_append_right _ _ (by omega), hnl, Nat.sub_self, List.append_assoc]; rfl
             rw [← this]; unfold u16s; rw [List.map_set]
            rw [eS] at hSet
            have HSet := Lib.hid hSet
            have hbS := Lib.hid (hbel.setCell (p := ⟨w1.heap.size, i, none⟩) hb1.size (.int .u16 (u : Int)))
            have hbS1 := Lib.hid (hbel1.setCell (p := ⟨w1.heap.size, i, none⟩) (Nat.le_refl _) (.int .u16 (u : Int)))
            clear hv hu hvl hd1 hd2 hSet eS hxi
            go_wp2
            go_region
            all_goals go_wp2
            all_goals go_roundg (p.length - (k + 1))
            all_goals first
             | (case measure => omega)
             | (case rel => exact ⟨k + 1, rfl, by omega, by go_num, HA.out, by rw [HU.out]; exact HSet.out, hbS.out.drew, hbS1.out.drew⟩)
           ·
            have hd1I : ¬ ((gb p k).toNat : Int) < 48 := by omega
            have hd2I : (57 : Int) < ((gb p k).toNat : Int) := by omega
            have HN := Lib.hid (show rFour s = none by rw [HP2.out, HNX.out.1 (by rw [hRP.out, if_neg (fun h => by rw [not_all_at hkl (decide_eq_false (fun e => hd2 e.2))] at h; cases h.2.2.2.1)])]; rfl)
            clear hv hvl hxi hX
            go_wp2
            go_ret2
            rw [HN.out]
            exact ⟨rfl, hbel⟩
          ·
           have hd1I : ((gb p k).toNat : Int) < 48 := by omega
           have HN := Lib.hid (show rFour s = none by rw [HP2.out, HNX.out.1 (by rw [hRP.out, if_neg (fun h => by rw [not_all_at hkl (decide_eq_false (fun e => hd1 e.1))] at h; cases h.2.2.2.1)])]; rfl)
           clear hv hvl hxi hX
           go_wp2
           go_ret2
           rw [HN.out]
           exact ⟨rfl, hbel⟩
         ·
          obtain rfl : k = p.length := by omega
          have hall' := hall.out
          rw [tk_whole] at hv hall'
          by_cases h255 : v ≤ 255
          ·
           have h255I : ¬ (255 : Int) < (v : Int) := by omega
           have HI := Lib.hid (HNX.out.2 v (by rw [hRP.out, if_pos ⟨h1, h3, H0.out, hall', by rw [← hv]; exact h255⟩, hv]))
           have e : nums ++ [v] ++ noughts (3 - i) = (nums ++ [v]) ++ noughts (4 - (i + 1)) := by rw [show 4 - (i + 1) = 3 - i by omega]
           rw [e] at hX
           have HX := Lib.hid hX
           have HLT := Lib.hid (show ∀ n ∈ nums ++ [v], n < 256 from fun n hn => by
            rcases List.mem_append.1 hn with hn | hn
            · exact hn256.out n hn
            · rw [List.mem_singleton.1 hn]; omega)
           clear hv hvl hxi e hX
           go_wp2
           go_roundg (4 - (i + 1))
           case measure => omega
           case rel => exact ⟨i + 1, nums ++ [v], rfl, by omega, by go_num, by rw [List.length_append, hnl]; rfl, HLT.out, HX.out, HI.out, hbel, hbel1⟩
          ·
           have h255I : (255 : Int) < (v : Int) := by omega
           have HN := Lib.hid (show rFour s = none by rw [HP2.out, HNX.out.1 (by rw [hRP.out, if_neg (fun h => h255 (by rw [hv]; exact h.2.2.2.2))])]; rfl)
           clear hv hvl hxi hX
           go_wp2
           go_ret2
           rw [HN.out]
           exact ⟨rfl, hbel⟩
     ·
      have HN := Lib.hid (show rFour s = none by rw [HP2.out, HNX.out.1 (by rw [hRP.out, if_neg (fun h => h3 h.2.1)])]; rfl)
      have h1I : ¬ (p.length : Int) < 1 := by omega
      have h3I : (3 : Int) < (p.length : Int) := by omega
      go_wp2
      go_ret2
      rw [HN.out]
      exact ⟨rfl, hbel⟩
    ·
     have HN := Lib.hid (show rFour s = none by rw [HP2.out, HNX.out.1 (by rw [hRP.out, if_neg (fun h => h1 h.1)])]; rfl)
     have h1I : (p.length : Int) < 1 := by omega
     go_wp2
     go_ret2
     rw [HN.out]
     exact ⟨rfl, hbel⟩
   ·
    obtain rfl : i = 4 := by omega
    obtain ⟨a, b, c, d, rfl⟩ : ∃ a b c d, nums = [a, b, c, d] := by
     match nums, hnl with
     | [a, b, c, d], _ => exact ⟨a, b, c, d, rfl⟩
    have HN := Lib.hid (show rFour s = some [a * 256 + b, c * 256 + d] by
     rw [HP2.out, hinv.out, List.drop_eq_nil_of_le (by omega)]; rfl)
    have x0 := hX.1 0 _ rfl
    have x1 := hX.1 1 _ rfl
    have x2 := hX.1 2 _ rfl
    have x3 := hX.1 3 _ rfl
    have ha := hn256.out a (by simp)
    have hb := hn256.out b (by simp)
    have hcc := hn256.out c (by simp)
    have hd := hn256.out d (by simp)
    have o1 := u16_pair ha hb
    have o2 := u16_pair hcc hd
    go_wp2
    go_ret2
    rw [HN.out]
    refine ⟨wr.heap.size, 2, rfl, ?_, hbel.size, hbel.alloc hbel.size _⟩
    have := @Rd.lit wr #[.int .u16 ((a * 256 + b : Nat) : Int), .int .u16 ((c * 256 + d : Nat) : Int)] 23 (0, 0)
    simpa [u16s] using this
 ·
  have HP2 := Lib.hid (show rFour s = none by rw [HP.out, if_neg h4])
  have h4b : ((cs.length : Int) != 4) = true := by simp; omega
  rw [HP2.out]
  clear HP h4
  go_enter Tryz.func134, Tryz.ntmps134
  go_wp2_with (go_at_call 100; go_must (go_fit C1.out); rintro e w1 ⟨v1, rfl, hown1, hb1⟩; obtain ⟨A1, c1, rfl, hc1, hm1, hr1⟩ := own_rdN hown1)
  go_ret2
  exact ⟨rfl, hb1⟩
end Go.Proofs.YtoapelcofjjdnaaGreatDoor
namespace Go.Proofs.YtoapelcofjjdnaaGreatDoor
set_option linter.all false
open Go.RowKit
theorem rGo_step {tail : Bool} {b cs : List (List UInt8)} {j : Nat} {p : List UInt8} {acc : List Nat} (h : rGo tail b = (rGo tail (cs.drop j)).map (acc ++ ·)) (hp : cs[j]? = some p) :
  ((tail = true ∧ j + 1 = cs.length ∧ (46 : UInt8) ∈ p) → rGo tail b = (rFour p).map (acc ++ ·)) ∧
  (¬ (tail = true ∧ j + 1 = cs.length ∧ (46 : UInt8) ∈ p) → (rPiece p = none → rGo tail b = none) ∧ ∀ n, rPiece p = some n → rGo tail b = (rGo tail (cs.drop (j + 1))).map ((acc ++ [n]) ++ ·)) := by
 obtain ⟨hj, e⟩ := List.getElem?_eq_some_iff.1 hp
 have hnil : cs.drop (j + 1) = [] ↔ j + 1 = cs.length := by
  constructor
  ·
   intro h0
   have := congrArg List.length h0
   rw [List.length_drop, List.length_nil] at this
   omega
  · intro h0; exact List.drop_eq_nil_of_le (by omega)
 rw [List.drop_eq_getElem_cons hj, e, rGo] at h
 constructor
 ·
  rintro ⟨h1, h2, h3⟩
  rw [if_pos ⟨h1, hnil.2 h2, h3⟩] at h
  exact h
 ·
  intro hn
  rw [if_neg (fun e => hn ⟨e.1, hnil.1 e.2.1, e.2.2⟩)] at h
  constructor
  · intro h1; rw [h1] at h; exact h
  ·
   intro n h1
   rw [h1] at h
   rw [h]
   cases rGo tail (cs.drop (j + 1)) with
   | none => rfl
   | some r => show some (acc ++ n :: r) = some (acc ++ [n] ++ r); simp
def PiecesP (w : World) (o : Option (List Nat)) (e : Ending) (w' : World) : Prop :=
 match o with
 | none => ∃ A n c, e = .returned (.tuple #[.slice A n c, .bool false]) ∧ Below w.heap.size w w'
 | some l => ∃ A c, e = .returned (.tuple #[.slice A l.length c, .bool true]) ∧ Rd w' w'.heap.size A (u16s l) ∧ l.length ≤ c ∧ c ≤ maxLen ∧ (∀ k, (Value.slice A l.length c).ownBlock = some k → w.heap.size ≤ k) ∧ Below w.heap.size w w'
theorem hexN_next {p : List UInt8} {k : Nat} (hk : k < p.length) : hexN (tk p (k + 1)) = hexN (tk p k) * 16 + (hexV (gb p k)).toNat := by rw [tk_next hk, hexN_snoc]
theorem hexV_lt16 : ∀ c : UInt8, hexV c < 16 := by
 have h : ∀ n, n < 256 → hexV (UInt8.ofNat n) < 16 := by decide +kernel
 intro c
 have := h c.toNat (byte_lt c)
 rwa [UInt8.ofNat_toNat] at this
theorem hex_fold_lt : ∀ (l : List UInt8) (n : Nat), l.foldl (fun n c => n * 16 + (hexV c).toNat) n < (n + 1) * 16 ^ l.length := by
 intro l
 induction l with
 | nil => intro n; simp
 | cons c t ih =>
  intro n
  have hc := hexV_lt16 c
  rw [List.foldl_cons, List.length_cons, Nat.pow_succ]
  have := ih (n * 16 + (hexV c).toNat)
  have h2 : (n * 16 + (hexV c).toNat + 1) * 16 ^ t.length ≤ ((n + 1) * 16) * 16 ^ t.length := Nat.mul_le_mul_right _ (by omega)
  have e : (n + 1) * (16 ^ t.length * 16) = ((n + 1) * 16) * 16 ^ t.length := by rw [Nat.mul_assoc, Nat.mul_comm (16 ^ t.length)]
  omega
theorem hexN_lt (l : List UInt8) : hexN l < 16 ^ l.length := by have := hex_fold_lt l 0; simpa [hexN] using this
theorem u16_hex {v d : Nat} (hv : v < 4096) (hd : d < 16) : bits .or .u16 ((v : Int) * 16) (d : Int) = ((v * 16 + d : Nat) : Int) := by
 have e : ((v : Int) * 16) = ((v * 16 : Nat) : Int) := by omega
 rw [e, u16_or_nat _ _ (by omega) (by omega)]
 have h1 := Nat.shiftLeft_add_eq_or_of_lt (b := d) (i := 4) (show d < 2 ^ 4 from hd) v
 rw [Nat.shiftLeft_eq] at h1
 have : v * 2 ^ 4 = v * 16 := rfl
 rw [this] at h1
 rw [← h1]
set_option maxRecDepth 100000 in
set_option maxHeartbeats 16000000 in
theorem pieces6r_any (s : List UInt8) (tl : Bool) (w : World) (hs : s.length ≤ 1000) :
  Calls Tryz.prog 105 #[.string (str s), .bool tl] w (PiecesP w (rPieces tl s)) := by
 have C1 := Lib.hid (cut6_any s 58 w (by omega))
 have HL := Lib.hid fun (p : List UInt8) (h : p ∈ cuts 58 s) => (show p.length ≤ 1000 by have := cuts_sum 58 s p h; omega)
 have hcl := cuts_le 58 s
 have h58 : ((58 : UInt8).toNat : Int) = 58 := rfl
 have htl := str_toL s
 by_cases h0 : s = []
 ·
  have HP := Lib.hid (show rPieces tl s = some [] by unfold rPieces; rw [if_pos h0])
  subst h0
  have e0 : str [] = { data := #[] } := rfl
  go_enter Tryz.func105, Tryz.ntmps105
  go_wp2
  go_ret2
  rw [HP.out]
  exact ⟨none, 0, rfl, Rd.nil, Nat.le_refl _, by simp [maxLen], (fun k h => by cases h), Below.refl _ _⟩
 ·
  have HP := Lib.hid (show rPieces tl s = rGo tl (cuts 58 s) by unfold rPieces; rw [if_neg h0])
  have hne : s.isEmpty = false := by cases s with
   | nil => exact absurd rfl h0
   | cons a b => rfl
  have hn : (s = []) = False := eq_false h0
  obtain ⟨cs, hcse⟩ : ∃ cs, cs = cuts 58 s := ⟨_, rfl⟩
  rw [← hcse] at C1 HP HL hcl
  clear hcse h0
  go_enter Tryz.func105, Tryz.ntmps105
  go_wp2_with (go_at_call 100; go_must (go_fit C1.out); rintro e w1 ⟨v1, rfl, hown1, hb1⟩; obtain ⟨A1, c1, rfl, hc1, hm1, hr1⟩ := own_rdN hown1)
  clear hown1
  go_loopg [7, 8] cs.length (fun k s7 s8 wr => ∃ (i : Nat) (acc : List Nat) (A' : Option Addr) (c' : Nat), k = cs.length - i ∧ i ≤ cs.length ∧ s8 = .int .i64 (i : Int) ∧ s7 = .slice A' acc.length c' ∧
   wr.ownsRow w1.heap.size 23 1 (.slice A' acc.length c') acc.length (u16s acc) ∧ acc.length ≤ i ∧ Hid (rGo tl cs = (rGo tl (cs.drop i)).map (acc ++ ·)) ∧ Below w.heap.size w wr ∧ Below w1.heap.size w1 wr)
  case atStart => exact ⟨0, [], none, 0, rfl, Nat.zero_le _, rfl, rfl, World.ownsRow_nil _ _ _ _, Nat.le_refl _, by show rGo tl cs = (rGo tl cs).map ([] ++ ·); cases rGo tl cs <;> rfl, hb1, Below.refl _ _⟩
  case round =>
   obtain ⟨i, acc, A', c', rfl, hi, rfl, rfl, hown, hal, hinv, hbel, hbel1⟩ := hrel
   by_cases hlt : i < cs.length
   ·
    obtain ⟨b, off, p, rfl, hb', hc, hx⟩ := (hr1.below hbel1).str_at (k := i) hlt
    have hil : (i : Int) < (cs.length : Int) := by omega
    have hi0 : (0 : Int) ≤ (i : Int) := by omega
    have HST := Lib.hid (rGo_step hinv.out hx.out)
    have hpl := HL.out p (List.mem_of_getElem? hx.out)
    have hsz := str_size p
    have hgt := str_get p
    have CH := Lib.hid fun w => has6_any p 46 w (by omega)
    have h46 : ((46 : UInt8).toNat : Int) = 46 := rfl
    have hw1 : IntKind.i64.wrap ((cs.length : Int) - 1) = (cs.length : Int) - 1 := IntWalk.i64_in _ (by omega)
    clear hx
    cases tl with
    | false =>
     have HS := Lib.hid (HST.out.2 (fun h => by cases h.1))
     clear HST
     by_cases h1 : 1 ≤ p.length ∧ p.length ≤ 4
     ·
      have h1I : ¬ (p.length : Int) < 1 := by omega
      have h4I : ¬ (4 : Int) < (p.length : Int) := by omega
      go_wp2
      go_loopg [11, 12] p.length (fun k s11 s12 wx => ∃ k' : Nat, k = p.length - k' ∧ k' ≤ p.length ∧ s11 = .int .u16 ((hexN (tk p k') : Nat) : Int) ∧ s12 = .int .i64 (k' : Int) ∧ Hid ((tk p k').all hexOk = true) ∧ wr = wx)
      case atStart => exact ⟨0, rfl, Nat.zero_le _, rfl, rfl, rfl, rfl⟩
      case round =>
       obtain ⟨k, rfl, hk, rfl, rfl, hall, rfl⟩ := hrel
       obtain ⟨v, hv⟩ : ∃ v, v = hexN (tk p k) := ⟨_, rfl⟩
       have hvl : v < 16 ^ k := by
        have := hexN_lt (tk p k)
        rw [tk_len, Nat.min_eq_left hk] at this
        rw [hv]; exact this
       rw [← hv]
       by_cases hkl : k < p.length
       ·
        have hkI : (k : Int) < (p.length : Int) := by omega
        have hk0 : (0 : Int) ≤ (k : Int) := by omega
        have hd16 := hexV_lt16 (gb p k)
        have CX := Lib.hid (hex6_any (gb p k) wr)
        by_cases hd : 0 ≤ hexV (gb p k)
        ·
         have HA := Lib.hid (take_all_next hall.out hkl (decide_eq_true hd))
         obtain ⟨d, hde⟩ : ∃ d : Nat, d = (hexV (gb p k)).toNat := ⟨_, rfl⟩
         have hdI : hexV (gb p k) = (d : Int) := by omega
         have HU := Lib.hid (show hexN (tk p (k + 1)) = v * 16 + d by rw [hexN_next hkl, ← hv, ← hde])
         have hv4096 : v < 4096 := Nat.lt_of_lt_of_le hvl (Nat.le_trans (Nat.pow_le_pow_right (by decide) (show k ≤ 3 by omega)) (by decide))
         have w1' : IntKind.u16.wrap ((v : Int) * 16) = (v : Int) * 16 := IntWalk.u16_in _ (by omega)
         have w2' : IntKind.u16.wrap (d : Int) = (d : Int) := IntWalk.u16_in _ (by omega)
         have w3' := u16_hex hv4096 (show d < 16 by omega)
         have hdneg : ¬ (d : Int) < 0 := by omega
         rw [hdI] at CX
         clear hv hvl hd hde hdI hd16
         go_wp2_with (go_at_call 109; go_must (go_fit CX.out); rintro e w4 ⟨rfl, rfl⟩)
         go_roundg (p.length - (k + 1))
         case measure => omega
         case rel => exact ⟨k + 1, rfl, by omega, (by rw [HU.out]; go_num), by go_num, HA.out, rfl⟩
        ·
         have HN := Lib.hid (show rGo false cs = none from HS.out.1 (by
          unfold rPiece
          rw [if_neg (fun h => by rw [not_all_at hkl (decide_eq_false hd)] at h; cases h.2)]))
         have hdI : hexV (gb p k) < 0 := by omega
         clear hv hvl hd hd16
         go_wp2_with (go_at_call 109; go_must (go_fit CX.out); rintro e w4 ⟨rfl, rfl⟩)
         go_ret2
         rw [HP.out, HN.out]
         exact ⟨_, _, _, rfl, hbel⟩
       ·
        obtain rfl : k = p.length := by omega
        have hall' := hall.out
        rw [tk_whole] at hv hall'
        have HI := Lib.hid (HS.out.2 v (by unfold rPiece; rw [if_pos ⟨decide_eq_true h1, hall'⟩, hv]))
        have hkI : ¬ (p.length : Int) < (p.length : Int) := by omega
        have HO := Lib.hid hown
        clear hv hvl hall' hown
        go_wp2_with (at_builtin; go_loud (refine wpList_append_lit rfl _ _ _ rfl w1.heap.size _ _ 1 2 Tryz.underlying72 info_u16 rfl (by decide) _ _ _ rfl HO.out _ 1 1 _ rfl rfl (by simp [Value.oneCell']) (by omega) (by decide) (by have := hbel1.size; omega) ?_; intro A5 c5 w5 hc5 hm5 hown5 hb5 hg5))
        go_roundg (cs.length - (i + 1))
        case measure => omega
        case rel =>
         have el : (acc ++ [v]).length = acc.length + 1 := by rw [List.length_append]; rfl
         refine ⟨i + 1, acc ++ [v], A5, c5, rfl, by omega, by go_num, by rw [el], ?_, by rw [el]; omega, HI.out, hbel.trans (hb5.mono hb1.size), hbel1.trans hb5⟩
         rw [el]
         have e : u16s (acc ++ [v]) = u16s acc ++ #[Value.int .u16 (v : Int)].toList := by unfold u16s; rw [List.map_append]; rfl
         rw [e]; exact hown5
     ·
      have HN := Lib.hid (show rGo false cs = none from HS.out.1 (by
       unfold rPiece
       rw [if_neg (fun h => h1 (of_decide_eq_true h.1))]))
      by_cases h0 : 1 ≤ p.length
      ·
       have h1I : ¬ (p.length : Int) < 1 := by omega
       have h4I : (4 : Int) < (p.length : Int) := by omega
       clear h1
       go_wp2
       go_ret2
       rw [HP.out, HN.out]
       exact ⟨_, _, _, rfl, hbel⟩
      ·
       have h1I : (p.length : Int) < 1 := by omega
       clear h1
       go_wp2
       go_ret2
       rw [HP.out, HN.out]
       exact ⟨_, _, _, rfl, hbel⟩
    | true =>
     by_cases hl : i + 1 = cs.length
     ·
      have hlst : ((i : Int) == (cs.length : Int) - 1) = true := by rw [beq_iff_eq]; omega
      by_cases hd : (46 : UInt8) ∈ p
      ·
       have hct : p.contains 46 = true := by simpa using hd
       have HF := Lib.hid (HST.out.1 ⟨rfl, hl, hd⟩)
       rw [hct] at CH
       have C4 := Lib.hid (four6r_any p wr hpl)
       have HO := Lib.hid hown
       have hm1' := hbel1.size
       have hb1' := hb1.size
       clear hd hct HST hinv
       cases hF : rFour p with
       | none =>
        have HN := Lib.hid (show rPieces true s = none by rw [HP.out, HF.out, hF]; rfl)
        rw [hF] at C4
        have C4 := Lib.hid (show Calls Tryz.prog 134 #[.string (str p)] wr fun e w' => e = .returned (.tuple #[.slice none 0 0, .bool false]) ∧ Below wr.heap.size wr w' from C4.out)
        clear hF HF
        go_wp2_with (first
         | (go_at_call 68; go_must (go_fit (CH.out wr)); rintro e w3 ⟨rfl, rfl⟩)
         | (go_at_call 134; go_must (go_fit C4.out); rintro e w4 ⟨rfl, hb4⟩; have HO4 := own_below HO.out hb4 (Nat.le_refl _); have hq4 := hb4.size)
         | (at_builtin; go_loud (refine wpList_append_rd rfl _ _ _ rfl w1.heap.size _ _ 2 Tryz.underlying72 info_u16 rfl _ _ _ rfl HO4 0 none 0 0 [] rfl rfl Rd.nil (by simp) (by omega) (by decide) (by omega) ?_; intro A5 c5 w5 hc5 hm5 hown5 hb5 hg5)))
        go_ret2
        rw [HN.out]
        exact ⟨_, _, _, rfl, (hbel.trans (hb4.mono hbel.size)).trans (hb5.mono hb1.size)⟩
       | some m =>
        have HN := Lib.hid (show rPieces true s = some (acc ++ m) by rw [HP.out, HF.out, hF]; rfl)
        have hm2 : m.length = 2 := by
         unfold rFour at hF
         split at hF
         ·
          cases e : rBytes (cuts 46 p) with
          | none => rw [e] at hF; cases hF
          | some r =>
           rw [e] at hF
           injection hF with hF
           have hr4 : r.length = 4 := by
            have key : ∀ (l : List (List UInt8)) (r : List Nat), rBytes l = some r → r.length = l.length := by
             intro l
             induction l with
             | nil => intro r h; injection h with h; rw [← h]; rfl
             | cons a l ih =>
              intro r h
              rw [rBytes] at h
              cases e1 : rByte a with
              | none => rw [e1] at h; cases h
              | some n =>
               rw [e1] at h
               cases e2 : rBytes l with
               | none => rw [e2] at h; cases h
               | some r2 =>
                rw [e2] at h
                injection h with h
                rw [← h, List.length_cons, ih r2 e2, List.length_cons]
            rw [key _ _ e]; assumption
           match r, hr4 with
           | [a, b, c, d], _ => rw [← hF]; rfl
         · cases hF
        rw [hF] at C4
        have C4 := Lib.hid (show Calls Tryz.prog 134 #[.string (str p)] wr fun e w' => ∃ g c, e = .returned (.tuple #[.slice (some ⟨g, 0, none⟩) m.length c, .bool true]) ∧ Rd w' w'.heap.size (some ⟨g, 0, none⟩) (u16s m) ∧ wr.heap.size ≤ g ∧ Below wr.heap.size wr w' from C4.out)
        rw [hm2] at C4
        clear hF HF
        go_wp2_with (first
         | (go_at_call 68; go_must (go_fit (CH.out wr)); rintro e w3 ⟨rfl, rfl⟩)
         | (go_at_call 134; go_must (go_fit C4.out); rintro e w4 ⟨g4, c4, rfl, hr4, hg4, hb4⟩; have HO4 := own_below HO.out hb4 (Nat.le_refl _); have hq4 := hb4.size)
         | (at_builtin; go_loud (refine wpList_append_rd rfl _ _ _ rfl w1.heap.size _ _ 2 Tryz.underlying72 info_u16 rfl _ _ _ rfl HO4 _ _ 2 _ (u16s m) rfl (by rw [u16s_len, hm2]) hr4 (u16s_one m) (by omega) (by decide) (by omega) ?_; intro A5 c5 w5 hc5 hm5 hown5 hb5 hg5)))
        have hbk := Lib.hid fun k (h : (Value.slice A5 (acc.length + 2) c5).ownBlock = some k) => Nat.le_trans hb1.size (hown5.lt k h).1
        obtain ⟨A6, c6, e6, hc6, hm6, hx6⟩ := own_rdN hown5
        injection e6 with e6 _ e7
        subst e6 e7
        go_ret2
        rw [HN.out]
        have el : (acc ++ m).length = acc.length + 2 := by rw [List.length_append, hm2]
        refine ⟨A5, c5, by rw [el]; rfl, ?_, by rw [el]; exact hc5, hm5, by rw [el]; exact hbk.out, (hbel.trans (hb4.mono hbel.size)).trans (hb5.mono hb1.size)⟩
        have e : u16s (acc ++ m) = u16s acc ++ u16s m := by unfold u16s; rw [List.map_append]
        rw [e]; exact hx6
      ·
       have hct : p.contains 46 = false := by
        rw [Bool.eq_false_iff]; intro h; exact hd (by simpa using h)
       have HS := Lib.hid (HST.out.2 (fun h => hd h.2.2))
       rw [hct] at CH
       clear HST hd hct
       by_cases h1 : 1 ≤ p.length ∧ p.length ≤ 4
       ·
        have h1I : ¬ (p.length : Int) < 1 := by omega
        have h4I : ¬ (4 : Int) < (p.length : Int) := by omega
        (go_wp2_with (go_at_call 68; go_must (go_fit (CH.out wr)); rintro e w3 ⟨rfl, rfl⟩))
        go_loopg [11, 12] p.length (fun k s11 s12 wx => ∃ k' : Nat, k = p.length - k' ∧ k' ≤ p.length ∧ s11 = .int .u16 ((hexN (tk p k') : Nat) : Int) ∧ s12 = .int .i64 (k' : Int) ∧ Hid ((tk p k').all hexOk = true) ∧ wr = wx)
        case atStart => exact ⟨0, rfl, Nat.zero_le _, rfl, rfl, rfl, rfl⟩
        case round =>
         obtain ⟨k, rfl, hk, rfl, rfl, hall, rfl⟩ := hrel
         obtain ⟨v, hv⟩ : ∃ v, v = hexN (tk p k) := ⟨_, rfl⟩
         have hvl : v < 16 ^ k := by
          have := hexN_lt (tk p k)
          rw [tk_len, Nat.min_eq_left hk] at this
          rw [hv]; exact this
         rw [← hv]
         by_cases hkl : k < p.length
         ·
          have hkI : (k : Int) < (p.length : Int) := by omega
          have hk0 : (0 : Int) ≤ (k : Int) := by omega
          have hd16 := hexV_lt16 (gb p k)
          have CX := Lib.hid (hex6_any (gb p k) wr)
          by_cases hd : 0 ≤ hexV (gb p k)
          ·
           have HA := Lib.hid (take_all_next hall.out hkl (decide_eq_true hd))
           obtain ⟨d, hde⟩ : ∃ d : Nat, d = (hexV (gb p k)).toNat := ⟨_, rfl⟩
           have hdI : hexV (gb p k) = (d : Int) := by omega
           have HU := Lib.hid (show hexN (tk p (k + 1)) = v * 16 + d by rw [hexN_next hkl, ← hv, ← hde])
           have hv4096 : v < 4096 := Nat.lt_of_lt_of_le hvl (Nat.le_trans (Nat.pow_le_pow_right (by decide) (show k ≤ 3 by omega)) (by decide))
           have w1' : IntKind.u16.wrap ((v : Int) * 16) = (v : Int) * 16 := IntWalk.u16_in _ (by omega)
           have w2' : IntKind.u16.wrap (d : Int) = (d : Int) := IntWalk.u16_in _ (by omega)
           have w3' := u16_hex hv4096 (show d < 16 by omega)
           have hdneg : ¬ (d : Int) < 0 := by omega
           rw [hdI] at CX
           clear hv hvl hd hde hdI hd16
           go_wp2_with (go_at_call 109; go_must (go_fit CX.out); rintro e w4 ⟨rfl, rfl⟩)
           go_roundg (p.length - (k + 1))
           case measure => omega
           case rel => exact ⟨k + 1, rfl, by omega, (by rw [HU.out]; go_num), by go_num, HA.out, rfl⟩
          ·
           have HN := Lib.hid (show rGo true cs = none from HS.out.1 (by
            unfold rPiece
            rw [if_neg (fun h => by rw [not_all_at hkl (decide_eq_false hd)] at h; cases h.2)]))
           have hdI : hexV (gb p k) < 0 := by omega
           clear hv hvl hd hd16
           go_wp2_with (go_at_call 109; go_must (go_fit CX.out); rintro e w4 ⟨rfl, rfl⟩)
           go_ret2
           rw [HP.out, HN.out]
           exact ⟨_, _, _, rfl, hbel⟩
         ·
          obtain rfl : k = p.length := by omega
          have hall' := hall.out
          rw [tk_whole] at hv hall'
          have HI := Lib.hid (HS.out.2 v (by unfold rPiece; rw [if_pos ⟨decide_eq_true h1, hall'⟩, hv]))
          have hkI : ¬ (p.length : Int) < (p.length : Int) := by omega
          have HO := Lib.hid hown
          clear hv hvl hall' hown
          go_wp2_with (at_builtin; go_loud (refine wpList_append_lit rfl _ _ _ rfl w1.heap.size _ _ 1 2 Tryz.underlying72 info_u16 rfl (by decide) _ _ _ rfl HO.out _ 1 1 _ rfl rfl (by simp [Value.oneCell']) (by omega) (by decide) (by have := hbel1.size; omega) ?_; intro A5 c5 w5 hc5 hm5 hown5 hb5 hg5))
          go_roundg (cs.length - (i + 1))
          case measure => omega
          case rel =>
           have el : (acc ++ [v]).length = acc.length + 1 := by rw [List.length_append]; rfl
           refine ⟨i + 1, acc ++ [v], A5, c5, rfl, by omega, by go_num, by rw [el], ?_, by rw [el]; omega, HI.out, hbel.trans (hb5.mono hb1.size), hbel1.trans hb5⟩
           rw [el]
           have e : u16s (acc ++ [v]) = u16s acc ++ #[Value.int .u16 (v : Int)].toList := by unfold u16s; rw [List.map_append]; rfl
           rw [e]; exact hown5
       ·
        have HN := Lib.hid (show rGo true cs = none from HS.out.1 (by
         unfold rPiece
         rw [if_neg (fun h => h1 (of_decide_eq_true h.1))]))
        by_cases h0 : 1 ≤ p.length
        ·
         have h1I : ¬ (p.length : Int) < 1 := by omega
         have h4I : (4 : Int) < (p.length : Int) := by omega
         clear h1
         (go_wp2_with (go_at_call 68; go_must (go_fit (CH.out wr)); rintro e w3 ⟨rfl, rfl⟩))
         go_ret2
         rw [HP.out, HN.out]
         exact ⟨_, _, _, rfl, hbel⟩
        ·
         have h1I : (p.length : Int) < 1 := by omega
         clear h1
         (go_wp2_with (go_at_call 68; go_must (go_fit (CH.out wr)); rintro e w3 ⟨rfl, rfl⟩))
         go_ret2
         rw [HP.out, HN.out]
         exact ⟨_, _, _, rfl, hbel⟩
     ·
      have hlst : ((i : Int) == (cs.length : Int) - 1) = false := by rw [beq_eq_false_iff_ne]; omega
      have HS := Lib.hid (HST.out.2 (fun h => hl h.2.1))
      clear HST
      by_cases h1 : 1 ≤ p.length ∧ p.length ≤ 4
      ·
       have h1I : ¬ (p.length : Int) < 1 := by omega
       have h4I : ¬ (4 : Int) < (p.length : Int) := by omega
       go_wp2
       go_loopg [11, 12] p.length (fun k s11 s12 wx => ∃ k' : Nat, k = p.length - k' ∧ k' ≤ p.length ∧ s11 = .int .u16 ((hexN (tk p k') : Nat) : Int) ∧ s12 = .int .i64 (k' : Int) ∧ Hid ((tk p k').all hexOk = true) ∧ wr = wx)
       case atStart => exact ⟨0, rfl, Nat.zero_le _, rfl, rfl, rfl, rfl⟩
       case round =>
        obtain ⟨k, rfl, hk, rfl, rfl, hall, rfl⟩ := hrel
        obtain ⟨v, hv⟩ : ∃ v, v = hexN (tk p k) := ⟨_, rfl⟩
        have hvl : v < 16 ^ k := by
         have := hexN_lt (tk p k)
         rw [tk_len, Nat.min_eq_left hk] at this
         rw [hv]; exact this
        rw [← hv]
        by_cases hkl : k < p.length
        ·
         have hkI : (k : Int) < (p.length : Int) := by omega
         have hk0 : (0 : Int) ≤ (k : Int) := by omega
         have hd16 := hexV_lt16 (gb p k)
         have CX := Lib.hid (hex6_any (gb p k) wr)
         by_cases hd : 0 ≤ hexV (gb p k)
         ·
          have HA := Lib.hid (take_all_next hall.out hkl (decide_eq_true hd))
          obtain ⟨d, hde⟩ : ∃ d : Nat, d = (hexV (gb p k)).toNat := ⟨_, rfl⟩
          have hdI : hexV (gb p k) = (d : Int) := by omega
          have HU := Lib.hid (show hexN (tk p (k + 1)) = v * 16 + d by rw [hexN_next hkl, ← hv, ← hde])
          have hv4096 : v < 4096 := Nat.lt_of_lt_of_le hvl (Nat.le_trans (Nat.pow_le_pow_right (by decide) (show k ≤ 3 by omega)) (by decide))
          have w1' : IntKind.u16.wrap ((v : Int) * 16) = (v : Int) * 16 := IntWalk.u16_in _ (by omega)
          have w2' : IntKind.u16.wrap (d : Int) = (d : Int) := IntWalk.u16_in _ (by omega)
          have w3' := u16_hex hv4096 (show d < 16 by omega)
          have hdneg : ¬ (d : Int) < 0 := by omega
          rw [hdI] at CX
          clear hv hvl hd hde hdI hd16
          go_wp2_with (go_at_call 109; go_must (go_fit CX.out); rintro e w4 ⟨rfl, rfl⟩)
          go_roundg (p.length - (k + 1))
          case measure => omega
          case rel => exact ⟨k + 1, rfl, by omega, (by rw [HU.out]; go_num), by go_num, HA.out, rfl⟩
         ·
          have HN := Lib.hid (show rGo true cs = none from HS.out.1 (by
           unfold rPiece
           rw [if_neg (fun h => by rw [not_all_at hkl (decide_eq_false hd)] at h; cases h.2)]))
          have hdI : hexV (gb p k) < 0 := by omega
          clear hv hvl hd hd16
          go_wp2_with (go_at_call 109; go_must (go_fit CX.out); rintro e w4 ⟨rfl, rfl⟩)
          go_ret2
          rw [HP.out, HN.out]
          exact ⟨_, _, _, rfl, hbel⟩
        ·
         obtain rfl : k = p.length := by omega
         have hall' := hall.out
         rw [tk_whole] at hv hall'
         have HI := Lib.hid (HS.out.2 v (by unfold rPiece; rw [if_pos ⟨decide_eq_true h1, hall'⟩, hv]))
         have hkI : ¬ (p.length : Int) < (p.length : Int) := by omega
         have HO := Lib.hid hown
         clear hv hvl hall' hown
         go_wp2_with (at_builtin; go_loud (refine wpList_append_lit rfl _ _ _ rfl w1.heap.size _ _ 1 2 Tryz.underlying72 info_u16 rfl (by decide) _ _ _ rfl HO.out _ 1 1 _ rfl rfl (by simp [Value.oneCell']) (by omega) (by decide) (by have := hbel1.size; omega) ?_; intro A5 c5 w5 hc5 hm5 hown5 hb5 hg5))
         go_roundg (cs.length - (i + 1))
         case measure => omega
         case rel =>
          have el : (acc ++ [v]).length = acc.length + 1 := by rw [List.length_append]; rfl
          refine ⟨i + 1, acc ++ [v], A5, c5, rfl, by omega, by go_num, by rw [el], ?_, by rw [el]; omega, HI.out, hbel.trans (hb5.mono hb1.size), hbel1.trans hb5⟩
          rw [el]
          have e : u16s (acc ++ [v]) = u16s acc ++ #[Value.int .u16 (v : Int)].toList := by unfold u16s; rw [List.map_append]; rfl
          rw [e]; exact hown5
      ·
       have HN := Lib.hid (show rGo true cs = none from HS.out.1 (by
        unfold rPiece
        rw [if_neg (fun h => h1 (of_decide_eq_true h.1))]))
       by_cases h0 : 1 ≤ p.length
       ·
        have h1I : ¬ (p.length : Int) < 1 := by omega
        have h4I : (4 : Int) < (p.length : Int) := by omega
        clear h1
        go_wp2
        go_ret2
        rw [HP.out, HN.out]
        exact ⟨_, _, _, rfl, hbel⟩
       ·
        have h1I : (p.length : Int) < 1 := by omega
        clear h1
        go_wp2
        go_ret2
        rw [HP.out, HN.out]
        exact ⟨_, _, _, rfl, hbel⟩
   ·
    obtain rfl : i = cs.length := by omega
    have HN := Lib.hid (show rGo tl cs = some acc by rw [hinv.out, List.drop_length]; show some (acc ++ []) = some acc; rw [List.append_nil])
    have hbk := Lib.hid fun k (h : (Value.slice A' acc.length c').ownBlock = some k) => Nat.le_trans hb1.size (hown.lt k h).1
    obtain ⟨A6, c6, e6, hc6, hm6, hx6⟩ := own_rdN hown
    injection e6 with e6 _ e7
    subst e6 e7
    go_wp2
    go_ret2
    rw [HP.out, HN.out]
    exact ⟨_, _, rfl, hx6, hc6, hm6, hbk.out, hbel⟩
end Go.Proofs.YtoapelcofjjdnaaGreatDoor
