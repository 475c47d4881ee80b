/- The walk of the reference's Path. -/
import Derived.Test.YtnnphploekchbaaDoorPathF
import Derived.Test.YtnnphploekchbaaDoorPctR
namespace Go.Proofs.YtnnphploekchbaaDoor
set_option linter.all false
open Go.RowKit

def slB (c : UInt8) : UInt8 := if c = 92 then 47 else c
theorem slash_true (s : List UInt8) : slash true s = s.map slB := rfl
theorem slash_false (s : List UInt8) : slash false s = s := rfl
theorem own_lit0 (w : World) : (w.alloc (.cells #[] 9)).ownsRow w.heap.size 9 1 (.slice (some ⟨w.heap.size, 0, none⟩) 0 0) 0 [] := World.ownsRow_lit w #[] 0 (Nat.le_refl _) (by decide) rfl
theorem own_lit0B (w : World) {B : Nat} (h : B ≤ w.heap.size) : (w.alloc (.cells #[] 9)).ownsRow B 9 1 (.slice (some ⟨w.heap.size, 0, none⟩) 0 0) 0 [] := World.ownsRow_lit w #[] 0 h (by decide) rfl
theorem own_zero {w : World} {B n c : Nat} {e : TypeId} {A : Option Addr} {xs : List Value} (h : w.ownsRow B e 1 (.slice A (0 + n) c) (0 + n) ([] ++ xs)) : w.ownsRow B e 1 (.slice A n c) n xs := by rwa [Nat.zero_add, List.nil_append] at h
theorem pRel2 {base cs out : List (List UInt8)} {w2 w10 : World} {i m c : Nat} {A : Option Addr} {z : List UInt8} {v : Value} (hl : out.length = m)
    (hown : w10.ownsRow w2.heap.size 9 1 (.slice A (m + 1) c) (m + 1) (strs out ++ #[Value.string (str z)].toList)) (hI : pGo base cs = pGo (out ++ [z]) (cs.drop (i + 1)))
    (hj : i + 1 ≤ cs.length) (hb : m ≤ base.length + i) (hbel : Below w2.heap.size w2 w10) (hv : v = .int .i64 ((i + 1 : Nat) : Int)) :
    ∃ (j : Nat) (o : List (List UInt8)) (A' : Option Addr) (c' : Nat), cs.length - (i + 1) = cs.length - j ∧ j ≤ cs.length ∧ v = .int .i64 (j : Int) ∧ Value.slice A (m + 1) c = .slice A' o.length c' ∧
      w10.ownsRow w2.heap.size 9 1 (.slice A' o.length c') o.length (strs o) ∧ o.length ≤ base.length + j ∧ Hid (pGo base cs = pGo o (cs.drop j)) ∧ Below w2.heap.size w2 w10 := by
  have hl2 : (out ++ [z]).length = m + 1 := by rw [List.length_append, hl]; rfl
  refine ⟨i + 1, out ++ [z], A, c, rfl, hj, hv, by rw [hl2], ?_, by rw [hl2]; omega, hI, hbel⟩
  rw [hl2, strs_append]; exact hown
theorem own_none {w : World} {B n c : Nat} {e : TypeId} {A : Option Addr} {xs : List Value} (h : w.ownsRow B e 1 (.slice A n c) n xs) : A = none → n = 0 ∧ c = 0 := by
  intro hA
  rcases h.2 with ⟨hv, h0⟩ | ⟨g, cap, cur, hv, _⟩
  · injection hv with _ _ h3
    exact ⟨h0, h3⟩
  · injection hv with h1
    rw [hA] at h1; cases h1
theorem rd_row8 {w w' : World} {B g off : Nat} {xs : List Value} {row : Option Nat} (h : Rd w B (some ⟨g, off, none⟩) xs) (hg : w.grownBy w' row) (hne : row ≠ some g) : Rd w' w'.heap.size (some ⟨g, off, none⟩) xs := fun hn => by
  obtain ⟨b, o, e, hb, hc⟩ := h hn
  injection e with e
  injection e with e1 e2
  subst e1 e2
  have hlt := World.block_lt_of_cell? _ _ (hc 0 _ (List.getElem?_eq_getElem hn))
  exact ⟨g, off, rfl, Nat.lt_of_lt_of_le hlt hg.size, fun j u hu => hg.cell (hc j u hu) (fun e => hne e.symm)⟩
section
variable {P : Program} {w : World} {ops : Array Oper} {o : Oper} {a : Act} {Q : Exit → Act → World → Prop} {K : Act → World → Prop} {E : Prop}
theorem step_append_pa (hgd : o.guard = none) (s x : Operand) (t : TypeId)
    (ho : o.op = .call { callee := .builtin .append, args := #[s, x], argTypes := #[t, t] })
    (base : Nat) (e : TypeId) (z : Value) (size bytes : Nat) (ht : P.underlying t = some (.slice e))
    (hinfo : (P.info? e).map (fun i => (i.zero, i.size, i.bytes)) = some (some z, size, bytes)) (hzs : z.cells.size = size) (hsz : 0 < size)
    (v : Value) (n : Nat) (xs : List Value) (hs : a.eval s = v) (hown : w.ownsRow base e size v n xs)
    (A : Option Addr) (m c : Nat) (news : List Value) (hx : a.eval x = .slice A m c) (hl : news.length = m * size) (hnone : A = none → m = 0 ∧ c = 0)
    (hc : ∀ ad, A = some ad → ∀ j u, news[j]? = some u → w.cell? (ad.add j) = some u) (h1 : ∀ u ∈ news, u.oneCell' = true)
    (h63 : n + m ≤ 1000000) (hb : bytes ≤ 1000) (hbase : base ≤ w.heap.size)
    (h : ∀ A' c' w', n + m ≤ c' → c' ≤ maxLen → w'.ownsRow base e size (.slice A' (n + m) c') (n + m) (xs ++ news) → Below base w w' → w.grownBy w' v.ownBlock → K (a.put o.dst (.slice A' (n + m) c')) w') :
    if Region.wanted o (yielded ops a.tmps) = true then Oper.wp P o a w K Q else E := by
  obtain ⟨i, hi, hz, hsize, hby⟩ := info_parts hinfo
  have hbytes : (n + m) * bytes ≤ 140737488355328 := by
    calc (n + m) * bytes ≤ 1000000 * 1000 := Nat.mul_le_mul h63 hb
      _ ≤ 140737488355328 := by decide
  have hw : Region.wanted o (yielded ops a.tmps) = true := by simp [Region.wanted, hgd]
  rw [if_pos hw]
  cases A with
  | some ad =>
    obtain ⟨v', w', hrun, h2, h3, _⟩ := run_append_own_at (P := P) w base t o.type e i z size bytes ht hi hz hsize hby hzs hsz v n xs hown ad m c news hl (hc ad rfl) h1 (by simp only [maxLen]; omega) hbytes hbase
    obtain ⟨A', c', rfl, q1, q2⟩ := own_shape h2
    unfold Oper.wp execOp
    simp only [ho, resolve, invoke, builtin, Sem.run_bind, Sem.run_pure, Result.andThen_ok, List.map_toArray, List.map_cons, List.map_nil, hs, hx, hrun]
    exact h A' c' w' q1 q2 h2 ((Below.refl _ _).grown h3 hbase fun k hk => (hown.lt k hk).1) h3
  | none =>
    obtain ⟨rfl, rfl⟩ := hnone rfl
    have hn : news = [] := List.eq_nil_of_length_eq_zero (by omega)
    subst hn
    have hrun := run_append_owned_none (P := P) (w := w) base t o.type e i size ht hi v n xs hown
    obtain ⟨A', c', rfl, q1, q2⟩ := own_shape hown
    unfold Oper.wp execOp
    simp only [ho, resolve, invoke, builtin, Sem.run_bind, Sem.run_pure, Result.andThen_ok, List.map_toArray, List.map_cons, List.map_nil, hs, hx, hrun]
    exact h A' c' w q1 q2 (by rw [List.append_nil]; exact hown) (Below.refl _ _) (World.grownBy.refl w _)
end
theorem rd_any {w : World} {B : Nat} {A : Option Addr} {xs : List Value} (h : Rd w B A xs) : ∀ ad, A = some ad → ∀ j u, xs[j]? = some u → w.cell? (ad.add j) = some u := by
  intro ad e j u hu
  have hj : j < xs.length := (List.getElem?_eq_some_iff.1 hu).1
  obtain ⟨b, off, e2, _, hc⟩ := h (by omega)
  rw [e] at e2
  injection e2 with e2
  rw [e2, Addr.add_lit]
  exact hc j u hu
theorem rd_heap {W W' : World} {B : Nat} {A : Option Addr} {xs : List Value} (h : Rd W B A xs) (e : ∀ k : Nat, W'.heap[k]? = W.heap[k]?) : Rd W' B A xs := h.keep fun p _ => World.cell?_of_block (e p.block)
theorem byteRow_on (w : World) (l : List UInt8) : Rd (w.alloc (byteRow w l 5)).drew (w.alloc (byteRow w l 5)).drew.heap.size (some ⟨w.heap.size, 0, none⟩) (bytes l) := byteRow_rd w l _ (by simp)
theorem byteRow_at (w : World) (o : Obj) (l : List UInt8) : Rd (((w.alloc o).alloc (byteRow (w.alloc o).drew l 5)).drew.drew) (w.heap.size + 2) (some ⟨w.heap.size + 1, 0, none⟩) (bytes l) := by
  have h := byteRow_rd (w.alloc o).drew l 5 (B := w.heap.size + 2) (by simp)
  have e : (w.alloc o).drew.heap.size = w.heap.size + 1 := by simp
  rw [e] at h
  exact rd_heap h (fun _ => rfl)
theorem byteRow_b4 (w : World) (o : Obj) (l : List UInt8) : Rd (((w.alloc (byteRow w.drew l 5)).alloc o).drew.drew) (w.heap.size + 2) (some ⟨w.heap.size, 0, none⟩) (bytes l) := by
  have h := byteRow_rd w.drew l 5 (B := w.heap.size + 1) (by simp)
  exact rd_heap ((h.alloc (by simp) o).mono (Nat.le_succ _)) (fun _ => rfl)
theorem opG0 {α : Type} {a0 : α} {l : List α} : (List.toArray (a0 :: l))[0]? = some a0 := rfl
theorem opG1 {α : Type} {a0 a1 : α} {l : List α} : (List.toArray (a0 :: a1 :: l))[1]? = some a1 := rfl
theorem opG2 {α : Type} {a0 a1 a2 : α} {l : List α} : (List.toArray (a0 :: a1 :: a2 :: l))[2]? = some a2 := rfl
theorem opG3 {α : Type} {a0 a1 a2 a3 : α} {l : List α} : (List.toArray (a0 :: a1 :: a2 :: a3 :: l))[3]? = some a3 := rfl
theorem opG4 {α : Type} {a0 a1 a2 a3 a4 : α} {l : List α} : (List.toArray (a0 :: a1 :: a2 :: a3 :: a4 :: l))[4]? = some a4 := rfl
theorem opG5 {α : Type} {a0 a1 a2 a3 a4 a5 : α} {l : List α} : (List.toArray (a0 :: a1 :: a2 :: a3 :: a4 :: a5 :: l))[5]? = some a5 := rfl
theorem opG6 {α : Type} {a0 a1 a2 a3 a4 a5 a6 : α} {l : List α} : (List.toArray (a0 :: a1 :: a2 :: a3 :: a4 :: a5 :: a6 :: l))[6]? = some a6 := rfl
theorem opG7 {α : Type} {a0 a1 a2 a3 a4 a5 a6 a7 : α} {l : List α} : (List.toArray (a0 :: a1 :: a2 :: a3 :: a4 :: a5 :: a6 :: a7 :: l))[7]? = some a7 := rfl
theorem opG8 {α : Type} {a0 a1 a2 a3 a4 a5 a6 a7 a8 : α} {l : List α} : (List.toArray (a0 :: a1 :: a2 :: a3 :: a4 :: a5 :: a6 :: a7 :: a8 :: l))[8]? = some a8 := rfl
theorem opG9 {α : Type} {a0 a1 a2 a3 a4 a5 a6 a7 a8 a9 : α} {l : List α} : (List.toArray (a0 :: a1 :: a2 :: a3 :: a4 :: a5 :: a6 :: a7 :: a8 :: a9 :: l))[9]? = some a9 := rfl
theorem opG10 {α : Type} {a0 a1 a2 a3 a4 a5 a6 a7 a8 a9 a10 : α} {l : List α} : (List.toArray (a0 :: a1 :: a2 :: a3 :: a4 :: a5 :: a6 :: a7 :: a8 :: a9 :: a10 :: l))[10]? = some a10 := rfl
theorem opG11 {α : Type} {a0 a1 a2 a3 a4 a5 a6 a7 a8 a9 a10 a11 : α} {l : List α} : (List.toArray (a0 :: a1 :: a2 :: a3 :: a4 :: a5 :: a6 :: a7 :: a8 :: a9 :: a10 :: a11 :: l))[11]? = some a11 := rfl
set_option maxRecDepth 100000 in
set_option maxHeartbeats 16000000 in
theorem rpath_any (s : List UInt8) (sp : Bool) (A : Option Addr) (c : Nat) (base : List (List UInt8)) (w : World) (hr : Rd w w.heap.size A (strs base)) (hs : s.length ≤ 30000) (hb : base.length ≤ 10000) :
    Calls Tryd.prog 24 #[.string (str s), .bool sp, .slice A base.length c] w fun e w' => ∃ v, e = .returned v ∧ w'.ownsRow w.heap.size 9 1 v (pParse s sp base).length (strs (pParse s sp base)) ∧ Below w.heap.size w w' := by
  cases sp with
  | false =>
    go_enter Tryd.func24, Tryd.ntmps24
    go_wp2_with (refine wpList_bytesL rfl _ _ _ _ rfl Tryd.underlying9 Tryd.underlying42 Tryd.underlying5 s rfl (by omega) ?_; intro c3 w3 hc3 hm3 hrow3 hr3 hb3 hz3)
    go_loopg [8] 0 (fun k s8 wr => k = 0 ∧ s8 = .int .i64 0 ∧ w3 = wr)
    case atStart => exact ⟨rfl, rfl, rfl⟩
    case round =>
      obtain ⟨rfl, rfl, rfl⟩ := hrel
      by_cases h0 : s.length = 0
      · have h0I : ¬ (0 : Int) < (s.length : Int) := by omega
        clear h0
        have hst := str_atL (c := c3) (n := s.length) (l := slash false s) (hrow3.rd hz3) (slash_len false s).symm
        have C1 := Lib.hid (cut6_any (slash false s) 47 w3 (by rw [slash_len]; omega))
        have HP := Lib.hid (show pParse s false base = pGo base (cuts 47 (slash false s)) from rfl)
        have hcl := cuts_le 47 (slash false s)
        rw [slash_len] at hcl
        have HL := Lib.hid fun (x : List UInt8) (hx : x ∈ cuts 47 (slash false s)) => (show x.length ≤ 30000 by have := cuts_sum 47 (slash false s) x hx; rw [slash_len] at this; omega)
        obtain ⟨cs, hcse⟩ : ∃ cs, cs = cuts 47 (slash false s) := ⟨_, rfl⟩
        rw [← hcse] at C1 HP hcl HL
        obtain ⟨T, hT⟩ : ∃ T, T = slash false s := ⟨_, rfl⟩
        rw [← hT] at hst C1
        obtain ⟨R, hR⟩ : ∃ R, R = pParse s false base := ⟨_, rfl⟩
        rw [← hR] at HP
        have HR := Lib.hid hR
        have h47 : ((47 : UInt8).toNat : Int) = 47 := rfl
        have HBB := Lib.hid hb3
        clear hcse hT hR
        go_wp2_with (first
          | (go_at_call 47; go_must (go_fit C1.out); rintro e w2 ⟨v2, rfl, hown2, hb2⟩; obtain ⟨A2, c2, rfl, hc2, hm2, hr2⟩ := own_rdN hown2; have hbw := bnext HBB.out hb2; have hrb := hr.below hbw; have hq2 := hbw.size)
          | (at_builtin; refine wpList_append_rd rfl _ _ _ rfl w2.heap.size _ _ 16 Tryd.underlying22 info_strU rfl _ 0 [] rfl (own_lit0 w2) w.heap.size A base.length c (strs base) rfl (by rw [strs_len]) (hrb.alloc hbw.size _) (strs_one _) (by omega) (by decide) (by simp) ?_; intro A5 c5 w5 hc5 hm5 hown5 hb5 hg5; simp only [Nat.zero_add] at hc5))
        have hown5' := own_zero hown5
        have hb25 : Below w2.heap.size w2 w5 := ((Below.refl w2.heap.size w2).alloc (Nat.le_refl _) _).trans hb5
        clear hown5 hown2 hst
        go_loopg [10, 11] cs.length (fun k s10 s11 wr => ∃ (i : Nat) (out : List (List UInt8)) (A' : Option Addr) (c' : Nat), k = cs.length - i ∧ i ≤ cs.length ∧ s11 = .int .i64 (i : Int) ∧ s10 = .slice A' out.length c' ∧
          wr.ownsRow w2.heap.size 9 1 (.slice A' out.length c') out.length (strs out) ∧ out.length ≤ base.length + i ∧ Hid (pGo base cs = pGo out (cs.drop i)) ∧ Below w2.heap.size w2 wr)
        case atStart => exact ⟨0, base, A5, c5, rfl, Nat.zero_le _, rfl, by simp, hown5', Nat.le_refl _, rfl, hb25⟩
        case round =>
          clear hown5' hb25 hb5 hg5
          obtain ⟨i, out, A', c', rfl, hi, rfl, rfl, hown, hol, hinv, hbel⟩ := hrel
          have hq0 := hbel.size
          by_cases hlt : i < cs.length
          · obtain ⟨b, off, x, rfl, hb', hc2i, hx⟩ := hr2.str_at (k := i) hlt
            have hc := cell_on hbel hc2i hb'
            have hxl := HL.out x (List.mem_of_getElem? hx.out)
            have HI := Lib.hid (pGo_next hinv.out hx.out)
            have hlt1 : (i : Int) < (cs.length : Int) := by omega
            have hi0 : (0 : Int) ≤ (i : Int) := by omega
            have CD := Lib.hid (rdouble_any x wr (by omega))
            have hw1 : IntKind.i64.wrap ((cs.length : Int) - 1) = (cs.length : Int) - 1 := IntWalk.i64_in _ (by omega)
            have hw2 : IntKind.i64.wrap ((out.length : Int) - 1) = (out.length : Int) - 1 := IntWalk.i64_in _ (by omega)
            have hw3 : IntKind.i64.wrap ((i : Int) + 1) = (i : Int) + 1 := IntWalk.i64_in _ (by omega)
            obtain ⟨m, hm0⟩ : ∃ m : Nat, m = out.length - 1 := ⟨_, rfl⟩
            have hmx : max ((out.length : Int) - 1) 0 = (m : Int) := by omega
            have hmo : m ≤ out.length := by omega
            have hdl : (strs out).take m = strs out.dropLast := by rw [hm0]; unfold strs; rw [← List.map_take, dropLast_take]
            have hdn : out.dropLast.length = m := by rw [List.length_dropLast, hm0]
            clear hm0
            have hml : (m : Int) ≤ (out.length : Int) := by omega
            have hm00 : (0 : Int) ≤ (m : Int) := by omega
            obtain ⟨_, _, e0, hnc, hcm⟩ := own_shape hown
            injection e0 with e1 e2 e3; subst e1; subst e3
            clear e2
            have hmc : (m : Int) ≤ (c' : Int) := by omega
            have CS := Lib.hid fun w => rsingle_any x w (by omega)
            have CE := Lib.hid fun A c w h => percent_any 4 A c x w h (by omega)
            by_cases hD : pDouble x = true
            · have HO := Lib.hid (own_cut hown hmo)
              rw [hdl] at HO
              have hnx : pNext out x = out.dropLast := by unfold pNext; rw [if_pos hD]
              have hls : pLast out x = out.dropLast ++ [[]] := by unfold pLast; rw [if_pos hD]
              rw [hD] at CD
              rw [hnx, hls] at HI
              have HDN := Lib.hid hdn
              clear hD hx hdl hnx hls hdn hown
              by_cases hl : i + 1 = cs.length
              · have hlst : ((i : Int) == (cs.length : Int) - 1) = true := by rw [beq_iff_eq]; omega
                have HI2 := Lib.hid (show pGo base cs = pGo (out.dropLast ++ [[]]) (cs.drop (i + 1)) by rw [HI.out, if_pos hl])
                clear HI
                go_wp2_with (first
                  | (go_at_call 22; go_must (go_fit CD.out); rintro e w6 ⟨rfl, hb6⟩; have HO3 := own_below HO.out hb6 (Nat.le_refl _); obtain ⟨A7, c7, e7, hc7, hm7, hr7⟩ := own_rdN HO3; injection e7 with e7 _ e8; subst e7; subst e8; have hq6 := hb6.size)
                  | (at_builtin; refine wpList_append_rd rfl _ _ _ rfl w2.heap.size _ _ 16 Tryd.underlying22 info_strU rfl _ 0 [] rfl (own_lit0B w6 (by omega)) w6.heap.size A' m c' (strs out.dropLast) rfl (by rw [strs_len, HDN.out]) (hr7.alloc (Nat.le_refl _) _) (strs_one _) (by omega) (by decide) (by simp; omega) ?_; intro A8 c8 w8 hc8 hm8 hown8 hb8 hg8; have hown9 := own_zero hown8; have hq8 := hg8.size; simp only [Nat.zero_add] at hc8)
                  | (at_builtin; refine wpList_append_lit rfl _ _ _ rfl w2.heap.size _ _ 1 16 Tryd.underlying22 info_strU rfl (by decide) _ _ _ rfl hown9 _ 1 1 _ rfl rfl (by simp [Value.oneCell']) (by omega) (by decide) (by simp at hq8; omega) ?_; intro A10 c10 w10 hc10 hm10 hown10 hb10 hg10))
                go_roundg (cs.length - (i + 1))
                case measure => omega
                case rel => exact pRel2 HDN.out hown10 HI2.out (by omega) (by omega) ((((hbel.trans (hb6.mono hq0)).alloc (by omega) _).trans hb8).trans hb10) (by go_num)
              · have hlst : ((i : Int) == (cs.length : Int) - 1) = false := by rw [beq_eq_false_iff_ne]; omega
                have HI2 := Lib.hid (show pGo base cs = pGo out.dropLast (cs.drop (i + 1)) by rw [HI.out, if_neg hl])
                clear HI
                go_wp2_with (go_at_call 22; go_must (go_fit CD.out); rintro e w6 ⟨rfl, hb6⟩; have HO3 := own_below HO.out hb6 (Nat.le_refl _))
                go_roundg (cs.length - (i + 1))
                case measure => omega
                case rel => exact ⟨i + 1, out.dropLast, A', c', rfl, by omega, by go_num, by rw [HDN.out], by rw [HDN.out]; exact HO3, by rw [HDN.out]; omega, HI2.out, hbel.trans (hb6.mono hq0)⟩
            · have hD' : pDouble x = false := by simpa using hD
              rw [hD'] at CD
              by_cases hS : pSingle x = true
              · have hnx : pNext out x = out := by unfold pNext; rw [if_neg hD, if_pos hS]
                have hls : pLast out x = out ++ [[]] := by unfold pLast; rw [if_neg hD, if_pos hS]
                rw [hS] at CS
                rw [hnx, hls] at HI
                have HO := Lib.hid hown
                clear hD hD' hS hx hdl hdn hnx hls hown
                by_cases hl : i + 1 = cs.length
                · have hlst : ((i : Int) == (cs.length : Int) - 1) = true := by rw [beq_iff_eq]; omega
                  have HI2 := Lib.hid (show pGo base cs = pGo (out ++ [[]]) (cs.drop (i + 1)) by rw [HI.out, if_pos hl])
                  clear HI
                  go_wp2_with (first
                    | (go_at_call 22; go_must (go_fit CD.out); rintro e w6 ⟨rfl, hb6⟩; have hc6 := cell_on hb6 hc (by omega))
                    | (go_at_call 20; go_must (go_fit (CS.out w6)); rintro e w7 ⟨rfl, hb7⟩; have hb67 := bnext hb6 hb7; have HO3 := own_below HO.out hb67 (Nat.le_refl _); obtain ⟨A7, c7, e7, hc7, hm7, hr7⟩ := own_rdN HO3; injection e7 with e7 _ e8; subst e7; subst e8; have hq6 := hb67.size)
                    | (at_builtin; refine wpList_append_rd rfl _ _ _ rfl w2.heap.size _ _ 16 Tryd.underlying22 info_strU rfl _ 0 [] rfl (own_lit0B w7 (by omega)) w7.heap.size A' out.length c' (strs out) rfl (by rw [strs_len]) (hr7.alloc (Nat.le_refl _) _) (strs_one _) (by omega) (by decide) (by simp; omega) ?_; intro A8 c8 w8 hc8 hm8 hown8 hb8 hg8; have hown9 := own_zero hown8; have hq8 := hg8.size; simp only [Nat.zero_add] at hc8)
                    | (at_builtin; refine wpList_append_lit rfl _ _ _ rfl w2.heap.size _ _ 1 16 Tryd.underlying22 info_strU rfl (by decide) _ _ _ rfl hown9 _ 1 1 _ rfl rfl (by simp [Value.oneCell']) (by omega) (by decide) (by simp at hq8; omega) ?_; intro A10 c10 w10 hc10 hm10 hown10 hb10 hg10))
                  go_roundg (cs.length - (i + 1))
                  case measure => omega
                  case rel => exact pRel2 rfl hown10 HI2.out (by omega) (by omega) ((((hbel.trans (hb67.mono hq0)).alloc (by omega) _).trans hb8).trans hb10) (by go_num)
                · have hlst : ((i : Int) == (cs.length : Int) - 1) = false := by rw [beq_eq_false_iff_ne]; omega
                  have HI2 := Lib.hid (show pGo base cs = pGo out (cs.drop (i + 1)) by rw [HI.out, if_neg hl])
                  clear HI
                  go_wp2_with (first
                    | (go_at_call 22; go_must (go_fit CD.out); rintro e w6 ⟨rfl, hb6⟩; have hc6 := cell_on hb6 hc (by omega))
                    | (go_at_call 20; go_must (go_fit (CS.out w6)); rintro e w7 ⟨rfl, hb7⟩; have hb67 := bnext hb6 hb7; have HO3 := own_below HO.out hb67 (Nat.le_refl _)))
                  go_roundg (cs.length - (i + 1))
                  case measure => omega
                  case rel => exact ⟨i + 1, out, A', c', rfl, by omega, by go_num, rfl, HO3, by omega, HI2.out, hbel.trans (hb67.mono hq0)⟩
              · have hS' : pSingle x = false := by simpa using hS
                have hnx : pNext out x = out ++ [pEnc 4 x] := by unfold pNext; rw [if_neg hD, if_neg hS]
                have hls : pLast out x = out ++ [pEnc 4 x] := by unfold pLast; rw [if_neg hD, if_neg hS]
                rw [hS'] at CS
                rw [hnx, hls, ite_self] at HI
                have HO := Lib.hid hown
                clear hD hD' hS hS' hx hdl hdn hnx hls hown
                obtain ⟨bl, hbl⟩ : ∃ bl : Bool, ((i : Int) == (cs.length : Int) - 1) = bl := ⟨_, rfl⟩
                go_wp2_with (first
                  | (go_at_call 22; go_must (go_fit CD.out); rintro e w6 ⟨rfl, hb6⟩; have hc6 := cell_on hb6 hc (by omega))
                  | (go_at_call 20; go_must (go_fit (CS.out w6)); rintro e w7 ⟨rfl, hb7⟩; have hb67 := bnext hb6 hb7; have HO3 := own_below HO.out hb67 (Nat.le_refl _); obtain ⟨A7, c7, e7, hc7, hm7, hr7⟩ := own_rdN HO3; injection e7 with e7 _ e8; subst e7; subst e8; have hq6 := hb67.size; have hc7' := cell_on hb7 hc6 (by have := hb6.size; omega)))
                have hkb := fun w => bytes_at w x
                have HNN := Lib.hid (own_none HO3)
                have H1 := Lib.hid (own_lit0B w7 (B := w2.heap.size) (by omega))
                have H2 := Lib.hid fun o => (show ((w7.alloc o).alloc (.cells #[] 9)).ownsRow w2.heap.size 9 1 (.slice (some ⟨w7.heap.size + 1, 0, none⟩) 0 0) 0 [] by
                  have h := own_lit0B (w7.alloc o) (B := w2.heap.size) (by simp; omega)
                  simpa using h)
                have H3 := Lib.hid fun o => (own_lit0B w7 (B := w2.heap.size) (by omega)).alloc o
                have HB7 := hbel.trans (hb67.mono hq0)
                have hl7 : w2.heap.size ≤ w7.heap.size := by omega
                have hcB := hc2i
                refine wp_region_held_drew (S := fun w' => w'.cell? ⟨b, off + i, none⟩ = some (.string (str x))) (by kernel_rfl) hc7' (fun hHeld => ?_)
                refine wpAnyH_take (i := 1) (v := ?_) opG1 (by kernel_rfl) (by kernel_rfl) (by kernel_rfl) (fun _ _ _ h => h) (Or.inl ⟨by rfl, ?_⟩) (by assumption) ?_
                rotate_left
                · (intro w hSw; (try dsimp only at hSw); go_simp; (try with_reducible rfl))
                try simp only [Act.put, List.setIfInBounds_toArray, List.set_cons_zero, List.set_cons_succ]
                refine wpAnyH_take (i := 3) (v := ?_) opG3 (by kernel_rfl) (by kernel_rfl) (by kernel_rfl) (fun _ _ _ h => h) (Or.inl ⟨by rfl, ?_⟩) (by assumption) ?_
                rotate_left
                · (intro w hSw; (try dsimp only at hSw); go_simp; (try with_reducible rfl))
                try simp only [Act.put, List.setIfInBounds_toArray, List.set_cons_zero, List.set_cons_succ]
                refine wpAnyH_take (i := 4) (v := ?_) opG4 (by kernel_rfl) (by kernel_rfl) (by kernel_rfl) (fun _ _ _ h => h) (Or.inl ⟨by rfl, ?_⟩) (by assumption) ?_
                rotate_left
                · (intro w hSw; (try dsimp only at hSw); go_simp; (try with_reducible rfl))
                try simp only [Act.put, List.setIfInBounds_toArray, List.set_cons_zero, List.set_cons_succ]
                refine wpAnyH_take (i := 5) (v := ?_) opG5 (by kernel_rfl) (by kernel_rfl) (by kernel_rfl) (fun _ _ _ h => h) (Or.inl ⟨by rfl, ?_⟩) (by assumption) ?_
                rotate_left
                · (intro w hSw; (try dsimp only at hSw); go_simp; (try with_reducible rfl))
                try simp only [Act.put, List.setIfInBounds_toArray, List.set_cons_zero, List.set_cons_succ]
                refine wpAnyH_take (i := 6) (v := ?_) opG6 (by kernel_rfl) (by kernel_rfl) (by kernel_rfl) (fun _ _ _ h => h) (Or.inl ⟨by rfl, ?_⟩) (by assumption) ?_
                rotate_left
                · (intro w hSw; (try dsimp only at hSw); go_simp; (try with_reducible rfl))
                try simp only [Act.put, List.setIfInBounds_toArray, List.set_cons_zero, List.set_cons_succ]
                refine wpAnyH_ready (rs := [0, 7]) (by kernel_rfl) (by simp) (AllReadyH.cons opG0 (fun K hK => ?_) (AllReadyH.cons opG7 (fun K hK => ?_) AllReadyH.nil))
                · go_simp
                  refine hK.out _ _ ?_ (fun hHeld => ?_)
                  · (try dsimp only); first | exact cell_on (HB7.alloc hl7 _) hcB hb' | exact cell_on (Below.drew (HB7.alloc hl7 _)) hcB hb' | exact cell_on (Below.drew (Below.drew (HB7.alloc hl7 _))) hcB hb' | exact cell_on (Below.drew (Below.drew (Below.drew (HB7.alloc hl7 _)))) hcB hb'
                  clear hK K
                  try simp only [Act.put, List.setIfInBounds_toArray, List.set_cons_zero, List.set_cons_succ]
                  refine wpAnyH_ready (rs := [2, 7]) (by kernel_rfl) (by simp) (AllReadyH.cons opG2 (fun K hK => ?_) (AllReadyH.cons opG7 (fun K hK => ?_) AllReadyH.nil))
                  · refine step_append_pa rfl _ _ _ rfl w2.heap.size _ _ 1 16 Tryd.underlying22 info_strU rfl (by decide) (.slice (some ⟨w7.heap.size, 0, none⟩) 0 0) 0 [] rfl H1.out A' out.length c' (strs out) rfl (by rw [strs_len]; simp) HNN.out (rd_any (hr7.alloc (Nat.le_refl _) _)) (strs_one _) (by omega) (by decide) (by simp; omega) ?_
                    intro A8 c8 w8 hc8 hm8 hown8 hb8 hg8
                    have hown9 := own_zero hown8
                    have hq8 : w7.heap.size + 1 ≤ w8.heap.size := Nat.le_trans (by simp) hg8.size
                    simp only [Nat.zero_add] at hc8 ⊢
                    have hbz : Below w2.heap.size w2 w8 := ((HB7.alloc hl7 _).drew).trans hb8
                    have hc8b := cell_on hbz hcB hb'
                    refine hK.out _ _ ?_ (fun hHeld => ?_)
                    · (try dsimp only); exact hc8b
                    clear hK K
                    try simp only [Act.put, List.setIfInBounds_toArray, List.set_cons_zero, List.set_cons_succ]
                    refine wpAnyH_ready (rs := [7]) (by kernel_rfl) (by simp) (AllReadyH.cons opG7 (fun K hK => ?_) AllReadyH.nil)
                    go_simp
                    refine hK.out _ _ ?_ (fun hHeld => ?_)
                    · (try dsimp only); first | exact cell_on (hbz.alloc (by omega) _) hcB hb' | exact cell_on (Below.drew (hbz.alloc (by omega) _)) hcB hb' | exact cell_on (Below.drew (Below.drew (hbz.alloc (by omega) _))) hcB hb' | exact cell_on (Below.drew (Below.drew (Below.drew (hbz.alloc (by omega) _)))) hcB hb'
                    clear hK K
                    try simp only [Act.put, List.setIfInBounds_toArray, List.set_cons_zero, List.set_cons_succ]
                    refine wpAnyH_ready (rs := [8]) (by kernel_rfl) (by simp) (AllReadyH.cons opG8 (fun K hK => ?_) AllReadyH.nil)
                    refine step_call2 rfl _ _ _ _ rfl (fun _ _ => rfl) (.int .i64 4) (.slice (some ⟨w8.heap.size, 0, none⟩) x.length _) rfl rfl _ (CE.out _ _ (w8.alloc (byteRow w8 x 5)).drew (byteRow_on w8 x)) ?_
                    rintro e w9 ⟨rfl, hb9⟩
                    refine ⟨_, rfl, ?_⟩
                    have hown9' := own_below (w := (w8.alloc (byteRow w8 x 5)).drew) (hown9.alloc (byteRow w8 x 5)) hb9 (Nat.le_refl _)
                    have hbz9 : Below w2.heap.size w2 w9 := ((hbz.alloc (by omega) (byteRow w8 x 5)).drew).trans (hb9.mono (by simp; omega))
                    have hc9b := cell_on hbz9 hcB hb'
                    have hq9 := hbz9.size
                    refine hK.out _ _ ?_ (fun hHeld => ?_)
                    · (try dsimp only); exact hc9b
                    clear hK K
                    try simp only [Act.put, List.setIfInBounds_toArray, List.set_cons_zero, List.set_cons_succ]
                    refine wpAnyH_ready (rs := [9]) (by kernel_rfl) (by simp) (AllReadyH.cons opG9 (fun K hK => ?_) AllReadyH.nil)
                    go_simp
                    refine hK.out _ _ ?_ (fun hHeld => ?_)
                    · (try dsimp only); first | exact cell_on (hbz9.alloc hq9 _) hcB hb' | exact cell_on (Below.drew (hbz9.alloc hq9 _)) hcB hb' | exact cell_on (Below.drew (Below.drew (hbz9.alloc hq9 _))) hcB hb' | exact cell_on (Below.drew (Below.drew (Below.drew (hbz9.alloc hq9 _)))) hcB hb'
                    clear hK K
                    try simp only [Act.put, List.setIfInBounds_toArray, List.set_cons_zero, List.set_cons_succ]
                    refine wpAnyH_ready (rs := [10]) (by kernel_rfl) (by simp) (AllReadyH.cons opG10 (fun K hK => ?_) AllReadyH.nil)
                    refine step_append_cells rfl _ _ _ rfl w2.heap.size _ _ 1 16 Tryd.underlying22 info_strU rfl (by decide) _ _ _ rfl (hown9'.alloc _) w9.heap.size _ 1 1 9 (0, 0) rfl (heap_alloc_new w9 _) rfl (by simp [Value.oneCell']) (by omega) (by decide) (by simp; omega) ?_
                    intro A10 c10 w10 hc10 hm10 hown10 hb10 hg10
                    have hbz10 : Below w2.heap.size w2 w10 := (hbz9.alloc hq9 _).trans hb10
                    refine hK.out _ _ ?_ (fun hHeld => ?_)
                    · (try dsimp only); first | exact cell_on hbz10 hcB hb' | exact cell_on (Below.drew hbz10) hcB hb' | exact cell_on (Below.drew (Below.drew hbz10)) hcB hb' | exact cell_on (Below.drew (Below.drew (Below.drew hbz10))) hcB hb'
                    clear hK K
                    try simp only [Act.put, List.setIfInBounds_toArray, List.set_cons_zero, List.set_cons_succ]
                    refine wpAnyH_take (i := 11) (v := ?_) opG11 (by kernel_rfl) (by kernel_rfl) (by kernel_rfl) (fun _ _ _ h => h) (Or.inl ⟨by rfl, ?_⟩) (by assumption) ?_
                    rotate_left
                    · (intro w hSw; (try dsimp only at hSw); go_simp; (try with_reducible rfl))
                    try simp only [Act.put, List.setIfInBounds_toArray, List.set_cons_zero, List.set_cons_succ]
                    refine wpAnyH_done (by kernel_rfl) ?_ _
                    go_wp2
                    go_roundg (cs.length - (i + 1))
                    case measure => omega
                    case rel => exact pRel2 rfl hown10 HI.out (by omega) (by omega) hbz10 (by go_num)
                  · go_simp
                    refine hK.out _ _ ?_ (fun hHeld => ?_)
                    · (try dsimp only); first | exact cell_on ((HB7.alloc hl7 _).alloc (by simp; omega) _) hcB hb' | exact cell_on (Below.drew ((HB7.alloc hl7 _).alloc (by simp; omega) _)) hcB hb' | exact cell_on (Below.drew (Below.drew ((HB7.alloc hl7 _).alloc (by simp; omega) _))) hcB hb' | exact cell_on (Below.drew (Below.drew (Below.drew ((HB7.alloc hl7 _).alloc (by simp; omega) _)))) hcB hb'
                    clear hK K
                    try simp only [Act.put, List.setIfInBounds_toArray, List.set_cons_zero, List.set_cons_succ]
                    refine wpAnyH_ready (rs := [2]) (by kernel_rfl) (by simp) (AllReadyH.cons opG2 (fun K hK => ?_) AllReadyH.nil)
                    refine step_append_pa rfl _ _ _ rfl w2.heap.size _ _ 1 16 Tryd.underlying22 info_strU rfl (by decide) (.slice (some ⟨w7.heap.size, 0, none⟩) 0 0) 0 [] rfl (H3.out _) A' out.length c' (strs out) rfl (by rw [strs_len]; simp) HNN.out (rd_any ((hr7.alloc (Nat.le_refl _) _).alloc (by simp) _)) (strs_one _) (by omega) (by decide) (by simp; omega) ?_
                    intro A8 c8 w8 hc8 hm8 hown8 hb8 hg8
                    have hown9 := own_zero hown8
                    have hq8 : w7.heap.size + 1 ≤ w8.heap.size := Nat.le_trans (by simp) hg8.size
                    simp only [Nat.zero_add] at hc8 ⊢
                    have hbz : Below w2.heap.size w2 w8 := (((HB7.alloc hl7 _).alloc (by simp; omega) _).drew.drew).trans hb8
                    have hc8b := cell_on hbz hcB hb'
                    refine hK.out _ _ ?_ (fun hHeld => ?_)
                    · (try dsimp only); exact hc8b
                    clear hK K
                    try simp only [Act.put, List.setIfInBounds_toArray, List.set_cons_zero, List.set_cons_succ]
                    refine wpAnyH_ready (rs := [8]) (by kernel_rfl) (by simp) (AllReadyH.cons opG8 (fun K hK => ?_) AllReadyH.nil)
                    refine step_call2 rfl _ _ _ _ rfl (fun _ _ => rfl) (.int .i64 4) (.slice (some ⟨w7.heap.size + 1, 0, none⟩) x.length _) rfl rfl _ (CE.out _ _ w8 (rd_row8 (byteRow_at w7 (.cells #[] 9) x) hg8 (fun e => by have e2 : some w7.heap.size = some (w7.heap.size + 1) := e; injection e2 with e2; omega))) ?_
                    rintro e w9 ⟨rfl, hb9⟩
                    refine ⟨_, rfl, ?_⟩
                    have hown9' := own_below (w := w8) hown9 hb9 (Nat.le_refl _)
                    have hbz9 : Below w2.heap.size w2 w9 := (hbz).trans (hb9.mono (by omega))
                    have hc9b := cell_on hbz9 hcB hb'
                    have hq9 := hbz9.size
                    refine hK.out _ _ ?_ (fun hHeld => ?_)
                    · (try dsimp only); exact hc9b
                    clear hK K
                    try simp only [Act.put, List.setIfInBounds_toArray, List.set_cons_zero, List.set_cons_succ]
                    refine wpAnyH_ready (rs := [9]) (by kernel_rfl) (by simp) (AllReadyH.cons opG9 (fun K hK => ?_) AllReadyH.nil)
                    go_simp
                    refine hK.out _ _ ?_ (fun hHeld => ?_)
                    · (try dsimp only); first | exact cell_on (hbz9.alloc hq9 _) hcB hb' | exact cell_on (Below.drew (hbz9.alloc hq9 _)) hcB hb' | exact cell_on (Below.drew (Below.drew (hbz9.alloc hq9 _))) hcB hb' | exact cell_on (Below.drew (Below.drew (Below.drew (hbz9.alloc hq9 _)))) hcB hb'
                    clear hK K
                    try simp only [Act.put, List.setIfInBounds_toArray, List.set_cons_zero, List.set_cons_succ]
                    refine wpAnyH_ready (rs := [10]) (by kernel_rfl) (by simp) (AllReadyH.cons opG10 (fun K hK => ?_) AllReadyH.nil)
                    refine step_append_cells rfl _ _ _ rfl w2.heap.size _ _ 1 16 Tryd.underlying22 info_strU rfl (by decide) _ _ _ rfl (hown9'.alloc _) w9.heap.size _ 1 1 9 (0, 0) rfl (heap_alloc_new w9 _) rfl (by simp [Value.oneCell']) (by omega) (by decide) (by simp; omega) ?_
                    intro A10 c10 w10 hc10 hm10 hown10 hb10 hg10
                    have hbz10 : Below w2.heap.size w2 w10 := (hbz9.alloc hq9 _).trans hb10
                    refine hK.out _ _ ?_ (fun hHeld => ?_)
                    · (try dsimp only); first | exact cell_on hbz10 hcB hb' | exact cell_on (Below.drew hbz10) hcB hb' | exact cell_on (Below.drew (Below.drew hbz10)) hcB hb' | exact cell_on (Below.drew (Below.drew (Below.drew hbz10))) hcB hb'
                    clear hK K
                    try simp only [Act.put, List.setIfInBounds_toArray, List.set_cons_zero, List.set_cons_succ]
                    refine wpAnyH_take (i := 11) (v := ?_) opG11 (by kernel_rfl) (by kernel_rfl) (by kernel_rfl) (fun _ _ _ h => h) (Or.inl ⟨by rfl, ?_⟩) (by assumption) ?_
                    rotate_left
                    · (intro w hSw; (try dsimp only at hSw); go_simp; (try with_reducible rfl))
                    try simp only [Act.put, List.setIfInBounds_toArray, List.set_cons_zero, List.set_cons_succ]
                    refine wpAnyH_done (by kernel_rfl) ?_ _
                    go_wp2
                    go_roundg (cs.length - (i + 1))
                    case measure => omega
                    case rel => exact pRel2 rfl hown10 HI.out (by omega) (by omega) hbz10 (by go_num)
                · go_simp
                  refine hK.out _ _ ?_ (fun hHeld => ?_)
                  · (try dsimp only); first | exact cell_on (HB7.alloc hl7 _) hcB hb' | exact cell_on (Below.drew (HB7.alloc hl7 _)) hcB hb' | exact cell_on (Below.drew (Below.drew (HB7.alloc hl7 _))) hcB hb' | exact cell_on (Below.drew (Below.drew (Below.drew (HB7.alloc hl7 _)))) hcB hb'
                  clear hK K
                  try simp only [Act.put, List.setIfInBounds_toArray, List.set_cons_zero, List.set_cons_succ]
                  refine wpAnyH_ready (rs := [0]) (by kernel_rfl) (by simp) (AllReadyH.cons opG0 (fun K hK => ?_) AllReadyH.nil)
                  go_simp
                  refine hK.out _ _ ?_ (fun hHeld => ?_)
                  · (try dsimp only); first | exact cell_on ((HB7.alloc hl7 _).alloc (by simp; omega) _) hcB hb' | exact cell_on (Below.drew ((HB7.alloc hl7 _).alloc (by simp; omega) _)) hcB hb' | exact cell_on (Below.drew (Below.drew ((HB7.alloc hl7 _).alloc (by simp; omega) _))) hcB hb' | exact cell_on (Below.drew (Below.drew (Below.drew ((HB7.alloc hl7 _).alloc (by simp; omega) _)))) hcB hb'
                  clear hK K
                  try simp only [Act.put, List.setIfInBounds_toArray, List.set_cons_zero, List.set_cons_succ]
                  refine wpAnyH_ready (rs := [2]) (by kernel_rfl) (by simp) (AllReadyH.cons opG2 (fun K hK => ?_) AllReadyH.nil)
                  refine step_append_pa rfl _ _ _ rfl w2.heap.size _ _ 1 16 Tryd.underlying22 info_strU rfl (by decide) (.slice (some ⟨w7.heap.size + 1, 0, none⟩) 0 0) 0 [] rfl (H2.out _) A' out.length c' (strs out) rfl (by rw [strs_len]; simp) HNN.out (rd_any ((hr7.alloc (Nat.le_refl _) _).alloc (by simp) _)) (strs_one _) (by omega) (by decide) (by simp; omega) ?_
                  intro A8 c8 w8 hc8 hm8 hown8 hb8 hg8
                  have hown9 := own_zero hown8
                  have hq8 : w7.heap.size + 1 ≤ w8.heap.size := Nat.le_trans (by simp) hg8.size
                  simp only [Nat.zero_add] at hc8 ⊢
                  have hbz : Below w2.heap.size w2 w8 := (((HB7.alloc hl7 _).alloc (by simp; omega) _).drew.drew).trans hb8
                  have hc8b := cell_on hbz hcB hb'
                  refine hK.out _ _ ?_ (fun hHeld => ?_)
                  · (try dsimp only); exact hc8b
                  clear hK K
                  try simp only [Act.put, List.setIfInBounds_toArray, List.set_cons_zero, List.set_cons_succ]
                  refine wpAnyH_ready (rs := [8]) (by kernel_rfl) (by simp) (AllReadyH.cons opG8 (fun K hK => ?_) AllReadyH.nil)
                  refine step_call2 rfl _ _ _ _ rfl (fun _ _ => rfl) (.int .i64 4) (.slice (some ⟨w7.heap.size, 0, none⟩) x.length _) rfl rfl _ (CE.out _ _ w8 (rd_row8 (byteRow_b4 w7 (.cells #[] 9) x) hg8 (fun e => by have e2 : some (w7.heap.size + 1) = some w7.heap.size := e; injection e2 with e2; omega))) ?_
                  rintro e w9 ⟨rfl, hb9⟩
                  refine ⟨_, rfl, ?_⟩
                  have hown9' := own_below (w := w8) hown9 hb9 (Nat.le_refl _)
                  have hbz9 : Below w2.heap.size w2 w9 := (hbz).trans (hb9.mono (by omega))
                  have hc9b := cell_on hbz9 hcB hb'
                  have hq9 := hbz9.size
                  refine hK.out _ _ ?_ (fun hHeld => ?_)
                  · (try dsimp only); exact hc9b
                  clear hK K
                  try simp only [Act.put, List.setIfInBounds_toArray, List.set_cons_zero, List.set_cons_succ]
                  refine wpAnyH_ready (rs := [9]) (by kernel_rfl) (by simp) (AllReadyH.cons opG9 (fun K hK => ?_) AllReadyH.nil)
                  go_simp
                  refine hK.out _ _ ?_ (fun hHeld => ?_)
                  · (try dsimp only); first | exact cell_on (hbz9.alloc hq9 _) hcB hb' | exact cell_on (Below.drew (hbz9.alloc hq9 _)) hcB hb' | exact cell_on (Below.drew (Below.drew (hbz9.alloc hq9 _))) hcB hb' | exact cell_on (Below.drew (Below.drew (Below.drew (hbz9.alloc hq9 _)))) hcB hb'
                  clear hK K
                  try simp only [Act.put, List.setIfInBounds_toArray, List.set_cons_zero, List.set_cons_succ]
                  refine wpAnyH_ready (rs := [10]) (by kernel_rfl) (by simp) (AllReadyH.cons opG10 (fun K hK => ?_) AllReadyH.nil)
                  refine step_append_cells rfl _ _ _ rfl w2.heap.size _ _ 1 16 Tryd.underlying22 info_strU rfl (by decide) _ _ _ rfl (hown9'.alloc _) w9.heap.size _ 1 1 9 (0, 0) rfl (heap_alloc_new w9 _) rfl (by simp [Value.oneCell']) (by omega) (by decide) (by simp; omega) ?_
                  intro A10 c10 w10 hc10 hm10 hown10 hb10 hg10
                  have hbz10 : Below w2.heap.size w2 w10 := (hbz9.alloc hq9 _).trans hb10
                  refine hK.out _ _ ?_ (fun hHeld => ?_)
                  · (try dsimp only); first | exact cell_on hbz10 hcB hb' | exact cell_on (Below.drew hbz10) hcB hb' | exact cell_on (Below.drew (Below.drew hbz10)) hcB hb' | exact cell_on (Below.drew (Below.drew (Below.drew hbz10))) hcB hb'
                  clear hK K
                  try simp only [Act.put, List.setIfInBounds_toArray, List.set_cons_zero, List.set_cons_succ]
                  refine wpAnyH_take (i := 11) (v := ?_) opG11 (by kernel_rfl) (by kernel_rfl) (by kernel_rfl) (fun _ _ _ h => h) (Or.inl ⟨by rfl, ?_⟩) (by assumption) ?_
                  rotate_left
                  · (intro w hSw; (try dsimp only at hSw); go_simp; (try with_reducible rfl))
                  try simp only [Act.put, List.setIfInBounds_toArray, List.set_cons_zero, List.set_cons_succ]
                  refine wpAnyH_done (by kernel_rfl) ?_ _
                  go_wp2
                  go_roundg (cs.length - (i + 1))
                  case measure => omega
                  case rel => exact pRel2 rfl hown10 HI.out (by omega) (by omega) hbz10 (by go_num)
          · obtain rfl : i = cs.length := by omega
            have HE := Lib.hid (show R = out by rw [HP.out, hinv.out, List.drop_length]; rfl)
            go_wp2
            go_ret
            refine ⟨_, rfl, ?_, hbw.trans (hbel.mono hq2)⟩
            rw [← HR.out, HE.out]
            exact own_base hown hq2
      · have h0I : (0 : Int) < (s.length : Int) := by omega
        clear h0
        have hst := str_atL (c := c3) (n := s.length) (l := slash false s) (hrow3.rd hz3) (slash_len false s).symm
        have C1 := Lib.hid (cut6_any (slash false s) 47 w3 (by rw [slash_len]; omega))
        have HP := Lib.hid (show pParse s false base = pGo base (cuts 47 (slash false s)) from rfl)
        have hcl := cuts_le 47 (slash false s)
        rw [slash_len] at hcl
        have HL := Lib.hid fun (x : List UInt8) (hx : x ∈ cuts 47 (slash false s)) => (show x.length ≤ 30000 by have := cuts_sum 47 (slash false s) x hx; rw [slash_len] at this; omega)
        obtain ⟨cs, hcse⟩ : ∃ cs, cs = cuts 47 (slash false s) := ⟨_, rfl⟩
        rw [← hcse] at C1 HP hcl HL
        obtain ⟨T, hT⟩ : ∃ T, T = slash false s := ⟨_, rfl⟩
        rw [← hT] at hst C1
        obtain ⟨R, hR⟩ : ∃ R, R = pParse s false base := ⟨_, rfl⟩
        rw [← hR] at HP
        have HR := Lib.hid hR
        have h47 : ((47 : UInt8).toNat : Int) = 47 := rfl
        have HBB := Lib.hid hb3
        clear hcse hT hR
        go_wp2_with (first
          | (go_at_call 47; go_must (go_fit C1.out); rintro e w2 ⟨v2, rfl, hown2, hb2⟩; obtain ⟨A2, c2, rfl, hc2, hm2, hr2⟩ := own_rdN hown2; have hbw := bnext HBB.out hb2; have hrb := hr.below hbw; have hq2 := hbw.size)
          | (at_builtin; refine wpList_append_rd rfl _ _ _ rfl w2.heap.size _ _ 16 Tryd.underlying22 info_strU rfl _ 0 [] rfl (own_lit0 w2) w.heap.size A base.length c (strs base) rfl (by rw [strs_len]) (hrb.alloc hbw.size _) (strs_one _) (by omega) (by decide) (by simp) ?_; intro A5 c5 w5 hc5 hm5 hown5 hb5 hg5; simp only [Nat.zero_add] at hc5))
        have hown5' := own_zero hown5
        have hb25 : Below w2.heap.size w2 w5 := ((Below.refl w2.heap.size w2).alloc (Nat.le_refl _) _).trans hb5
        clear hown5 hown2 hst
        go_loopg [10, 11] cs.length (fun k s10 s11 wr => ∃ (i : Nat) (out : List (List UInt8)) (A' : Option Addr) (c' : Nat), k = cs.length - i ∧ i ≤ cs.length ∧ s11 = .int .i64 (i : Int) ∧ s10 = .slice A' out.length c' ∧
          wr.ownsRow w2.heap.size 9 1 (.slice A' out.length c') out.length (strs out) ∧ out.length ≤ base.length + i ∧ Hid (pGo base cs = pGo out (cs.drop i)) ∧ Below w2.heap.size w2 wr)
        case atStart => exact ⟨0, base, A5, c5, rfl, Nat.zero_le _, rfl, by simp, hown5', Nat.le_refl _, rfl, hb25⟩
        case round =>
          clear hown5' hb25 hb5 hg5
          obtain ⟨i, out, A', c', rfl, hi, rfl, rfl, hown, hol, hinv, hbel⟩ := hrel
          have hq0 := hbel.size
          by_cases hlt : i < cs.length
          · obtain ⟨b, off, x, rfl, hb', hc2i, hx⟩ := hr2.str_at (k := i) hlt
            have hc := cell_on hbel hc2i hb'
            have hxl := HL.out x (List.mem_of_getElem? hx.out)
            have HI := Lib.hid (pGo_next hinv.out hx.out)
            have hlt1 : (i : Int) < (cs.length : Int) := by omega
            have hi0 : (0 : Int) ≤ (i : Int) := by omega
            have CD := Lib.hid (rdouble_any x wr (by omega))
            have hw1 : IntKind.i64.wrap ((cs.length : Int) - 1) = (cs.length : Int) - 1 := IntWalk.i64_in _ (by omega)
            have hw2 : IntKind.i64.wrap ((out.length : Int) - 1) = (out.length : Int) - 1 := IntWalk.i64_in _ (by omega)
            have hw3 : IntKind.i64.wrap ((i : Int) + 1) = (i : Int) + 1 := IntWalk.i64_in _ (by omega)
            obtain ⟨m, hm0⟩ : ∃ m : Nat, m = out.length - 1 := ⟨_, rfl⟩
            have hmx : max ((out.length : Int) - 1) 0 = (m : Int) := by omega
            have hmo : m ≤ out.length := by omega
            have hdl : (strs out).take m = strs out.dropLast := by rw [hm0]; unfold strs; rw [← List.map_take, dropLast_take]
            have hdn : out.dropLast.length = m := by rw [List.length_dropLast, hm0]
            clear hm0
            have hml : (m : Int) ≤ (out.length : Int) := by omega
            have hm00 : (0 : Int) ≤ (m : Int) := by omega
            obtain ⟨_, _, e0, hnc, hcm⟩ := own_shape hown
            injection e0 with e1 e2 e3; subst e1; subst e3
            clear e2
            have hmc : (m : Int) ≤ (c' : Int) := by omega
            have CS := Lib.hid fun w => rsingle_any x w (by omega)
            have CE := Lib.hid fun A c w h => percent_any 4 A c x w h (by omega)
            by_cases hD : pDouble x = true
            · have HO := Lib.hid (own_cut hown hmo)
              rw [hdl] at HO
              have hnx : pNext out x = out.dropLast := by unfold pNext; rw [if_pos hD]
              have hls : pLast out x = out.dropLast ++ [[]] := by unfold pLast; rw [if_pos hD]
              rw [hD] at CD
              rw [hnx, hls] at HI
              have HDN := Lib.hid hdn
              clear hD hx hdl hnx hls hdn hown
              by_cases hl : i + 1 = cs.length
              · have hlst : ((i : Int) == (cs.length : Int) - 1) = true := by rw [beq_iff_eq]; omega
                have HI2 := Lib.hid (show pGo base cs = pGo (out.dropLast ++ [[]]) (cs.drop (i + 1)) by rw [HI.out, if_pos hl])
                clear HI
                go_wp2_with (first
                  | (go_at_call 22; go_must (go_fit CD.out); rintro e w6 ⟨rfl, hb6⟩; have HO3 := own_below HO.out hb6 (Nat.le_refl _); obtain ⟨A7, c7, e7, hc7, hm7, hr7⟩ := own_rdN HO3; injection e7 with e7 _ e8; subst e7; subst e8; have hq6 := hb6.size)
                  | (at_builtin; refine wpList_append_rd rfl _ _ _ rfl w2.heap.size _ _ 16 Tryd.underlying22 info_strU rfl _ 0 [] rfl (own_lit0B w6 (by omega)) w6.heap.size A' m c' (strs out.dropLast) rfl (by rw [strs_len, HDN.out]) (hr7.alloc (Nat.le_refl _) _) (strs_one _) (by omega) (by decide) (by simp; omega) ?_; intro A8 c8 w8 hc8 hm8 hown8 hb8 hg8; have hown9 := own_zero hown8; have hq8 := hg8.size; simp only [Nat.zero_add] at hc8)
                  | (at_builtin; refine wpList_append_lit rfl _ _ _ rfl w2.heap.size _ _ 1 16 Tryd.underlying22 info_strU rfl (by decide) _ _ _ rfl hown9 _ 1 1 _ rfl rfl (by simp [Value.oneCell']) (by omega) (by decide) (by simp at hq8; omega) ?_; intro A10 c10 w10 hc10 hm10 hown10 hb10 hg10))
                go_roundg (cs.length - (i + 1))
                case measure => omega
                case rel => exact pRel2 HDN.out hown10 HI2.out (by omega) (by omega) ((((hbel.trans (hb6.mono hq0)).alloc (by omega) _).trans hb8).trans hb10) (by go_num)
              · have hlst : ((i : Int) == (cs.length : Int) - 1) = false := by rw [beq_eq_false_iff_ne]; omega
                have HI2 := Lib.hid (show pGo base cs = pGo out.dropLast (cs.drop (i + 1)) by rw [HI.out, if_neg hl])
                clear HI
                go_wp2_with (go_at_call 22; go_must (go_fit CD.out); rintro e w6 ⟨rfl, hb6⟩; have HO3 := own_below HO.out hb6 (Nat.le_refl _))
                go_roundg (cs.length - (i + 1))
                case measure => omega
                case rel => exact ⟨i + 1, out.dropLast, A', c', rfl, by omega, by go_num, by rw [HDN.out], by rw [HDN.out]; exact HO3, by rw [HDN.out]; omega, HI2.out, hbel.trans (hb6.mono hq0)⟩
            · have hD' : pDouble x = false := by simpa using hD
              rw [hD'] at CD
              by_cases hS : pSingle x = true
              · have hnx : pNext out x = out := by unfold pNext; rw [if_neg hD, if_pos hS]
                have hls : pLast out x = out ++ [[]] := by unfold pLast; rw [if_neg hD, if_pos hS]
                rw [hS] at CS
                rw [hnx, hls] at HI
                have HO := Lib.hid hown
                clear hD hD' hS hx hdl hdn hnx hls hown
                by_cases hl : i + 1 = cs.length
                · have hlst : ((i : Int) == (cs.length : Int) - 1) = true := by rw [beq_iff_eq]; omega
                  have HI2 := Lib.hid (show pGo base cs = pGo (out ++ [[]]) (cs.drop (i + 1)) by rw [HI.out, if_pos hl])
                  clear HI
                  go_wp2_with (first
                    | (go_at_call 22; go_must (go_fit CD.out); rintro e w6 ⟨rfl, hb6⟩; have hc6 := cell_on hb6 hc (by omega))
                    | (go_at_call 20; go_must (go_fit (CS.out w6)); rintro e w7 ⟨rfl, hb7⟩; have hb67 := bnext hb6 hb7; have HO3 := own_below HO.out hb67 (Nat.le_refl _); obtain ⟨A7, c7, e7, hc7, hm7, hr7⟩ := own_rdN HO3; injection e7 with e7 _ e8; subst e7; subst e8; have hq6 := hb67.size)
                    | (at_builtin; refine wpList_append_rd rfl _ _ _ rfl w2.heap.size _ _ 16 Tryd.underlying22 info_strU rfl _ 0 [] rfl (own_lit0B w7 (by omega)) w7.heap.size A' out.length c' (strs out) rfl (by rw [strs_len]) (hr7.alloc (Nat.le_refl _) _) (strs_one _) (by omega) (by decide) (by simp; omega) ?_; intro A8 c8 w8 hc8 hm8 hown8 hb8 hg8; have hown9 := own_zero hown8; have hq8 := hg8.size; simp only [Nat.zero_add] at hc8)
                    | (at_builtin; refine wpList_append_lit rfl _ _ _ rfl w2.heap.size _ _ 1 16 Tryd.underlying22 info_strU rfl (by decide) _ _ _ rfl hown9 _ 1 1 _ rfl rfl (by simp [Value.oneCell']) (by omega) (by decide) (by simp at hq8; omega) ?_; intro A10 c10 w10 hc10 hm10 hown10 hb10 hg10))
                  go_roundg (cs.length - (i + 1))
                  case measure => omega
                  case rel => exact pRel2 rfl hown10 HI2.out (by omega) (by omega) ((((hbel.trans (hb67.mono hq0)).alloc (by omega) _).trans hb8).trans hb10) (by go_num)
                · have hlst : ((i : Int) == (cs.length : Int) - 1) = false := by rw [beq_eq_false_iff_ne]; omega
                  have HI2 := Lib.hid (show pGo base cs = pGo out (cs.drop (i + 1)) by rw [HI.out, if_neg hl])
                  clear HI
                  go_wp2_with (first
                    | (go_at_call 22; go_must (go_fit CD.out); rintro e w6 ⟨rfl, hb6⟩; have hc6 := cell_on hb6 hc (by omega))
                    | (go_at_call 20; go_must (go_fit (CS.out w6)); rintro e w7 ⟨rfl, hb7⟩; have hb67 := bnext hb6 hb7; have HO3 := own_below HO.out hb67 (Nat.le_refl _)))
                  go_roundg (cs.length - (i + 1))
                  case measure => omega
                  case rel => exact ⟨i + 1, out, A', c', rfl, by omega, by go_num, rfl, HO3, by omega, HI2.out, hbel.trans (hb67.mono hq0)⟩
              · have hS' : pSingle x = false := by simpa using hS
                have hnx : pNext out x = out ++ [pEnc 4 x] := by unfold pNext; rw [if_neg hD, if_neg hS]
                have hls : pLast out x = out ++ [pEnc 4 x] := by unfold pLast; rw [if_neg hD, if_neg hS]
                rw [hS'] at CS
                rw [hnx, hls, ite_self] at HI
                have HO := Lib.hid hown
                clear hD hD' hS hS' hx hdl hdn hnx hls hown
                obtain ⟨bl, hbl⟩ : ∃ bl : Bool, ((i : Int) == (cs.length : Int) - 1) = bl := ⟨_, rfl⟩
                go_wp2_with (first
                  | (go_at_call 22; go_must (go_fit CD.out); rintro e w6 ⟨rfl, hb6⟩; have hc6 := cell_on hb6 hc (by omega))
                  | (go_at_call 20; go_must (go_fit (CS.out w6)); rintro e w7 ⟨rfl, hb7⟩; have hb67 := bnext hb6 hb7; have HO3 := own_below HO.out hb67 (Nat.le_refl _); obtain ⟨A7, c7, e7, hc7, hm7, hr7⟩ := own_rdN HO3; injection e7 with e7 _ e8; subst e7; subst e8; have hq6 := hb67.size; have hc7' := cell_on hb7 hc6 (by have := hb6.size; omega)))
                have hkb := fun w => bytes_at w x
                have HNN := Lib.hid (own_none HO3)
                have H1 := Lib.hid (own_lit0B w7 (B := w2.heap.size) (by omega))
                have H2 := Lib.hid fun o => (show ((w7.alloc o).alloc (.cells #[] 9)).ownsRow w2.heap.size 9 1 (.slice (some ⟨w7.heap.size + 1, 0, none⟩) 0 0) 0 [] by
                  have h := own_lit0B (w7.alloc o) (B := w2.heap.size) (by simp; omega)
                  simpa using h)
                have H3 := Lib.hid fun o => (own_lit0B w7 (B := w2.heap.size) (by omega)).alloc o
                have HB7 := hbel.trans (hb67.mono hq0)
                have hl7 : w2.heap.size ≤ w7.heap.size := by omega
                have hcB := hc2i
                refine wp_region_held_drew (S := fun w' => w'.cell? ⟨b, off + i, none⟩ = some (.string (str x))) (by kernel_rfl) hc7' (fun hHeld => ?_)
                refine wpAnyH_take (i := 1) (v := ?_) opG1 (by kernel_rfl) (by kernel_rfl) (by kernel_rfl) (fun _ _ _ h => h) (Or.inl ⟨by rfl, ?_⟩) (by assumption) ?_
                rotate_left
                · (intro w hSw; (try dsimp only at hSw); go_simp; (try with_reducible rfl))
                try simp only [Act.put, List.setIfInBounds_toArray, List.set_cons_zero, List.set_cons_succ]
                refine wpAnyH_take (i := 3) (v := ?_) opG3 (by kernel_rfl) (by kernel_rfl) (by kernel_rfl) (fun _ _ _ h => h) (Or.inl ⟨by rfl, ?_⟩) (by assumption) ?_
                rotate_left
                · (intro w hSw; (try dsimp only at hSw); go_simp; (try with_reducible rfl))
                try simp only [Act.put, List.setIfInBounds_toArray, List.set_cons_zero, List.set_cons_succ]
                refine wpAnyH_take (i := 4) (v := ?_) opG4 (by kernel_rfl) (by kernel_rfl) (by kernel_rfl) (fun _ _ _ h => h) (Or.inl ⟨by rfl, ?_⟩) (by assumption) ?_
                rotate_left
                · (intro w hSw; (try dsimp only at hSw); go_simp; (try with_reducible rfl))
                try simp only [Act.put, List.setIfInBounds_toArray, List.set_cons_zero, List.set_cons_succ]
                refine wpAnyH_take (i := 5) (v := ?_) opG5 (by kernel_rfl) (by kernel_rfl) (by kernel_rfl) (fun _ _ _ h => h) (Or.inl ⟨by rfl, ?_⟩) (by assumption) ?_
                rotate_left
                · (intro w hSw; (try dsimp only at hSw); go_simp; (try with_reducible rfl))
                try simp only [Act.put, List.setIfInBounds_toArray, List.set_cons_zero, List.set_cons_succ]
                refine wpAnyH_take (i := 6) (v := ?_) opG6 (by kernel_rfl) (by kernel_rfl) (by kernel_rfl) (fun _ _ _ h => h) (Or.inl ⟨by rfl, ?_⟩) (by assumption) ?_
                rotate_left
                · (intro w hSw; (try dsimp only at hSw); go_simp; (try with_reducible rfl))
                try simp only [Act.put, List.setIfInBounds_toArray, List.set_cons_zero, List.set_cons_succ]
                refine wpAnyH_ready (rs := [0, 7]) (by kernel_rfl) (by simp) (AllReadyH.cons opG0 (fun K hK => ?_) (AllReadyH.cons opG7 (fun K hK => ?_) AllReadyH.nil))
                · go_simp
                  refine hK.out _ _ ?_ (fun hHeld => ?_)
                  · (try dsimp only); first | exact cell_on (HB7.alloc hl7 _) hcB hb' | exact cell_on (Below.drew (HB7.alloc hl7 _)) hcB hb' | exact cell_on (Below.drew (Below.drew (HB7.alloc hl7 _))) hcB hb' | exact cell_on (Below.drew (Below.drew (Below.drew (HB7.alloc hl7 _)))) hcB hb'
                  clear hK K
                  try simp only [Act.put, List.setIfInBounds_toArray, List.set_cons_zero, List.set_cons_succ]
                  refine wpAnyH_ready (rs := [2, 7]) (by kernel_rfl) (by simp) (AllReadyH.cons opG2 (fun K hK => ?_) (AllReadyH.cons opG7 (fun K hK => ?_) AllReadyH.nil))
                  · refine step_append_pa rfl _ _ _ rfl w2.heap.size _ _ 1 16 Tryd.underlying22 info_strU rfl (by decide) (.slice (some ⟨w7.heap.size, 0, none⟩) 0 0) 0 [] rfl H1.out A' out.length c' (strs out) rfl (by rw [strs_len]; simp) HNN.out (rd_any (hr7.alloc (Nat.le_refl _) _)) (strs_one _) (by omega) (by decide) (by simp; omega) ?_
                    intro A8 c8 w8 hc8 hm8 hown8 hb8 hg8
                    have hown9 := own_zero hown8
                    have hq8 : w7.heap.size + 1 ≤ w8.heap.size := Nat.le_trans (by simp) hg8.size
                    simp only [Nat.zero_add] at hc8 ⊢
                    have hbz : Below w2.heap.size w2 w8 := ((HB7.alloc hl7 _).drew).trans hb8
                    have hc8b := cell_on hbz hcB hb'
                    refine hK.out _ _ ?_ (fun hHeld => ?_)
                    · (try dsimp only); exact hc8b
                    clear hK K
                    try simp only [Act.put, List.setIfInBounds_toArray, List.set_cons_zero, List.set_cons_succ]
                    refine wpAnyH_ready (rs := [7]) (by kernel_rfl) (by simp) (AllReadyH.cons opG7 (fun K hK => ?_) AllReadyH.nil)
                    go_simp
                    refine hK.out _ _ ?_ (fun hHeld => ?_)
                    · (try dsimp only); first | exact cell_on (hbz.alloc (by omega) _) hcB hb' | exact cell_on (Below.drew (hbz.alloc (by omega) _)) hcB hb' | exact cell_on (Below.drew (Below.drew (hbz.alloc (by omega) _))) hcB hb' | exact cell_on (Below.drew (Below.drew (Below.drew (hbz.alloc (by omega) _)))) hcB hb'
                    clear hK K
                    try simp only [Act.put, List.setIfInBounds_toArray, List.set_cons_zero, List.set_cons_succ]
                    refine wpAnyH_ready (rs := [8]) (by kernel_rfl) (by simp) (AllReadyH.cons opG8 (fun K hK => ?_) AllReadyH.nil)
                    refine step_call2 rfl _ _ _ _ rfl (fun _ _ => rfl) (.int .i64 4) (.slice (some ⟨w8.heap.size, 0, none⟩) x.length _) rfl rfl _ (CE.out _ _ (w8.alloc (byteRow w8 x 5)).drew (byteRow_on w8 x)) ?_
                    rintro e w9 ⟨rfl, hb9⟩
                    refine ⟨_, rfl, ?_⟩
                    have hown9' := own_below (w := (w8.alloc (byteRow w8 x 5)).drew) (hown9.alloc (byteRow w8 x 5)) hb9 (Nat.le_refl _)
                    have hbz9 : Below w2.heap.size w2 w9 := ((hbz.alloc (by omega) (byteRow w8 x 5)).drew).trans (hb9.mono (by simp; omega))
                    have hc9b := cell_on hbz9 hcB hb'
                    have hq9 := hbz9.size
                    refine hK.out _ _ ?_ (fun hHeld => ?_)
                    · (try dsimp only); exact hc9b
                    clear hK K
                    try simp only [Act.put, List.setIfInBounds_toArray, List.set_cons_zero, List.set_cons_succ]
                    refine wpAnyH_ready (rs := [9]) (by kernel_rfl) (by simp) (AllReadyH.cons opG9 (fun K hK => ?_) AllReadyH.nil)
                    go_simp
                    refine hK.out _ _ ?_ (fun hHeld => ?_)
                    · (try dsimp only); first | exact cell_on (hbz9.alloc hq9 _) hcB hb' | exact cell_on (Below.drew (hbz9.alloc hq9 _)) hcB hb' | exact cell_on (Below.drew (Below.drew (hbz9.alloc hq9 _))) hcB hb' | exact cell_on (Below.drew (Below.drew (Below.drew (hbz9.alloc hq9 _)))) hcB hb'
                    clear hK K
                    try simp only [Act.put, List.setIfInBounds_toArray, List.set_cons_zero, List.set_cons_succ]
                    refine wpAnyH_ready (rs := [10]) (by kernel_rfl) (by simp) (AllReadyH.cons opG10 (fun K hK => ?_) AllReadyH.nil)
                    refine step_append_cells rfl _ _ _ rfl w2.heap.size _ _ 1 16 Tryd.underlying22 info_strU rfl (by decide) _ _ _ rfl (hown9'.alloc _) w9.heap.size _ 1 1 9 (0, 0) rfl (heap_alloc_new w9 _) rfl (by simp [Value.oneCell']) (by omega) (by decide) (by simp; omega) ?_
                    intro A10 c10 w10 hc10 hm10 hown10 hb10 hg10
                    have hbz10 : Below w2.heap.size w2 w10 := (hbz9.alloc hq9 _).trans hb10
                    refine hK.out _ _ ?_ (fun hHeld => ?_)
                    · (try dsimp only); first | exact cell_on hbz10 hcB hb' | exact cell_on (Below.drew hbz10) hcB hb' | exact cell_on (Below.drew (Below.drew hbz10)) hcB hb' | exact cell_on (Below.drew (Below.drew (Below.drew hbz10))) hcB hb'
                    clear hK K
                    try simp only [Act.put, List.setIfInBounds_toArray, List.set_cons_zero, List.set_cons_succ]
                    refine wpAnyH_take (i := 11) (v := ?_) opG11 (by kernel_rfl) (by kernel_rfl) (by kernel_rfl) (fun _ _ _ h => h) (Or.inl ⟨by rfl, ?_⟩) (by assumption) ?_
                    rotate_left
                    · (intro w hSw; (try dsimp only at hSw); go_simp; (try with_reducible rfl))
                    try simp only [Act.put, List.setIfInBounds_toArray, List.set_cons_zero, List.set_cons_succ]
                    refine wpAnyH_done (by kernel_rfl) ?_ _
                    go_wp2
                    go_roundg (cs.length - (i + 1))
                    case measure => omega
                    case rel => exact pRel2 rfl hown10 HI.out (by omega) (by omega) hbz10 (by go_num)
                  · go_simp
                    refine hK.out _ _ ?_ (fun hHeld => ?_)
                    · (try dsimp only); first | exact cell_on ((HB7.alloc hl7 _).alloc (by simp; omega) _) hcB hb' | exact cell_on (Below.drew ((HB7.alloc hl7 _).alloc (by simp; omega) _)) hcB hb' | exact cell_on (Below.drew (Below.drew ((HB7.alloc hl7 _).alloc (by simp; omega) _))) hcB hb' | exact cell_on (Below.drew (Below.drew (Below.drew ((HB7.alloc hl7 _).alloc (by simp; omega) _)))) hcB hb'
                    clear hK K
                    try simp only [Act.put, List.setIfInBounds_toArray, List.set_cons_zero, List.set_cons_succ]
                    refine wpAnyH_ready (rs := [2]) (by kernel_rfl) (by simp) (AllReadyH.cons opG2 (fun K hK => ?_) AllReadyH.nil)
                    refine step_append_pa rfl _ _ _ rfl w2.heap.size _ _ 1 16 Tryd.underlying22 info_strU rfl (by decide) (.slice (some ⟨w7.heap.size, 0, none⟩) 0 0) 0 [] rfl (H3.out _) A' out.length c' (strs out) rfl (by rw [strs_len]; simp) HNN.out (rd_any ((hr7.alloc (Nat.le_refl _) _).alloc (by simp) _)) (strs_one _) (by omega) (by decide) (by simp; omega) ?_
                    intro A8 c8 w8 hc8 hm8 hown8 hb8 hg8
                    have hown9 := own_zero hown8
                    have hq8 : w7.heap.size + 1 ≤ w8.heap.size := Nat.le_trans (by simp) hg8.size
                    simp only [Nat.zero_add] at hc8 ⊢
                    have hbz : Below w2.heap.size w2 w8 := (((HB7.alloc hl7 _).alloc (by simp; omega) _).drew.drew).trans hb8
                    have hc8b := cell_on hbz hcB hb'
                    refine hK.out _ _ ?_ (fun hHeld => ?_)
                    · (try dsimp only); exact hc8b
                    clear hK K
                    try simp only [Act.put, List.setIfInBounds_toArray, List.set_cons_zero, List.set_cons_succ]
                    refine wpAnyH_ready (rs := [8]) (by kernel_rfl) (by simp) (AllReadyH.cons opG8 (fun K hK => ?_) AllReadyH.nil)
                    refine step_call2 rfl _ _ _ _ rfl (fun _ _ => rfl) (.int .i64 4) (.slice (some ⟨w7.heap.size + 1, 0, none⟩) x.length _) rfl rfl _ (CE.out _ _ w8 (rd_row8 (byteRow_at w7 (.cells #[] 9) x) hg8 (fun e => by have e2 : some w7.heap.size = some (w7.heap.size + 1) := e; injection e2 with e2; omega))) ?_
                    rintro e w9 ⟨rfl, hb9⟩
                    refine ⟨_, rfl, ?_⟩
                    have hown9' := own_below (w := w8) hown9 hb9 (Nat.le_refl _)
                    have hbz9 : Below w2.heap.size w2 w9 := (hbz).trans (hb9.mono (by omega))
                    have hc9b := cell_on hbz9 hcB hb'
                    have hq9 := hbz9.size
                    refine hK.out _ _ ?_ (fun hHeld => ?_)
                    · (try dsimp only); exact hc9b
                    clear hK K
                    try simp only [Act.put, List.setIfInBounds_toArray, List.set_cons_zero, List.set_cons_succ]
                    refine wpAnyH_ready (rs := [9]) (by kernel_rfl) (by simp) (AllReadyH.cons opG9 (fun K hK => ?_) AllReadyH.nil)
                    go_simp
                    refine hK.out _ _ ?_ (fun hHeld => ?_)
                    · (try dsimp only); first | exact cell_on (hbz9.alloc hq9 _) hcB hb' | exact cell_on (Below.drew (hbz9.alloc hq9 _)) hcB hb' | exact cell_on (Below.drew (Below.drew (hbz9.alloc hq9 _))) hcB hb' | exact cell_on (Below.drew (Below.drew (Below.drew (hbz9.alloc hq9 _)))) hcB hb'
                    clear hK K
                    try simp only [Act.put, List.setIfInBounds_toArray, List.set_cons_zero, List.set_cons_succ]
                    refine wpAnyH_ready (rs := [10]) (by kernel_rfl) (by simp) (AllReadyH.cons opG10 (fun K hK => ?_) AllReadyH.nil)
                    refine step_append_cells rfl _ _ _ rfl w2.heap.size _ _ 1 16 Tryd.underlying22 info_strU rfl (by decide) _ _ _ rfl (hown9'.alloc _) w9.heap.size _ 1 1 9 (0, 0) rfl (heap_alloc_new w9 _) rfl (by simp [Value.oneCell']) (by omega) (by decide) (by simp; omega) ?_
                    intro A10 c10 w10 hc10 hm10 hown10 hb10 hg10
                    have hbz10 : Below w2.heap.size w2 w10 := (hbz9.alloc hq9 _).trans hb10
                    refine hK.out _ _ ?_ (fun hHeld => ?_)
                    · (try dsimp only); first | exact cell_on hbz10 hcB hb' | exact cell_on (Below.drew hbz10) hcB hb' | exact cell_on (Below.drew (Below.drew hbz10)) hcB hb' | exact cell_on (Below.drew (Below.drew (Below.drew hbz10))) hcB hb'
                    clear hK K
                    try simp only [Act.put, List.setIfInBounds_toArray, List.set_cons_zero, List.set_cons_succ]
                    refine wpAnyH_take (i := 11) (v := ?_) opG11 (by kernel_rfl) (by kernel_rfl) (by kernel_rfl) (fun _ _ _ h => h) (Or.inl ⟨by rfl, ?_⟩) (by assumption) ?_
                    rotate_left
                    · (intro w hSw; (try dsimp only at hSw); go_simp; (try with_reducible rfl))
                    try simp only [Act.put, List.setIfInBounds_toArray, List.set_cons_zero, List.set_cons_succ]
                    refine wpAnyH_done (by kernel_rfl) ?_ _
                    go_wp2
                    go_roundg (cs.length - (i + 1))
                    case measure => omega
                    case rel => exact pRel2 rfl hown10 HI.out (by omega) (by omega) hbz10 (by go_num)
                · go_simp
                  refine hK.out _ _ ?_ (fun hHeld => ?_)
                  · (try dsimp only); first | exact cell_on (HB7.alloc hl7 _) hcB hb' | exact cell_on (Below.drew (HB7.alloc hl7 _)) hcB hb' | exact cell_on (Below.drew (Below.drew (HB7.alloc hl7 _))) hcB hb' | exact cell_on (Below.drew (Below.drew (Below.drew (HB7.alloc hl7 _)))) hcB hb'
                  clear hK K
                  try simp only [Act.put, List.setIfInBounds_toArray, List.set_cons_zero, List.set_cons_succ]
                  refine wpAnyH_ready (rs := [0]) (by kernel_rfl) (by simp) (AllReadyH.cons opG0 (fun K hK => ?_) AllReadyH.nil)
                  go_simp
                  refine hK.out _ _ ?_ (fun hHeld => ?_)
                  · (try dsimp only); first | exact cell_on ((HB7.alloc hl7 _).alloc (by simp; omega) _) hcB hb' | exact cell_on (Below.drew ((HB7.alloc hl7 _).alloc (by simp; omega) _)) hcB hb' | exact cell_on (Below.drew (Below.drew ((HB7.alloc hl7 _).alloc (by simp; omega) _))) hcB hb' | exact cell_on (Below.drew (Below.drew (Below.drew ((HB7.alloc hl7 _).alloc (by simp; omega) _)))) hcB hb'
                  clear hK K
                  try simp only [Act.put, List.setIfInBounds_toArray, List.set_cons_zero, List.set_cons_succ]
                  refine wpAnyH_ready (rs := [2]) (by kernel_rfl) (by simp) (AllReadyH.cons opG2 (fun K hK => ?_) AllReadyH.nil)
                  refine step_append_pa rfl _ _ _ rfl w2.heap.size _ _ 1 16 Tryd.underlying22 info_strU rfl (by decide) (.slice (some ⟨w7.heap.size + 1, 0, none⟩) 0 0) 0 [] rfl (H2.out _) A' out.length c' (strs out) rfl (by rw [strs_len]; simp) HNN.out (rd_any ((hr7.alloc (Nat.le_refl _) _).alloc (by simp) _)) (strs_one _) (by omega) (by decide) (by simp; omega) ?_
                  intro A8 c8 w8 hc8 hm8 hown8 hb8 hg8
                  have hown9 := own_zero hown8
                  have hq8 : w7.heap.size + 1 ≤ w8.heap.size := Nat.le_trans (by simp) hg8.size
                  simp only [Nat.zero_add] at hc8 ⊢
                  have hbz : Below w2.heap.size w2 w8 := (((HB7.alloc hl7 _).alloc (by simp; omega) _).drew.drew).trans hb8
                  have hc8b := cell_on hbz hcB hb'
                  refine hK.out _ _ ?_ (fun hHeld => ?_)
                  · (try dsimp only); exact hc8b
                  clear hK K
                  try simp only [Act.put, List.setIfInBounds_toArray, List.set_cons_zero, List.set_cons_succ]
                  refine wpAnyH_ready (rs := [8]) (by kernel_rfl) (by simp) (AllReadyH.cons opG8 (fun K hK => ?_) AllReadyH.nil)
                  refine step_call2 rfl _ _ _ _ rfl (fun _ _ => rfl) (.int .i64 4) (.slice (some ⟨w7.heap.size, 0, none⟩) x.length _) rfl rfl _ (CE.out _ _ w8 (rd_row8 (byteRow_b4 w7 (.cells #[] 9) x) hg8 (fun e => by have e2 : some (w7.heap.size + 1) = some w7.heap.size := e; injection e2 with e2; omega))) ?_
                  rintro e w9 ⟨rfl, hb9⟩
                  refine ⟨_, rfl, ?_⟩
                  have hown9' := own_below (w := w8) hown9 hb9 (Nat.le_refl _)
                  have hbz9 : Below w2.heap.size w2 w9 := (hbz).trans (hb9.mono (by omega))
                  have hc9b := cell_on hbz9 hcB hb'
                  have hq9 := hbz9.size
                  refine hK.out _ _ ?_ (fun hHeld => ?_)
                  · (try dsimp only); exact hc9b
                  clear hK K
                  try simp only [Act.put, List.setIfInBounds_toArray, List.set_cons_zero, List.set_cons_succ]
                  refine wpAnyH_ready (rs := [9]) (by kernel_rfl) (by simp) (AllReadyH.cons opG9 (fun K hK => ?_) AllReadyH.nil)
                  go_simp
                  refine hK.out _ _ ?_ (fun hHeld => ?_)
                  · (try dsimp only); first | exact cell_on (hbz9.alloc hq9 _) hcB hb' | exact cell_on (Below.drew (hbz9.alloc hq9 _)) hcB hb' | exact cell_on (Below.drew (Below.drew (hbz9.alloc hq9 _))) hcB hb' | exact cell_on (Below.drew (Below.drew (Below.drew (hbz9.alloc hq9 _)))) hcB hb'
                  clear hK K
                  try simp only [Act.put, List.setIfInBounds_toArray, List.set_cons_zero, List.set_cons_succ]
                  refine wpAnyH_ready (rs := [10]) (by kernel_rfl) (by simp) (AllReadyH.cons opG10 (fun K hK => ?_) AllReadyH.nil)
                  refine step_append_cells rfl _ _ _ rfl w2.heap.size _ _ 1 16 Tryd.underlying22 info_strU rfl (by decide) _ _ _ rfl (hown9'.alloc _) w9.heap.size _ 1 1 9 (0, 0) rfl (heap_alloc_new w9 _) rfl (by simp [Value.oneCell']) (by omega) (by decide) (by simp; omega) ?_
                  intro A10 c10 w10 hc10 hm10 hown10 hb10 hg10
                  have hbz10 : Below w2.heap.size w2 w10 := (hbz9.alloc hq9 _).trans hb10
                  refine hK.out _ _ ?_ (fun hHeld => ?_)
                  · (try dsimp only); first | exact cell_on hbz10 hcB hb' | exact cell_on (Below.drew hbz10) hcB hb' | exact cell_on (Below.drew (Below.drew hbz10)) hcB hb' | exact cell_on (Below.drew (Below.drew (Below.drew hbz10))) hcB hb'
                  clear hK K
                  try simp only [Act.put, List.setIfInBounds_toArray, List.set_cons_zero, List.set_cons_succ]
                  refine wpAnyH_take (i := 11) (v := ?_) opG11 (by kernel_rfl) (by kernel_rfl) (by kernel_rfl) (fun _ _ _ h => h) (Or.inl ⟨by rfl, ?_⟩) (by assumption) ?_
                  rotate_left
                  · (intro w hSw; (try dsimp only at hSw); go_simp; (try with_reducible rfl))
                  try simp only [Act.put, List.setIfInBounds_toArray, List.set_cons_zero, List.set_cons_succ]
                  refine wpAnyH_done (by kernel_rfl) ?_ _
                  go_wp2
                  go_roundg (cs.length - (i + 1))
                  case measure => omega
                  case rel => exact pRel2 rfl hown10 HI.out (by omega) (by omega) hbz10 (by go_num)
          · obtain rfl : i = cs.length := by omega
            have HE := Lib.hid (show R = out by rw [HP.out, hinv.out, List.drop_length]; rfl)
            go_wp2
            go_ret
            refine ⟨_, rfl, ?_, hbw.trans (hbel.mono hq2)⟩
            rw [← HR.out, HE.out]
            exact own_base hown hq2
  | true =>
    go_enter Tryd.func24, Tryd.ntmps24
    go_wp2_with (refine wpList_bytesL rfl _ _ _ _ rfl Tryd.underlying9 Tryd.underlying42 Tryd.underlying5 s rfl (by omega) ?_; intro c3 w3 hc3 hm3 hrow3 hr3 hb3 hz3)
    go_loopg [8] s.length (fun k s8 wr => ∃ j : Nat, k = s.length - j ∧ j ≤ s.length ∧ s8 = .int .i64 (j : Int) ∧ Row wr w.heap.size (bytes (upd slB s j)) ∧ Below w.heap.size w wr ∧ w.heap.size < wr.heap.size)
    case atStart => exact ⟨0, rfl, Nat.zero_le _, rfl, hrow3, hb3, hz3⟩
    case round =>
      clear hrow3 hr3 hb3 hz3
      obtain ⟨j, rfl, hj, rfl, hrow, hbel, hz⟩ := hrel
      by_cases hlt : j < s.length
      · have hlt1 : (j : Int) < (s.length : Int) := by omega
        have hj0 : (0 : Int) ≤ (j : Int) := by omega
        have hc := hrow.1 j _ (upd_at slB hlt)
        have hf := hrow.2.1 j (by rw [bytes_len, upd_len _ _ hj]; exact hlt)
        by_cases h1 : gb s j = 92
        · have hB1 : (((gb s j).toNat : Int) == 92) = true := by rw [h1]; rfl
          have HS := Lib.hid (Row.set hrow (j := j) (by rw [bytes_len, upd_len _ _ hj]; exact hlt) (.int .u8 ((slB (gb s j)).toNat : Int)))
          rw [upd_set slB hlt, show ((slB (gb s j)).toNat : Int) = 47 by rw [h1]; rfl] at HS
          clear h1
          go_wp2
          go_roundg (s.length - (j + 1))
          case measure => omega
          case rel => exact ⟨j + 1, rfl, by omega, by go_num, HS.out, Below.setCell hbel (p := ⟨w.heap.size, j, none⟩) (Nat.le_refl _) _, by simpa using hz⟩
        · have hB1 : (((gb s j).toNat : Int) == 92) = false := by rw [beq_eq_false_iff_ne]; exact fun e => h1 (byte_ext (by show _ = 92; omega))
          have HS := Lib.hid (upd_same slB hlt (show slB (gb s j) = gb s j from if_neg h1))
          clear h1
          go_wp2
          go_roundg (s.length - (j + 1))
          case measure => omega
          case rel => exact ⟨j + 1, rfl, by omega, by go_num, by rw [HS.out]; exact hrow, hbel, hz⟩
      · obtain rfl : j = s.length := by omega
        rw [upd_end] at hrow
        have hst := str_atL (c := c3) (n := s.length) (l := slash true s) ((show Row wr w.heap.size (bytes (slash true s)) from hrow).rd hz) (slash_len true s).symm
        have C1 := Lib.hid (cut6_any (slash true s) 47 wr (by rw [slash_len]; omega))
        have HP := Lib.hid (show pParse s true base = pGo base (cuts 47 (slash true s)) from rfl)
        have hcl := cuts_le 47 (slash true s)
        rw [slash_len] at hcl
        have HL := Lib.hid fun (x : List UInt8) (hx : x ∈ cuts 47 (slash true s)) => (show x.length ≤ 30000 by have := cuts_sum 47 (slash true s) x hx; rw [slash_len] at this; omega)
        obtain ⟨cs, hcse⟩ : ∃ cs, cs = cuts 47 (slash true s) := ⟨_, rfl⟩
        rw [← hcse] at C1 HP hcl HL
        obtain ⟨T, hT⟩ : ∃ T, T = slash true s := ⟨_, rfl⟩
        rw [← hT] at hst C1
        obtain ⟨R, hR⟩ : ∃ R, R = pParse s true base := ⟨_, rfl⟩
        rw [← hR] at HP
        have HR := Lib.hid hR
        have h47 : ((47 : UInt8).toNat : Int) = 47 := rfl
        have HBB := Lib.hid hbel
        clear hcse hT hR
        go_wp2_with (first
          | (go_at_call 47; go_must (go_fit C1.out); rintro e w2 ⟨v2, rfl, hown2, hb2⟩; obtain ⟨A2, c2, rfl, hc2, hm2, hr2⟩ := own_rdN hown2; have hbw := bnext HBB.out hb2; have hrb := hr.below hbw; have hq2 := hbw.size)
          | (at_builtin; refine wpList_append_rd rfl _ _ _ rfl w2.heap.size _ _ 16 Tryd.underlying22 info_strU rfl _ 0 [] rfl (own_lit0 w2) w.heap.size A base.length c (strs base) rfl (by rw [strs_len]) (hrb.alloc hbw.size _) (strs_one _) (by omega) (by decide) (by simp) ?_; intro A5 c5 w5 hc5 hm5 hown5 hb5 hg5; simp only [Nat.zero_add] at hc5))
        have hown5' := own_zero hown5
        have hb25 : Below w2.heap.size w2 w5 := ((Below.refl w2.heap.size w2).alloc (Nat.le_refl _) _).trans hb5
        clear hown5 hown2 hst
        go_loopg [10, 11] cs.length (fun k s10 s11 wr => ∃ (i : Nat) (out : List (List UInt8)) (A' : Option Addr) (c' : Nat), k = cs.length - i ∧ i ≤ cs.length ∧ s11 = .int .i64 (i : Int) ∧ s10 = .slice A' out.length c' ∧
          wr.ownsRow w2.heap.size 9 1 (.slice A' out.length c') out.length (strs out) ∧ out.length ≤ base.length + i ∧ Hid (pGo base cs = pGo out (cs.drop i)) ∧ Below w2.heap.size w2 wr)
        case atStart => exact ⟨0, base, A5, c5, rfl, Nat.zero_le _, rfl, by simp, hown5', Nat.le_refl _, rfl, hb25⟩
        case round =>
          clear hown5' hb25 hb5 hg5
          obtain ⟨i, out, A', c', rfl, hi, rfl, rfl, hown, hol, hinv, hbel⟩ := hrel
          have hq0 := hbel.size
          by_cases hlt : i < cs.length
          · obtain ⟨b, off, x, rfl, hb', hc2i, hx⟩ := hr2.str_at (k := i) hlt
            have hc := cell_on hbel hc2i hb'
            have hxl := HL.out x (List.mem_of_getElem? hx.out)
            have HI := Lib.hid (pGo_next hinv.out hx.out)
            have hlt1 : (i : Int) < (cs.length : Int) := by omega
            have hi0 : (0 : Int) ≤ (i : Int) := by omega
            have CD := Lib.hid (rdouble_any x wr (by omega))
            have hw1 : IntKind.i64.wrap ((cs.length : Int) - 1) = (cs.length : Int) - 1 := IntWalk.i64_in _ (by omega)
            have hw2 : IntKind.i64.wrap ((out.length : Int) - 1) = (out.length : Int) - 1 := IntWalk.i64_in _ (by omega)
            have hw3 : IntKind.i64.wrap ((i : Int) + 1) = (i : Int) + 1 := IntWalk.i64_in _ (by omega)
            obtain ⟨m, hm0⟩ : ∃ m : Nat, m = out.length - 1 := ⟨_, rfl⟩
            have hmx : max ((out.length : Int) - 1) 0 = (m : Int) := by omega
            have hmo : m ≤ out.length := by omega
            have hdl : (strs out).take m = strs out.dropLast := by rw [hm0]; unfold strs; rw [← List.map_take, dropLast_take]
            have hdn : out.dropLast.length = m := by rw [List.length_dropLast, hm0]
            clear hm0
            have hml : (m : Int) ≤ (out.length : Int) := by omega
            have hm00 : (0 : Int) ≤ (m : Int) := by omega
            obtain ⟨_, _, e0, hnc, hcm⟩ := own_shape hown
            injection e0 with e1 e2 e3; subst e1; subst e3
            clear e2
            have hmc : (m : Int) ≤ (c' : Int) := by omega
            have CS := Lib.hid fun w => rsingle_any x w (by omega)
            have CE := Lib.hid fun A c w h => percent_any 4 A c x w h (by omega)
            by_cases hD : pDouble x = true
            · have HO := Lib.hid (own_cut hown hmo)
              rw [hdl] at HO
              have hnx : pNext out x = out.dropLast := by unfold pNext; rw [if_pos hD]
              have hls : pLast out x = out.dropLast ++ [[]] := by unfold pLast; rw [if_pos hD]
              rw [hD] at CD
              rw [hnx, hls] at HI
              have HDN := Lib.hid hdn
              clear hD hx hdl hnx hls hdn hown
              by_cases hl : i + 1 = cs.length
              · have hlst : ((i : Int) == (cs.length : Int) - 1) = true := by rw [beq_iff_eq]; omega
                have HI2 := Lib.hid (show pGo base cs = pGo (out.dropLast ++ [[]]) (cs.drop (i + 1)) by rw [HI.out, if_pos hl])
                clear HI
                go_wp2_with (first
                  | (go_at_call 22; go_must (go_fit CD.out); rintro e w6 ⟨rfl, hb6⟩; have HO3 := own_below HO.out hb6 (Nat.le_refl _); obtain ⟨A7, c7, e7, hc7, hm7, hr7⟩ := own_rdN HO3; injection e7 with e7 _ e8; subst e7; subst e8; have hq6 := hb6.size)
                  | (at_builtin; refine wpList_append_rd rfl _ _ _ rfl w2.heap.size _ _ 16 Tryd.underlying22 info_strU rfl _ 0 [] rfl (own_lit0B w6 (by omega)) w6.heap.size A' m c' (strs out.dropLast) rfl (by rw [strs_len, HDN.out]) (hr7.alloc (Nat.le_refl _) _) (strs_one _) (by omega) (by decide) (by simp; omega) ?_; intro A8 c8 w8 hc8 hm8 hown8 hb8 hg8; have hown9 := own_zero hown8; have hq8 := hg8.size; simp only [Nat.zero_add] at hc8)
                  | (at_builtin; refine wpList_append_lit rfl _ _ _ rfl w2.heap.size _ _ 1 16 Tryd.underlying22 info_strU rfl (by decide) _ _ _ rfl hown9 _ 1 1 _ rfl rfl (by simp [Value.oneCell']) (by omega) (by decide) (by simp at hq8; omega) ?_; intro A10 c10 w10 hc10 hm10 hown10 hb10 hg10))
                go_roundg (cs.length - (i + 1))
                case measure => omega
                case rel => exact pRel2 HDN.out hown10 HI2.out (by omega) (by omega) ((((hbel.trans (hb6.mono hq0)).alloc (by omega) _).trans hb8).trans hb10) (by go_num)
              · have hlst : ((i : Int) == (cs.length : Int) - 1) = false := by rw [beq_eq_false_iff_ne]; omega
                have HI2 := Lib.hid (show pGo base cs = pGo out.dropLast (cs.drop (i + 1)) by rw [HI.out, if_neg hl])
                clear HI
                go_wp2_with (go_at_call 22; go_must (go_fit CD.out); rintro e w6 ⟨rfl, hb6⟩; have HO3 := own_below HO.out hb6 (Nat.le_refl _))
                go_roundg (cs.length - (i + 1))
                case measure => omega
                case rel => exact ⟨i + 1, out.dropLast, A', c', rfl, by omega, by go_num, by rw [HDN.out], by rw [HDN.out]; exact HO3, by rw [HDN.out]; omega, HI2.out, hbel.trans (hb6.mono hq0)⟩
            · have hD' : pDouble x = false := by simpa using hD
              rw [hD'] at CD
              by_cases hS : pSingle x = true
              · have hnx : pNext out x = out := by unfold pNext; rw [if_neg hD, if_pos hS]
                have hls : pLast out x = out ++ [[]] := by unfold pLast; rw [if_neg hD, if_pos hS]
                rw [hS] at CS
                rw [hnx, hls] at HI
                have HO := Lib.hid hown
                clear hD hD' hS hx hdl hdn hnx hls hown
                by_cases hl : i + 1 = cs.length
                · have hlst : ((i : Int) == (cs.length : Int) - 1) = true := by rw [beq_iff_eq]; omega
                  have HI2 := Lib.hid (show pGo base cs = pGo (out ++ [[]]) (cs.drop (i + 1)) by rw [HI.out, if_pos hl])
                  clear HI
                  go_wp2_with (first
                    | (go_at_call 22; go_must (go_fit CD.out); rintro e w6 ⟨rfl, hb6⟩; have hc6 := cell_on hb6 hc (by omega))
                    | (go_at_call 20; go_must (go_fit (CS.out w6)); rintro e w7 ⟨rfl, hb7⟩; have hb67 := bnext hb6 hb7; have HO3 := own_below HO.out hb67 (Nat.le_refl _); obtain ⟨A7, c7, e7, hc7, hm7, hr7⟩ := own_rdN HO3; injection e7 with e7 _ e8; subst e7; subst e8; have hq6 := hb67.size)
                    | (at_builtin; refine wpList_append_rd rfl _ _ _ rfl w2.heap.size _ _ 16 Tryd.underlying22 info_strU rfl _ 0 [] rfl (own_lit0B w7 (by omega)) w7.heap.size A' out.length c' (strs out) rfl (by rw [strs_len]) (hr7.alloc (Nat.le_refl _) _) (strs_one _) (by omega) (by decide) (by simp; omega) ?_; intro A8 c8 w8 hc8 hm8 hown8 hb8 hg8; have hown9 := own_zero hown8; have hq8 := hg8.size; simp only [Nat.zero_add] at hc8)
                    | (at_builtin; refine wpList_append_lit rfl _ _ _ rfl w2.heap.size _ _ 1 16 Tryd.underlying22 info_strU rfl (by decide) _ _ _ rfl hown9 _ 1 1 _ rfl rfl (by simp [Value.oneCell']) (by omega) (by decide) (by simp at hq8; omega) ?_; intro A10 c10 w10 hc10 hm10 hown10 hb10 hg10))
                  go_roundg (cs.length - (i + 1))
                  case measure => omega
                  case rel => exact pRel2 rfl hown10 HI2.out (by omega) (by omega) ((((hbel.trans (hb67.mono hq0)).alloc (by omega) _).trans hb8).trans hb10) (by go_num)
                · have hlst : ((i : Int) == (cs.length : Int) - 1) = false := by rw [beq_eq_false_iff_ne]; omega
                  have HI2 := Lib.hid (show pGo base cs = pGo out (cs.drop (i + 1)) by rw [HI.out, if_neg hl])
                  clear HI
                  go_wp2_with (first
                    | (go_at_call 22; go_must (go_fit CD.out); rintro e w6 ⟨rfl, hb6⟩; have hc6 := cell_on hb6 hc (by omega))
                    | (go_at_call 20; go_must (go_fit (CS.out w6)); rintro e w7 ⟨rfl, hb7⟩; have hb67 := bnext hb6 hb7; have HO3 := own_below HO.out hb67 (Nat.le_refl _)))
                  go_roundg (cs.length - (i + 1))
                  case measure => omega
                  case rel => exact ⟨i + 1, out, A', c', rfl, by omega, by go_num, rfl, HO3, by omega, HI2.out, hbel.trans (hb67.mono hq0)⟩
              · have hS' : pSingle x = false := by simpa using hS
                have hnx : pNext out x = out ++ [pEnc 4 x] := by unfold pNext; rw [if_neg hD, if_neg hS]
                have hls : pLast out x = out ++ [pEnc 4 x] := by unfold pLast; rw [if_neg hD, if_neg hS]
                rw [hS'] at CS
                rw [hnx, hls, ite_self] at HI
                have HO := Lib.hid hown
                clear hD hD' hS hS' hx hdl hdn hnx hls hown
                obtain ⟨bl, hbl⟩ : ∃ bl : Bool, ((i : Int) == (cs.length : Int) - 1) = bl := ⟨_, rfl⟩
                go_wp2_with (first
                  | (go_at_call 22; go_must (go_fit CD.out); rintro e w6 ⟨rfl, hb6⟩; have hc6 := cell_on hb6 hc (by omega))
                  | (go_at_call 20; go_must (go_fit (CS.out w6)); rintro e w7 ⟨rfl, hb7⟩; have hb67 := bnext hb6 hb7; have HO3 := own_below HO.out hb67 (Nat.le_refl _); obtain ⟨A7, c7, e7, hc7, hm7, hr7⟩ := own_rdN HO3; injection e7 with e7 _ e8; subst e7; subst e8; have hq6 := hb67.size; have hc7' := cell_on hb7 hc6 (by have := hb6.size; omega)))
                have hkb := fun w => bytes_at w x
                have HNN := Lib.hid (own_none HO3)
                have H1 := Lib.hid (own_lit0B w7 (B := w2.heap.size) (by omega))
                have H2 := Lib.hid fun o => (show ((w7.alloc o).alloc (.cells #[] 9)).ownsRow w2.heap.size 9 1 (.slice (some ⟨w7.heap.size + 1, 0, none⟩) 0 0) 0 [] by
                  have h := own_lit0B (w7.alloc o) (B := w2.heap.size) (by simp; omega)
                  simpa using h)
                have H3 := Lib.hid fun o => (own_lit0B w7 (B := w2.heap.size) (by omega)).alloc o
                have HB7 := hbel.trans (hb67.mono hq0)
                have hl7 : w2.heap.size ≤ w7.heap.size := by omega
                have hcB := hc2i
                refine wp_region_held_drew (S := fun w' => w'.cell? ⟨b, off + i, none⟩ = some (.string (str x))) (by kernel_rfl) hc7' (fun hHeld => ?_)
                refine wpAnyH_take (i := 1) (v := ?_) opG1 (by kernel_rfl) (by kernel_rfl) (by kernel_rfl) (fun _ _ _ h => h) (Or.inl ⟨by rfl, ?_⟩) (by assumption) ?_
                rotate_left
                · (intro w hSw; (try dsimp only at hSw); go_simp; (try with_reducible rfl))
                try simp only [Act.put, List.setIfInBounds_toArray, List.set_cons_zero, List.set_cons_succ]
                refine wpAnyH_take (i := 3) (v := ?_) opG3 (by kernel_rfl) (by kernel_rfl) (by kernel_rfl) (fun _ _ _ h => h) (Or.inl ⟨by rfl, ?_⟩) (by assumption) ?_
                rotate_left
                · (intro w hSw; (try dsimp only at hSw); go_simp; (try with_reducible rfl))
                try simp only [Act.put, List.setIfInBounds_toArray, List.set_cons_zero, List.set_cons_succ]
                refine wpAnyH_take (i := 4) (v := ?_) opG4 (by kernel_rfl) (by kernel_rfl) (by kernel_rfl) (fun _ _ _ h => h) (Or.inl ⟨by rfl, ?_⟩) (by assumption) ?_
                rotate_left
                · (intro w hSw; (try dsimp only at hSw); go_simp; (try with_reducible rfl))
                try simp only [Act.put, List.setIfInBounds_toArray, List.set_cons_zero, List.set_cons_succ]
                refine wpAnyH_take (i := 5) (v := ?_) opG5 (by kernel_rfl) (by kernel_rfl) (by kernel_rfl) (fun _ _ _ h => h) (Or.inl ⟨by rfl, ?_⟩) (by assumption) ?_
                rotate_left
                · (intro w hSw; (try dsimp only at hSw); go_simp; (try with_reducible rfl))
                try simp only [Act.put, List.setIfInBounds_toArray, List.set_cons_zero, List.set_cons_succ]
                refine wpAnyH_take (i := 6) (v := ?_) opG6 (by kernel_rfl) (by kernel_rfl) (by kernel_rfl) (fun _ _ _ h => h) (Or.inl ⟨by rfl, ?_⟩) (by assumption) ?_
                rotate_left
                · (intro w hSw; (try dsimp only at hSw); go_simp; (try with_reducible rfl))
                try simp only [Act.put, List.setIfInBounds_toArray, List.set_cons_zero, List.set_cons_succ]
                refine wpAnyH_ready (rs := [0, 7]) (by kernel_rfl) (by simp) (AllReadyH.cons opG0 (fun K hK => ?_) (AllReadyH.cons opG7 (fun K hK => ?_) AllReadyH.nil))
                · go_simp
                  refine hK.out _ _ ?_ (fun hHeld => ?_)
                  · (try dsimp only); first | exact cell_on (HB7.alloc hl7 _) hcB hb' | exact cell_on (Below.drew (HB7.alloc hl7 _)) hcB hb' | exact cell_on (Below.drew (Below.drew (HB7.alloc hl7 _))) hcB hb' | exact cell_on (Below.drew (Below.drew (Below.drew (HB7.alloc hl7 _)))) hcB hb'
                  clear hK K
                  try simp only [Act.put, List.setIfInBounds_toArray, List.set_cons_zero, List.set_cons_succ]
                  refine wpAnyH_ready (rs := [2, 7]) (by kernel_rfl) (by simp) (AllReadyH.cons opG2 (fun K hK => ?_) (AllReadyH.cons opG7 (fun K hK => ?_) AllReadyH.nil))
                  · refine step_append_pa rfl _ _ _ rfl w2.heap.size _ _ 1 16 Tryd.underlying22 info_strU rfl (by decide) (.slice (some ⟨w7.heap.size, 0, none⟩) 0 0) 0 [] rfl H1.out A' out.length c' (strs out) rfl (by rw [strs_len]; simp) HNN.out (rd_any (hr7.alloc (Nat.le_refl _) _)) (strs_one _) (by omega) (by decide) (by simp; omega) ?_
                    intro A8 c8 w8 hc8 hm8 hown8 hb8 hg8
                    have hown9 := own_zero hown8
                    have hq8 : w7.heap.size + 1 ≤ w8.heap.size := Nat.le_trans (by simp) hg8.size
                    simp only [Nat.zero_add] at hc8 ⊢
                    have hbz : Below w2.heap.size w2 w8 := ((HB7.alloc hl7 _).drew).trans hb8
                    have hc8b := cell_on hbz hcB hb'
                    refine hK.out _ _ ?_ (fun hHeld => ?_)
                    · (try dsimp only); exact hc8b
                    clear hK K
                    try simp only [Act.put, List.setIfInBounds_toArray, List.set_cons_zero, List.set_cons_succ]
                    refine wpAnyH_ready (rs := [7]) (by kernel_rfl) (by simp) (AllReadyH.cons opG7 (fun K hK => ?_) AllReadyH.nil)
                    go_simp
                    refine hK.out _ _ ?_ (fun hHeld => ?_)
                    · (try dsimp only); first | exact cell_on (hbz.alloc (by omega) _) hcB hb' | exact cell_on (Below.drew (hbz.alloc (by omega) _)) hcB hb' | exact cell_on (Below.drew (Below.drew (hbz.alloc (by omega) _))) hcB hb' | exact cell_on (Below.drew (Below.drew (Below.drew (hbz.alloc (by omega) _)))) hcB hb'
                    clear hK K
                    try simp only [Act.put, List.setIfInBounds_toArray, List.set_cons_zero, List.set_cons_succ]
                    refine wpAnyH_ready (rs := [8]) (by kernel_rfl) (by simp) (AllReadyH.cons opG8 (fun K hK => ?_) AllReadyH.nil)
                    refine step_call2 rfl _ _ _ _ rfl (fun _ _ => rfl) (.int .i64 4) (.slice (some ⟨w8.heap.size, 0, none⟩) x.length _) rfl rfl _ (CE.out _ _ (w8.alloc (byteRow w8 x 5)).drew (byteRow_on w8 x)) ?_
                    rintro e w9 ⟨rfl, hb9⟩
                    refine ⟨_, rfl, ?_⟩
                    have hown9' := own_below (w := (w8.alloc (byteRow w8 x 5)).drew) (hown9.alloc (byteRow w8 x 5)) hb9 (Nat.le_refl _)
                    have hbz9 : Below w2.heap.size w2 w9 := ((hbz.alloc (by omega) (byteRow w8 x 5)).drew).trans (hb9.mono (by simp; omega))
                    have hc9b := cell_on hbz9 hcB hb'
                    have hq9 := hbz9.size
                    refine hK.out _ _ ?_ (fun hHeld => ?_)
                    · (try dsimp only); exact hc9b
                    clear hK K
                    try simp only [Act.put, List.setIfInBounds_toArray, List.set_cons_zero, List.set_cons_succ]
                    refine wpAnyH_ready (rs := [9]) (by kernel_rfl) (by simp) (AllReadyH.cons opG9 (fun K hK => ?_) AllReadyH.nil)
                    go_simp
                    refine hK.out _ _ ?_ (fun hHeld => ?_)
                    · (try dsimp only); first | exact cell_on (hbz9.alloc hq9 _) hcB hb' | exact cell_on (Below.drew (hbz9.alloc hq9 _)) hcB hb' | exact cell_on (Below.drew (Below.drew (hbz9.alloc hq9 _))) hcB hb' | exact cell_on (Below.drew (Below.drew (Below.drew (hbz9.alloc hq9 _)))) hcB hb'
                    clear hK K
                    try simp only [Act.put, List.setIfInBounds_toArray, List.set_cons_zero, List.set_cons_succ]
                    refine wpAnyH_ready (rs := [10]) (by kernel_rfl) (by simp) (AllReadyH.cons opG10 (fun K hK => ?_) AllReadyH.nil)
                    refine step_append_cells rfl _ _ _ rfl w2.heap.size _ _ 1 16 Tryd.underlying22 info_strU rfl (by decide) _ _ _ rfl (hown9'.alloc _) w9.heap.size _ 1 1 9 (0, 0) rfl (heap_alloc_new w9 _) rfl (by simp [Value.oneCell']) (by omega) (by decide) (by simp; omega) ?_
                    intro A10 c10 w10 hc10 hm10 hown10 hb10 hg10
                    have hbz10 : Below w2.heap.size w2 w10 := (hbz9.alloc hq9 _).trans hb10
                    refine hK.out _ _ ?_ (fun hHeld => ?_)
                    · (try dsimp only); first | exact cell_on hbz10 hcB hb' | exact cell_on (Below.drew hbz10) hcB hb' | exact cell_on (Below.drew (Below.drew hbz10)) hcB hb' | exact cell_on (Below.drew (Below.drew (Below.drew hbz10))) hcB hb'
                    clear hK K
                    try simp only [Act.put, List.setIfInBounds_toArray, List.set_cons_zero, List.set_cons_succ]
                    refine wpAnyH_take (i := 11) (v := ?_) opG11 (by kernel_rfl) (by kernel_rfl) (by kernel_rfl) (fun _ _ _ h => h) (Or.inl ⟨by rfl, ?_⟩) (by assumption) ?_
                    rotate_left
                    · (intro w hSw; (try dsimp only at hSw); go_simp; (try with_reducible rfl))
                    try simp only [Act.put, List.setIfInBounds_toArray, List.set_cons_zero, List.set_cons_succ]
                    refine wpAnyH_done (by kernel_rfl) ?_ _
                    go_wp2
                    go_roundg (cs.length - (i + 1))
                    case measure => omega
                    case rel => exact pRel2 rfl hown10 HI.out (by omega) (by omega) hbz10 (by go_num)
                  · go_simp
                    refine hK.out _ _ ?_ (fun hHeld => ?_)
                    · (try dsimp only); first | exact cell_on ((HB7.alloc hl7 _).alloc (by simp; omega) _) hcB hb' | exact cell_on (Below.drew ((HB7.alloc hl7 _).alloc (by simp; omega) _)) hcB hb' | exact cell_on (Below.drew (Below.drew ((HB7.alloc hl7 _).alloc (by simp; omega) _))) hcB hb' | exact cell_on (Below.drew (Below.drew (Below.drew ((HB7.alloc hl7 _).alloc (by simp; omega) _)))) hcB hb'
                    clear hK K
                    try simp only [Act.put, List.setIfInBounds_toArray, List.set_cons_zero, List.set_cons_succ]
                    refine wpAnyH_ready (rs := [2]) (by kernel_rfl) (by simp) (AllReadyH.cons opG2 (fun K hK => ?_) AllReadyH.nil)
                    refine step_append_pa rfl _ _ _ rfl w2.heap.size _ _ 1 16 Tryd.underlying22 info_strU rfl (by decide) (.slice (some ⟨w7.heap.size, 0, none⟩) 0 0) 0 [] rfl (H3.out _) A' out.length c' (strs out) rfl (by rw [strs_len]; simp) HNN.out (rd_any ((hr7.alloc (Nat.le_refl _) _).alloc (by simp) _)) (strs_one _) (by omega) (by decide) (by simp; omega) ?_
                    intro A8 c8 w8 hc8 hm8 hown8 hb8 hg8
                    have hown9 := own_zero hown8
                    have hq8 : w7.heap.size + 1 ≤ w8.heap.size := Nat.le_trans (by simp) hg8.size
                    simp only [Nat.zero_add] at hc8 ⊢
                    have hbz : Below w2.heap.size w2 w8 := (((HB7.alloc hl7 _).alloc (by simp; omega) _).drew.drew).trans hb8
                    have hc8b := cell_on hbz hcB hb'
                    refine hK.out _ _ ?_ (fun hHeld => ?_)
                    · (try dsimp only); exact hc8b
                    clear hK K
                    try simp only [Act.put, List.setIfInBounds_toArray, List.set_cons_zero, List.set_cons_succ]
                    refine wpAnyH_ready (rs := [8]) (by kernel_rfl) (by simp) (AllReadyH.cons opG8 (fun K hK => ?_) AllReadyH.nil)
                    refine step_call2 rfl _ _ _ _ rfl (fun _ _ => rfl) (.int .i64 4) (.slice (some ⟨w7.heap.size + 1, 0, none⟩) x.length _) rfl rfl _ (CE.out _ _ w8 (rd_row8 (byteRow_at w7 (.cells #[] 9) x) hg8 (fun e => by have e2 : some w7.heap.size = some (w7.heap.size + 1) := e; injection e2 with e2; omega))) ?_
                    rintro e w9 ⟨rfl, hb9⟩
                    refine ⟨_, rfl, ?_⟩
                    have hown9' := own_below (w := w8) hown9 hb9 (Nat.le_refl _)
                    have hbz9 : Below w2.heap.size w2 w9 := (hbz).trans (hb9.mono (by omega))
                    have hc9b := cell_on hbz9 hcB hb'
                    have hq9 := hbz9.size
                    refine hK.out _ _ ?_ (fun hHeld => ?_)
                    · (try dsimp only); exact hc9b
                    clear hK K
                    try simp only [Act.put, List.setIfInBounds_toArray, List.set_cons_zero, List.set_cons_succ]
                    refine wpAnyH_ready (rs := [9]) (by kernel_rfl) (by simp) (AllReadyH.cons opG9 (fun K hK => ?_) AllReadyH.nil)
                    go_simp
                    refine hK.out _ _ ?_ (fun hHeld => ?_)
                    · (try dsimp only); first | exact cell_on (hbz9.alloc hq9 _) hcB hb' | exact cell_on (Below.drew (hbz9.alloc hq9 _)) hcB hb' | exact cell_on (Below.drew (Below.drew (hbz9.alloc hq9 _))) hcB hb' | exact cell_on (Below.drew (Below.drew (Below.drew (hbz9.alloc hq9 _)))) hcB hb'
                    clear hK K
                    try simp only [Act.put, List.setIfInBounds_toArray, List.set_cons_zero, List.set_cons_succ]
                    refine wpAnyH_ready (rs := [10]) (by kernel_rfl) (by simp) (AllReadyH.cons opG10 (fun K hK => ?_) AllReadyH.nil)
                    refine step_append_cells rfl _ _ _ rfl w2.heap.size _ _ 1 16 Tryd.underlying22 info_strU rfl (by decide) _ _ _ rfl (hown9'.alloc _) w9.heap.size _ 1 1 9 (0, 0) rfl (heap_alloc_new w9 _) rfl (by simp [Value.oneCell']) (by omega) (by decide) (by simp; omega) ?_
                    intro A10 c10 w10 hc10 hm10 hown10 hb10 hg10
                    have hbz10 : Below w2.heap.size w2 w10 := (hbz9.alloc hq9 _).trans hb10
                    refine hK.out _ _ ?_ (fun hHeld => ?_)
                    · (try dsimp only); first | exact cell_on hbz10 hcB hb' | exact cell_on (Below.drew hbz10) hcB hb' | exact cell_on (Below.drew (Below.drew hbz10)) hcB hb' | exact cell_on (Below.drew (Below.drew (Below.drew hbz10))) hcB hb'
                    clear hK K
                    try simp only [Act.put, List.setIfInBounds_toArray, List.set_cons_zero, List.set_cons_succ]
                    refine wpAnyH_take (i := 11) (v := ?_) opG11 (by kernel_rfl) (by kernel_rfl) (by kernel_rfl) (fun _ _ _ h => h) (Or.inl ⟨by rfl, ?_⟩) (by assumption) ?_
                    rotate_left
                    · (intro w hSw; (try dsimp only at hSw); go_simp; (try with_reducible rfl))
                    try simp only [Act.put, List.setIfInBounds_toArray, List.set_cons_zero, List.set_cons_succ]
                    refine wpAnyH_done (by kernel_rfl) ?_ _
                    go_wp2
                    go_roundg (cs.length - (i + 1))
                    case measure => omega
                    case rel => exact pRel2 rfl hown10 HI.out (by omega) (by omega) hbz10 (by go_num)
                · go_simp
                  refine hK.out _ _ ?_ (fun hHeld => ?_)
                  · (try dsimp only); first | exact cell_on (HB7.alloc hl7 _) hcB hb' | exact cell_on (Below.drew (HB7.alloc hl7 _)) hcB hb' | exact cell_on (Below.drew (Below.drew (HB7.alloc hl7 _))) hcB hb' | exact cell_on (Below.drew (Below.drew (Below.drew (HB7.alloc hl7 _)))) hcB hb'
                  clear hK K
                  try simp only [Act.put, List.setIfInBounds_toArray, List.set_cons_zero, List.set_cons_succ]
                  refine wpAnyH_ready (rs := [0]) (by kernel_rfl) (by simp) (AllReadyH.cons opG0 (fun K hK => ?_) AllReadyH.nil)
                  go_simp
                  refine hK.out _ _ ?_ (fun hHeld => ?_)
                  · (try dsimp only); first | exact cell_on ((HB7.alloc hl7 _).alloc (by simp; omega) _) hcB hb' | exact cell_on (Below.drew ((HB7.alloc hl7 _).alloc (by simp; omega) _)) hcB hb' | exact cell_on (Below.drew (Below.drew ((HB7.alloc hl7 _).alloc (by simp; omega) _))) hcB hb' | exact cell_on (Below.drew (Below.drew (Below.drew ((HB7.alloc hl7 _).alloc (by simp; omega) _)))) hcB hb'
                  clear hK K
                  try simp only [Act.put, List.setIfInBounds_toArray, List.set_cons_zero, List.set_cons_succ]
                  refine wpAnyH_ready (rs := [2]) (by kernel_rfl) (by simp) (AllReadyH.cons opG2 (fun K hK => ?_) AllReadyH.nil)
                  refine step_append_pa rfl _ _ _ rfl w2.heap.size _ _ 1 16 Tryd.underlying22 info_strU rfl (by decide) (.slice (some ⟨w7.heap.size + 1, 0, none⟩) 0 0) 0 [] rfl (H2.out _) A' out.length c' (strs out) rfl (by rw [strs_len]; simp) HNN.out (rd_any ((hr7.alloc (Nat.le_refl _) _).alloc (by simp) _)) (strs_one _) (by omega) (by decide) (by simp; omega) ?_
                  intro A8 c8 w8 hc8 hm8 hown8 hb8 hg8
                  have hown9 := own_zero hown8
                  have hq8 : w7.heap.size + 1 ≤ w8.heap.size := Nat.le_trans (by simp) hg8.size
                  simp only [Nat.zero_add] at hc8 ⊢
                  have hbz : Below w2.heap.size w2 w8 := (((HB7.alloc hl7 _).alloc (by simp; omega) _).drew.drew).trans hb8
                  have hc8b := cell_on hbz hcB hb'
                  refine hK.out _ _ ?_ (fun hHeld => ?_)
                  · (try dsimp only); exact hc8b
                  clear hK K
                  try simp only [Act.put, List.setIfInBounds_toArray, List.set_cons_zero, List.set_cons_succ]
                  refine wpAnyH_ready (rs := [8]) (by kernel_rfl) (by simp) (AllReadyH.cons opG8 (fun K hK => ?_) AllReadyH.nil)
                  refine step_call2 rfl _ _ _ _ rfl (fun _ _ => rfl) (.int .i64 4) (.slice (some ⟨w7.heap.size, 0, none⟩) x.length _) rfl rfl _ (CE.out _ _ w8 (rd_row8 (byteRow_b4 w7 (.cells #[] 9) x) hg8 (fun e => by have e2 : some (w7.heap.size + 1) = some w7.heap.size := e; injection e2 with e2; omega))) ?_
                  rintro e w9 ⟨rfl, hb9⟩
                  refine ⟨_, rfl, ?_⟩
                  have hown9' := own_below (w := w8) hown9 hb9 (Nat.le_refl _)
                  have hbz9 : Below w2.heap.size w2 w9 := (hbz).trans (hb9.mono (by omega))
                  have hc9b := cell_on hbz9 hcB hb'
                  have hq9 := hbz9.size
                  refine hK.out _ _ ?_ (fun hHeld => ?_)
                  · (try dsimp only); exact hc9b
                  clear hK K
                  try simp only [Act.put, List.setIfInBounds_toArray, List.set_cons_zero, List.set_cons_succ]
                  refine wpAnyH_ready (rs := [9]) (by kernel_rfl) (by simp) (AllReadyH.cons opG9 (fun K hK => ?_) AllReadyH.nil)
                  go_simp
                  refine hK.out _ _ ?_ (fun hHeld => ?_)
                  · (try dsimp only); first | exact cell_on (hbz9.alloc hq9 _) hcB hb' | exact cell_on (Below.drew (hbz9.alloc hq9 _)) hcB hb' | exact cell_on (Below.drew (Below.drew (hbz9.alloc hq9 _))) hcB hb' | exact cell_on (Below.drew (Below.drew (Below.drew (hbz9.alloc hq9 _)))) hcB hb'
                  clear hK K
                  try simp only [Act.put, List.setIfInBounds_toArray, List.set_cons_zero, List.set_cons_succ]
                  refine wpAnyH_ready (rs := [10]) (by kernel_rfl) (by simp) (AllReadyH.cons opG10 (fun K hK => ?_) AllReadyH.nil)
                  refine step_append_cells rfl _ _ _ rfl w2.heap.size _ _ 1 16 Tryd.underlying22 info_strU rfl (by decide) _ _ _ rfl (hown9'.alloc _) w9.heap.size _ 1 1 9 (0, 0) rfl (heap_alloc_new w9 _) rfl (by simp [Value.oneCell']) (by omega) (by decide) (by simp; omega) ?_
                  intro A10 c10 w10 hc10 hm10 hown10 hb10 hg10
                  have hbz10 : Below w2.heap.size w2 w10 := (hbz9.alloc hq9 _).trans hb10
                  refine hK.out _ _ ?_ (fun hHeld => ?_)
                  · (try dsimp only); first | exact cell_on hbz10 hcB hb' | exact cell_on (Below.drew hbz10) hcB hb' | exact cell_on (Below.drew (Below.drew hbz10)) hcB hb' | exact cell_on (Below.drew (Below.drew (Below.drew hbz10))) hcB hb'
                  clear hK K
                  try simp only [Act.put, List.setIfInBounds_toArray, List.set_cons_zero, List.set_cons_succ]
                  refine wpAnyH_take (i := 11) (v := ?_) opG11 (by kernel_rfl) (by kernel_rfl) (by kernel_rfl) (fun _ _ _ h => h) (Or.inl ⟨by rfl, ?_⟩) (by assumption) ?_
                  rotate_left
                  · (intro w hSw; (try dsimp only at hSw); go_simp; (try with_reducible rfl))
                  try simp only [Act.put, List.setIfInBounds_toArray, List.set_cons_zero, List.set_cons_succ]
                  refine wpAnyH_done (by kernel_rfl) ?_ _
                  go_wp2
                  go_roundg (cs.length - (i + 1))
                  case measure => omega
                  case rel => exact pRel2 rfl hown10 HI.out (by omega) (by omega) hbz10 (by go_num)
          · obtain rfl : i = cs.length := by omega
            have HE := Lib.hid (show R = out by rw [HP.out, hinv.out, List.drop_length]; rfl)
            go_wp2
            go_ret
            refine ⟨_, rfl, ?_, hbw.trans (hbel.mono hq2)⟩
            rw [← HR.out, HE.out]
            exact own_base hown hq2
end Go.Proofs.YtnnphploekchbaaDoor

