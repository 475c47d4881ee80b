/- A part of the proof. -/
import Derived.Test.YtoapelcofjjdnaaGreatDoorR21
import Derived.Test.YtoapelcofjjdnaaGreatDoorR13
import Derived.Test.YtoapelcofjjdnaaGreatDoorR06
import Derived.Test.YtoapelcofjjdnaaGreatDoorRShelf
import Derived.IntWalk
namespace Go.Proofs.YtoapelcofjjdnaaGreatDoor
set_option linter.all false
open Go.RowKit
def DecP (w : World) (o : Option (List Int)) (e : Ending) (w' : World) : Prop :=
 Below w.heap.size w w' ∧ match o with
  | none => e = .returned (.tuple #[.slice none 0 0, .int .i64 2])
  | some l => ∃ v', e = .returned (.tuple #[v', .int .i64 0]) ∧ w'.ownsRow w.heap.size 21 1 v' l.length (runes l)
end Go.Proofs.YtoapelcofjjdnaaGreatDoor
namespace Go.Proofs.YtoapelcofjjdnaaGreatDoor
set_option linter.all false
open Go.RowKit
theorem dr_cons {s : List UInt8} {p : Nat} (h : p < s.length) : dr s p = gb s p :: dr s (p + 1) := by
 unfold dr gb
 rw [List.drop_eq_getElem_cons h, List.getD_eq_getElem?_getD, List.getElem?_eq_getElem h]; rfl
theorem rdNum_end {s : List UInt8} {p : Nat} (h : ¬ p < s.length) (k b w n : Int) : rdNum (dr s p) k b w n = none := by
 rw [show dr s p = [] from List.drop_eq_nil_of_le (by omega)]; rfl
theorem rdNum_at {s : List UInt8} {p : Nat} (h : p < s.length) (k b w n : Int) : rdNum (dr s p) k b w n = (if digitOf (gb s p) < 0 then none
  else if digitOf (gb s p) < edge k b then some (n + digitOf (gb s p) * w, dr s (p + 1))
  else rdNum (dr s (p + 1)) (k + 36) b (w * (36 - edge k b)) (n + digitOf (gb s p) * w)) := by
 rw [dr_cons h]; rfl
theorem dec_longer (m : Nat) : ∀ (t : List UInt8) (σ : DS) (l : List Int), t.length ≤ m → dec t σ = some l → σ.out.length ≤ l.length := by
 induction m with
 | zero =>
  intro t σ l h hd
  rw [List.eq_nil_of_length_eq_zero (by omega : t.length = 0), dec_nil] at hd
  injection hd with hd; subst hd; exact Nat.le_refl _
 | succ m ih =>
  intro t σ l h hd
  cases t with
  | nil => rw [dec_nil] at hd; injection hd with hd; subst hd; exact Nat.le_refl _
  | cons c t =>
   rw [dec_step (by simp)] at hd
   cases hr : rdNum (c :: t) 36 σ.bias 1 0 with
   | none => rw [hr] at hd; cases hd
   | some x =>
    rw [hr, Option.bind_some] at hd
    cases hs : dStep σ x.1 with
    | none => rw [hs] at hd; cases hd
    | some σ' =>
     rw [hs, Option.bind_some] at hd
     have h1 := ih _ _ _ (by have := rdNum_shorter _ _ _ _ _ x.1 x.2 hr; omega) hd
     unfold dStep at hs
     split at hs
     ·
      injection hs with hs
      have : (dNext σ x.1).out.length = σ.out.length + 1 := by
       show (_ ++ _ :: _).length = _
       rw [List.length_append, List.length_cons, List.length_take, List.length_drop]; omega
      rw [hs] at this; omega
     · cases hs
def fit63 (l : List Int) : Option (List Int) := if l.length ≤ 63 then some l else none
theorem dec_over {t : List UInt8} {σ : DS} (h : 63 < σ.out.length) : (dec t σ).bind fit63 = none := by
 cases hd : dec t σ with
 | none => rfl
 | some l =>
  have := dec_longer _ t σ l (Nat.le_refl _) hd
  exact if_neg (by omega)
theorem dec_full {t : List UInt8} {σ : DS} (h : 63 ≤ σ.out.length) (h0 : 0 < t.length) : (dec t σ).bind fit63 = none := by
 rw [dec_step (by intro e; rw [e] at h0; cases h0)]
 cases hr : rdNum t 36 σ.bias 1 0 with
 | none => rfl
 | some x =>
  rw [Option.bind_some]
  cases hs : dStep σ x.1 with
  | none => rfl
  | some σ' =>
   rw [Option.bind_some]
   refine dec_over ?_
   unfold dStep at hs
   split at hs
   ·
    injection hs with hs
    have : (dNext σ x.1).out.length = σ.out.length + 1 := by
     show (_ ++ _ :: _).length = _
     rw [List.length_append, List.length_cons, List.length_take, List.length_drop]; omega
    rw [hs] at this; omega
   · cases hs
theorem digit_high {c : UInt8} (h : 128 ≤ c.toNat) : digitOf c < 0 := by unfold digitOf; (repeat' split) <;> omega
theorem rdNum_high : ∀ (t : List UInt8) (k b w n d : Int) (r : List UInt8) (c : UInt8), c ∈ t → 128 ≤ c.toNat → rdNum t k b w n = some (d, r) → c ∈ r := by
 intro t
 induction t with
 | nil => intro k b w n d r c hc; cases hc
 | cons x t ih =>
  intro k b w n d r c hc h1 h
  unfold rdNum at h
  by_cases h2 : digitOf x < 0
  · rw [if_pos h2] at h; cases h
  rw [if_neg h2] at h
  have hx : c ∈ t := by
   rcases List.mem_cons.1 hc with e | e
   · subst e; exact absurd (digit_high h1) h2
   · exact e
  split at h
  · injection h with h; injection h with h3 h4; subst h4; exact hx
  · exact ih _ _ _ _ _ _ _ hx h1 h
theorem dec_high (m : Nat) : ∀ (t : List UInt8) (σ : DS) (c : UInt8), t.length ≤ m → c ∈ t → 128 ≤ c.toNat → dec t σ = none := by
 induction m with
 | zero => intro t σ c h hc; rw [List.eq_nil_of_length_eq_zero (by omega : t.length = 0)] at hc; cases hc
 | succ m ih =>
  intro t σ c h hc h1
  rw [dec_step (by intro e; rw [e] at hc; cases hc)]
  cases hr : rdNum t 36 σ.bias 1 0 with
  | none => rfl
  | some x =>
   rw [Option.bind_some]
   cases hs : dStep σ x.1 with
   | none => rfl
   | some σ' =>
    rw [Option.bind_some]
    exact ih _ _ c (by have := rdNum_shorter _ _ _ _ _ x.1 x.2 hr; omega) (rdNum_high _ _ _ _ _ _ _ _ hc h1 hr) h1
theorem unpuny_high {s : List UInt8} {c : UInt8} (hc : c ∈ s) (h : 128 ≤ c.toNat) : unpuny s = none := by
 by_cases h200 : 200 < s.length
 · exact unpuny_long h200
 by_cases hw : (dBase s).any (fun c => decide (128 ≤ c.toNat)) = true
 · exact unpuny_wide hw
 rw [unpuny_is h200 (Bool.eq_false_iff.2 hw), dec_high _ _ _ c (Nat.le_refl _) ?_ h]
 · rfl
 unfold dRest
 by_cases hd : 0 < dash s
 ·
  rw [if_pos hd]
  rcases dashN_spec s s.length with ⟨h1, _⟩ | ⟨i, hi, h1, h2, _⟩
  ·
   have : dash s = -1 := h1
   omega
  ·
   have hdi : dash s = i := h1
   rw [hdi, Int.toNat_natCast]
   have hB : dBase s = s.take i := by unfold dBase; rw [hdi, if_pos (by omega), Int.toNat_natCast]
   rw [hB] at hw
   have hs : s = s.take i ++ s[i] :: s.drop (i + 1) := by rw [← List.drop_eq_getElem_cons hi, List.take_append_drop]
   rw [hs] at hc
   rcases List.mem_append.1 hc with e | e
   · exact absurd (List.any_eq_true.2 ⟨c, e, decide_eq_true h⟩) hw
   ·
    rcases List.mem_cons.1 e with e | e
    ·
     exfalso
     rw [List.getD_eq_getElem?_getD, List.getElem?_eq_getElem hi] at h2
     have h2' : s[i] = 45 := h2
     rw [e, h2'] at h
     revert h; decide
    · exact e
 · rw [if_neg hd]; exact hc
theorem wide_low {s : List UInt8} (h : ∀ k, k < s.length → gb s k ≤ 127) : (dBase s).any (fun c => decide (128 ≤ c.toNat)) = false := by
 rw [Bool.eq_false_iff]
 intro hw
 obtain ⟨c, hc, h1⟩ := List.any_eq_true.1 hw
 have h1 := of_decide_eq_true h1
 have hm : c ∈ s := by
  unfold dBase at hc; split at hc
  · exact List.mem_of_mem_take hc
  · cases hc
 obtain ⟨k, hk⟩ := List.getElem?_of_mem hm
 have hl : k < s.length := (List.getElem?_eq_some_iff.1 hk).1
 have h2 := h k hl
 rw [gb_of hk] at h2
 have h3 : c.toNat ≤ (127 : UInt8).toNat := h2
 have : (127 : UInt8).toNat = 127 := rfl
 omega
theorem dashN_next (s : List UInt8) (j : Nat) : dashN s (j + 1) = if gb s j = 45 then (j : Int) else dashN s j := rfl
theorem dashN_lt (s : List UInt8) (j : Nat) : -1 ≤ dashN s j ∧ dashN s j < j + 1 := by
 rcases dashN_range s j with h | h <;> omega
section
variable {P : Program} {w : World} {ops : Array Oper} {o : Oper} {a : Act} {Q : Exit → Act → World → Prop} {K : Act → World → Prop} {E : Prop}
theorem step_append_any (hgd : o.guard = none) (s x : Operand) (t : TypeId)
  (ho : o.op = .call { callee := .builtin .append, args := #[s, x], argTypes := #[t, t] })
  (base : Nat) (e : TypeId) (z : Value) (size bytes : Nat) (ht : P.underlying t = some (.slice e))
  (hinfo : (P.info? e).map (fun i => (i.zero, i.size, i.bytes)) = some (some z, size, bytes)) (hzs : z.cells.size = size) (hsz : 0 < size)
  (v : Value) (n : Nat) (xs : List Value) (hs : a.eval s = v) (hown : w.ownsRow base e size v n xs)
  (A : Option Addr) (m c : Nat) (news : List Value) (hx : a.eval x = .slice A m c) (hl : news.length = m * size) (hnone : A = none → m = 0 ∧ c = 0)
  (hc : ∀ ad, A = some ad → ∀ j u, news[j]? = some u → w.cell? (ad.add j) = some u) (h1 : ∀ u ∈ news, u.oneCell' = true)
  (h63 : n + m ≤ 1000000) (hb : bytes ≤ 1000) (hbase : base ≤ w.heap.size)
  (h : ∀ A' c' w', n + m ≤ c' → c' ≤ maxLen → w'.ownsRow base e size (.slice A' (n + m) c') (n + m) (xs ++ news) → Below base w w' → w.grownBy w' v.ownBlock → K (a.put o.dst (.slice A' (n + m) c')) w') :
  if Region.wanted o (yielded ops a.tmps) = true then Oper.wp P o a w K Q else E := by
 obtain ⟨i, hi, hz, hsize, hby⟩ := info_parts hinfo
 have hbytes : (n + m) * bytes ≤ 140737488355328 := by
  calc (n + m) * bytes ≤ 1000000 * 1000 := Nat.mul_le_mul h63 hb
   _ ≤ 140737488355328 := by decide
 have hw : Region.wanted o (yielded ops a.tmps) = true := by simp [Region.wanted, hgd]
 rw [if_pos hw]
 cases A with
 | some ad =>
  obtain ⟨v', w', hrun, h2, h3, _⟩ := run_append_own_at (P := P) w base t o.type e i z size bytes ht hi hz hsize hby hzs hsz v n xs hown ad m c news hl (hc ad rfl) h1 (by simp only [maxLen]; omega) hbytes hbase
  obtain ⟨A', c', rfl, q1, q2⟩ := own_shape h2
  unfold Oper.wp execOp
  simp only [ho, resolve, invoke, builtin, Sem.run_bind, Sem.run_pure, Result.andThen_ok, List.map_toArray, List.map_cons, List.map_nil, hs, hx, hrun]
  exact h A' c' w' q1 q2 h2 ((Below.refl _ _).grown h3 hbase fun k hk => (hown.lt k hk).1) h3
 | none =>
  obtain ⟨rfl, rfl⟩ := hnone rfl
  have hn : news = [] := List.eq_nil_of_length_eq_zero (by omega)
  subst hn
  have hrun := run_append_owned_none (P := P) (w := w) base t o.type e i size ht hi v n xs hown
  obtain ⟨A', c', rfl, q1, q2⟩ := own_shape hown
  unfold Oper.wp execOp
  simp only [ho, resolve, invoke, builtin, Sem.run_bind, Sem.run_pure, Result.andThen_ok, List.map_toArray, List.map_cons, List.map_nil, hs, hx, hrun]
  exact h A' c' w q1 q2 (by rw [List.append_nil]; exact hown) (Below.refl _ _) (World.grownBy.refl w _)
end
theorem rd_any {w : World} {B : Nat} {A : Option Addr} {xs : List Value} (h : Rd w B A xs) : ∀ ad, A = some ad → ∀ j u, xs[j]? = some u → w.cell? (ad.add j) = some u := by
 intro ad e j u hu
 have hj : j < xs.length := (List.getElem?_eq_some_iff.1 hu).1
 obtain ⟨b, off, e2, _, hc⟩ := h (by omega)
 rw [e] at e2
 injection e2 with e2
 rw [e2, Addr.add_lit]
 exact hc j u hu
theorem own_nil {w : World} {base : Nat} {e : TypeId} {size : Nat} {A : Option Addr} {n c : Nat} {xs : List Value} (h : w.ownsRow base e size (.slice A n c) n xs) : A = none → n = 0 ∧ c = 0 := by
 intro hA
 rcases h.2 with ⟨h1, h2⟩ | ⟨g, cap, cur, h1, _⟩
 · injection h1 with _ h3 h4; exact ⟨h2, h4⟩
 · injection h1 with h3; rw [hA] at h3; cases h3
end Go.Proofs.YtoapelcofjjdnaaGreatDoor
namespace Go.Proofs.YtoapelcofjjdnaaGreatDoor
set_option linter.all false
open Go.RowKit
set_option maxRecDepth 100000 in
set_option maxHeartbeats 32000000 in
theorem runpuny_any (s : List UInt8) (w : World) (hs : s.length ≤ 1000000) :
  Calls Tryz.prog 161 #[.string (str s)] w (DecP w (unpuny s)) := by
 have hsz := str_size s
 by_cases h200 : 200 < s.length
 ·
  have h200' : (200 : Int) < (s.length : Int) := by omega
  have HU := Lib.hid (unpuny_long h200)
  clear h200
  go_enter Tryz.func161, Tryz.ntmps161
  go_wp2
  go_ret2
  rw [HU.out]
  exact ⟨Below.refl _ _, rfl⟩
 have h200' : (s.length : Int) ≤ 200 := by omega
 have hg := str_get s
 go_enter Tryz.func161, Tryz.ntmps161
 go_wp2
 go_loopg [4, 5] (s.length) (fun m s4 s5 wr => ∃ j : Nat, m = s.length - j ∧ j ≤ s.length ∧ s5 = .int .i64 j ∧ s4 = .int .i64 (dashN s j) ∧ Hid (∀ k, k < j → gb s k ≤ 127) ∧ w = wr)
 case atStart => exact ⟨0, rfl, Nat.zero_le _, rfl, rfl, (fun k hk => by omega), rfl⟩
 case round =>
  obtain ⟨j, rfl, hj, rfl, rfl, hlow, rfl⟩ := hrel
  have hdr := dashN_lt s j
  by_cases hlt : j < s.length
  ·
   have hlt1 : (j : Int) < (s.length : Int) := by omega
   have hj0 : (0 : Int) ≤ (j : Int) := by omega
   have HN := Lib.hid (dashN_next s j)
   by_cases hhi : 127 < ((gb s j).toNat : Int)
   ·
    have HU := Lib.hid (unpuny_high (List.mem_of_getElem? (gb_some hlt)) (by omega : 128 ≤ (gb s j).toNat))
    go_wp2
    go_ret2
    rw [HU.out]
    exact ⟨Below.refl _ _, rfl⟩
   ·
    have hle : gb s j ≤ 127 := by show (gb s j).toNat ≤ (127 : UInt8).toNat; have : (127 : UInt8).toNat = 127 := rfl; omega
    have HL := Lib.hid hle
    clear hle
    by_cases hm : gb s j = 45
    ·
     rw [if_pos hm] at HN
     have hb : ((gb s j).toNat : Int) = 45 := by rw [hm]; rfl
     clear hm
     go_wp2
     go_roundg (s.length - (j + 1))
     case measure => omega
     case rel => exact ⟨j + 1, rfl, by omega, by go_num, by rw [HN.out], (fun k hk => by rcases Nat.lt_or_ge k j with h | h; exact hlow.out k h; rw [show k = j from by omega]; exact HL.out), rfl⟩
    ·
     rw [if_neg hm] at HN
     have hb : ¬ ((gb s j).toNat : Int) = 45 := fun e => hm (byte_ext (by have : (45 : UInt8).toNat = 45 := rfl; omega))
     clear hm
     go_wp2
     go_roundg (s.length - (j + 1))
     case measure => omega
     case rel => exact ⟨j + 1, rfl, by omega, by go_num, by rw [HN.out], (fun k hk => by rcases Nat.lt_or_ge k j with h | h; exact hlow.out k h; rw [show k = j from by omega]; exact HL.out), rfl⟩
  ·
   obtain rfl : j = s.length := by omega
   have HW := Lib.hid (wide_low hlow.out)
   obtain ⟨D, hD⟩ : ∃ D, D = dashN s s.length := ⟨_, rfl⟩
   rw [← hD] at hdr ⊢
   obtain ⟨D0, D1⟩ := hdr
   have hD' : D = dash s := hD
   have hbL : (0 < D ∧ ((dBase s).length : Int) = D) ∨ (D ≤ 0 ∧ (dBase s).length = 0) := by
    rw [hD']
    unfold dBase
    by_cases h : 0 < dash s
    · left; rw [if_pos h, List.length_take]; exact ⟨h, by omega⟩
    · right; rw [if_neg h]; exact ⟨by omega, rfl⟩
   have hbS : ∀ k, k < (dBase s).length → (dBase s)[k]? = some (gb s k) := by
    intro k hk
    have h2 : k < s.length := by
     rcases hbL with h | h <;> omega
    unfold dBase at hk ⊢
    split at hk
    ·
     rename_i h
     rw [if_pos h, List.getElem?_take, if_pos (by rw [List.length_take] at hk; omega)]
     exact gb_some h2
    · cases hk
   have HBS := Lib.hid hbS
   have HD := Lib.hid hD'
   clear hbS hD hD' hlow hj hlt
   go_wp2
   go_loopg [6, 7] ((dBase s).length) (fun m s6 s7 wr => ∃ j : Nat, m = (dBase s).length - j ∧ j ≤ (dBase s).length ∧ s7 = .int .i64 j ∧ wr.ownsRow w.heap.size 21 1 s6 j (runes (ints ((dBase s).take j))) ∧ Below w.heap.size w wr)
   case atStart => exact ⟨0, rfl, Nat.zero_le _, rfl, World.ownsRow_nil _ _ _ _, Below.refl _ _⟩
   case round =>
    obtain ⟨j, rfl, hj, rfl, hown, hbel⟩ := hrel
    have hq0 := hbel.size
    by_cases hjd : (j : Int) < D
    ·
     have hj1 : j < (dBase s).length := by rcases hbL with h | h <;> omega
     have hj2 : (j : Int) < (s.length : Int) := by rcases hbL with h | h <;> omega
     have hj0 : (0 : Int) ≤ (j : Int) := by omega
     have HS := Lib.hid (HBS.out j hj1)
     go_wp2_with (at_builtin; refine wpList_append_lit rfl _ _ _ rfl w.heap.size _ _ 1 4 Tryz.underlying127 info_i32u rfl (by decide) _ _ _ rfl hown _ 1 1 _ rfl rfl (by simp [Value.oneCell']) (by omega) (by decide) (by omega) ?_; intro A2 c2 w3 hc2 hm2 hown3 hb3 hg3)
     go_roundg ((dBase s).length - (j + 1))
     case measure => omega
     case rel =>
      refine ⟨j + 1, rfl, by omega, by go_num, own_as hown3 rfl ?_, hbel.trans hb3⟩
      obtain ⟨hjj, e⟩ := List.getElem?_eq_some_iff.1 HS.out
      rw [take_snoc' _ j hjj, e]
      have hw := IntWalk.wrap32_in ((gb s j).toNat : Int) (by have := byte_lt (gb s j); omega)
      simp [runes, ints, hw]
    ·
     obtain rfl : j = (dBase s).length := by rcases hbL with h | h <;> omega
     rw [List.take_length] at hown
     have hownS := own_as hown (ints_len _).symm rfl
     obtain ⟨A6, c6, rfl, hc6, hm6⟩ := own_shape hown
     clear hown hjd
     have hcase : D = -1 ∨ D = 0 ∨ 0 < D := by omega
     rcases hcase with rfl | rfl | hDp
     all_goals first
      |
       have HR := Lib.hid (show dRest s = dr s 0 from (if_neg (by rw [← HD.out]; decide)).trans rfl)
       go_wp2
       go_loopg [6, 8, 9, 10, 11] (s.length - 0) (fun m s6 s8 s9 s10 s11 wr => ∃ (p : Nat) (σ : DS), m = s.length - p ∧ p ≤ s.length ∧ s8 = .int .i64 p ∧ s9 = .int .i64 σ.n ∧ s10 = .int .i64 σ.i ∧ s11 = .int .i64 σ.bias ∧ Hid (σ.first = (σ.i == 0)) ∧ Hid (DB σ (s.length - p)) ∧ Hid (dec (dRest s) (dStart (ints (dBase s))) = dec (dr s p) σ) ∧ wr.ownsRow w.heap.size 21 1 s6 σ.out.length (runes σ.out) ∧ Below w.heap.size w wr)
       case atStart => exact ⟨0, dStart (ints (dBase s)), rfl, by omega, by first | rfl | go_num, rfl, rfl, rfl, rfl, by have h := start_DB (s := s) (by omega); rw [HR.out, dr_len] at h; exact h, by rw [HR.out]; exact rfl, hownS, hbel⟩
      |
       obtain ⟨n, rfl⟩ : ∃ n : Nat, D = (n : Int) := ⟨D.toNat, by omega⟩
       have HR := Lib.hid (show dRest s = dr s (n + 1) by unfold dRest; rw [← HD.out, if_pos hDp, Int.toNat_natCast]; rfl)
       have hmx : max (n : Int) (-1) = (n : Int) := by omega
       have hn0 : ((n : Int) == 0) = false := by rw [beq_eq_false_iff_ne]; omega
       have hnl : n < s.length := by
        have hd := HD.out
        rcases dashN_spec s s.length with ⟨h, _⟩ | ⟨i, hi, h, _⟩
        ·
         have h' : dash s = -1 := h
         omega
        ·
         have h' : dash s = i := h
         omega
       have hdn : decide ((dBase s).length < n) = false := by
        rw [decide_eq_false_iff_not]; rcases hbL with h | h <;> omega
       go_wp2
       clear hdn
       go_loopg [6, 8, 9, 10, 11] (s.length - (n + 1)) (fun m s6 s8 s9 s10 s11 wr => ∃ (p : Nat) (σ : DS), m = s.length - p ∧ p ≤ s.length ∧ s8 = .int .i64 p ∧ s9 = .int .i64 σ.n ∧ s10 = .int .i64 σ.i ∧ s11 = .int .i64 σ.bias ∧ Hid (σ.first = (σ.i == 0)) ∧ Hid (DB σ (s.length - p)) ∧ Hid (dec (dRest s) (dStart (ints (dBase s))) = dec (dr s p) σ) ∧ wr.ownsRow w.heap.size 21 1 s6 σ.out.length (runes σ.out) ∧ Below w.heap.size w wr)
       case atStart => exact ⟨(n + 1), dStart (ints (dBase s)), rfl, by omega, by first | rfl | go_num, rfl, rfl, rfl, rfl, by have h := start_DB (s := s) (by omega); rw [HR.out, dr_len] at h; exact h, by rw [HR.out]; exact rfl, hownS, hbel⟩
     all_goals
      case round =>
       obtain ⟨p, σ, rfl, hp, rfl, rfl, rfl, rfl, hfst, hdb, hrec, hown, hbel⟩ := hrel
       have hq0 := hbel.size
       obtain ⟨n0, n1, i0, i1, b0, b1, hl⟩ := hdb.out
       obtain ⟨A6, c6, rfl, hc6, hm6⟩ := own_shape hown
       by_cases hps : p < s.length
       ·
        have hps' : (p : Int) < (s.length : Int) := by omega
        go_wp2
        go_loopg [8, 10, 13, 14] (s.length - p) (fun m s8 s10 s13 s14 wi => ∃ (q : Nat) (k w1 nn I : Int), m = s.length - q ∧ s8 = .int .i64 q ∧ s10 = .int .i64 I ∧ s13 = .int .i64 w1 ∧ s14 = .int .i64 k ∧ p ≤ q ∧ q ≤ s.length ∧ Hid (I = σ.i + nn) ∧ 0 ≤ I ∧ σ.i ≤ I ∧ I ≤ 200 + 4 * w1 ∧ 0 ≤ nn ∧ nn ≤ 4 * w1 ∧ 1 ≤ w1 ∧ w1 ≤ 38482906972160 ∧ Hid (w1 = 1 ∨ w1 ≤ 35 * nn) ∧ 0 ≤ k ∧ k ≤ 36 + 36 * q ∧ Hid (rdNum (dr s p) 36 σ.bias 1 0 = rdNum (dr s q) k σ.bias w1 nn) ∧ wr = wi)
        case atStart => exact ⟨p, 36, 1, 0, σ.i, rfl, rfl, rfl, rfl, rfl, Nat.le_refl _, hp, (by omega : σ.i = σ.i + 0), by omega, by omega, by omega, by omega, by omega, by omega, by omega, .inl rfl, by omega, by omega, rfl, rfl⟩
        case round =>
         obtain ⟨q, k, w1, nn, I, rfl, rfl, rfl, rfl, rfl, hpq, hqs, hI, I0, I1, I2, nn0, nn1, w0, w9, hwn, k0, k1, hrd, rfl⟩ := hrel
         by_cases hqlt : q < s.length
         ·
          have hqlt' : (q : Int) < (s.length : Int) := by omega
          have hqn : ¬ (s.length : Int) ≤ (q : Int) := by omega
          have hqz : (0 : Int) ≤ (q : Int) := by omega
          have hd := digitOf_range (gb s q)
          have HN := Lib.hid (rdNum_at hqlt k σ.bias w1 nn)
          have CV := Lib.hid fun w => rdigit_any (gb s q) w
          obtain ⟨d, hde⟩ : ∃ d, d = digitOf (gb s q) := ⟨_, rfl⟩
          rw [← hde] at HN CV hd
          clear hde
          obtain ⟨d1, d2⟩ := hd
          by_cases hneg : d < 0
          ·
           rw [if_pos hneg] at HN
           have HD := Lib.hid (pdec_none (s := dr s p) (σ := σ) (by rw [dr_len]; omega) i0 n0 (by omega) fun D r h => by rw [hrd.out, HN.out] at h; cases h)
           have HU := Lib.hid (unpuny_is (by omega) HW.out)
           go_wp2_with (go_at_call 185; go_must (go_fit (CV.out _)); rintro e w2 ⟨rfl, rfl⟩)
           go_ret2
           rw [HU.out, hrec.out, HD.out]
           exact ⟨hbel, rfl⟩
          have hneg' : 0 ≤ d := by omega
          by_cases hbig : 1099511627776 < w1
          ·
           have HD := Lib.hid (pdec_none (s := dr s p) (σ := σ) (by rw [dr_len]; omega) i0 n0 (by omega) fun D r h => by
            rw [hrd.out] at h
            have h1 := rdNum_ge _ _ _ _ _ _ _ (by omega) h
            have h2 := hwn.out
            omega)
           have HU := Lib.hid (unpuny_is (by omega) HW.out)
           go_wp2_with (go_at_call 185; go_must (go_fit (CV.out _)); rintro e w2 ⟨rfl, rfl⟩)
           go_ret2
           rw [HU.out, hrec.out, HD.out]
           exact ⟨hbel, rfl⟩
          rw [if_neg hneg] at HN
          have P0 : 0 ≤ d * w1 := Int.mul_nonneg (by omega) (by omega)
          have P1 : d * w1 ≤ 35 * w1 := Int.mul_le_mul_of_nonneg_right (by omega) (by omega)
          have hdv : d ≤ (1125899906842624 - I) / w1 := Int.le_ediv_of_mul_le (by omega) (by omega)
          have hdv2 : (1125899906842624 - I) / w1 ≤ 1125899906842624 - I := Int.ediv_le_self _ (by omega)
          have hdt : (1125899906842624 - I).tdiv w1 = (1125899906842624 - I) / w1 := Int.tdiv_eq_ediv_of_nonneg (by omega)
          have hw0 : (w1 == 0) = false := by rw [beq_eq_false_iff_ne]; omega
          have hnlt : ¬ (1125899906842624 - I) / w1 < d := by omega
          have he := edge_range k σ.bias
          have CB := Lib.hid fun w => redge_any k σ.bias w (by omega) (by omega) (by omega) (by omega)
          obtain ⟨tt, hte⟩ : ∃ tt, tt = edge k σ.bias := ⟨_, rfl⟩
          rw [← hte] at HN CB he
          clear hte
          obtain ⟨e1, e2⟩ := he
          obtain ⟨J, hJ⟩ : ∃ J, J = I + d * w1 := ⟨_, rfl⟩
          have HJ := Lib.hid hJ
          have J0 : 0 ≤ J := by omega
          have J1 : σ.i ≤ J := by omega
          have J2 : J ≤ 200 + 39 * w1 := by omega
          have hJs := hJ.symm
          by_cases hlt : d < tt
          ·
           rw [if_pos hlt] at HN
           have HM := Lib.hid (hrd.out.trans HN.out)
           have hDD : nn + d * w1 = J - σ.i := by have := hI.out; omega
           rw [hDD] at HM
           clear hDD hJ
           have q0 : 0 ≤ J / ((σ.out.length : Int) + 1) := Int.ediv_nonneg (by omega) (by omega)
           have q1 : J / ((σ.out.length : Int) + 1) ≤ J := Int.ediv_le_self _ (by omega)
           have r0 : 0 ≤ J % ((σ.out.length : Int) + 1) := Int.emod_nonneg _ (by omega)
           have r1 : J % ((σ.out.length : Int) + 1) < (σ.out.length : Int) + 1 := Int.emod_lt_of_pos _ (by omega)
           have t1 : J.tmod ((σ.out.length : Int) + 1) = J % ((σ.out.length : Int) + 1) := Int.tmod_eq_emod_of_nonneg (by omega)
           have t2 : J.tdiv ((σ.out.length : Int) + 1) = J / ((σ.out.length : Int) + 1) := Int.tdiv_eq_ediv_of_nonneg (by omega)
           have z0 : (((σ.out.length : Int) + 1) == 0) = false := by rw [beq_eq_false_iff_ne]; omega
           have CA := Lib.hid fun w => radapt_any (J - σ.i) ((σ.out.length : Int) + 1) (σ.i == 0) w (by omega) (by omega) (by omega) (by omega)
           have HID := Lib.hid (by omega : σ.i + (J - σ.i) = J)
           obtain ⟨X, hX⟩ : ∃ X, X = σ.n + J / ((σ.out.length : Int) + 1) := ⟨_, rfl⟩
           have HX := Lib.hid hX
           have HXn := Lib.hid (show (dNext σ (J - σ.i)).n = X by unfold dNext; simp only []; rw [HID.out, HX.out])
           have X0 : 0 ≤ X := by omega
           have X1 : X ≤ 200000000000000 := by omega
           have hXw := hX.symm
           clear hX
           by_cases htop : 1114111 < X
           ·
            have HD := Lib.hid (pdec_stuck (s := dr s p) (σ := σ) (by rw [dr_len]; omega) HM.out (show dStep σ (J - σ.i) = none from if_neg fun h => by have h1 := h.1; rw [HXn.out] at h1; omega))
            have HU := Lib.hid (unpuny_is (by omega) HW.out)
            go_wp2_with (first | (go_at_call 185; go_must (go_fit (CV.out _)); rintro e w2 ⟨rfl, rfl⟩) | (go_at_call 163; go_must (go_fit (CB.out _)); rintro e w2 ⟨rfl, rfl⟩) | (go_at_call 164; go_must (go_fit (CA.out _)); rintro e w2 ⟨rfl, rfl⟩))
            go_ret2
            rw [HU.out, hrec.out, HD.out]
            exact ⟨hbel, rfl⟩
           have CS := Lib.hid fun w => short_any X w
           by_cases hcp : cpOk X = true
           ·
            have hs0 : shortN X = cpSize X := by unfold shortN; rw [if_pos hcp]
            rw [hs0] at CS
            have hsz1 := cpSize_le X
            have hz0 : ((cpSize X : Int) == 0) = false := by rw [beq_eq_false_iff_ne]; omega
            clear hs0
            by_cases h63 : 63 ≤ σ.out.length
            ·
             have h63' : (63 : Int) ≤ (σ.out.length : Int) := by omega
             have HD := Lib.hid (dec_full (t := dr s p) (σ := σ) h63 (by rw [dr_len]; omega))
             have HU := Lib.hid (unpuny_is (by omega) HW.out)
             go_wp2_with (first | (go_at_call 185; go_must (go_fit (CV.out _)); rintro e w2 ⟨rfl, rfl⟩) | (go_at_call 163; go_must (go_fit (CB.out _)); rintro e w2 ⟨rfl, rfl⟩) | (go_at_call 164; go_must (go_fit (CA.out _)); rintro e w2 ⟨rfl, rfl⟩) | (go_at_call 159; go_must (go_fit (CS.out _)); rintro e w2 ⟨rfl, rfl⟩))
             go_ret2
             rw [HU.out, hrec.out]
             refine ⟨hbel, ?_⟩
             rw [show (dec (dr s p) σ).bind (fun l => if l.length ≤ 63 then some l else none) = none from HD.out]
             rfl
            ·
             have h63' : ¬ (63 : Int) ≤ (σ.out.length : Int) := by omega
             have HD0 : dStep σ (J - σ.i) = some (dNext σ (J - σ.i)) := if_pos ⟨by rw [HXn.out]; omega, by rw [HXn.out]; exact hcp⟩
             have HD := Lib.hid (pdec_go (s := dr s p) (σ := σ) (by rw [dr_len]; omega) HM.out HD0)
             have HB := Lib.hid (hdb.out.step (L' := s.length - (q + 1)) (by omega) HD0 (by omega))
             clear hcp HD0
             obtain ⟨R, hR⟩ : ∃ R : Nat, (R : Int) = J % ((σ.out.length : Int) + 1) := ⟨(J % ((σ.out.length : Int) + 1)).toNat, by omega⟩
             rw [← hR] at r0 r1
             have hRl : R ≤ σ.out.length := by omega
             have HRR := Lib.hid hR
             have HO := Lib.hid (show (dNext σ (J - σ.i)).out = σ.out.take R ++ X :: σ.out.drop R by rw [HX.out]; unfold dNext; simp only []; rw [HID.out, ← hR, Int.toNat_natCast])
             have hRs := hR.symm
             clear hR
             go_wp2_with (first | (go_at_call 185; go_must (go_fit (CV.out _)); rintro e w2 ⟨rfl, rfl⟩) | (go_at_call 163; go_must (go_fit (CB.out _)); rintro e w2 ⟨rfl, rfl⟩) | (go_at_call 164; go_must (go_fit (CA.out _)); rintro e w2 ⟨rfl, rfl⟩) | (go_at_call 159; go_must (go_fit (CS.out _)); rintro e w2 ⟨rfl, rfl⟩))
             have hRc : R ≤ c6 := by omega
             have hRi : (R : Int) ≤ (c6 : Int) := by omega
             have hRn : (R : Int) ≤ (σ.out.length : Int) := by omega
             have hR0 : (0 : Int) ≤ (R : Int) := by omega
             have hX32 : IntKind.i32.wrap X = X := by rw [IntKind.wrap_i32]; omega
             have hlo : σ.out.length ≤ 200 := by omega
             have hA0 := own_nil hown
             have hrow := Rd.own hown
             have htl : ((runes σ.out).take R).length = R * 1 := by rw [List.length_take, runes_len]; omega
             have hdl : ((runes σ.out).drop R).length = (σ.out.length - R) * 1 := by rw [List.length_drop, runes_len]; omega
             have hone : ∀ u ∈ runes σ.out, u.oneCell' = true := runes_one _
             have hmade1 : (wr.alloc (.cells #[] 21)).ownsRow wr.heap.size 21 1 (.slice (some ⟨wr.heap.size, 0, none⟩) 0 0) 0 [] := World.ownsRow_made wr #[] 0 (Nat.le_refl _) (Nat.zero_le _) rfl
             have hmade2 : ((wr.alloc (.cells #[] 21)).alloc (.cells #[.int .i32 X] 21)).ownsRow wr.heap.size 21 1 (.slice (some ⟨wr.heap.size, 0, none⟩) 0 0) 0 [] := hmade1.alloc _
             have hmade3 : ((wr.alloc (.cells #[.int .i32 X] 21)).alloc (.cells #[] 21)).ownsRow wr.heap.size 21 1 (.slice (some ⟨wr.heap.size + 1, 0, none⟩) 0 0) 0 [] := by
              have h := World.ownsRow_made (base := wr.heap.size) (e := 21) (size := 1) (wr.alloc (.cells #[.int .i32 X] 21)) #[] 0 (by simp) (Nat.zero_le _) rfl
              simpa using h
             have hx2 : ((wr.alloc (.cells #[] 21)).alloc (.cells #[.int .i32 X] 21)).heap[wr.heap.size + 1]? = some (.cells #[.int .i32 X] 21 (0, 0)) := by
              have h := heap_alloc_new (wr.alloc (.cells #[] 21)) (.cells #[.int .i32 X] 21)
              simpa using h
             have hx3 : ((wr.alloc (.cells #[.int .i32 X] 21)).alloc (.cells #[] 21)).heap[wr.heap.size]? = some (.cells #[.int .i32 X] 21 (0, 0)) := by
              rw [heap_alloc_old _ _ (by simp)]
              exact heap_alloc_new wr _
             have hrow1 := hrow.alloc (Nat.le_refl _) (.cells #[] 21)
             have hrow2 := hrow1.alloc (by simp) (.cells #[.int .i32 X] 21)
             have hrow3 := (hrow.alloc (Nat.le_refl _) (.cells #[.int .i32 X] 21)).alloc (by simp) (.cells #[] 21)
             have hbel1 := hbel.alloc hq0 (.cells #[] 21)
             have hbel2 := hbel1.alloc (by simp; omega) (.cells #[.int .i32 X] 21)
             have hbel3 := (hbel.alloc hq0 (.cells #[.int .i32 X] 21)).alloc (by simp; omega) (.cells #[] 21)
             have HM1 := Lib.hid (And.intro hmade1 (And.intro hrow1 hbel1))
             have HM2 := Lib.hid (And.intro hmade2 (And.intro hrow2 (And.intro hbel2 hx2)))
             have HM3 := Lib.hid (And.intro hmade3 (And.intro hrow3 (And.intro hbel3 hx3)))
             have HS1 := Lib.hid (And.intro htl (And.intro hdl (And.intro hone hA0)))
             have hnn9 : (if c6 = R then A6 else A6.map (·.add R)) = none → σ.out.length - R = 0 ∧ c6 - R = 0 := by
              intro h
              split at h
              · omega
              ·
               have h2 : A6 = none := by cases hA : A6 with
                | none => rfl
                | some a => rw [hA] at h; cases h
               have := hA0 h2
               omega
             have HNN := Lib.hid hnn9
             have HSI := Lib.hid (show Value.int .i64 ((R : Int) + 1) = .int .i64 (dNext σ (J - σ.i)).i by unfold dNext; simp only []; rw [HID.out, HRR.out])
             have HF2 := Lib.hid (show (dNext σ (J - σ.i)).first = ((dNext σ (J - σ.i)).i == 0) by
              have e : (dNext σ (J - σ.i)).i = (R : Int) + 1 := by unfold dNext; simp only []; rw [HID.out, HRR.out]
              rw [e, beq_eq_false_iff_ne.2 (by omega)]; rfl)
             have HBL := Lib.hid hbel
             clear hmade1 hmade2 hmade3 hx2 hx3 hrow hrow1 hrow2 hrow3 hbel1 hbel2 hbel3 htl hdl hone hA0 hnn9
             go_region_law (first
              | (refine step_append_any rfl _ _ _ rfl wr.heap.size _ _ 1 4 Tryz.underlying127 info_i32u rfl (by decide) _ 0 [] rfl HM1.out.1 A6 R c6 ((runes σ.out).take R) rfl HS1.out.1 (fun h => by have := HS1.out.2.2.2 h; omega) (rd_any (HM1.out.2.1.take R)) (fun u hu => HS1.out.2.2.1 u (List.mem_of_mem_take hu)) (by omega) (by decide) (by simp) ?_; intro A7 c7 w7 hc7 hm7 hown7 hb7 hg7; have hq7 : wr.heap.size ≤ w7.heap.size := Nat.le_trans (by simp) hb7.size; simp only [Nat.zero_add, List.nil_append] at hown7 hc7; have hrow7 := Lib.hid ((HM1.out.2.1.drew.below hb7).alloc hq7 (.cells #[.int .i32 X] 21)); have HB7 := Lib.hid ((HM1.out.2.2.drew.trans (hb7.mono hq0)).alloc (Nat.le_trans hq0 hq7) (.cells #[.int .i32 X] 21)); clear hg7 hb7)
              | (refine step_append_any rfl _ _ _ rfl wr.heap.size _ _ 1 4 Tryz.underlying127 info_i32u rfl (by decide) _ 0 [] rfl HM2.out.1 A6 R c6 ((runes σ.out).take R) rfl HS1.out.1 (fun h => by have := HS1.out.2.2.2 h; omega) (rd_any (HM2.out.2.1.take R)) (fun u hu => HS1.out.2.2.1 u (List.mem_of_mem_take hu)) (by omega) (by decide) (by simp; omega) ?_; intro A7 c7 w7 hc7 hm7 hown7 hb7 hg7; have hq7 : wr.heap.size ≤ w7.heap.size := Nat.le_trans (by simp; omega) hb7.size; simp only [Nat.zero_add, List.nil_append] at hown7 hc7; have hrow7 := Lib.hid (HM2.out.2.1.drew.below hb7); have HB7 := Lib.hid (HM2.out.2.2.1.drew.trans (hb7.mono hq0)); have HX7 := Lib.hid ((hg7.block (wr.heap.size + 1) (by simp) (fun e => by have e2 : some (wr.heap.size + 1) = some wr.heap.size := e; injection e2 with e2; omega)).trans HM2.out.2.2.2); clear hg7 hb7)
              | (refine step_append_any rfl _ _ _ rfl wr.heap.size _ _ 1 4 Tryz.underlying127 info_i32u rfl (by decide) _ 0 [] rfl HM3.out.1 A6 R c6 ((runes σ.out).take R) rfl HS1.out.1 (fun h => by have := HS1.out.2.2.2 h; omega) (rd_any (HM3.out.2.1.take R)) (fun u hu => HS1.out.2.2.1 u (List.mem_of_mem_take hu)) (by omega) (by decide) (by simp; omega) ?_; intro A7 c7 w7 hc7 hm7 hown7 hb7 hg7; have hq7 : wr.heap.size ≤ w7.heap.size := Nat.le_trans (by simp; omega) hb7.size; simp only [Nat.zero_add, List.nil_append] at hown7 hc7; have hrow7 := Lib.hid (HM3.out.2.1.drew.below hb7); have HB7 := Lib.hid (HM3.out.2.2.1.drew.trans (hb7.mono hq0)); have HX7 := Lib.hid ((hg7.block wr.heap.size (by simp; omega) (fun e => by have e2 : some wr.heap.size = some (wr.heap.size + 1) := e; injection e2 with e2; omega)).trans HM3.out.2.2.2); clear hg7 hb7)
              | (refine step_append_cells rfl _ _ _ rfl wr.heap.size _ _ 1 4 Tryz.underlying127 info_i32u rfl (by decide) _ _ _ rfl (hown7.alloc _) w7.heap.size #[.int .i32 X] 1 1 21 (0, 0) rfl (heap_alloc_new w7 _) rfl (by simp [Value.oneCell']) (by omega) (by decide) (by simp; omega) ?_; intro A8 c8 w8 hc8 hm8 hown8 hb8 hg8; have hq8 : wr.heap.size ≤ w8.heap.size := Nat.le_trans (by simp; omega) hb8.size; have hrow8 := Lib.hid (hrow7.out.below hb8); have HB8 := Lib.hid (HB7.out.trans (hb8.mono hq0)); clear hg8 hb8)
              | (refine step_append_cells rfl _ _ _ rfl wr.heap.size _ _ 1 4 Tryz.underlying127 info_i32u rfl (by decide) _ _ _ rfl hown7 _ #[.int .i32 X] 1 1 21 (0, 0) rfl HX7.out rfl (by simp [Value.oneCell']) (by omega) (by decide) hq7 ?_; intro A8 c8 w8 hc8 hm8 hown8 hb8 hg8; have hq8 : wr.heap.size ≤ w8.heap.size := Nat.le_trans hq7 hb8.size; have hrow8 := Lib.hid (hrow7.out.below hb8); have HB8 := Lib.hid (HB7.out.trans (hb8.mono hq0)); clear hg8 hb8)
              | (refine step_append_any rfl _ _ _ rfl wr.heap.size _ _ 1 4 Tryz.underlying127 info_i32u rfl (by decide) _ _ _ rfl hown8 (if c6 = R then A6 else A6.map (·.add R)) (σ.out.length - R) (c6 - R) ((runes σ.out).drop R) rfl HS1.out.2.1 HNN.out (rd_any (hrow8.out.drop (by rw [runes_len]; exact hc6))) (fun u hu => HS1.out.2.2.1 u (List.mem_of_mem_drop hu)) (by omega) (by decide) hq8 ?_; intro A9 c9 w9 hc9 hm9 hown9 hb9 hg9; have HB9 := Lib.hid (HB8.out.trans (hb9.mono hq0)); have hq9 : wr.heap.size ≤ w9.heap.size := Nat.le_trans hq8 hb9.size; clear hg9 hb9))
             all_goals go_wp2
             all_goals go_roundg (s.length - (q + 1))
             all_goals
              first
              | (case measure => omega)
              | (case rel => exact ⟨q + 1, dNext σ (J - σ.i), rfl, by omega, by go_num, by rw [HXn.out], HSI.out, by rw [show (dNext σ (J - σ.i)).bias = pAdapt (J - σ.i) ((σ.out.length : Int) + 1) σ.first from rfl, hfst.out], HF2.out, HB.out, hrec.out.trans HD.out, own_base (own_as hown9 (by rw [HO.out, List.length_append, List.length_cons, List.length_take, List.length_drop]; omega) (by rw [HO.out]; simp [runes])) hq0, HB9.out⟩)
           ·
            have hcp := Bool.eq_false_iff.2 hcp
            have HD := Lib.hid (pdec_stuck (s := dr s p) (σ := σ) (by rw [dr_len]; omega) HM.out (show dStep σ (J - σ.i) = none from if_neg fun h => by have h2 := h.2; rw [HXn.out, hcp] at h2; cases h2))
            have HU := Lib.hid (unpuny_is (by omega) HW.out)
            have hs0 : shortN X = 0 := by unfold shortN; rw [if_neg (by rw [hcp]; decide)]
            rw [hs0, show ((0 : Nat) : Int) = 0 from rfl] at CS
            clear hs0 hcp
            go_wp2_with (first | (go_at_call 185; go_must (go_fit (CV.out _)); rintro e w2 ⟨rfl, rfl⟩) | (go_at_call 163; go_must (go_fit (CB.out _)); rintro e w2 ⟨rfl, rfl⟩) | (go_at_call 164; go_must (go_fit (CA.out _)); rintro e w2 ⟨rfl, rfl⟩) | (go_at_call 159; go_must (go_fit (CS.out _)); rintro e w2 ⟨rfl, rfl⟩))
            go_ret2
            rw [HU.out, hrec.out, HD.out]
            exact ⟨hbel, rfl⟩
          ·
           rw [if_neg hlt] at HN
           clear hJ
           have m0 : w1 * 10 ≤ w1 * (36 - tt) := Int.mul_le_mul_of_nonneg_left (by omega) (by omega)
           have m1 : w1 * (36 - tt) ≤ w1 * 35 := Int.mul_le_mul_of_nonneg_left (by omega) (by omega)
           have m2 : 1 * w1 ≤ d * w1 := Int.mul_le_mul_of_nonneg_right (by omega) (by omega)
           go_wp2_with (first | (go_at_call 185; go_must (go_fit (CV.out _)); rintro e w2 ⟨rfl, rfl⟩) | (go_at_call 163; go_must (go_fit (CB.out _)); rintro e w2 ⟨rfl, rfl⟩))
           go_roundg (s.length - (q + 1))
           case measure => omega
           case rel => exact ⟨q + 1, k + 36, w1 * (36 - tt), nn + d * w1, J, rfl, by go_num, rfl, rfl, by go_num, by omega, by omega, by have := hI.out; have := HJ.out; exact (by omega : J = σ.i + (nn + d * w1)), by omega, by omega, by omega, by omega, by omega, by omega, by omega, .inr (by omega), by omega, by omega, hrd.out.trans HN.out, rfl⟩
         ·
          have hqe : (s.length : Int) ≤ (q : Int) := by omega
          have HD := Lib.hid (pdec_none (s := dr s p) (σ := σ) (by rw [dr_len]; omega) i0 n0 (by omega) fun D r h => by rw [hrd.out, rdNum_end hqlt] at h; cases h)
          have HU := Lib.hid (unpuny_is (by omega) HW.out)
          go_wp2
          go_ret2
          rw [HU.out, hrec.out, HD.out]
          exact ⟨hbel, rfl⟩
       ·
        have hps' : ¬ (p : Int) < (s.length : Int) := by omega
        have HT := Lib.hid (show dr s p = [] from List.drop_eq_nil_of_le (by omega))
        have HU := Lib.hid (unpuny_is (by omega) HW.out)
        by_cases h63 : 63 < σ.out.length
        ·
         have h63' : (63 : Int) < (σ.out.length : Int) := by omega
         have HF := Lib.hid (if_neg (by omega) : (if σ.out.length ≤ 63 then some σ.out else none) = none)
         go_wp2
         go_ret2
         rw [HU.out, hrec.out, HT.out, dec_nil, Option.bind_some, HF.out]
         exact ⟨hbel, rfl⟩
        ·
         have h63' : ¬ (63 : Int) < (σ.out.length : Int) := by omega
         have HF := Lib.hid (if_pos (by omega) : (if σ.out.length ≤ 63 then some σ.out else none) = some σ.out)
         go_wp2
         go_ret2
         rw [HU.out, hrec.out, HT.out, dec_nil, Option.bind_some, HF.out]
         exact ⟨hbel, _, rfl, hown⟩
end Go.Proofs.YtoapelcofjjdnaaGreatDoor
