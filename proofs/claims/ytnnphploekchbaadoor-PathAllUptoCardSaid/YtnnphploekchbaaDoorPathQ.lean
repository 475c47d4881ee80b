/- Ways: what the statements of layer 10 say of them: plain. -/
import Derived.Test.YtnnphploekchbaaDoorPathP
namespace Go.Proofs.YtnnphploekchbaaDoor
set_option linter.all false

theorem in4_dot : ∀ n, n < 256 → pIn 4 (UInt8.ofNat n) = true → ¬ (lowB (hexU (n / 16)) = 50 ∧ lowB (hexU (n % 16)) = 101) ∧ lowB (UInt8.ofNat n) ≠ 37 ∧ UInt8.ofNat n ≠ 46 ∧ lowB (UInt8.ofNat n) ≠ 50 ∧ lowB (UInt8.ofNat n) ≠ 101 := by decide +kernel
theorem in4 {c : UInt8} (h : pIn 4 c = true) : ¬ (lowB (hexU (c.toNat / 16)) = 50 ∧ lowB (hexU (c.toNat % 16)) = 101) ∧ lowB c ≠ 37 ∧ c ≠ 46 ∧ lowB c ≠ 50 ∧ lowB c ≠ 101 := by
  have := in4_dot c.toNat (byte_lt c)
  rw [UInt8.ofNat_toNat] at this
  exact this h
theorem enc4_yes {c : UInt8} (h : pIn 4 c = true) (t : List UInt8) : pEnc 4 (c :: t) = 37 :: hexU (c.toNat / 16) :: hexU (c.toNat % 16) :: pEnc 4 t := by
  rw [pEnc_cons]; unfold pEnc1; rw [if_neg (fun e => absurd e.1 (by decide)), if_pos h]; rfl
theorem enc4_no {c : UInt8} (h : pIn 4 c = false) (t : List UInt8) : pEnc 4 (c :: t) = c :: pEnc 4 t := by
  rw [pEnc_cons]; unfold pEnc1; rw [if_neg (fun e => absurd e.1 (by decide)), if_neg (by rw [h]; decide)]; rfl
theorem dot3_of {a b c : UInt8} {t : List UInt8} (h1 : lowB a = 37) (h2 : lowB b = 50) (h3 : lowB c = 101) : dot3 (a :: b :: c :: t) = true :=
  decide_eq_true (by simp [lows, h1, h2, h3])
/-- A byte that was not written with a sign of its own stands at the front of what is written. -/
theorem enc4_head {x r : List UInt8} {b : UInt8} (h : pEnc 4 x = b :: r) (hb : lowB b ≠ 37) : ∃ t, x = b :: t ∧ r = pEnc 4 t := by
  cases x with
  | nil => cases h
  | cons c t =>
    cases hc : pIn 4 c with
    | true => rw [enc4_yes hc] at h; injection h with h _; rw [← h] at hb; exact absurd rfl hb
    | false => rw [enc4_no hc] at h; injection h with h1 h2; exact ⟨t, by rw [h1], h2.symm⟩
theorem dot3_enc {x : List UInt8} : dot3 (pEnc 4 x) = dot3 x := by
  rw [Bool.eq_iff_iff]
  constructor
  · intro h
    obtain ⟨a, b, c, t, e, h1, h2, h3⟩ := three h
    cases x with
    | nil => cases e
    | cons y x =>
      cases hy : pIn 4 y with
      | true =>
        rw [enc4_yes hy] at e
        injection e with e1 e; injection e with e2 e; injection e with e3 e
        exact absurd ⟨by rw [e2]; exact h2, by rw [e3]; exact h3⟩ (in4 hy).1
      | false =>
        rw [enc4_no hy] at e
        injection e with e1 e
        obtain ⟨t1, rfl, e5⟩ := enc4_head e (by rw [h2]; decide)
        obtain ⟨t2, rfl, _⟩ := enc4_head e5.symm (by rw [h3]; decide)
        rw [e1]
        exact dot3_of h1 h2 h3
  · intro h
    obtain ⟨a, b, c, t, rfl, h1, h2, h3⟩ := three h
    have ha : pIn 4 a = false := by cases hh : pIn 4 a with | false => rfl | true => exact absurd h1 (in4 hh).2.1
    have hb : pIn 4 b = false := by cases hh : pIn 4 b with | false => rfl | true => exact absurd h2 (in4 hh).2.2.2.1
    have hc : pIn 4 c = false := by cases hh : pIn 4 c with | false => rfl | true => exact absurd h3 (in4 hh).2.2.2.2
    rw [enc4_no ha, enc4_no hb, enc4_no hc]
    exact dot3_of h1 h2 h3
theorem dotN_enc (m : Nat) : ∀ (x : List UInt8), x.length ≤ m → dotN (pEnc 4 x) = dotN x := by
  induction m with
  | zero =>
    intro x h
    rw [List.eq_nil_of_length_eq_zero (by omega : x.length = 0)]; rfl
  | succ m ih =>
    intro x h
    cases x with
    | nil => rfl
    | cons c t =>
      by_cases hc : c = 46
      · subst hc
        rw [enc4_no (by decide), dotN_dot, dotN_dot, ih t (by simp at h; omega)]
      · cases h3 : dot3 (c :: t) with
        | true =>
          have h3' : dot3 (pEnc 4 (c :: t)) = true := dot3_enc.trans h3
          rw [dotN_esc h3, dotN_esc h3']
          obtain ⟨a, b, d, r, e, q1, q2, q3⟩ := three h3
          have ha : pIn 4 a = false := by cases hh : pIn 4 a with | false => rfl | true => exact absurd q1 (in4 hh).2.1
          have hb : pIn 4 b = false := by cases hh : pIn 4 b with | false => rfl | true => exact absurd q2 (in4 hh).2.2.2.1
          have hd : pIn 4 d = false := by cases hh : pIn 4 d with | false => rfl | true => exact absurd q3 (in4 hh).2.2.2.2
          rw [e, enc4_no ha, enc4_no hb, enc4_no hd]
          show (dotN (pEnc 4 r)).map _ = (dotN r).map _
          rw [ih r (by rw [e] at h; simp at h; omega)]
        | false =>
          have h3' : dot3 (pEnc 4 (c :: t)) = false := dot3_enc.trans h3
          rw [dotN_none hc h3]
          cases hi : pIn 4 c with
          | true => rw [enc4_yes hi] at h3' ⊢; exact dotN_none (by decide) h3'
          | false => rw [enc4_no hi] at h3' ⊢; exact dotN_none hc h3'
theorem pSingle_enc (x : List UInt8) : pSingle (pEnc 4 x) = pSingle x := by unfold pSingle; rw [dotN_enc _ x (Nat.le_refl _)]
theorem pDouble_enc (x : List UInt8) : pDouble (pEnc 4 x) = pDouble x := by unfold pDouble; rw [dotN_enc _ x (Nat.le_refl _)]
theorem hexU_way : ∀ n, n < 16 → hexU n ≠ 47 ∧ hexU n ≠ 92 := by decide
theorem enc4_mem {b : UInt8} (hb : b = 47 ∨ b = 92) : ∀ (x : List UInt8), b ∈ pEnc 4 x → b ∈ x := by
  intro x
  induction x with
  | nil => intro h; cases h
  | cons c t ih =>
    intro h
    cases hc : pIn 4 c with
    | true =>
      rw [enc4_yes hc] at h
      have h1 := hexU_way (c.toNat / 16) (by have := byte_lt c; omega)
      have h2 := hexU_way (c.toNat % 16) (by omega)
      rcases List.mem_cons.1 h with h | h
      · rcases hb with rfl | rfl <;> exact absurd h (by decide)
      rcases List.mem_cons.1 h with h | h
      · rcases hb with rfl | rfl
        · exact absurd h.symm h1.1
        · exact absurd h.symm h1.2
      rcases List.mem_cons.1 h with h | h
      · rcases hb with rfl | rfl
        · exact absurd h.symm h2.1
        · exact absurd h.symm h2.2
      · exact List.mem_cons_of_mem _ (ih h)
    | false =>
      rw [enc4_no hc] at h
      rcases List.mem_cons.1 h with h | h
      · rw [h]; simp
      · exact List.mem_cons_of_mem _ (ih h)

/-- A segment of a way that was parsed. -/
structure Seg (special : Bool) (y : List UInt8) : Prop where
  single : pSingle y = false
  double : pDouble y = false
  stroke : (47 : UInt8) ∉ y
  back : special = true → (92 : UInt8) ∉ y
  enc : pEnc 4 y = y
theorem Seg.nil (sp : Bool) : Seg sp [] := ⟨rfl, rfl, by simp, fun _ => by simp, rfl⟩
theorem Seg.of {sp : Bool} {x : List UInt8} (h1 : pSingle x = false) (h2 : pDouble x = false) (h3 : (47 : UInt8) ∉ x) (h4 : sp = true → (92 : UInt8) ∉ x) : Seg sp (pEnc 4 x) :=
  ⟨(pSingle_enc x).trans h1, (pDouble_enc x).trans h2, fun h => h3 (enc4_mem (.inl rfl) x h), fun e h => h4 e (enc4_mem (.inr rfl) x h), pEnc_id (k := 4) (by decide) _ (pEnc_out (by decide) x)⟩
def Piece (sp : Bool) (x : List UInt8) : Prop := (47 : UInt8) ∉ x ∧ (sp = true → (92 : UInt8) ∉ x)
theorem pCut_pieces (sp : Bool) (s : List UInt8) : ∀ x ∈ pCut sp s, Piece sp x := by
  intro x hx
  obtain ⟨h1, h2⟩ := cuts_mem 47 _ x hx
  refine ⟨h1, fun e h => ?_⟩
  subst e
  have h3 := h2 _ h
  unfold slash at h3
  rw [if_pos rfl] at h3
  obtain ⟨c, _, e⟩ := List.mem_map.1 h3
  split at e
  · exact absurd e (by decide)
  · rename_i h; exact h e
theorem pNext_seg {sp : Bool} {out : List (List UInt8)} {x : List UInt8} (ho : ∀ y ∈ out, Seg sp y) (hx : Piece sp x) : ∀ y ∈ pNext out x, Seg sp y := by
  intro y hy
  unfold pNext at hy
  split at hy
  · exact ho y (List.dropLast_subset _ hy)
  · split at hy
    · exact ho y hy
    · rename_i h1 h2
      rcases List.mem_append.1 hy with hy | hy
      · exact ho y hy
      · rw [List.mem_singleton.1 hy]
        exact Seg.of (by simpa using h2) (by simpa using h1) hx.1 hx.2
theorem pLast_seg {sp : Bool} {out : List (List UInt8)} {x : List UInt8} (ho : ∀ y ∈ out, Seg sp y) (hx : Piece sp x) : ∀ y ∈ pLast out x, Seg sp y := by
  intro y hy
  unfold pLast at hy
  split at hy
  · rcases List.mem_append.1 hy with hy | hy
    · exact ho y (List.dropLast_subset _ hy)
    · rw [List.mem_singleton.1 hy]; exact Seg.nil sp
  · split at hy
    · rcases List.mem_append.1 hy with hy | hy
      · exact ho y hy
      · rw [List.mem_singleton.1 hy]; exact Seg.nil sp
    · rename_i h1 h2
      rcases List.mem_append.1 hy with hy | hy
      · exact ho y hy
      · rw [List.mem_singleton.1 hy]
        exact Seg.of (by simpa using h2) (by simpa using h1) hx.1 hx.2
theorem pGo_seg {sp : Bool} : ∀ (l out : List (List UInt8)), (∀ y ∈ out, Seg sp y) → (∀ x ∈ l, Piece sp x) → ∀ y ∈ pGo out l, Seg sp y := by
  intro l
  induction l with
  | nil => intro out ho _; exact ho
  | cons x l ih =>
    intro out ho hl
    cases l with
    | nil => exact pLast_seg ho (hl x (by simp))
    | cons z r => exact ih _ (pNext_seg ho (hl x (by simp))) (fun w hw => hl w (List.mem_cons_of_mem _ hw))
theorem pLast_ne (out : List (List UInt8)) (x : List UInt8) : pLast out x ≠ [] := by
  unfold pLast
  split
  · simp
  · split <;> simp
theorem pGo_ne : ∀ (l out : List (List UInt8)), l ≠ [] → pGo out l ≠ [] := by
  intro l
  induction l with
  | nil => intro out h; exact absurd rfl h
  | cons x l ih =>
    intro out _
    cases l with
    | nil => exact pLast_ne out x
    | cons z r => exact ih _ (by simp)
theorem pParse_ne (s : List UInt8) (sp : Bool) (base : List (List UInt8)) : pParse s sp base ≠ [] := pGo_ne _ _ (cuts_ne _ _)
theorem pParse_seg (s : List UInt8) (sp : Bool) : ∀ y ∈ pParse s sp [], Seg sp y := pGo_seg _ _ (fun y hy => by cases hy) (pCut_pieces sp s)
theorem pGo_segs {sp : Bool} : ∀ (l out : List (List UInt8)), (∀ y ∈ l, Seg sp y) → pGo out l = out ++ l := by
  intro l
  induction l with
  | nil => intro out _; simp [pGo]
  | cons x l ih =>
    intro out hl
    have h := hl x (by simp)
    have e1 : pLast out x = out ++ [x] := by unfold pLast; rw [if_neg (by rw [h.double]; decide), if_neg (by rw [h.single]; decide), h.enc]
    have e2 : pNext out x = out ++ [x] := by unfold pNext; rw [if_neg (by rw [h.double]; decide), if_neg (by rw [h.single]; decide), h.enc]
    cases l with
    | nil => exact e1
    | cons z r =>
      show pGo (pNext out x) (z :: r) = _
      rw [e2, ih _ (fun y hy => hl y (List.mem_cons_of_mem _ hy)), List.append_assoc]; rfl
theorem pShow_join {l : List (List UInt8)} (h : l ≠ []) : pShowP l = 47 :: Lib.join l [47] := by
  cases l with
  | nil => exact absurd rfl h
  | cons x r =>
    rw [Lib.join_cons]
    unfold pShowP Lib.joinTail
    rw [List.flatMap_cons, List.flatMap_def]; rfl
theorem join_mem {b : UInt8} {l : List (List UInt8)} (hb : b ≠ 47) (h : b ∈ Lib.join l [47]) : ∃ x ∈ l, b ∈ x := by
  cases l with
  | nil => cases h
  | cons x r =>
    rw [Lib.join_cons] at h
    rcases List.mem_append.1 h with h | h
    · exact ⟨x, by simp, h⟩
    · unfold Lib.joinTail at h
      obtain ⟨y, hy, h⟩ := List.mem_flatten.1 h
      obtain ⟨z, hz, rfl⟩ := List.mem_map.1 hy
      rcases List.mem_append.1 h with h | h
      · exact absurd (List.mem_singleton.1 h) hb
      · exact ⟨z, List.mem_cons_of_mem _ hz, h⟩
theorem slash_id {sp : Bool} {s : List UInt8} (h : sp = true → (92 : UInt8) ∉ s) : slash sp s = s := by
  unfold slash
  split
  · rename_i e
    conv => rhs; rw [← List.map_id s]
    exact List.map_congr_left fun c hc => by rw [if_neg (fun e2 => h e (by rw [← e2]; exact hc))]; rfl
  · rfl
/-- What is shown is parsed as it was. -/
theorem path_back (s : List UInt8) (sp : Bool) : pParse (Lib.join (pParse s sp []) [47]) sp [] = pParse s sp [] := by
  obtain ⟨l, hl⟩ : ∃ l, l = pParse s sp [] := ⟨_, rfl⟩
  have h0 : l ≠ [] := by rw [hl]; exact pParse_ne s sp []
  have hs : ∀ y ∈ l, Seg sp y := by rw [hl]; exact pParse_seg s sp
  rw [← hl]
  unfold pParse pCut
  rw [slash_id (fun e h => by
    obtain ⟨x, hx, h⟩ := join_mem (by decide) h
    exact (hs x hx).back e h), cuts_join h0 (fun y hy => (hs y hy).stroke), pGo_segs l [] hs]
  rfl
theorem slash_append (sp : Bool) (a b : List UInt8) : slash sp (a ++ b) = slash sp a ++ slash sp b := by
  unfold slash; split
  · rw [List.map_append]
  · rfl
theorem slash_stroke (sp : Bool) (a b : List UInt8) : slash sp (a ++ 47 :: b) = slash sp a ++ 47 :: slash sp b := by
  rw [slash_append]
  congr 1
  unfold slash; split
  · rw [List.map_cons, if_neg (by decide)]
  · rfl
theorem pCut_stroke (sp : Bool) (a b : List UInt8) : pCut sp (a ++ 47 :: b) = pCut sp a ++ pCut sp b := by
  unfold pCut; rw [slash_stroke, cuts_append]
/-- Where a way stands behind all of a text's segments. -/
def pAll (s : List UInt8) (sp : Bool) : List (List UInt8) := (pCut sp s).foldl pNext []
theorem path_end (a : List UInt8) (sp : Bool) : pParse (a ++ [47]) sp [] = pAll a sp ++ [[]] := by
  unfold pParse pAll
  rw [show a ++ [47] = a ++ 47 :: [] from rfl, pCut_stroke, pGo_append _ (by unfold pCut; exact cuts_ne _ _)]
  have : pCut sp [] = [[]] := by unfold pCut slash; cases sp <;> rfl
  rw [this]
  rfl
theorem path_parts (a b : List UInt8) (sp : Bool) : pParse b sp (pAll a sp) = pParse (a ++ 47 :: b) sp [] := by
  unfold pParse pAll
  rw [pCut_stroke, pGo_append _ (by unfold pCut; exact cuts_ne _ _)]
theorem pCut_one {a : List UInt8} (h1 : (47 : UInt8) ∉ a) (h2 : (92 : UInt8) ∉ a) (sp : Bool) : pCut sp a = [a] := by
  unfold pCut; rw [slash_id (fun _ => h2), cuts_whole h1]
theorem path_ahead {a : List UInt8} (h1 : (47 : UInt8) ∉ a) (h2 : (92 : UInt8) ∉ a) (b : List UInt8) (sp : Bool) (base : List (List UInt8)) : pParse (a ++ 47 :: b) sp base = pParse b sp (pNext base a) := by
  unfold pParse
  rw [pCut_stroke, pGo_append _ (by unfold pCut; exact cuts_ne _ _), pCut_one h1 h2]; rfl
theorem path_one {a : List UInt8} (h1 : (47 : UInt8) ∉ a) (h2 : (92 : UInt8) ∉ a) (h : pSingle a = true) (hd : pDouble a = false) (b : List UInt8) (sp : Bool) : pParse (a ++ 47 :: b) sp [] = pParse b sp [] := by
  rw [path_ahead h1 h2]; unfold pNext; rw [if_neg (by rw [hd]; decide), if_pos h]
theorem path_two {a : List UInt8} (h1 : (47 : UInt8) ∉ a) (h2 : (92 : UInt8) ∉ a) (h : pDouble a = true) (b : List UInt8) (sp : Bool) : pParse (a ++ 47 :: b) sp [] = pParse b sp [] := by
  rw [path_ahead h1 h2]; unfold pNext; rw [if_pos h]; rfl
theorem path_there {a t : List UInt8} (h1 : (47 : UInt8) ∉ a) (h2 : (92 : UInt8) ∉ a) (hs : pSingle a = false) (hd : pDouble a = false) (g1 : (47 : UInt8) ∉ t) (g2 : (92 : UInt8) ∉ t) (h : pDouble t = true) (b : List UInt8) (sp : Bool) :
    pParse (a ++ 47 :: (t ++ 47 :: b)) sp [] = pParse b sp [] := by
  rw [path_ahead h1 h2, path_ahead g1 g2]
  unfold pNext
  rw [if_pos h, if_neg (by rw [hd]; decide), if_neg (by rw [hs]; decide)]; rfl
end Go.Proofs.YtnnphploekchbaaDoor

