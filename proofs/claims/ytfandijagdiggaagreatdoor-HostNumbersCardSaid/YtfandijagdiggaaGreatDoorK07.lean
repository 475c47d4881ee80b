/- Hosts: what host and the reference compute, and what follows, in plain Lean. -/
import Derived.Test.YtfandijagdiggaaGreatDoorK01
import Derived.Test.YtfandijagdiggaaGreatDoorK02
import Derived.Test.YtfandijagdiggaaGreatDoorK00
import Derived.Test.YtfandijagdiggaaGreatDoorK03
namespace Go.Proofs.YtfandijagdiggaaGreatDoor
set_option linter.all false

def hNo (c : UInt8) : Bool := [0, 9, 10, 13, 32, 35, 47, 58, 60, 62, 63, 64, 91, 92, 93, 94, 124].contains c
def hIn (s : List UInt8) : List UInt8 := mid s 1 (s.length - 1)
def hLong (s : List UInt8) : Option (List UInt8) := if s.getLast? = some 93 then (pParse6 (hIn s)).map fun a => [91] ++ pShow6 a ++ [93] else none
def hName (s : List UInt8) : Option (List UInt8) := (dASCII (pDec s)).bind fun d => if pEnds d = true then (pParse d).map pShow4 else some d
def hParse (s : List UInt8) (sp : Bool) : Option (List UInt8) :=
  if s.head? = some 91 then hLong s else if sp = true then hName s else if s.any hNo = true then none else some (pEnc 0 s)
def hIP4 (s : List UInt8) : Option Nat := (pParse s).bind fun a => if pShow4 a = s then some a else none
def hIP6 (s : List UInt8) : Option (List Nat) := if s.head? = some 91 ∧ 2 ≤ s.length ∧ s.getLast? = some 93 then (pParse6 (hIn s)).bind fun a => if [91] ++ pShow6 a ++ [93] = s then some a else none else none

theorem mem_join {L : List (List UInt8)} : ∀ c ∈ Lib.join L [46], c = 46 ∨ ∃ l ∈ L, c ∈ l := by
  induction L with
  | nil => intro c hc; cases hc
  | cons s L ih =>
    intro c hc
    cases L with
    | nil => rw [Lib.join_one] at hc; exact .inr ⟨s, by simp, hc⟩
    | cons t r =>
      have e : Lib.join (s :: t :: r) [46] = s ++ 46 :: Lib.join (t :: r) [46] := by simp [Lib.join, List.intercalate]
      rw [e] at hc
      rcases List.mem_append.1 hc with hc | hc
      · exact .inr ⟨s, by simp, hc⟩
      · rcases List.mem_cons.1 hc with rfl | hc
        · exact .inl rfl
        · rcases ih c hc with h | ⟨l, hl, h⟩
          · exact .inl h
          · exact .inr ⟨l, by simp [hl], h⟩
/-- Labels of digits. -/
theorem lab_ten {l : List UInt8} (h : ∀ c ∈ l, 48 ≤ c.toNat ∧ c.toNat ≤ 57) : dLab (ints l) = some l := by
  have hw := ints_wide (s := l) (fun c hc => by have := h c hc; omega)
  unfold dLab
  rw [hw, ints_bytes, if_neg (by decide)]
  have hm : dMarked l = false := by
    unfold dMarked
    rw [decide_eq_false_iff_not]
    rintro ⟨t, e⟩
    have := h 120 (by rw [← e]; simp [dMark])
    revert this
    decide
  have hl : dLow l = true := by unfold dLow; rw [hm]; rfl
  rw [hl]; rfl
theorem dGo_all_of : ∀ (L : List (List UInt8)) (f : Bool), (∀ l ∈ L, l ≠ [] ∧ l.length ≤ 63 ∧ dLab (ints l) = some l) → dGo f (L.map ints) = some L := by
  intro L
  induction L with
  | nil => intro f _; rfl
  | cons l L ih =>
    intro f h
    obtain ⟨h1, h2, h3⟩ := h l (by simp)
    rw [List.map_cons]
    exact dGo_make h3 h2 (fun e => absurd e h1) (ih false fun x hx => h x (by simp [hx]))
theorem name_ten {L : List (List UInt8)} (hne : L ≠ []) (h : ∀ l ∈ L, l ≠ [] ∧ l.length ≤ 63 ∧ ∀ c ∈ l, 48 ≤ c.toNat ∧ c.toNat ≤ 57) (hl : (Lib.join L [46]).length ≤ 253) : dASCII (Lib.join L [46]) = some (Lib.join L [46]) := by
  have hc : ∀ c ∈ Lib.join L [46], c.toNat = 46 ∨ (48 ≤ c.toNat ∧ c.toNat ≤ 57) := fun c hc => by
    rcases mem_join c hc with rfl | ⟨l, hl, hm⟩
    · exact .inl rfl
    · exact .inr ((h l hl).2.2 c hm)
  have hp : ∀ c ∈ Lib.join L [46], plainC c = true := fun c hm => decide_eq_true (by have := hc c hm; omega)
  have hn : (Lib.join L [46]).any dNo = false := by
    rw [List.any_eq_false]
    intro c hm
    have h1 := hc c hm
    have key : ∀ k : Fin 256, (k.val = 46 ∨ (48 ≤ k.val ∧ k.val ≤ 57)) → dNo (UInt8.ofNat k.val) = false := by decide +kernel
    have h2 := key ⟨c.toNat, byte_lt c⟩ h1
    rw [UInt8.ofNat_toNat] at h2
    rw [h2]; decide
  have hcut : cuts 46 (Lib.join L [46]) = L := cuts_join hne fun l hl hm => by
    have := (h l hl).2.2 46 hm
    revert this
    decide
  refine dASCII_of (L := L) (by omega) (by rw [dText_plain hp]; exact no_lost) ?_ rfl ?_
  · unfold dNames
    rw [dText_plain hp, cutZ_ints, hcut]
    exact dGo_all_of L true fun l hl => ⟨(h l hl).1, (h l hl).2.1, lab_ten (h l hl).2.2⟩
  · have ht := dTrim_le (Lib.join L [46])
    unfold dEnd
    rw [if_neg]
    rintro (e | e)
    · rw [hn] at e; cases e
    · omega
theorem digs_signs (u : Nat) : ∀ c ∈ digs 10 u, 48 ≤ c.toNat ∧ c.toNat ≤ 57 := fun c hc => by
  obtain ⟨m, hm, rfl⟩ := digs_mem (by decide) u hc
  exact (dch_plain m (by omega)).2.2.2.2 hm
theorem fours_signs (a : Nat) : ∀ l ∈ fours a, l ≠ [] ∧ l.length ≤ 63 ∧ ∀ c ∈ l, 48 ≤ c.toNat ∧ c.toNat ≤ 57 := by
  intro l hl
  have key : ∀ u, u < 256 → digs 10 u ≠ [] ∧ (digs 10 u).length ≤ 63 ∧ ∀ c ∈ digs 10 u, 48 ≤ c.toNat ∧ c.toNat ≤ 57 := fun u hu => ⟨digs_ne (by decide) u, by have := digs_len (b := 10) (by decide) 3 u (by omega); omega, digs_signs u⟩
  unfold fours at hl
  simp only [List.mem_cons, List.mem_nil_iff, or_false] at hl
  rcases hl with rfl | rfl | rfl | rfl <;> exact key _ (Nat.mod_lt _ (by decide))
theorem fours_len (a : Nat) : (Lib.join (fours a) [46]).length ≤ 253 := by
  have key : ∀ u, u < 256 → (digs 10 u).length ≤ 3 := fun u hu => by have := digs_len (b := 10) (by decide) 3 u (by omega); omega
  have h1 := key (a / 2 ^ 24 % 256) (Nat.mod_lt _ (by decide))
  have h2 := key (a / 2 ^ 16 % 256) (Nat.mod_lt _ (by decide))
  have h3 := key (a / 2 ^ 8 % 256) (Nat.mod_lt _ (by decide))
  have h4 := key (a % 256) (Nat.mod_lt _ (by decide))
  unfold fours
  generalize digs 10 (a / 2 ^ 24 % 256) = x1 at *
  generalize digs 10 (a / 2 ^ 16 % 256) = x2 at *
  generalize digs 10 (a / 2 ^ 8 % 256) = x3 at *
  generalize digs 10 (a % 256) = x4 at *
  simp [Lib.join, List.intercalate]
  omega
theorem name_show4 (a : Nat) : dASCII (pShow4 a) = some (pShow4 a) := by
  rw [show4_fours]; exact name_ten (fours_ne a) (fours_signs a) (fours_len a)
theorem name_digs {a : Nat} (h : a < 2 ^ 32) : dASCII (digs 10 a) = some (digs 10 a) := by
  have hl : (digs 10 a).length ≤ 10 := by have := digs_len (b := 10) (by decide) 10 a (by omega); omega
  have := name_ten (L := [digs 10 a]) (by simp) (fun l hl' => by
    rw [List.mem_singleton] at hl'
    subst hl'
    exact ⟨digs_ne (by decide) a, by omega, digs_signs a⟩) (by rw [Lib.join_one]; omega)
  rwa [Lib.join_one] at this
theorem pDec_same : ∀ {s : List UInt8}, (∀ c ∈ s, c ≠ 37) → pDec s = s := by
  intro s
  induction s with
  | nil => intro _; rfl
  | cons c t ih =>
    intro h
    rw [pDec_plain (h c (by simp)), ih fun x hx => h x (by simp [hx])]
theorem name_no {b s : List UInt8} (h : dASCII b = some s) : ∀ c ∈ s, dNo c = false := by
  obtain ⟨L, hN, _⟩ := name_of h
  intro c hc
  have := List.any_eq_false.1 (dEnd_some hN.fin).2.1 c hc
  simpa using this
theorem name_dec {b s : List UInt8} (h : dASCII b = some s) : pDec s = s := pDec_same fun c hc e => by
  have := name_no h c hc
  rw [e] at this
  revert this
  decide
theorem name_head {b s : List UInt8} (h : dASCII b = some s) : s.head? ≠ some 91 := fun e => by
  have := name_no h 91 (List.mem_of_mem_head? e)
  revert this
  decide
theorem hName_show {a : Nat} (h : a < 2 ^ 32) : hName (pShow4 a) = some (pShow4 a) := by
  unfold hName
  rw [name_dec (name_show4 a), name_show4 a]
  show (if pEnds (pShow4 a) = true then (pParse (pShow4 a)).map pShow4 else some (pShow4 a)) = _
  rw [if_pos ip4_ends, ip4_back h]; rfl
theorem hName_digs {a : Nat} (h : a < 2 ^ 32) : hName (digs 10 a) = some (pShow4 a) := by
  have hd : (46 : UInt8) ∉ digs 10 a := digs_dot (by decide) (by decide) a
  have hp : pLast (digs 10 a) = digs 10 a := by
    have := pParts_join (L := [digs 10 a]) (by simp) (fun p hp => by rw [List.mem_singleton] at hp; subst hp; exact ⟨hd, digs_ne (by decide) a⟩)
    rw [Lib.join_one] at this
    unfold pLast
    rw [this]; rfl
  unfold hName
  rw [name_dec (name_digs h), name_digs h]
  show (if pEnds (digs 10 a) = true then (pParse (digs 10 a)).map pShow4 else some (digs 10 a)) = _
  rw [if_pos (pEnds_last (small_huge h) hp), parse_one ⟨hd, digs_ne (by decide) a⟩ (num_ten (small_huge h)) h]; rfl
/-- A name: what it is again. -/
theorem hName_again {s t : List UInt8} (h : hName s = some t) : hName t = some t ∧ t.head? ≠ some 91 := by
  unfold hName at h
  cases e : dASCII (pDec s) with
  | none => rw [e] at h; cases h
  | some d =>
    rw [e] at h
    replace h : (if pEnds d = true then (pParse d).map pShow4 else some d) = some t := h
    split at h
    · cases e2 : pParse d with
      | none => rw [e2] at h; cases h
      | some a =>
        rw [e2] at h
        injection h with h
        subst h
        exact ⟨hName_show (pParse_lt e2), name_head (name_show4 a)⟩
    · rename_i hn
      injection h with h
      subst h
      refine ⟨?_, name_head e⟩
      unfold hName
      rw [name_dec e, dASCII_again e]
      exact if_neg hn
theorem in_brackets (x : List UInt8) : hIn ([91] ++ x ++ [93]) = x := by
  unfold hIn mid
  simp
theorem last_bracket (x : List UInt8) : ([91] ++ x ++ [93] : List UInt8).getLast? = some 93 := List.getLast?_concat
theorem hLong_show {a : List Nat} (h8 : a.length = 8) (h : ∀ x ∈ a, x < 65536) : hLong ([91] ++ pShow6 a ++ [93]) = some ([91] ++ pShow6 a ++ [93]) := by
  unfold hLong
  rw [if_pos (last_bracket _), in_brackets, parse6_show h8 h]; rfl
theorem hLong_again {s t : List UInt8} (h : hLong s = some t) : hLong t = some t ∧ t.head? = some 91 := by
  unfold hLong at h
  split at h
  · cases e : pParse6 (hIn s) with
    | none => rw [e] at h; cases h
    | some a =>
      rw [e] at h
      injection h with h
      subst h
      exact ⟨hLong_show (pParse6_ok e).1 (pParse6_ok e).2, rfl⟩
  · cases h
theorem enc_no {s : List UInt8} (h : s.any hNo = false) : (pEnc 0 s).any hNo = false := by
  rw [List.any_eq_false] at h ⊢
  intro c hc
  unfold pEnc at hc
  obtain ⟨x, hx, hcx⟩ := List.mem_flatMap.1 hc
  have hxn := h x hx
  unfold pEnc1 at hcx
  rw [if_neg (by rintro ⟨e, _⟩; exact absurd e (by decide))] at hcx
  split at hcx
  · have key : ∀ n, n < 16 → hNo (hexU n) = false := by decide
    have hb := byte_lt x
    unfold esc at hcx
    simp only [List.mem_cons, List.mem_nil_iff, or_false] at hcx
    rcases hcx with rfl | rfl | rfl
    · decide
    · rw [key _ (by omega)]; decide
    · rw [key _ (by omega)]; decide
  · rw [List.mem_singleton] at hcx
    subst hcx
    exact hxn
theorem enc_head {s : List UInt8} (h : s.any hNo = false) : (pEnc 0 s).head? ≠ some 91 := fun e => by
  have := List.any_eq_false.1 (enc_no h) 91 (List.mem_of_mem_head? e)
  exact this (by decide)
theorem hParse_again {s t : List UInt8} {sp : Bool} (h : hParse s sp = some t) : hParse t sp = some t := by
  unfold hParse at h
  split at h
  · obtain ⟨h1, h2⟩ := hLong_again h
    unfold hParse
    rw [if_pos h2, h1]
  · split at h
    · rename_i hsp
      obtain ⟨h1, h2⟩ := hName_again h
      unfold hParse
      rw [if_neg h2, if_pos hsp, h1]
    · rename_i hsp
      split at h
      · cases h
      · rename_i hn
        injection h with h
        subst h
        have hn' : s.any hNo = false := by simpa using hn
        unfold hParse
        rw [if_neg (enc_head hn'), if_neg hsp, enc_no hn', if_neg (by decide)]
        exact congrArg some (pEnc_id (k := 0) (by decide) _ (pEnc_out (k := 0) (by decide) s))
theorem show4_head (a : Nat) : (pShow4 a).head? ≠ some 91 := name_head (name_show4 a)
theorem hIP4_show {a : Nat} (h : a < 2 ^ 32) : hIP4 (pShow4 a) = some a := by
  unfold hIP4
  rw [ip4_back h]
  exact if_pos rfl
theorem hIP6_show {a : List Nat} (h8 : a.length = 8) (h : ∀ x ∈ a, x < 65536) : hIP6 ([91] ++ pShow6 a ++ [93]) = some a := by
  unfold hIP6
  rw [if_pos ⟨rfl, by simp, last_bracket _⟩, in_brackets, parse6_show h8 h]
  exact if_pos rfl
theorem hIP4_long (x : List UInt8) : hIP4 ([91] ++ x ++ [93]) = none := by
  unfold hIP4
  cases e : pParse ([91] ++ x ++ [93]) with
  | none => rfl
  | some a =>
    refine if_neg fun h => show4_head a ?_
    rw [h]; rfl
theorem hIP6_four (a : Nat) : hIP6 (pShow4 a) = none := if_neg fun h => show4_head a h.1
theorem hParse_name {s : List UInt8} (h : s.head? ≠ some 91) : hParse s true = hName s := by unfold hParse; rw [if_neg h, if_pos rfl]
theorem hParse_long {s : List UInt8} (h : s.head? = some 91) (sp : Bool) : hParse s sp = hLong s := by unfold hParse; rw [if_pos h]
theorem hName_ne {s t : List UInt8} (h : dASCII s = some t) : t ≠ [] := by
  obtain ⟨L, hN, hgo⟩ := name_of h
  intro e
  have hc := hN.cuts
  rw [e] at hc
  have hgo2 := hN.go
  rw [← hc] at hgo2
  revert hgo2
  decide
end Go.Proofs.YtfandijagdiggaaGreatDoor
