/- A part of the proof. -/
import Derived.Test.YtoapelcofjjdnaaGreatDoorR01
import Derived.Test.YtoapelcofjjdnaaGreatDoorR02
import Derived.Test.YtoapelcofjjdnaaGreatDoorR00
import Derived.Test.YtoapelcofjjdnaaGreatDoorR03
namespace Go.Proofs.YtoapelcofjjdnaaGreatDoor
set_option linter.all false
def hNo (c : UInt8) : Bool := [0, 9, 10, 13, 32, 35, 47, 58, 60, 62, 63, 64, 91, 92, 93, 94, 124].contains c
def hIn (s : List UInt8) : List UInt8 := mid s 1 (s.length - 1)
def hLong (s : List UInt8) : Option (List UInt8) := if s.getLast? = some 93 then (pParse6 (hIn s)).map fun a => [91] ++ pShow6 a ++ [93] else none
def hName (s : List UInt8) : Option (List UInt8) := (dASCII (pDec s)).bind fun d => if pEnds d = true then (pParse d).map pShow4 else some d
def hParse (s : List UInt8) (sp : Bool) : Option (List UInt8) :=
 if s.head? = some 91 then hLong s else if sp = true then hName s else if s.any hNo = true then none else some (pEnc 0 s)
def hIP4 (s : List UInt8) : Option Nat := (pParse s).bind fun a => if pShow4 a = s then some a else none
def hIP6 (s : List UInt8) : Option (List Nat) := if s.head? = some 91 ∧ 2 ≤ s.length ∧ s.getLast? = some 93 then (pParse6 (hIn s)).bind fun a => if [91] ++ pShow6 a ++ [93] = s then some a else none else none
theorem mem_join {L : List (List UInt8)} : ∀ c ∈ Lib.join L [46], c = 46 ∨ ∃ l ∈ L, c ∈ l := by
 induction L with
 | nil => intro c hc; cases hc
 | cons s L ih =>
  intro c hc
  cases L with
  | nil => rw [Lib.join_one] at hc; exact .inr ⟨s, by simp, hc⟩
  | cons t r =>
   have e : Lib.join (s :: t :: r) [46] = s ++ 46 :: Lib.join (t :: r) [46] := by simp [Lib.join, List.intercalate]
   rw [e] at hc
   rcases List.mem_append.1 hc with hc | hc
   · exact .inr ⟨s, by simp, hc⟩
   ·
    rcases List.mem_cons.1 hc with rfl | hc
    · exact .inl rfl
    ·
     rcases ih c hc with h | ⟨l, hl, h⟩
     · exact .inl h
     · exact .inr ⟨l, by simp [hl], h⟩
theorem lab_ten {l : List UInt8} (h : ∀ c ∈ l, 48 ≤ c.toNat ∧ c.toNat ≤ 57) : dLab (ints l) = some l := by
 have hw := ints_wide (s := l) (fun c hc => by have := h c hc; omega)
 unfold dLab
 rw [hw, ints_bytes, if_neg (by decide)]
 have hm : dMarked l = false := by
  unfold dMarked
  rw [decide_eq_false_iff_not]
  rintro ⟨t, e⟩
  have := h 120 (by rw [← e]; simp [dMark])
  revert this
  decide
 have hl : dLow l = true := by unfold dLow; rw [hm]; rfl
 rw [hl]; rfl
theorem dGo_all_of : ∀ (L : List (List UInt8)) (f : Bool), (∀ l ∈ L, l ≠ [] ∧ l.length ≤ 63 ∧ dLab (ints l) = some l) → dGo f (L.map ints) = some L := by
 intro L
 induction L with
 | nil => intro f _; rfl
 | cons l L ih =>
  intro f h
  obtain ⟨h1, h2, h3⟩ := h l (by simp)
  rw [List.map_cons]
  exact dGo_make h3 h2 (fun e => absurd e h1) (ih false fun x hx => h x (by simp [hx]))
theorem name_ten {L : List (List UInt8)} (hne : L ≠ []) (h : ∀ l ∈ L, l ≠ [] ∧ l.length ≤ 63 ∧ ∀ c ∈ l, 48 ≤ c.toNat ∧ c.toNat ≤ 57) (hl : (Lib.join L [46]).length ≤ 253) : dASCII (Lib.join L [46]) = some (Lib.join L [46]) := by
 have hc : ∀ c ∈ Lib.join L [46], c.toNat = 46 ∨ (48 ≤ c.toNat ∧ c.toNat ≤ 57) := fun c hc => by
  rcases mem_join c hc with rfl | ⟨l, hl, hm⟩
  · exact .inl rfl
  · exact .inr ((h l hl).2.2 c hm)
 have hp : ∀ c ∈ Lib.join L [46], plainC c = true := fun c hm => decide_eq_true (by have := hc c hm; omega)
 have hn : (Lib.join L [46]).any dNo = false := by
  rw [List.any_eq_false]
  intro c hm
  have h1 := hc c hm
  have key : ∀ k : Fin 256, (k.val = 46 ∨ (48 ≤ k.val ∧ k.val ≤ 57)) → dNo (UInt8.ofNat k.val) = false := by decide +kernel
  have h2 := key ⟨c.toNat, byte_lt c⟩ h1
  rw [UInt8.ofNat_toNat] at h2
  rw [h2]; decide
 have hcut : cuts 46 (Lib.join L [46]) = L := cuts_join hne fun l hl hm => by
  have := (h l hl).2.2 46 hm
  revert this
  decide
 refine dASCII_of (L := L) (by omega) (by rw [dText_plain hp]; exact no_lost) ?_ rfl ?_
 ·
  unfold dNames
  rw [dText_plain hp, cutZ_ints, hcut]
  exact dGo_all_of L true fun l hl => ⟨(h l hl).1, (h l hl).2.1, lab_ten (h l hl).2.2⟩
 ·
  have ht := dTrim_le (Lib.join L [46])
  unfold dEnd
  rw [if_neg]
  rintro (e | e)
  · rw [hn] at e; cases e
  · omega
theorem digs_signs (u : Nat) : ∀ c ∈ digs 10 u, 48 ≤ c.toNat ∧ c.toNat ≤ 57 := fun c hc => by
 obtain ⟨m, hm, rfl⟩ := digs_mem (by decide) u hc
 exact (dch_plain m (by omega)).2.2.2.2 hm
theorem fours_signs (a : Nat) : ∀ l ∈ fours a, l ≠ [] ∧ l.length ≤ 63 ∧ ∀ c ∈ l, 48 ≤ c.toNat ∧ c.toNat ≤ 57 := by
 intro l hl
 have key : ∀ u, u < 256 → digs 10 u ≠ [] ∧ (digs 10 u).length ≤ 63 ∧ ∀ c ∈ digs 10 u, 48 ≤ c.toNat ∧ c.toNat ≤ 57 := fun u hu => ⟨digs_ne (by decide) u, by have := digs_len (b := 10) (by decide) 3 u (by omega); omega, digs_signs u⟩
 unfold fours at hl
 simp only [List.mem_cons, List.mem_nil_iff, or_false] at hl
 rcases hl with rfl | rfl | rfl | rfl <;> exact key _ (Nat.mod_lt _ (by decide))
theorem fours_len (a : Nat) : (Lib.join (fours a) [46]).length ≤ 253 := by
 have key : ∀ u, u < 256 → (digs 10 u).length ≤ 3 := fun u hu => by have := digs_len (b := 10) (by decide) 3 u (by omega); omega
 have h1 := key (a / 2 ^ 24 % 256) (Nat.mod_lt _ (by decide))
 have h2 := key (a / 2 ^ 16 % 256) (Nat.mod_lt _ (by decide))
 have h3 := key (a / 2 ^ 8 % 256) (Nat.mod_lt _ (by decide))
 have h4 := key (a % 256) (Nat.mod_lt _ (by decide))
 unfold fours
 generalize digs 10 (a / 2 ^ 24 % 256) = x1 at *
 generalize digs 10 (a / 2 ^ 16 % 256) = x2 at *
 generalize digs 10 (a / 2 ^ 8 % 256) = x3 at *
 generalize digs 10 (a % 256) = x4 at *
 simp [Lib.join, List.intercalate]
 omega
theorem name_show4 (a : Nat) : dASCII (pShow4 a) = some (pShow4 a) := by
 rw [show4_fours]; exact name_ten (fours_ne a) (fours_signs a) (fours_len a)
theorem name_digs {a : Nat} (h : a < 2 ^ 32) : dASCII (digs 10 a) = some (digs 10 a) := by
 have hl : (digs 10 a).length ≤ 10 := by have := digs_len (b := 10) (by decide) 10 a (by omega); omega
 have := name_ten (L := [digs 10 a]) (by simp) (fun l hl' => by
  rw [List.mem_singleton] at hl'
  subst hl'
  exact ⟨digs_ne (by decide) a, by omega, digs_signs a⟩) (by rw [Lib.join_one]; omega)
 rwa [Lib.join_one] at this
theorem pDec_same : ∀ {s : List UInt8}, (∀ c ∈ s, c ≠ 37) → pDec s = s := by
 intro s
 induction s with
 | nil => intro _; rfl
 | cons c t ih =>
  intro h
  rw [pDec_plain (h c (by simp)), ih fun x hx => h x (by simp [hx])]
theorem name_no {b s : List UInt8} (h : dASCII b = some s) : ∀ c ∈ s, dNo c = false := by
 obtain ⟨L, hN, _⟩ := name_of h
 intro c hc
 have := List.any_eq_false.1 (dEnd_some hN.fin).2.1 c hc
 simpa using this
theorem name_dec {b s : List UInt8} (h : dASCII b = some s) : pDec s = s := pDec_same fun c hc e => by
 have := name_no h c hc
 rw [e] at this
 revert this
 decide
theorem name_head {b s : List UInt8} (h : dASCII b = some s) : s.head? ≠ some 91 := fun e => by
 have := name_no h 91 (List.mem_of_mem_head? e)
 revert this
 decide
theorem hName_show {a : Nat} (h : a < 2 ^ 32) : hName (pShow4 a) = some (pShow4 a) := by
 unfold hName
 rw [name_dec (name_show4 a), name_show4 a]
 show (if pEnds (pShow4 a) = true then (pParse (pShow4 a)).map pShow4 else some (pShow4 a)) = _
 rw [if_pos ip4_ends, ip4_back h]; rfl
theorem hName_digs {a : Nat} (h : a < 2 ^ 32) : hName (digs 10 a) = some (pShow4 a) := by
 have hd : (46 : UInt8) ∉ digs 10 a := digs_dot (by decide) (by decide) a
 have hp : pLast (digs 10 a) = digs 10 a := by
  have := pParts_join (L := [digs 10 a]) (by simp) (fun p hp => by rw [List.mem_singleton] at hp; subst hp; exact ⟨hd, digs_ne (by decide) a⟩)
  rw [Lib.join_one] at this
  unfold pLast
  rw [this]; rfl
 unfold hName
 rw [name_dec (name_digs h), name_digs h]
 show (if pEnds (digs 10 a) = true then (pParse (digs 10 a)).map pShow4 else some (digs 10 a)) = _
 rw [if_pos (pEnds_last (small_huge h) hp), parse_one ⟨hd, digs_ne (by decide) a⟩ (num_ten (small_huge h)) h]; rfl
theorem in_brackets (x : List UInt8) : hIn ([91] ++ x ++ [93]) = x := by
 unfold hIn mid
 simp
theorem last_bracket (x : List UInt8) : ([91] ++ x ++ [93] : List UInt8).getLast? = some 93 := List.getLast?_concat
theorem show4_head (a : Nat) : (pShow4 a).head? ≠ some 91 := name_head (name_show4 a)
theorem hIP4_show {a : Nat} (h : a < 2 ^ 32) : hIP4 (pShow4 a) = some a := by
 unfold hIP4
 rw [ip4_back h]
 exact if_pos rfl
theorem hIP6_show {a : List Nat} (h8 : a.length = 8) (h : ∀ x ∈ a, x < 65536) : hIP6 ([91] ++ pShow6 a ++ [93]) = some a := by
 unfold hIP6
 rw [if_pos ⟨rfl, by simp, last_bracket _⟩, in_brackets, parse6_show h8 h]
 exact if_pos rfl
theorem hIP4_long (x : List UInt8) : hIP4 ([91] ++ x ++ [93]) = none := by
 unfold hIP4
 cases e : pParse ([91] ++ x ++ [93]) with
 | none => rfl
 | some a =>
  refine if_neg fun h => show4_head a ?_
  rw [h]; rfl
theorem hIP6_four (a : Nat) : hIP6 (pShow4 a) = none := if_neg fun h => show4_head a h.1
theorem hParse_name {s : List UInt8} (h : s.head? ≠ some 91) : hParse s true = hName s := by unfold hParse; rw [if_neg h, if_pos rfl]
theorem hParse_long {s : List UInt8} (h : s.head? = some 91) (sp : Bool) : hParse s sp = hLong s := by unfold hParse; rw [if_pos h]
theorem hName_ne {s t : List UInt8} (h : dASCII s = some t) : t ≠ [] := by
 obtain ⟨L, hN, hgo⟩ := name_of h
 intro e
 have hc := hN.cuts
 rw [e] at hc
 have hgo2 := hN.go
 rw [← hc] at hgo2
 revert hgo2
 decide
end Go.Proofs.YtoapelcofjjdnaaGreatDoor
namespace Go.Proofs.YtoapelcofjjdnaaGreatDoor
set_option linter.all false
def uWs (c : UInt8) : Bool := decide (c.toNat ≤ 32)
def uKeep (c : UInt8) : Bool := decide (c.toNat ≠ 9 ∧ c.toNat ≠ 10 ∧ c.toNat ≠ 13)
def uTrimL (s : List UInt8) : List UInt8 := s.dropWhile uWs
def uTrimR (s : List UInt8) : List UInt8 := (s.reverse.dropWhile uWs).reverse
def uClean (s : List UInt8) : List UInt8 := (uTrimR (uTrimL s)).filter uKeep
theorem trimL_on {s : List UInt8} (h : 0 < s.length) (hw : uWs (gb s 0) = true) : uTrimL (dr s 1) = uTrimL s := by
 cases s with
 | nil => cases h
 | cons c t => exact (List.dropWhile_cons_of_pos hw).symm
theorem trimL_end {s : List UInt8} (h : 0 < s.length) (hw : uWs (gb s 0) = false) : uTrimL s = s := by
 cases s with
 | nil => cases h
 | cons c t => exact List.dropWhile_cons_of_neg (by rw [show uWs c = false from hw]; decide)
theorem last_of {s : List UInt8} (h : 0 < s.length) : s = tk s (s.length - 1) ++ [gb s (s.length - 1)] := by
 obtain ⟨hj, e⟩ := List.getElem?_eq_some_iff.1 (gb_some (l := s) (k := s.length - 1) (by omega))
 have h1 := take_snoc' s (s.length - 1) hj
 rw [e, show s.length - 1 + 1 = s.length by omega, List.take_length] at h1
 exact h1
theorem trimR_on {s : List UInt8} (h : 0 < s.length) (hw : uWs (gb s (s.length - 1)) = true) : uTrimR (tk s (s.length - 1)) = uTrimR s := by
 have e := last_of h
 generalize tk s (s.length - 1) = a at e ⊢
 generalize gb s (s.length - 1) = c at e hw
 subst e
 unfold uTrimR
 rw [List.reverse_append, show [c].reverse = [c] from rfl, List.singleton_append, List.dropWhile_cons_of_pos hw]
theorem trimR_end {s : List UInt8} (h : 0 < s.length) (hw : uWs (gb s (s.length - 1)) = false) : uTrimR s = s := by
 have e := last_of h
 generalize tk s (s.length - 1) = a at e ⊢
 generalize gb s (s.length - 1) = c at e hw
 subst e
 unfold uTrimR
 rw [List.reverse_append, show [c].reverse = [c] from rfl, List.singleton_append, List.dropWhile_cons_of_neg (by rw [hw]; decide), List.reverse_cons, List.reverse_reverse]
theorem filter_next {P : UInt8 → Bool} {s : List UInt8} {j : Nat} (h : j < s.length) : (s.take (j + 1)).filter P = (s.take j).filter P ++ (if P (gb s j) = true then [gb s j] else []) := by
 obtain ⟨hj, e⟩ := List.getElem?_eq_some_iff.1 (gb_some h)
 rw [take_snoc' s j hj, e, List.filter_append, List.filter_cons, List.filter_nil]
theorem dropWhile_le (P : UInt8 → Bool) : ∀ (s : List UInt8), (s.dropWhile P).length ≤ s.length := by
 intro s
 induction s with
 | nil => exact Nat.le_refl _
 | cons c t ih => rw [List.dropWhile_cons]; split <;> simp only [List.length_cons] <;> omega
theorem uClean_le (s : List UInt8) : (uClean s).length ≤ s.length := by
 have h1 : (uClean s).length ≤ (uTrimR (uTrimL s)).length := List.length_filter_le _ _
 have h2 : (uTrimR (uTrimL s)).length ≤ (uTrimL s).length := by
  unfold uTrimR; rw [List.length_reverse]
  have := dropWhile_le uWs (uTrimL s).reverse
  rwa [List.length_reverse] at this
 have h3 : (uTrimL s).length ≤ s.length := dropWhile_le _ _
 omega
def uLet (c : UInt8) : Bool := decide ((97 ≤ c.toNat ∧ c.toNat ≤ 122) ∨ (65 ≤ c.toNat ∧ c.toNat ≤ 90))
def uSig (c : UInt8) : Bool := decide ((48 ≤ c.toNat ∧ c.toNat ≤ 57) ∨ c.toNat = 43 ∨ c.toNat = 45 ∨ c.toNat = 46)
def uSchGo : Nat → List UInt8 → Nat
 | _, [] => 0
 | i, c :: t => if c.toNat = 58 then i else if uLet c = true ∨ (i ≠ 0 ∧ uSig c = true) then uSchGo (i + 1) t else 0
def uSch (s : List UInt8) : Nat := uSchGo 0 s
theorem uSchGo_lt : ∀ (s : List UInt8) (i : Nat), 0 < uSchGo i s → uSchGo i s < i + s.length := by
 intro s
 induction s with
 | nil => intro i h; cases h
 | cons c t ih =>
  intro i h
  unfold uSchGo at h ⊢
  rw [List.length_cons]
  split at h
  · rw [if_pos ‹_›]; omega
  ·
   rw [if_neg ‹_›]
   split at h
   · rw [if_pos ‹_›]; have := ih (i + 1) h; omega
   · cases h
theorem uSch_lt {s : List UInt8} (h : 0 < uSch s) : uSch s < s.length := by have := uSchGo_lt s 0 h; unfold uSch; omega
def uHttp : List UInt8 := [104, 116, 116, 112]
def uHttps : List UInt8 := [104, 116, 116, 112, 115]
def uDef (s : List UInt8) : Int :=
 if s = uHttp then 80 else if s = [119, 115] then 80 else if s = uHttps then 443 else if s = [119, 115, 115] then 443 else if s = [102, 116, 112] then 21 else -1
def uSp (s : List UInt8) : Bool := decide (0 < uDef s)
def uSl (sp : Bool) (c : UInt8) : Bool := decide (c.toNat = 47) || (sp && decide (c.toNat = 92))
def uSls (sp : Bool) (s : List UInt8) : Nat := (s.takeWhile (uSl sp)).length
theorem uSls_le (sp : Bool) (s : List UInt8) : uSls sp s ≤ s.length := (List.takeWhile_prefix _).length_le
def uColGo : Nat → Int → Bool → List UInt8 → Int
 | _, k, _, [] => k
 | i, k, b, c :: t => if c.toNat = 91 then uColGo (i + 1) k true t else if c.toNat = 93 then uColGo (i + 1) k false t else if c.toNat = 58 ∧ b = false then uColGo (i + 1) i b t else uColGo (i + 1) k b t
def uCol (s : List UInt8) : Int := uColGo 0 (-1) false s
def uPortGo : Nat → List UInt8 → Option Nat
 | v, [] => if 65535 < v then none else some v
 | v, c :: t => if 48 ≤ c.toNat ∧ c.toNat ≤ 57 then uPortGo (min (v * 10 + (c.toNat - 48)) 100000) t else none
theorem uPortGo_le : ∀ (s : List UInt8) (v n : Nat), uPortGo v s = some n → n ≤ 65535 := by
 intro s
 induction s with
 | nil => intro v n h; unfold uPortGo at h; split at h; cases h; injection h with h; omega
 | cons c t ih => intro v n h; unfold uPortGo at h; split at h; exact ih _ _ h; cases h
def uPort (sch s : List UInt8) : Option Int := (uPortGo 0 s).map fun v => if s ≠ [] ∧ (v : Int) ≠ uDef sch then (v : Int) else -1
theorem uPort_range {sch s : List UInt8} {p : Int} (h : uPort sch s = some p) : -1 ≤ p ∧ p ≤ 65535 := by
 unfold uPort at h
 cases e : uPortGo 0 s with
 | none => rw [e] at h; cases h
 | some v =>
  rw [e] at h
  injection h with h
  have := uPortGo_le _ _ _ e
  subst h
  dsimp only
  split <;> omega
def uName (sp : Bool) (r : List UInt8) : List UInt8 := r.takeWhile fun c => !uSl sp c
structure Ua where
 host : List UInt8
 port : Int
 path : List (List UInt8)
deriving DecidableEq
def uWays (sp : Bool) (rest : List UInt8) : List (List UInt8) := if rest ≠ [] then pParseP (rest.drop 1) sp [] else if sp = true then [[]] else []
def uRight (sch a : List UInt8) (k : Int) : Option Int := if 0 ≤ k then uPort sch (a.drop (k.toNat + 1)) else some (-1)
def uLeft (a : List UInt8) (k : Int) : List UInt8 := if 0 ≤ k then a.take k.toNat else a
def uHost (sp : Bool) (a : List UInt8) (k : Int) : Option (List UInt8) := if uLeft a k = [] ∧ (sp = true ∨ 0 ≤ k) then none else hParse (uLeft a k) sp
def uAuth (sch r : List UInt8) : Option Ua :=
 if (64 : UInt8) ∈ uName (uSp sch) r then none
 else (uRight sch (uName (uSp sch) r) (uCol (uName (uSp sch) r))).bind fun p =>
  (uHost (uSp sch) (uName (uSp sch) r) (uCol (uName (uSp sch) r))).map fun h => ⟨h, p, uWays (uSp sch) (r.drop (uName (uSp sch) r).length)⟩
structure Uo where
 sch : List UInt8
 host : List UInt8
 has : Bool
 port : Int
 path : List (List UInt8)
 opq : Bool
 query : List UInt8
 asks : Bool
 frag : List UInt8
 marks : Bool
deriving DecidableEq
def Uo.withA (o : Uo) (a : Ua) : Uo := { o with host := a.host, has := true, port := a.port, path := a.path }
def uOwn (o : Uo) (r : List UInt8) : Option Uo :=
 if uSp o.sch = true then (uAuth o.sch (r.drop (uSls true r))).map o.withA
 else if 2 ≤ uSls false r then (uAuth o.sch (r.drop 2)).map o.withA
 else if uSls false r = 1 then some { o with path := pParseP (r.drop 1) false [] }
 else some { o with opq := true, path := [pEnc 0 r] }
def uFirst (sch : List UInt8) : Uo := ⟨sch, [], false, -1, [], false, [], false, [], false⟩
def uFrag (o : Uo) (r : List UInt8) : Uo := if (35 : UInt8) ∈ r then { o with frag := pEnc 1 (behind 35 r), marks := true } else o
def uQuery (o : Uo) (r : List UInt8) : Uo := if (63 : UInt8) ∈ r then { o with query := pEnc (if uSp o.sch = true then 3 else 2) (behind 63 r), asks := true } else o
def uRead (s : List UInt8) : Option Uo :=
 if uSch s = 0 then none
 else uOwn (uQuery (uFrag (uFirst (lows (s.take (uSch s)))) (s.drop (uSch s + 1))) (ahead 35 (s.drop (uSch s + 1)))) (ahead 63 (ahead 35 (s.drop (uSch s + 1))))
def uUrl (s : List UInt8) : Option Uo := if 400 < s.length then none else uRead (uClean s)
end Go.Proofs.YtoapelcofjjdnaaGreatDoor
namespace Go.Proofs.YtoapelcofjjdnaaGreatDoor
set_option linter.all false
def blks : List (Nat × Nat) := [(0, 8), (167772160, 8), (1681915904, 10), (2130706432, 8), (2851995648, 16), (2886729728, 12), (3232235520, 16), (3758096384, 3)]
def bHas (a : Nat) (b : Nat × Nat) : Bool := decide (a / 2 ^ (32 - b.2) = b.1 / 2 ^ (32 - b.2))
def free4 (a : Nat) : Bool := !blks.any (bHas a)
def rfree4 (a : Nat) : Bool :=
 !(decide (a / 2 ^ 24 = 0) || (decide (a / 2 ^ 24 = 10) || (decide (a / 2 ^ 24 = 100 ∧ 64 ≤ a / 2 ^ 16 % 256 ∧ a / 2 ^ 16 % 256 < 128) || (decide (a / 2 ^ 24 = 127) || (decide (a / 2 ^ 24 = 169 ∧ a / 2 ^ 16 % 256 = 254) || (decide (a / 2 ^ 24 = 172 ∧ 16 ≤ a / 2 ^ 16 % 256 ∧ a / 2 ^ 16 % 256 < 32) || (decide (a / 2 ^ 24 = 192 ∧ a / 2 ^ 16 % 256 = 168) || decide (224 ≤ a / 2 ^ 24))))))))
theorem free4_eq {a : Nat} (h : a < 4294967296) : free4 a = rfree4 a := by
 unfold free4 rfree4
 congr 1
 simp only [blks, List.any_cons, List.any_nil, bHas, Bool.or_false]
 rw [Bool.eq_iff_iff]
 simp only [Bool.or_eq_true, decide_eq_true_eq]
 simp only [Nat.reduceSub, Nat.reducePow, Nat.reduceDiv]
 omega
def allZ (l : List Nat) : Bool := !l.any fun x => decide (x ≠ 0)
def free6 (a : List Nat) : Bool :=
 if (allZ (a.take 7) = true ∧ a.getD 7 0 < 2) ∨ a.getD 0 0 / 512 = 126 ∨ a.getD 0 0 / 64 = 1018 ∨ a.getD 0 0 / 256 = 255 then false
 else if allZ (a.take 5) = true ∧ a.getD 5 0 = 65535 then free4 (a.getD 6 0 * 65536 + a.getD 7 0)
 else true
def zeros (a : List Nat) : Nat := (a.takeWhile (fun x => decide (x = 0))).length
def rfree6 (a : List Nat) : Bool :=
 if zeros a = 8 ∨ (zeros a = 7 ∧ a.getD 7 0 = 1) ∨ a.getD 0 0 / 512 = 126 ∨ a.getD 0 0 / 64 = 1018 ∨ a.getD 0 0 / 256 = 255 then false
 else if zeros a = 5 ∧ a.getD 5 0 = 65535 then rfree4 (a.getD 6 0 * 65536 + a.getD 7 0)
 else true
theorem eight_list {a : List Nat} (h : a.length = 8) : ∃ a0 a1 a2 a3 a4 a5 a6 a7, a = [a0, a1, a2, a3, a4, a5, a6, a7] := by
 match a, h with
 | [a0, a1, a2, a3, a4, a5, a6, a7], _ => exact ⟨a0, a1, a2, a3, a4, a5, a6, a7, rfl⟩
theorem free6_eq {a : List Nat} (h8 : a.length = 8) (h16 : ∀ x ∈ a, x < 65536) : free6 a = rfree6 a := by
 obtain ⟨a0, a1, a2, a3, a4, a5, a6, a7, rfl⟩ := eight_list h8
 have h6 : a6 < 65536 := h16 _ (by simp)
 have h7 : a7 < 65536 := h16 _ (by simp)
 have e1 : free4 (a6 * 65536 + a7) = rfree4 (a6 * 65536 + a7) := free4_eq (by omega)
 unfold free6 rfree6
 simp only [List.getD_cons_zero, List.getD_cons_succ]
 rw [e1]
 have k1 : ((allZ ([a0, a1, a2, a3, a4, a5, a6, a7].take 7) = true ∧ a7 < 2) ↔ (zeros [a0, a1, a2, a3, a4, a5, a6, a7] = 8 ∨ (zeros [a0, a1, a2, a3, a4, a5, a6, a7] = 7 ∧ a7 = 1))) := by
  by_cases c0 : a0 = 0
  ·
   by_cases c1 : a1 = 0
   ·
    by_cases c2 : a2 = 0
    ·
     by_cases c3 : a3 = 0
     ·
      by_cases c4 : a4 = 0
      ·
       by_cases c5 : a5 = 0
       ·
        by_cases c6 : a6 = 0
        ·
         by_cases c7 : a7 = 0
         · simp [allZ, zeros, c0, c1, c2, c3, c4, c5, c6, c7]
         · simp [allZ, zeros, c0, c1, c2, c3, c4, c5, c6, c7]; omega
        · simp [allZ, zeros, c0, c1, c2, c3, c4, c5, c6]
       · simp [allZ, zeros, c0, c1, c2, c3, c4, c5]
      · simp [allZ, zeros, c0, c1, c2, c3, c4]
     · simp [allZ, zeros, c0, c1, c2, c3]
    · simp [allZ, zeros, c0, c1, c2]
   · simp [allZ, zeros, c0, c1]
  · simp [allZ, zeros, c0]
 have k2 : ((allZ ([a0, a1, a2, a3, a4, a5, a6, a7].take 5) = true ∧ a5 = 65535) ↔ (zeros [a0, a1, a2, a3, a4, a5, a6, a7] = 5 ∧ a5 = 65535)) := by
  by_cases c0 : a0 = 0
  ·
   by_cases c1 : a1 = 0
   ·
    by_cases c2 : a2 = 0
    ·
     by_cases c3 : a3 = 0
     ·
      by_cases c4 : a4 = 0
      ·
       by_cases c5 : a5 = 0
       · simp [allZ, zeros, c0, c1, c2, c3, c4, c5]
       · simp [allZ, zeros, c0, c1, c2, c3, c4, c5]
      · simp [allZ, zeros, c0, c1, c2, c3, c4]
     · simp [allZ, zeros, c0, c1, c2, c3]
    · simp [allZ, zeros, c0, c1, c2]
   · simp [allZ, zeros, c0, c1]
  · simp [allZ, zeros, c0]
 simp only [k1, k2, or_assoc]
def lhost : List UInt8 := [108, 111, 99, 97, 108, 104, 111, 115, 116]
def blkGo (L : List (List UInt8)) : Bool → List UInt8 → Bool
 | b, [] => b && L.contains []
 | b, c :: t => (b && L.contains (c :: t)) || blkGo L (decide (c = 46)) t
def blk (s : List UInt8) (l : List (List UInt8)) : Bool := blkGo (lhost :: l) true (dTrim s)
theorem blkGo_off {L : List (List UInt8)} : ∀ {t : List UInt8}, (46 : UInt8) ∉ t → blkGo L false t = false := by
 intro t
 induction t with
 | nil => intro _; rfl
 | cons c t ih =>
  intro h
  rw [List.mem_cons, not_or] at h
  unfold blkGo
  rw [Bool.false_and, Bool.false_or, decide_eq_false (fun e => h.1 e.symm), ih h.2]
theorem blkGo_here {L : List (List UInt8)} {t : List UInt8} (h : L.contains t = true) : blkGo L true t = true := by
 cases t with
 | nil => unfold blkGo; rw [h]; rfl
 | cons c t => unfold blkGo; rw [h]; rfl
theorem blkGo_end {L : List (List UInt8)} {t : List UInt8} (h : L.contains t = false) (hn : (46 : UInt8) ∉ t) : blkGo L true t = false := by
 cases t with
 | nil => unfold blkGo; rw [h]; rfl
 | cons c t =>
  rw [List.mem_cons, not_or] at hn
  unfold blkGo
  rw [h, decide_eq_false (fun e => hn.1 e.symm), blkGo_off hn.2]; rfl
theorem blkGo_past {L : List (List UInt8)} (r : List UInt8) : ∀ {a : List UInt8}, (46 : UInt8) ∉ a → blkGo L false (a ++ 46 :: r) = blkGo L true r := by
 intro a
 induction a with
 | nil => intro _; rw [List.nil_append, blkGo, Bool.false_and, Bool.false_or, decide_eq_true rfl]
 | cons c a ih =>
  intro h
  rw [List.mem_cons, not_or] at h
  rw [List.cons_append, blkGo, Bool.false_and, Bool.false_or, decide_eq_false (fun e => h.1 e.symm), ih h.2]
theorem blkGo_true {L : List (List UInt8)} {t : List UInt8} (h : L.contains t = false) : blkGo L true t = blkGo L false t := by
 cases t with
 | nil => unfold blkGo; rw [h]; rfl
 | cons c t => unfold blkGo; rw [h]; rfl
theorem blkGo_next {L : List (List UInt8)} {a r : List UInt8} (h : L.contains (a ++ 46 :: r) = false) (ha : (46 : UInt8) ∉ a) : blkGo L true (a ++ 46 :: r) = blkGo L true r := by
 rw [blkGo_true h, blkGo_past r ha]
theorem trim_no {s : List UInt8} (h : s.getLast? ≠ some 46) : dTrim s = s := if_neg h
end Go.Proofs.YtoapelcofjjdnaaGreatDoor
namespace Go.Proofs.YtoapelcofjjdnaaGreatDoor
set_option linter.all false
theorem tw_untilU {P : UInt8 → Bool} {t : List UInt8} {x : UInt8} (hx : P x = false) : ∀ {s : List UInt8}, (∀ c ∈ s, P c = true) → (s ++ x :: t).takeWhile P = s := by
 intro s
 induction s with
 | nil => intro _; rw [List.nil_append, List.takeWhile_cons, if_neg (by rw [hx]; decide)]
 | cons c s ih => intro h; rw [List.cons_append, List.takeWhile_cons, if_pos (h c (by simp)), ih fun y hy => h y (by simp [hy])]
theorem dw_noneU {P : UInt8 → Bool} {s : List UInt8} (h : ∀ c ∈ s, P c = false) : s.dropWhile P = s := by
 cases s with
 | nil => rfl
 | cons c t => exact List.dropWhile_cons_of_neg (by rw [h c (by simp)]; decide)
theorem clean_same {s : List UInt8} (h : ∀ c ∈ s, 32 < c.toNat) : uClean s = s := by
 have hw : ∀ c ∈ s, uWs c = false := fun c hc => decide_eq_false (by have := h c hc; omega)
 have e1 : uTrimL s = s := dw_noneU hw
 have e2 : uTrimR s = s := by
  unfold uTrimR
  rw [dw_noneU (fun c hc => hw c (by simpa using hc)), List.reverse_reverse]
 unfold uClean
 rw [e1, e2]
 exact List.filter_eq_self.2 fun c hc => decide_eq_true (by have := h c hc; omega)
theorem colGo_free : ∀ (s : List UInt8) (i : Nat) (k : Int) (b : Bool), (∀ c ∈ s, c.toNat ≠ 58) → uColGo i k b s = k := by
 intro s
 induction s with
 | nil => intro i k b _; rfl
 | cons c t ih =>
  intro i k b h
  have ht : ∀ c ∈ t, c.toNat ≠ 58 := fun x hx => h x (by simp [hx])
  have hc := h c (by simp)
  unfold uColGo
  rw [ih _ _ _ ht, ih _ _ _ ht, if_neg (show ¬ (c.toNat = 58 ∧ b = false) from fun e => hc e.1), ih _ _ _ ht]
  simp
theorem colGo_in : ∀ (s : List UInt8) (i : Nat) (k : Int), (∀ c ∈ s, c.toNat ≠ 93) → uColGo i k true (s ++ [93]) = k := by
 intro s
 induction s with
 | nil => intro i k _; rfl
 | cons c t ih =>
  intro i k h
  have ht : ∀ c ∈ t, c.toNat ≠ 93 := fun x hx => h x (by simp [hx])
  have hc := h c (by simp)
  rw [List.cons_append]
  unfold uColGo
  rw [ih _ _ ht, if_neg hc, if_neg (show ¬ (c.toNat = 58 ∧ true = false) from fun e => by cases e.2)]
  simp
theorem col_brackets {x : List UInt8} (h : ∀ c ∈ x, c.toNat ≠ 93) : uCol ([91] ++ x ++ [93]) = -1 := by
 unfold uCol
 rw [List.append_assoc, List.singleton_append]
 unfold uColGo
 rw [if_pos (by decide)]
 exact colGo_in x _ _ h
def uFine (c : UInt8) : Prop := 32 < c.toNat ∧ c.toNat ≠ 35 ∧ c.toNat ≠ 47 ∧ c.toNat ≠ 63 ∧ c.toNat ≠ 64 ∧ c.toNat ≠ 92
theorem uName_fine {t : List UInt8} (h : ∀ c ∈ t, uFine c) : uName true (t ++ [47]) = t :=
 tw_untilU (by decide) fun c hc => by
  have := h c hc
  unfold uFine at this
  unfold uSl
  rw [decide_eq_false this.2.2.1, decide_eq_false this.2.2.2.2.2]; rfl
def uAt (t : List UInt8) : List UInt8 := uHttp ++ [58, 47, 47] ++ t ++ [47]
theorem uUrl_at {t h : List UInt8} (hf : ∀ c ∈ t, uFine c) (hne : t ≠ []) (hl : t.length ≤ 100) (hk : uCol t = -1) (hh : hParse t true = some h) :
  uUrl (uAt t) = some ⟨uHttp, h, true, -1, [[]], false, [], false, [], false⟩ := by
 have e0 : uAt t = 104 :: 116 :: 116 :: 112 :: 58 :: 47 :: 47 :: (t ++ [47]) := by unfold uAt uHttp; simp
 have hmem : ∀ c ∈ uAt t, c.toNat = 104 ∨ c.toNat = 116 ∨ c.toNat = 112 ∨ c.toNat = 58 ∨ c.toNat = 47 ∨ c ∈ t := by
  intro c hc
  rw [e0] at hc
  simp only [List.mem_cons, List.mem_append, List.mem_nil_iff, or_false] at hc
  rcases hc with rfl | rfl | rfl | rfl | rfl | rfl | rfl | hc | rfl
  · exact .inl rfl
  · exact .inr (.inl rfl)
  · exact .inr (.inl rfl)
  · exact .inr (.inr (.inl rfl))
  · exact .inr (.inr (.inr (.inl rfl)))
  · exact .inr (.inr (.inr (.inr (.inl rfl))))
  · exact .inr (.inr (.inr (.inr (.inl rfl))))
  · exact .inr (.inr (.inr (.inr (.inr hc))))
  · exact .inr (.inr (.inr (.inr (.inl rfl))))
 have e1 : uClean (uAt t) = uAt t := clean_same fun c hc => by
  rcases hmem c hc with h | h | h | h | h | h
  · omega
  · omega
  · omega
  · omega
  · omega
  · exact (hf c h).1
 have e2 : uSch (uAt t) = 4 := by rw [e0]; rfl
 have e3 : (uAt t).take 4 = uHttp := by rw [e0]; rfl
 have e4 : (uAt t).drop 5 = 47 :: 47 :: (t ++ [47]) := by rw [e0]; rfl
 have hr : ∀ x : UInt8, x.toNat = 35 ∨ x.toNat = 63 → x ∉ 47 :: 47 :: (t ++ [47]) := by
  intro x hx hm
  rw [← e4] at hm
  have hm := List.mem_of_mem_drop hm
  rcases hmem x hm with h | h | h | h | h | h
  · omega
  · omega
  · omega
  · omega
  · omega
  · have := hf x h; unfold uFine at this; omega
 have e5 := hr 35 (.inl rfl)
 have e6 := hr 63 (.inr rfl)
 have hlen : ¬ 400 < (uAt t).length := by rw [e0]; simp; omega
 have e7 : uSls true (47 :: 47 :: (t ++ [47])) = 2 := by
  cases t with
  | nil => exact absurd rfl hne
  | cons c t =>
   have := hf c (by simp)
   unfold uFine at this
   have hc : uSl true c = false := by unfold uSl; rw [decide_eq_false this.2.2.1, decide_eq_false this.2.2.2.2.2]; rfl
   unfold uSls
   rw [List.takeWhile_cons, if_pos (by decide), List.takeWhile_cons, if_pos (by decide), List.cons_append, List.takeWhile_cons, if_neg (by rw [hc]; decide)]; rfl
 have e8 : uName true (t ++ [47]) = t := uName_fine hf
 have e9 : (64 : UInt8) ∉ t := fun hm => by have := hf 64 hm; unfold uFine at this; exact this.2.2.2.2.1 rfl
 have ea : uAuth uHttp (t ++ [47]) = some ⟨h, -1, [[]]⟩ := by
  unfold uAuth
  rw [show uSp uHttp = true from rfl, e8, if_neg e9, hk]
  have g1 : uLeft t (-1) = t := if_neg (by decide)
  have g2 : uHost true t (-1) = some h := by unfold uHost; rw [g1, if_neg fun e => hne e.1, hh]
  have g3 : uRight uHttp t (-1) = some (-1) := if_neg (by decide)
  rw [g2, g3, List.drop_left]; rfl
 unfold uUrl
 rw [if_neg hlen, e1]
 unfold uRead
 rw [e2, if_neg (by decide), e3, e4, (ahead_whole e5).1, (ahead_whole e6).1]
 have e10 : uFrag (uFirst (lows uHttp)) (47 :: 47 :: (t ++ [47])) = uFirst uHttp := by unfold uFrag; rw [if_neg e5]; rfl
 rw [e10]
 have e11 : uQuery (uFirst uHttp) (47 :: 47 :: (t ++ [47])) = uFirst uHttp := by unfold uQuery; rw [if_neg e6]
 rw [e11]
 unfold uOwn
 rw [show uSp (uFirst uHttp).sch = true from rfl, if_pos rfl, e7, show (47 :: 47 :: (t ++ [47])).drop 2 = t ++ [47] from rfl, show (uFirst uHttp).sch = uHttp from rfl, ea]; rfl
theorem fours_le (a : Nat) : (Lib.join (fours a) [46]).length ≤ 15 := by
 have key : ∀ u, u < 256 → (digs 10 u).length ≤ 3 := fun u hu => by have := digs_len (b := 10) (by decide) 3 u (by omega); omega
 have h1 := key (a / 2 ^ 24 % 256) (Nat.mod_lt _ (by decide))
 have h2 := key (a / 2 ^ 16 % 256) (Nat.mod_lt _ (by decide))
 have h3 := key (a / 2 ^ 8 % 256) (Nat.mod_lt _ (by decide))
 have h4 := key (a % 256) (Nat.mod_lt _ (by decide))
 unfold fours
 generalize digs 10 (a / 2 ^ 24 % 256) = x1 at *
 generalize digs 10 (a / 2 ^ 16 % 256) = x2 at *
 generalize digs 10 (a / 2 ^ 8 % 256) = x3 at *
 generalize digs 10 (a % 256) = x4 at *
 simp [Lib.join, List.intercalate]
 omega
theorem show4_signs (a : Nat) : ∀ c ∈ pShow4 a, c.toNat = 46 ∨ (48 ≤ c.toNat ∧ c.toNat ≤ 57) := by
 intro c hc
 rw [show4_fours] at hc
 rcases mem_join c hc with rfl | ⟨l, hl, hm⟩
 · exact .inl rfl
 · exact .inr ((fours_signs a l hl).2.2 c hm)
theorem url_digs {a : Nat} (h : a < 2 ^ 32) : uUrl (uAt (digs 10 a)) = some ⟨uHttp, pShow4 a, true, -1, [[]], false, [], false, [], false⟩ := by
 have hs := digs_signs a
 refine uUrl_at (fun c hc => by have := hs c hc; unfold uFine; omega) (digs_ne (by decide) a) (by have := digs_len (b := 10) (by decide) 10 a (by omega); omega) (colGo_free _ _ _ _ fun c hc => by have := hs c hc; omega) ?_
 rw [hParse_name (fun e => by have := hs 91 (List.mem_of_mem_head? e); revert this; decide), hName_digs h]
theorem url_show {a : Nat} (h : a < 2 ^ 32) : uUrl (uAt (pShow4 a)) = some ⟨uHttp, pShow4 a, true, -1, [[]], false, [], false, [], false⟩ := by
 have hs := show4_signs a
 refine uUrl_at (fun c hc => by have := hs c hc; unfold uFine; omega) (hName_ne (name_show4 a)) (by rw [show4_fours]; have := fours_le a; omega) (colGo_free _ _ _ _ fun c hc => by have := hs c hc; omega) ?_
 rw [hParse_name (show4_head a), hName_show h]
def uFour (a : Nat) : List UInt8 := [58, 58, 102, 102, 102, 102, 58] ++ pShow4 a
def uEight (a : Nat) : List Nat := [0, 0, 0, 0, 0, 65535, a / 65536, a % 65536]
theorem uEight_lt {a : Nat} (h : a < 2 ^ 32) : ∀ x ∈ uEight a, x < 65536 := by
 intro x hx
 unfold uEight at hx
 simp only [List.mem_cons, List.mem_nil_iff, or_false] at hx
 rcases hx with rfl | rfl | rfl | rfl | rfl | rfl | rfl | rfl <;> omega
theorem parse6_four {a : Nat} (h : a < 2 ^ 32) : pParse6 (uFour a) = some (uEight a) := by
 have hc : cuts 58 ([102, 102, 102, 102] ++ 58 :: pShow4 a) = [[102, 102, 102, 102], pShow4 a] := by
  rw [cuts_at _ (by decide), cuts_whole (show4_colon a)]
 have e1 : rPieces true ([102, 102, 102, 102] ++ 58 :: pShow4 a) = some [65535, a / 65536, a % 65536] := by
  unfold rPieces
  rw [if_neg (by simp), hc, rGo_no (by rintro ⟨_, e, _⟩; cases e), show rPiece [102, 102, 102, 102] = some 65535 by decide, rGo_tail (show4_dot a), rFour_show h]; rfl
 have e2 : rPieces false [] = some [] := rfl
 rw [parse6_eq]
 unfold rParse6
 rw [show uFour a = 58 :: 58 :: ([102, 102, 102, 102] ++ 58 :: pShow4 a) from rfl, gap2_at]
 show (match rPieces false [], rPieces true ([102, 102, 102, 102] ++ 58 :: pShow4 a) with | some x, some y => _ | _, _ => _) = _
 rw [e1, e2]; rfl
theorem url_four {a : Nat} (h : a < 2 ^ 32) : uUrl (uAt ([91] ++ uFour a ++ [93])) = some ⟨uHttp, [91] ++ pShow6 (uEight a) ++ [93], true, -1, [[]], false, [], false, [], false⟩ := by
 have hs := show4_signs a
 have hm : ∀ c ∈ uFour a, c.toNat = 58 ∨ c.toNat = 102 ∨ c.toNat = 46 ∨ (48 ≤ c.toNat ∧ c.toNat ≤ 57) := by
  intro c hc
  unfold uFour at hc
  simp only [List.mem_append, List.mem_cons, List.mem_nil_iff, or_false] at hc
  rcases hc with (rfl | rfl | rfl | rfl | rfl | rfl | rfl) | hc
  · exact .inl rfl
  · exact .inl rfl
  · exact .inr (.inl rfl)
  · exact .inr (.inl rfl)
  · exact .inr (.inl rfl)
  · exact .inr (.inl rfl)
  · exact .inl rfl
  · have := hs c hc; omega
 have hl : (uFour a).length ≤ 22 + 4 := by
  unfold uFour
  rw [List.length_append, show4_fours]
  have := fours_le a
  simp only [List.length_cons, List.length_nil]
  omega
 refine uUrl_at (fun c hc => ?_) (by simp) (by simp only [List.length_append, List.length_cons, List.length_nil]; omega) (col_brackets fun c hc => by have := hm c hc; omega) ?_
 ·
  simp only [List.mem_append, List.mem_cons, List.mem_nil_iff, or_false] at hc
  unfold uFine
  rcases hc with (rfl | hc) | rfl
  · decide
  · have := hm c hc; omega
  · decide
 ·
  rw [hParse_long rfl]
  unfold hLong
  rw [if_pos (last_bracket _), in_brackets, parse6_four h]; rfl
end Go.Proofs.YtoapelcofjjdnaaGreatDoor
