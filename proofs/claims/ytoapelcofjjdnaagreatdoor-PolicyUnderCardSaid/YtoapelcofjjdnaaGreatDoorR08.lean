/- A part of the proof. -/
import Derived.Test.YtoapelcofjjdnaaGreatDoorR01
import Derived.Test.YtoapelcofjjdnaaGreatDoorR02
import Derived.Test.YtoapelcofjjdnaaGreatDoorR00
import Derived.Test.YtoapelcofjjdnaaGreatDoorR03
namespace Go.Proofs.YtoapelcofjjdnaaGreatDoor
set_option linter.all false
def hNo (c : UInt8) : Bool := [0, 9, 10, 13, 32, 35, 47, 58, 60, 62, 63, 64, 91, 92, 93, 94, 124].contains c
def hIn (s : List UInt8) : List UInt8 := mid s 1 (s.length - 1)
def hLong (s : List UInt8) : Option (List UInt8) := if s.getLast? = some 93 then (pParse6 (hIn s)).map fun a => [91] ++ pShow6 a ++ [93] else none
def hName (s : List UInt8) : Option (List UInt8) := (dASCII (pDec s)).bind fun d => if pEnds d = true then (pParse d).map pShow4 else some d
def hParse (s : List UInt8) (sp : Bool) : Option (List UInt8) :=
 if s.head? = some 91 then hLong s else if sp = true then hName s else if s.any hNo = true then none else some (pEnc 0 s)
theorem hParse_name {s : List UInt8} (h : s.head? ≠ some 91) : hParse s true = hName s := by unfold hParse; rw [if_neg h, if_pos rfl]
theorem hParse_long {s : List UInt8} (h : s.head? = some 91) (sp : Bool) : hParse s sp = hLong s := by unfold hParse; rw [if_pos h]
theorem hName_ne {s t : List UInt8} (h : dASCII s = some t) : t ≠ [] := by
 obtain ⟨L, hN, hgo⟩ := name_of h
 intro e
 have hc := hN.cuts
 rw [e] at hc
 have hgo2 := hN.go
 rw [← hc] at hgo2
 revert hgo2
 decide
end Go.Proofs.YtoapelcofjjdnaaGreatDoor
namespace Go.Proofs.YtoapelcofjjdnaaGreatDoor
set_option linter.all false
def uWs (c : UInt8) : Bool := decide (c.toNat ≤ 32)
def uKeep (c : UInt8) : Bool := decide (c.toNat ≠ 9 ∧ c.toNat ≠ 10 ∧ c.toNat ≠ 13)
def uTrimL (s : List UInt8) : List UInt8 := s.dropWhile uWs
def uTrimR (s : List UInt8) : List UInt8 := (s.reverse.dropWhile uWs).reverse
def uClean (s : List UInt8) : List UInt8 := (uTrimR (uTrimL s)).filter uKeep
theorem trimL_on {s : List UInt8} (h : 0 < s.length) (hw : uWs (gb s 0) = true) : uTrimL (dr s 1) = uTrimL s := by
 cases s with
 | nil => cases h
 | cons c t => exact (List.dropWhile_cons_of_pos hw).symm
theorem trimL_end {s : List UInt8} (h : 0 < s.length) (hw : uWs (gb s 0) = false) : uTrimL s = s := by
 cases s with
 | nil => cases h
 | cons c t => exact List.dropWhile_cons_of_neg (by rw [show uWs c = false from hw]; decide)
theorem last_of {s : List UInt8} (h : 0 < s.length) : s = tk s (s.length - 1) ++ [gb s (s.length - 1)] := by
 obtain ⟨hj, e⟩ := List.getElem?_eq_some_iff.1 (gb_some (l := s) (k := s.length - 1) (by omega))
 have h1 := take_snoc' s (s.length - 1) hj
 rw [e, show s.length - 1 + 1 = s.length by omega, List.take_length] at h1
 exact h1
theorem trimR_on {s : List UInt8} (h : 0 < s.length) (hw : uWs (gb s (s.length - 1)) = true) : uTrimR (tk s (s.length - 1)) = uTrimR s := by
 have e := last_of h
 generalize tk s (s.length - 1) = a at e ⊢
 generalize gb s (s.length - 1) = c at e hw
 subst e
 unfold uTrimR
 rw [List.reverse_append, show [c].reverse = [c] from rfl, List.singleton_append, List.dropWhile_cons_of_pos hw]
theorem trimR_end {s : List UInt8} (h : 0 < s.length) (hw : uWs (gb s (s.length - 1)) = false) : uTrimR s = s := by
 have e := last_of h
 generalize tk s (s.length - 1) = a at e ⊢
 generalize gb s (s.length - 1) = c at e hw
 subst e
 unfold uTrimR
 rw [List.reverse_append, show [c].reverse = [c] from rfl, List.singleton_append, List.dropWhile_cons_of_neg (by rw [hw]; decide), List.reverse_cons, List.reverse_reverse]
theorem filter_next {P : UInt8 → Bool} {s : List UInt8} {j : Nat} (h : j < s.length) : (s.take (j + 1)).filter P = (s.take j).filter P ++ (if P (gb s j) = true then [gb s j] else []) := by
 obtain ⟨hj, e⟩ := List.getElem?_eq_some_iff.1 (gb_some h)
 rw [take_snoc' s j hj, e, List.filter_append, List.filter_cons, List.filter_nil]
theorem dropWhile_le (P : UInt8 → Bool) : ∀ (s : List UInt8), (s.dropWhile P).length ≤ s.length := by
 intro s
 induction s with
 | nil => exact Nat.le_refl _
 | cons c t ih => rw [List.dropWhile_cons]; split <;> simp only [List.length_cons] <;> omega
theorem uClean_le (s : List UInt8) : (uClean s).length ≤ s.length := by
 have h1 : (uClean s).length ≤ (uTrimR (uTrimL s)).length := List.length_filter_le _ _
 have h2 : (uTrimR (uTrimL s)).length ≤ (uTrimL s).length := by
  unfold uTrimR; rw [List.length_reverse]
  have := dropWhile_le uWs (uTrimL s).reverse
  rwa [List.length_reverse] at this
 have h3 : (uTrimL s).length ≤ s.length := dropWhile_le _ _
 omega
def uLet (c : UInt8) : Bool := decide ((97 ≤ c.toNat ∧ c.toNat ≤ 122) ∨ (65 ≤ c.toNat ∧ c.toNat ≤ 90))
def uSig (c : UInt8) : Bool := decide ((48 ≤ c.toNat ∧ c.toNat ≤ 57) ∨ c.toNat = 43 ∨ c.toNat = 45 ∨ c.toNat = 46)
def uSchGo : Nat → List UInt8 → Nat
 | _, [] => 0
 | i, c :: t => if c.toNat = 58 then i else if uLet c = true ∨ (i ≠ 0 ∧ uSig c = true) then uSchGo (i + 1) t else 0
def uSch (s : List UInt8) : Nat := uSchGo 0 s
theorem uSchGo_lt : ∀ (s : List UInt8) (i : Nat), 0 < uSchGo i s → uSchGo i s < i + s.length := by
 intro s
 induction s with
 | nil => intro i h; cases h
 | cons c t ih =>
  intro i h
  unfold uSchGo at h ⊢
  rw [List.length_cons]
  split at h
  · rw [if_pos ‹_›]; omega
  ·
   rw [if_neg ‹_›]
   split at h
   · rw [if_pos ‹_›]; have := ih (i + 1) h; omega
   · cases h
theorem uSch_lt {s : List UInt8} (h : 0 < uSch s) : uSch s < s.length := by have := uSchGo_lt s 0 h; unfold uSch; omega
def uHttp : List UInt8 := [104, 116, 116, 112]
def uHttps : List UInt8 := [104, 116, 116, 112, 115]
def uDef (s : List UInt8) : Int :=
 if s = uHttp then 80 else if s = [119, 115] then 80 else if s = uHttps then 443 else if s = [119, 115, 115] then 443 else if s = [102, 116, 112] then 21 else -1
def uSp (s : List UInt8) : Bool := decide (0 < uDef s)
def uSl (sp : Bool) (c : UInt8) : Bool := decide (c.toNat = 47) || (sp && decide (c.toNat = 92))
def uSls (sp : Bool) (s : List UInt8) : Nat := (s.takeWhile (uSl sp)).length
theorem uSls_le (sp : Bool) (s : List UInt8) : uSls sp s ≤ s.length := (List.takeWhile_prefix _).length_le
def uColGo : Nat → Int → Bool → List UInt8 → Int
 | _, k, _, [] => k
 | i, k, b, c :: t => if c.toNat = 91 then uColGo (i + 1) k true t else if c.toNat = 93 then uColGo (i + 1) k false t else if c.toNat = 58 ∧ b = false then uColGo (i + 1) i b t else uColGo (i + 1) k b t
def uCol (s : List UInt8) : Int := uColGo 0 (-1) false s
def uPortGo : Nat → List UInt8 → Option Nat
 | v, [] => if 65535 < v then none else some v
 | v, c :: t => if 48 ≤ c.toNat ∧ c.toNat ≤ 57 then uPortGo (min (v * 10 + (c.toNat - 48)) 100000) t else none
def uPort (sch s : List UInt8) : Option Int := (uPortGo 0 s).map fun v => if s ≠ [] ∧ (v : Int) ≠ uDef sch then (v : Int) else -1
def uName (sp : Bool) (r : List UInt8) : List UInt8 := r.takeWhile fun c => !uSl sp c
structure Ua where
 host : List UInt8
 port : Int
 path : List (List UInt8)
deriving DecidableEq
def uWays (sp : Bool) (rest : List UInt8) : List (List UInt8) := if rest ≠ [] then pParseP (rest.drop 1) sp [] else if sp = true then [[]] else []
def uRight (sch a : List UInt8) (k : Int) : Option Int := if 0 ≤ k then uPort sch (a.drop (k.toNat + 1)) else some (-1)
def uLeft (a : List UInt8) (k : Int) : List UInt8 := if 0 ≤ k then a.take k.toNat else a
def uHost (sp : Bool) (a : List UInt8) (k : Int) : Option (List UInt8) := if uLeft a k = [] ∧ (sp = true ∨ 0 ≤ k) then none else hParse (uLeft a k) sp
def uAuth (sch r : List UInt8) : Option Ua :=
 if (64 : UInt8) ∈ uName (uSp sch) r then none
 else (uRight sch (uName (uSp sch) r) (uCol (uName (uSp sch) r))).bind fun p =>
  (uHost (uSp sch) (uName (uSp sch) r) (uCol (uName (uSp sch) r))).map fun h => ⟨h, p, uWays (uSp sch) (r.drop (uName (uSp sch) r).length)⟩
structure Uo where
 sch : List UInt8
 host : List UInt8
 has : Bool
 port : Int
 path : List (List UInt8)
 opq : Bool
 query : List UInt8
 asks : Bool
 frag : List UInt8
 marks : Bool
deriving DecidableEq
def Uo.withA (o : Uo) (a : Ua) : Uo := { o with host := a.host, has := true, port := a.port, path := a.path }
def uOwn (o : Uo) (r : List UInt8) : Option Uo :=
 if uSp o.sch = true then (uAuth o.sch (r.drop (uSls true r))).map o.withA
 else if 2 ≤ uSls false r then (uAuth o.sch (r.drop 2)).map o.withA
 else if uSls false r = 1 then some { o with path := pParseP (r.drop 1) false [] }
 else some { o with opq := true, path := [pEnc 0 r] }
def uFirst (sch : List UInt8) : Uo := ⟨sch, [], false, -1, [], false, [], false, [], false⟩
def uFrag (o : Uo) (r : List UInt8) : Uo := if (35 : UInt8) ∈ r then { o with frag := pEnc 1 (behind 35 r), marks := true } else o
def uQuery (o : Uo) (r : List UInt8) : Uo := if (63 : UInt8) ∈ r then { o with query := pEnc (if uSp o.sch = true then 3 else 2) (behind 63 r), asks := true } else o
def uRead (s : List UInt8) : Option Uo :=
 if uSch s = 0 then none
 else uOwn (uQuery (uFrag (uFirst (lows (s.take (uSch s)))) (s.drop (uSch s + 1))) (ahead 35 (s.drop (uSch s + 1)))) (ahead 63 (ahead 35 (s.drop (uSch s + 1))))
def uUrl (s : List UInt8) : Option Uo := if 400 < s.length then none else uRead (uClean s)
end Go.Proofs.YtoapelcofjjdnaaGreatDoor
namespace Go.Proofs.YtoapelcofjjdnaaGreatDoor
set_option linter.all false
def blks : List (Nat × Nat) := [(0, 8), (167772160, 8), (1681915904, 10), (2130706432, 8), (2851995648, 16), (2886729728, 12), (3232235520, 16), (3758096384, 3)]
def bHas (a : Nat) (b : Nat × Nat) : Bool := decide (a / 2 ^ (32 - b.2) = b.1 / 2 ^ (32 - b.2))
def free4 (a : Nat) : Bool := !blks.any (bHas a)
def rfree4 (a : Nat) : Bool :=
 !(decide (a / 2 ^ 24 = 0) || (decide (a / 2 ^ 24 = 10) || (decide (a / 2 ^ 24 = 100 ∧ 64 ≤ a / 2 ^ 16 % 256 ∧ a / 2 ^ 16 % 256 < 128) || (decide (a / 2 ^ 24 = 127) || (decide (a / 2 ^ 24 = 169 ∧ a / 2 ^ 16 % 256 = 254) || (decide (a / 2 ^ 24 = 172 ∧ 16 ≤ a / 2 ^ 16 % 256 ∧ a / 2 ^ 16 % 256 < 32) || (decide (a / 2 ^ 24 = 192 ∧ a / 2 ^ 16 % 256 = 168) || decide (224 ≤ a / 2 ^ 24))))))))
theorem free4_eq {a : Nat} (h : a < 4294967296) : free4 a = rfree4 a := by
 unfold free4 rfree4
 congr 1
 simp only [blks, List.any_cons, List.any_nil, bHas, Bool.or_false]
 rw [Bool.eq_iff_iff]
 simp only [Bool.or_eq_true, decide_eq_true_eq]
 simp only [Nat.reduceSub, Nat.reducePow, Nat.reduceDiv]
 omega
def allZ (l : List Nat) : Bool := !l.any fun x => decide (x ≠ 0)
def free6 (a : List Nat) : Bool :=
 if (allZ (a.take 7) = true ∧ a.getD 7 0 < 2) ∨ a.getD 0 0 / 512 = 126 ∨ a.getD 0 0 / 64 = 1018 ∨ a.getD 0 0 / 256 = 255 then false
 else if allZ (a.take 5) = true ∧ a.getD 5 0 = 65535 then free4 (a.getD 6 0 * 65536 + a.getD 7 0)
 else true
def zeros (a : List Nat) : Nat := (a.takeWhile (fun x => decide (x = 0))).length
def rfree6 (a : List Nat) : Bool :=
 if zeros a = 8 ∨ (zeros a = 7 ∧ a.getD 7 0 = 1) ∨ a.getD 0 0 / 512 = 126 ∨ a.getD 0 0 / 64 = 1018 ∨ a.getD 0 0 / 256 = 255 then false
 else if zeros a = 5 ∧ a.getD 5 0 = 65535 then rfree4 (a.getD 6 0 * 65536 + a.getD 7 0)
 else true
theorem eight_list {a : List Nat} (h : a.length = 8) : ∃ a0 a1 a2 a3 a4 a5 a6 a7, a = [a0, a1, a2, a3, a4, a5, a6, a7] := by
 match a, h with
 | [a0, a1, a2, a3, a4, a5, a6, a7], _ => exact ⟨a0, a1, a2, a3, a4, a5, a6, a7, rfl⟩
theorem free6_eq {a : List Nat} (h8 : a.length = 8) (h16 : ∀ x ∈ a, x < 65536) : free6 a = rfree6 a := by
 obtain ⟨a0, a1, a2, a3, a4, a5, a6, a7, rfl⟩ := eight_list h8
 have h6 : a6 < 65536 := h16 _ (by simp)
 have h7 : a7 < 65536 := h16 _ (by simp)
 have e1 : free4 (a6 * 65536 + a7) = rfree4 (a6 * 65536 + a7) := free4_eq (by omega)
 unfold free6 rfree6
 simp only [List.getD_cons_zero, List.getD_cons_succ]
 rw [e1]
 have k1 : ((allZ ([a0, a1, a2, a3, a4, a5, a6, a7].take 7) = true ∧ a7 < 2) ↔ (zeros [a0, a1, a2, a3, a4, a5, a6, a7] = 8 ∨ (zeros [a0, a1, a2, a3, a4, a5, a6, a7] = 7 ∧ a7 = 1))) := by
  by_cases c0 : a0 = 0
  ·
   by_cases c1 : a1 = 0
   ·
    by_cases c2 : a2 = 0
    ·
     by_cases c3 : a3 = 0
     ·
      by_cases c4 : a4 = 0
      ·
       by_cases c5 : a5 = 0
       ·
        by_cases c6 : a6 = 0
        ·
         by_cases c7 : a7 = 0
         · simp [allZ, zeros, c0, c1, c2, c3, c4, c5, c6, c7]
         · simp [allZ, zeros, c0, c1, c2, c3, c4, c5, c6, c7]; omega
        · simp [allZ, zeros, c0, c1, c2, c3, c4, c5, c6]
       · simp [allZ, zeros, c0, c1, c2, c3, c4, c5]
      · simp [allZ, zeros, c0, c1, c2, c3, c4]
     · simp [allZ, zeros, c0, c1, c2, c3]
    · simp [allZ, zeros, c0, c1, c2]
   · simp [allZ, zeros, c0, c1]
  · simp [allZ, zeros, c0]
 have k2 : ((allZ ([a0, a1, a2, a3, a4, a5, a6, a7].take 5) = true ∧ a5 = 65535) ↔ (zeros [a0, a1, a2, a3, a4, a5, a6, a7] = 5 ∧ a5 = 65535)) := by
  by_cases c0 : a0 = 0
  ·
   by_cases c1 : a1 = 0
   ·
    by_cases c2 : a2 = 0
    ·
     by_cases c3 : a3 = 0
     ·
      by_cases c4 : a4 = 0
      ·
       by_cases c5 : a5 = 0
       · simp [allZ, zeros, c0, c1, c2, c3, c4, c5]
       · simp [allZ, zeros, c0, c1, c2, c3, c4, c5]
      · simp [allZ, zeros, c0, c1, c2, c3, c4]
     · simp [allZ, zeros, c0, c1, c2, c3]
    · simp [allZ, zeros, c0, c1, c2]
   · simp [allZ, zeros, c0, c1]
  · simp [allZ, zeros, c0]
 simp only [k1, k2, or_assoc]
def lhost : List UInt8 := [108, 111, 99, 97, 108, 104, 111, 115, 116]
def blkGo (L : List (List UInt8)) : Bool → List UInt8 → Bool
 | b, [] => b && L.contains []
 | b, c :: t => (b && L.contains (c :: t)) || blkGo L (decide (c = 46)) t
def blk (s : List UInt8) (l : List (List UInt8)) : Bool := blkGo (lhost :: l) true (dTrim s)
theorem blkGo_off {L : List (List UInt8)} : ∀ {t : List UInt8}, (46 : UInt8) ∉ t → blkGo L false t = false := by
 intro t
 induction t with
 | nil => intro _; rfl
 | cons c t ih =>
  intro h
  rw [List.mem_cons, not_or] at h
  unfold blkGo
  rw [Bool.false_and, Bool.false_or, decide_eq_false (fun e => h.1 e.symm), ih h.2]
theorem blkGo_here {L : List (List UInt8)} {t : List UInt8} (h : L.contains t = true) : blkGo L true t = true := by
 cases t with
 | nil => unfold blkGo; rw [h]; rfl
 | cons c t => unfold blkGo; rw [h]; rfl
theorem blkGo_end {L : List (List UInt8)} {t : List UInt8} (h : L.contains t = false) (hn : (46 : UInt8) ∉ t) : blkGo L true t = false := by
 cases t with
 | nil => unfold blkGo; rw [h]; rfl
 | cons c t =>
  rw [List.mem_cons, not_or] at hn
  unfold blkGo
  rw [h, decide_eq_false (fun e => hn.1 e.symm), blkGo_off hn.2]; rfl
theorem blkGo_past {L : List (List UInt8)} (r : List UInt8) : ∀ {a : List UInt8}, (46 : UInt8) ∉ a → blkGo L false (a ++ 46 :: r) = blkGo L true r := by
 intro a
 induction a with
 | nil => intro _; rw [List.nil_append, blkGo, Bool.false_and, Bool.false_or, decide_eq_true rfl]
 | cons c a ih =>
  intro h
  rw [List.mem_cons, not_or] at h
  rw [List.cons_append, blkGo, Bool.false_and, Bool.false_or, decide_eq_false (fun e => h.1 e.symm), ih h.2]
theorem blkGo_true {L : List (List UInt8)} {t : List UInt8} (h : L.contains t = false) : blkGo L true t = blkGo L false t := by
 cases t with
 | nil => unfold blkGo; rw [h]; rfl
 | cons c t => unfold blkGo; rw [h]; rfl
theorem blkGo_next {L : List (List UInt8)} {a r : List UInt8} (h : L.contains (a ++ 46 :: r) = false) (ha : (46 : UInt8) ∉ a) : blkGo L true (a ++ 46 :: r) = blkGo L true r := by
 rw [blkGo_true h, blkGo_past r ha]
theorem blkGo_mono {L : List (List UInt8)} {r : List UInt8} (h : blkGo L true r = true) : ∀ (a : List UInt8) (b : Bool), blkGo L b (a ++ 46 :: r) = true := by
 intro a
 induction a with
 | nil => intro b; rw [List.nil_append, blkGo, decide_eq_true rfl, h, Bool.or_true]
 | cons c a ih => intro b; rw [List.cons_append, blkGo, ih, Bool.or_true]
theorem trim_dot_end (s : List UInt8) : dTrim (s ++ [46]) = s := by unfold dTrim; rw [if_pos (by simp), List.dropLast_concat]
theorem trim_no {s : List UInt8} (h : s.getLast? ≠ some 46) : dTrim s = s := if_neg h
theorem blk_more {h s : List UInt8} {l : List (List UInt8)} (hs : s ≠ []) (hl : s.getLast? ≠ some 46) (hb : blk s l = true) : blk (h ++ 46 :: s) l = true := by
 unfold blk at hb ⊢
 rw [trim_no hl] at hb
 have e : (h ++ 46 :: s).getLast? = s.getLast? := by
  rw [show h ++ 46 :: s = (h ++ [46]) ++ s by simp, List.getLast?_append]
  cases hh : s.getLast? with
  | none => exact absurd (List.getLast?_eq_none_iff.1 hh) hs
  | some x => rfl
 rw [trim_no (by rw [e]; exact hl)]
 exact blkGo_mono hb h true
theorem blk_self {s : List UInt8} (hl : s.getLast? ≠ some 46) : blk s [s] = true := by
 unfold blk
 rw [trim_no hl]
 exact blkGo_here (by simp)
theorem blk_dot {s : List UInt8} : blk (s ++ [46]) [s] = true := by
 unfold blk
 rw [trim_dot_end]
 exact blkGo_here (by simp)
theorem blk_local (h : List UInt8) : blk (h ++ 46 :: lhost) [] = true :=
 blk_more (by decide) (by decide) (by decide)
end Go.Proofs.YtoapelcofjjdnaaGreatDoor
