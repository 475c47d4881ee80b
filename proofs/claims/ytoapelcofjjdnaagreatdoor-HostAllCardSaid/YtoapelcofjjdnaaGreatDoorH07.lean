/- A part of the proof. -/
import Derived.Test.YtoapelcofjjdnaaGreatDoorH01
import Derived.Test.YtoapelcofjjdnaaGreatDoorH02
import Derived.Test.YtoapelcofjjdnaaGreatDoorH00
import Derived.Test.YtoapelcofjjdnaaGreatDoorH03
namespace Go.Proofs.YtoapelcofjjdnaaGreatDoor
set_option linter.all false
def hNo (c : UInt8) : Bool := [0, 9, 10, 13, 32, 35, 47, 58, 60, 62, 63, 64, 91, 92, 93, 94, 124].contains c
def hIn (s : List UInt8) : List UInt8 := mid s 1 (s.length - 1)
def hLong (s : List UInt8) : Option (List UInt8) := if s.getLast? = some 93 then (pParse6 (hIn s)).map fun a => [91] ++ pShow6 a ++ [93] else none
def hName (s : List UInt8) : Option (List UInt8) := (dASCII (pDec s)).bind fun d => if pEnds d = true then (pParse d).map pShow4 else some d
def hParse (s : List UInt8) (sp : Bool) : Option (List UInt8) :=
 if s.head? = some 91 then hLong s else if sp = true then hName s else if s.any hNo = true then none else some (pEnc 0 s)
def hIP4 (s : List UInt8) : Option Nat := (pParse s).bind fun a => if pShow4 a = s then some a else none
def hIP6 (s : List UInt8) : Option (List Nat) := if s.head? = some 91 ∧ 2 ≤ s.length ∧ s.getLast? = some 93 then (pParse6 (hIn s)).bind fun a => if [91] ++ pShow6 a ++ [93] = s then some a else none else none
theorem fours_len (a : Nat) : (Lib.join (fours a) [46]).length ≤ 253 := by
 have key : ∀ u, u < 256 → (digs 10 u).length ≤ 3 := fun u hu => by have := digs_len (b := 10) (by decide) 3 u (by omega); omega
 have h1 := key (a / 2 ^ 24 % 256) (Nat.mod_lt _ (by decide))
 have h2 := key (a / 2 ^ 16 % 256) (Nat.mod_lt _ (by decide))
 have h3 := key (a / 2 ^ 8 % 256) (Nat.mod_lt _ (by decide))
 have h4 := key (a % 256) (Nat.mod_lt _ (by decide))
 unfold fours
 generalize digs 10 (a / 2 ^ 24 % 256) = x1 at *
 generalize digs 10 (a / 2 ^ 16 % 256) = x2 at *
 generalize digs 10 (a / 2 ^ 8 % 256) = x3 at *
 generalize digs 10 (a % 256) = x4 at *
 simp [Lib.join, List.intercalate]
 omega
theorem hParse_name {s : List UInt8} (h : s.head? ≠ some 91) : hParse s true = hName s := by unfold hParse; rw [if_neg h, if_pos rfl]
theorem hParse_long {s : List UInt8} (h : s.head? = some 91) (sp : Bool) : hParse s sp = hLong s := by unfold hParse; rw [if_pos h]
theorem hName_ne {s t : List UInt8} (h : dASCII s = some t) : t ≠ [] := by
 obtain ⟨L, hN, hgo⟩ := name_of h
 intro e
 have hc := hN.cuts
 rw [e] at hc
 have hgo2 := hN.go
 rw [← hc] at hgo2
 revert hgo2
 decide
end Go.Proofs.YtoapelcofjjdnaaGreatDoor
