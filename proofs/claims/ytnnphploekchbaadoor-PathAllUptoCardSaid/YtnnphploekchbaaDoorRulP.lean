/- Rules: which pairs are left out: plain. -/
import Derived.Test.YtnnphploekchbaaDoorQryP
namespace Go.Proofs.YtnnphploekchbaaDoor
set_option linter.all false

def lowB (c : UInt8) : UInt8 := if 65 ≤ c.toNat ∧ c.toNat ≤ 90 then c + 32 else c
def lows (s : List UInt8) : List UInt8 := s.map lowB
theorem lows_len (s : List UInt8) : (lows s).length = s.length := List.length_map ..
abbrev Ru := List UInt8 × Bool
def rHit (n : List UInt8) (r : Ru) : Bool := full (lows r.1) && (decide (lows r.1 = n) || (r.2 && (lows r.1).isPrefixOf n))
def rOut (n : List UInt8) (rs : List Ru) : Bool := rs.any (rHit (lows n))
def rStrip (l : List Pr) (rs : List Ru) : List Pr := l.filter fun p => !rOut p.1 rs
def rText (s : List UInt8) (rs : List Ru) : List UInt8 := qShow (rStrip (qPairs s) rs)

theorem rOut_append (n : List UInt8) (a b : List Ru) : rOut n (a ++ b) = (rOut n a || rOut n b) := by unfold rOut; rw [List.any_append]
theorem rStrip_append (l : List Pr) (a b : List Ru) : rStrip (rStrip l a) b = rStrip l (a ++ b) := by
  unfold rStrip
  rw [List.filter_filter]
  refine List.filter_congr fun p _ => ?_
  rw [rOut_append]
  cases rOut p.1 a <;> cases rOut p.1 b <;> rfl
theorem rStrip_twice (l : List Pr) (a : List Ru) : rStrip (rStrip l a) a = rStrip l a := by
  unfold rStrip
  rw [List.filter_filter]
  exact List.filter_congr fun p _ => by cases rOut p.1 a <;> rfl
theorem rStrip_nil (l : List Pr) : rStrip l [] = l := List.filter_eq_self.2 fun p _ => rfl
theorem rStrip_len (l : List Pr) (a : List Ru) : (rStrip l a).length ≤ l.length := List.length_filter_le _ _
theorem qText_right (s : List UInt8) : qRight (qText s) = qText s := by
  unfold qText qRight; rw [uDec_uEnc (uDec_ok _)]
theorem qPairs_fixed {s : List UInt8} {p : Pr} (h : p ∈ qPairs s) : qRight2 p = p := by
  obtain ⟨q, _, rfl⟩ := List.mem_map.1 h
  unfold qRight2 qPair
  rw [qText_right, qText_right]
theorem qPairs_le (s : List UInt8) : (qPairs s).length ≤ 40 := by rw [qPairs_len]; omega
theorem qPairs_strip (s : List UInt8) (a : List Ru) : qPairs (rText s a) = rStrip (qPairs s) a := by
  unfold rText
  have h1 := rStrip_len (qPairs s) a
  have h2 := qPairs_le s
  rw [qPairs_show (by omega)]
  conv => rhs; rw [← List.map_id (rStrip (qPairs s) a)]
  exact List.map_congr_left fun p hp => qPairs_fixed ((List.mem_filter.1 hp).1)
theorem rText_text (s : List UInt8) (a b : List Ru) : rText (rText s a) b = rText s (a ++ b) := by
  show qShow (rStrip (qPairs (rText s a)) b) = _
  rw [qPairs_strip, rStrip_append]; rfl
theorem rText_twice (s : List UInt8) (a : List Ru) : rText (rText s a) a = rText s a := by
  show qShow (rStrip (qPairs (rText s a)) a) = _
  rw [qPairs_strip, rStrip_twice]; rfl
theorem rText_nil (s : List UInt8) : rText s [] = qShow (qPairs s) := by unfold rText; rw [rStrip_nil]
end Go.Proofs.YtnnphploekchbaaDoor

