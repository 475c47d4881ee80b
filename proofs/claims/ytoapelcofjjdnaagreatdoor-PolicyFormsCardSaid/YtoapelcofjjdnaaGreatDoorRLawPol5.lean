/- A part of the proof. -/
import Derived.Test.YtoapelcofjjdnaaGreatDoorRPolH
import Derived.Test.YtoapelcofjjdnaaGreatDoorRLawPol3
namespace Go.Proofs.YtoapelcofjjdnaaGreatDoor
set_option linter.all false
open Go.RowKit
theorem special_http {sch : List UInt8} (h : sch = uHttp ∨ sch = uHttps) : uSp sch = true := by rcases h with rfl | rfl <;> rfl
theorem uQuery_opq (o : Uo) (r : List UInt8) : (uQuery o r).opq = o.opq := by unfold uQuery; split <;> rfl
theorem uFrag_opq (o : Uo) (r : List UInt8) : (uFrag o r).opq = o.opq := by unfold uFrag; split <;> rfl
theorem url_special_host {s : List UInt8} {o : Uo} (h : uUrl s = some o) (hs : uSp o.sch = true) : o.has = true ∧ o.opq = false := by
 unfold uUrl at h
 split at h
 · cases h
 ·
  unfold uRead at h
  split at h
  · cases h
  ·
   generalize hq : uQuery _ _ = o2 at h
   have ho : o2.opq = false := by rw [← hq, uQuery_opq, uFrag_opq]; rfl
   unfold uOwn at h
   split at h
   ·
    obtain ⟨a, ha, h⟩ := Option.map_eq_some_iff.1 h
    subst h
    exact ⟨rfl, ho⟩
   ·
    rename_i hn
    split at h
    ·
     obtain ⟨a, ha, h⟩ := Option.map_eq_some_iff.1 h
     subst h
     exact absurd hs hn
    ·
     split at h
     ·
      injection h with h
      subst h
      exact absurd hs hn
     ·
      injection h with h
      subst h
      exact absurd hs hn
theorem rmay_scheme (sch host query frag : List UInt8) (has opq asks marks : Bool) (port : Int) (v vs : Value) (w : World) (h1 : sch ≠ uHttp) (h2 : sch ≠ uHttps) :
  Calls Tryz.prog 30 #[.agg #[.string (str sch), .string (str host), .bool has, .int .i64 port, v, .bool opq, .string (str query), .bool asks, .string (str frag), .bool marks], vs] w fun e w' => e = .returned (.int .i64 7) ∧ Below w.heap.size w w' := by
 have hu : UrAt (w.alloc (.cells #[.string (str sch), .string (str host), .bool has, .int .i64 port, v, .bool opq, .string (str query), .bool asks, .string (str frag), .bool marks] 44)) w.heap.size ⟨sch, host, has, port, [], opq, query, asks, frag, marks⟩ v := UrAt.made w ⟨sch, host, has, port, [], opq, query, asks, frag, marks⟩ v
 have c0 := hu.c0
 have htl := str_toL sch
 have q1 : (sch != [104, 116, 116, 112]) = true := by rw [bne_iff_ne]; exact h1
 have q2 : (sch != [104, 116, 116, 112, 115]) = true := by rw [bne_iff_ne]; exact h2
 have q3 : (sch == [104, 116, 116, 112]) = false := by rw [beq_eq_false_iff_ne]; exact h1
 have q4 : (sch == [104, 116, 116, 112, 115]) = false := by rw [beq_eq_false_iff_ne]; exact h2
 clear h1 h2
 go_enter Tryz.func30, Tryz.ntmps30
 go_wp2
 go_ret
 exact ⟨rfl, bnew (Below.refl _ _) _⟩
def mayU (o : Uo) (l : List (List UInt8)) : Int := if o.sch = uHttp ∨ o.sch = uHttps then may14 o.host l (uShowF o.sch o.host o.query o.frag o.path o.port o.asks o.marks) else 7
theorem pathShow_le {L : List (List UInt8)} (h1 : ∀ y ∈ L, y.length ≤ 900) (h2 : L.length ≤ 301) : (pShowP L).length ≤ 1000000 := by
 have := uShowP_bound L h1
 have h3 : L.length * (900 + 1) ≤ 301 * 901 := Nat.mul_le_mul_right _ h2
 omega
theorem showF_le {o : Uo} (hf : Fits o) : (uShowF o.sch o.host o.query o.frag o.path o.port o.asks o.marks).length ≤ 2000000 := by
 have h1 := hf.sch; have h2 := hf.host; have h3 := hf.query; have h4 := hf.frag; have h5 := pathShow_le hf.one hf.path
 have h6 : (if o.port = -1 then ([] : List UInt8) else [58] ++ digs 10 o.port.toNat).length ≤ 6 := by
  split
  · exact Nat.zero_le _
  ·
   have := hf.port
   have := port_len (n := o.port.toNat) (by omega)
   rw [List.length_append]; simp only [List.length_cons, List.length_nil]; omega
 have h7 : (if o.asks = true then [63] ++ o.query else []).length ≤ 901 := by
  split
  · rw [List.length_append]; simp only [List.length_cons, List.length_nil]; omega
  · exact Nat.zero_le _
 have h8 : (if o.marks = true then [35] ++ o.frag else []).length ≤ 901 := by
  split
  · rw [List.length_append]; simp only [List.length_cons, List.length_nil]; omega
  · exact Nat.zero_le _
 unfold uShowF
 simp only [List.length_append, List.length_cons, List.length_nil] at h6 h7 h8 ⊢
 omega
theorem pmayU_any (o : Uo) (hf : Fits o) (hsp : uSp o.sch = true → o.has = true ∧ o.opq = false) (A : Option Addr) (c : Nat) (w : World) (hr : Rd w w.heap.size A (strs o.path)) (Al : Option Addr) (cl : Nat) (l : List (List UInt8)) (hrl : Rd w w.heap.size Al (strs l)) (hll : l.length ≤ 100000) (hq : LH w) :
  Calls Tryz.prog 29 #[.agg #[.string (str o.sch), .string (str o.host), .bool o.has, .int .i64 o.port, .slice A o.path.length c, .bool o.opq, .string (str o.query), .bool o.asks, .string (str o.frag), .bool o.marks], .slice Al l.length cl] w fun e w' => e = .returned (.int .i64 (mayU o l)) ∧ Below w.heap.size w w' := by
 by_cases h : o.sch = uHttp ∨ o.sch = uHttps
 ·
  obtain ⟨e1, e2⟩ := hsp (special_http h)
  rw [e1, e2]
  unfold mayU
  rw [if_pos h]
  exact pmay14 o.sch o.host o.query o.frag o.path o.port o.asks o.marks hf.port A c w hr hf.sch hf.host hf.query hf.frag hf.path (pathShow_le hf.one hf.path) Al cl l hrl hll hq h _ rfl (showF_le hf)
 ·
  unfold mayU
  rw [if_neg h]
  exact pmay_scheme _ _ _ _ _ _ _ _ _ _ _ _ (fun e => h (.inl e)) (fun e => h (.inr e))
theorem rmayU_any (o : Uo) (hf : Fits o) (hsp : uSp o.sch = true → o.has = true ∧ o.opq = false) (A : Option Addr) (c : Nat) (w : World) (hr : Rd w w.heap.size A (strs o.path)) (Al : Option Addr) (cl : Nat) (l : List (List UInt8)) (hrl : Rd w w.heap.size Al (strs l)) (hll : l.length ≤ 100000) (hq : LH w) :
  Calls Tryz.prog 30 #[.agg #[.string (str o.sch), .string (str o.host), .bool o.has, .int .i64 o.port, .slice A o.path.length c, .bool o.opq, .string (str o.query), .bool o.asks, .string (str o.frag), .bool o.marks], .slice Al l.length cl] w fun e w' => e = .returned (.int .i64 (mayU o l)) ∧ Below w.heap.size w w' := by
 by_cases h : o.sch = uHttp ∨ o.sch = uHttps
 ·
  obtain ⟨e1, e2⟩ := hsp (special_http h)
  rw [e1, e2]
  unfold mayU
  rw [if_pos h]
  exact rmay14 o.sch o.host o.query o.frag o.path o.port o.asks o.marks hf.port A c w hr hf.sch hf.host hf.query hf.frag hf.path (pathShow_le hf.one hf.path) Al cl l hrl hll hq h _ rfl (showF_le hf)
 ·
  unfold mayU
  rw [if_neg h]
  exact rmay_scheme _ _ _ _ _ _ _ _ _ _ _ _ (fun e => h (.inl e)) (fun e => h (.inr e))
end Go.Proofs.YtoapelcofjjdnaaGreatDoor
