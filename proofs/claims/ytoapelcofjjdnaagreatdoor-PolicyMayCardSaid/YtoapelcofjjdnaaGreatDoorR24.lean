/- A part of the proof. -/
import Derived.Test.YtoapelcofjjdnaaGreatDoorR08
import Derived.Test.YtoapelcofjjdnaaGreatDoorR23
import Derived.Test.YtoapelcofjjdnaaGreatDoorR02
namespace Go.Proofs.YtoapelcofjjdnaaGreatDoor
set_option linter.all false
theorem uSlash_len (sp : Bool) (s : List UInt8) : (slash sp s).length = s.length := by unfold slash; split <;> simp
theorem uGo_step {out : List (List UInt8)} {x : List UInt8} {r : List (List UInt8)} : pGo out (x :: r) = if r = [] then pLastP out x else pGo (pNext out x) r := by
 cases r with
 | nil => rfl
 | cons y t => rfl
theorem uNext_len (out : List (List UInt8)) (x : List UInt8) : (pNext out x).length ≤ out.length + 1 := by
 unfold pNext; (repeat' split) <;> simp <;> omega
theorem uLast_len (out : List (List UInt8)) (x : List UInt8) : (pLastP out x).length ≤ out.length + 1 := by
 unfold pLastP; (repeat' split) <;> simp
theorem uGo_le {M : Nat} : ∀ (L out : List (List UInt8)), (∀ y ∈ out, y.length ≤ M) → (∀ x ∈ L, 3 * x.length ≤ M) → (∀ y ∈ pGo out L, y.length ≤ M) ∧ (pGo out L).length ≤ out.length + L.length := by
 intro L
 induction L with
 | nil => intro out h _; exact ⟨h, Nat.le_refl _⟩
 | cons x L ih =>
  intro out h hL
  have hx := hL x (by simp)
  have he := pEnc_le 4 x
  have hl1 := uLast_len out x
  have hn1 := uNext_len out x
  have hnx : ∀ y ∈ pNext out x, y.length ≤ M := by
   intro y hy
   unfold pNext at hy
   split at hy
   · exact h y (List.dropLast_subset _ hy)
   ·
    split at hy
    · exact h y hy
    ·
     rcases List.mem_append.1 hy with hy | hy
     · exact h y hy
     · rw [List.mem_singleton.1 hy]; omega
  have hls : ∀ y ∈ pLastP out x, y.length ≤ M := by
   intro y hy
   unfold pLastP at hy
   split at hy
   ·
    rcases List.mem_append.1 hy with hy | hy
    · exact h y (List.dropLast_subset _ hy)
    · rw [List.mem_singleton.1 hy]; exact Nat.zero_le _
   ·
    split at hy
    ·
     rcases List.mem_append.1 hy with hy | hy
     · exact h y hy
     · rw [List.mem_singleton.1 hy]; exact Nat.zero_le _
    ·
     rcases List.mem_append.1 hy with hy | hy
     · exact h y hy
     · rw [List.mem_singleton.1 hy]; omega
  rw [uGo_step]
  split
  · next hL0 => subst hL0; exact ⟨hls, by simpa using hl1⟩
  ·
   obtain ⟨g1, g2⟩ := ih (pNext out x) hnx fun z hz => hL z (by simp [hz])
   exact ⟨g1, by rw [List.length_cons]; omega⟩
theorem uShowP_bound {M : Nat} : ∀ (l : List (List UInt8)), (∀ y ∈ l, y.length ≤ M) → (pShowP l).length ≤ l.length * (M + 1) := by
 intro l
 induction l with
 | nil => intro _; simp [pShowP]
 | cons x l ih =>
  intro h
  have h1 := h x (by simp)
  have h2 := ih fun y hy => h y (by simp [hy])
  have e : pShowP (x :: l) = 47 :: x ++ pShowP l := by simp [pShowP]
  rw [e, List.length_append, List.length_cons, List.length_cons, Nat.succ_mul]; omega
theorem uParse_bound {s : List UInt8} {sp : Bool} {N : Nat} (h : s.length ≤ N) : (∀ y ∈ pParseP s sp [], y.length ≤ 3 * N) ∧ (pParseP s sp []).length ≤ N + 1 := by
 have hc := cuts_le 47 (slash sp s)
 rw [uSlash_len] at hc
 obtain ⟨g1, g2⟩ := uGo_le (M := 3 * N) (pCut sp s) [] (fun y hy => by cases hy) fun x hx => by
  have := cuts_sum 47 (slash sp s) x hx
  rw [uSlash_len] at this; omega
 exact ⟨g1, by unfold pCut at g2; simp only [List.length_nil] at g2; unfold pParseP pCut; omega⟩
theorem hp_len3 {s t : List UInt8} {sp : Bool} (h : hParse s sp = some t) (hs : s.length ≤ 300) : t.length ≤ 1000 := by
 unfold hParse at h
 split at h
 ·
  unfold hLong at h
  split at h
  ·
   cases e : pParse6 (hIn s) with
   | none => rw [e] at h; cases h
   | some a =>
    rw [e] at h
    injection h with h
    subst h
    have := show6_len (pParse6_ok e).2 (pParse6_ok e).1
    simp only [List.length_append, List.length_cons, List.length_nil]
    omega
  · cases h
 ·
  split at h
  ·
   unfold hName at h
   cases e : dASCII (pDec s) with
   | none => rw [e] at h; cases h
   | some d =>
    rw [e] at h
    replace h : (if pEnds d = true then (pParse d).map pShow4 else some d) = some t := h
    split at h
    ·
     cases e2 : pParse d with
     | none => rw [e2] at h; cases h
     | some a =>
      rw [e2] at h
      injection h with h
      subst h
      rw [show4_fours]
      have := fours_len a
      omega
    ·
     injection h with h
     subst h
     obtain ⟨L, hN, _⟩ := name_of e
     have := (dEnd_some hN.fin).2.2
     omega
  ·
   split at h
   · cases h
   ·
    injection h with h
    subst h
    have := pEnc_le 0 s
    omega
theorem aheadR_le (c : UInt8) (s : List UInt8) : (ahead c s).length ≤ s.length := (List.takeWhile_prefix _).length_le
theorem behindR_le (c : UInt8) (s : List UInt8) : (behind c s).length ≤ s.length := by
 unfold behind
 rw [List.length_drop]
 have := dropWhile_le (· ≠ c) s
 omega
structure Fits (o : Uo) : Prop where
 sch : o.sch.length ≤ 300
 host : o.host.length ≤ 1000
 port : -1 ≤ o.port ∧ o.port ≤ 65535
 one : ∀ y ∈ o.path, y.length ≤ 900
 path : o.path.length ≤ 301
 query : o.query.length ≤ 900
 frag : o.frag.length ≤ 900
theorem uAuth_fits {sch r : List UInt8} {a : Ua} (h : uAuth sch r = some a) (hr : r.length ≤ 300) : a.host.length ≤ 1000 ∧ (-1 ≤ a.port ∧ a.port ≤ 65535) ∧ (∀ y ∈ a.path, y.length ≤ 900) ∧ a.path.length ≤ 301 := by
 unfold uAuth at h
 split at h
 · cases h
 ·
  obtain ⟨p, hp, h⟩ := Option.bind_eq_some_iff.1 h
  obtain ⟨t, ht, h⟩ := Option.map_eq_some_iff.1 h
  subst h
  have hn : (uName (uSp sch) r).length ≤ r.length := (List.takeWhile_prefix _).length_le
  refine ⟨?_, ?_, ?_⟩
  ·
   unfold uHost at ht
   split at ht
   · cases ht
   ·
    refine hp_len3 ht ?_
    unfold uLeft
    split
    · rw [List.length_take]; omega
    · omega
  ·
   unfold uRight at hp
   split at hp
   · exact uPort_range hp
   · injection hp with hp; subst hp; exact ⟨by show (-1 : Int) ≤ -1; omega, by show (-1 : Int) ≤ 65535; omega⟩
  ·
   show (∀ y ∈ uWays _ _, y.length ≤ 900) ∧ (uWays _ _).length ≤ 301
   unfold uWays
   split
   ·
    have hd : ((r.drop (uName (uSp sch) r).length).drop 1).length ≤ 300 := by rw [List.length_drop, List.length_drop]; omega
    obtain ⟨g1, g2⟩ := uParse_bound (sp := uSp sch) hd
    exact ⟨fun y hy => by have := g1 y hy; omega, by omega⟩
   ·
    split
    · exact ⟨fun y hy => by rw [List.mem_singleton.1 hy]; exact Nat.zero_le _, by simp⟩
    · exact ⟨(fun y hy => by cases hy), by simp⟩
theorem Fits.auth {o : Uo} (hf : Fits o) {r : List UInt8} {a : Ua} (h : uAuth o.sch r = some a) (hr : r.length ≤ 300) : Fits (o.withA a) := by
 obtain ⟨h1, h2, h3, h4⟩ := uAuth_fits h hr
 exact ⟨hf.sch, h1, h2, h3, h4, hf.query, hf.frag⟩
theorem uOwn_fits {o p : Uo} {r : List UInt8} (hf : Fits o) (h : uOwn o r = some p) (hr : r.length ≤ 300) : Fits p := by
 have hd : ∀ k, (r.drop k).length ≤ 300 := fun k => by rw [List.length_drop]; omega
 unfold uOwn at h
 split at h
 ·
  obtain ⟨a, ha, h⟩ := Option.map_eq_some_iff.1 h
  subst h
  exact hf.auth ha (hd _)
 ·
  split at h
  ·
   obtain ⟨a, ha, h⟩ := Option.map_eq_some_iff.1 h
   subst h
   exact hf.auth ha (hd _)
  ·
   split at h
   ·
    injection h with h
    subst h
    obtain ⟨g1, g2⟩ := uParse_bound (sp := false) (hd 1)
    exact ⟨hf.sch, hf.host, hf.port, fun y hy => by have := g1 y hy; omega, g2, hf.query, hf.frag⟩
   ·
    injection h with h
    subst h
    refine ⟨hf.sch, hf.host, hf.port, fun y hy => ?_, by simp, hf.query, hf.frag⟩
    rw [List.mem_singleton.1 hy]
    have := pEnc_le 0 r
    omega
theorem uUrl_fits {s : List UInt8} {o : Uo} (h : uUrl s = some o) (hs : s.length ≤ 300) : Fits o := by
 unfold uUrl at h
 split at h
 · cases h
 ·
  have hc := uClean_le s
  generalize uClean s = c at h hc
  unfold uRead at h
  split at h
  · cases h
  ·
   have ha1 := aheadR_le 35 (c.drop (uSch c + 1))
   have ha2 := aheadR_le 63 (ahead 35 (c.drop (uSch c + 1)))
   have hb1 := behindR_le 35 (c.drop (uSch c + 1))
   have hb2 := behindR_le 63 (ahead 35 (c.drop (uSch c + 1)))
   have hd : (c.drop (uSch c + 1)).length ≤ c.length := by rw [List.length_drop]; omega
   have f0 : Fits (uFirst (lows (c.take (uSch c)))) := ⟨by show (lows _).length ≤ 300; rw [lows_len, List.length_take]; omega, Nat.zero_le _, ⟨by show (-1 : Int) ≤ -1; omega, by show (-1 : Int) ≤ 65535; omega⟩, (fun y hy => by cases hy), Nat.zero_le _, Nat.zero_le _, Nat.zero_le _⟩
   have f1 : Fits (uFrag (uFirst (lows (c.take (uSch c)))) (c.drop (uSch c + 1))) := by
    unfold uFrag
    split
    ·
     have := pEnc_le 1 (behind 35 (c.drop (uSch c + 1)))
     exact ⟨f0.sch, f0.host, f0.port, f0.one, f0.path, f0.query, by show (pEnc _ _).length ≤ 900; omega⟩
    · exact f0
   have f2 := f1
   refine uOwn_fits (o := uQuery _ _) ?_ h (by omega)
   unfold uQuery
   split
   ·
    refine ⟨f2.sch, f2.host, f2.port, f2.one, f2.path, ?_, f2.frag⟩
    show (pEnc _ _).length ≤ 900
    have := fun k => pEnc_le k (behind 63 (ahead 35 (c.drop (uSch c + 1))))
    split
    · have := this 3; omega
    · have := this 2; omega
   · exact f2
end Go.Proofs.YtoapelcofjjdnaaGreatDoor
