/- Long addresses: what ip6 and the reference compute, in plain Lean. -/
import Derived.Test.YtaglbcniomcfnaaDoorDigP
namespace Go.Proofs.YtaglbcniomcfnaaDoor
set_option linter.all false
open Go.RowKit

def hexOk (c : UInt8) : Bool := decide (0 ≤ hexV c)
def hexN (l : List UInt8) : Nat := l.foldl (fun n c => n * 16 + (hexV c).toNat) 0
def decOk (c : UInt8) : Bool := decide (48 ≤ c.toNat ∧ c.toNat ≤ 57)
def decN (l : List UInt8) : Nat := l.foldl (fun n c => n * 10 + (c.toNat - 48)) 0

/-- One number from 0 to 255, and what lies behind it. -/
def okByte (d : List UInt8) : Bool := decide (d ≠ [] ∧ decN d < 256 ∧ (d = [48] ∨ d.head? ≠ some 48))
def sByte (s : List UInt8) : Option (Nat × List UInt8) := if okByte (s.takeWhile decOk) = true then some (decN (s.takeWhile decOk), s.dropWhile decOk) else none
/-- k numbers, a full stop between, and no more. -/
def sBytes : Nat → List UInt8 → Option (List Nat)
  | 0, _ => none
  | 1, s => match sByte s with
    | none => none
    | some (n, r) => if r = [] then some [n] else none
  | k + 2, s => match sByte s with
    | none => none
    | some (n, r) => match r with
      | [] => none
      | c :: t => if c = 46 then (sBytes (k + 1) t).map (n :: ·) else none
/-- The reference: all parts at once. -/
def rByte (p : List UInt8) : Option Nat := if p.all decOk = true ∧ okByte p = true then some (decN p) else none
def rBytes : List (List UInt8) → Option (List Nat)
  | [] => some []
  | p :: r => match rByte p with
    | none => none
    | some n => (rBytes r).map (n :: ·)

theorem span_all {P : UInt8 → Bool} {p : List UInt8} (h : p.all P = true) : p.takeWhile P = p ∧ p.dropWhile P = [] := by
  induction p with
  | nil => exact ⟨rfl, rfl⟩
  | cons a t ih =>
    rw [List.all_cons, Bool.and_eq_true] at h
    rw [List.takeWhile_cons, List.dropWhile_cons, if_pos h.1, if_pos h.1, (ih h.2).1, (ih h.2).2]
    exact ⟨rfl, rfl⟩
theorem span_stop {P : UInt8 → Bool} {p t : List UInt8} {c : UInt8} (h : p.all P = true) (hc : P c = false) : (p ++ c :: t).takeWhile P = p ∧ (p ++ c :: t).dropWhile P = c :: t := by
  induction p with
  | nil => rw [List.nil_append, List.takeWhile_cons, List.dropWhile_cons, hc]; exact ⟨rfl, rfl⟩
  | cons a p ih =>
    rw [List.all_cons, Bool.and_eq_true] at h
    rw [List.cons_append, List.takeWhile_cons, List.dropWhile_cons, if_pos h.1, if_pos h.1, (ih h.2).1, (ih h.2).2]
    exact ⟨rfl, rfl⟩
theorem not_all {P : UInt8 → Bool} {p : List UInt8} (h : p.all P = false) : ∃ a c t, p = a ++ c :: t ∧ a.all P = true ∧ P c = false := by
  induction p with
  | nil => cases h
  | cons x p ih =>
    by_cases hx : P x = true
    · rw [List.all_cons, hx, Bool.true_and] at h
      obtain ⟨a, c, t, e, h1, h2⟩ := ih h
      exact ⟨x :: a, c, t, by rw [e]; rfl, by rw [List.all_cons, hx, h1]; rfl, h2⟩
    · exact ⟨[], x, p, rfl, rfl, by simpa using hx⟩
theorem cuts_cases (c : UInt8) (s : List UInt8) : (c ∉ s ∧ cuts c s = [s]) ∨ ∃ a t, s = a ++ c :: t ∧ c ∉ a ∧ cuts c s = a :: cuts c t := by
  by_cases h : c ∈ s
  · obtain ⟨a, t, e, ha⟩ := first_parts h
    exact .inr ⟨a, t, e, ha, by rw [e, cuts_at t ha]⟩
  · exact .inl ⟨h, cuts_whole h⟩
theorem decOk_dot : decOk 46 = false := by decide
theorem hexOk_colon : hexOk 58 = false := by decide
theorem all_no {P : UInt8 → Bool} {p : List UInt8} {c : UInt8} (h : p.all P = true) (hc : P c = false) : c ∉ p := fun hm => by
  rw [List.all_eq_true.1 h c hm] at hc; cases hc
/-- One number ahead of the end, or of a sign. -/
theorem sByte_end (p : List UInt8) : sByte p = if p.all decOk = true then (rByte p).map fun n => (n, []) else sByte p := by
  split
  · next h =>
    obtain ⟨h1, h2⟩ := span_all h
    unfold sByte rByte
    rw [h1, h2]
    by_cases hk : okByte p = true
    · rw [if_pos hk, if_pos ⟨h, hk⟩]; rfl
    · rw [if_neg hk, if_neg (fun e => hk e.2)]; rfl
  · rfl
theorem sByte_stop {p t : List UInt8} {c : UInt8} (h : p.all decOk = true) (hc : decOk c = false) : sByte (p ++ c :: t) = (rByte p).map fun n => (n, c :: t) := by
  obtain ⟨h1, h2⟩ := span_stop (t := t) h hc
  unfold sByte rByte
  rw [h1, h2]
  by_cases hk : okByte p = true
  · rw [if_pos hk, if_pos ⟨h, hk⟩]; rfl
  · rw [if_neg hk, if_neg (fun e => hk e.2)]; rfl
theorem rByte_no {p : List UInt8} (h : p.all decOk = false) : rByte p = none := by
  unfold rByte; rw [if_neg (by rw [h]; simp)]
theorem sBytes_eq : ∀ (k : Nat) (s : List UInt8), sBytes (k + 1) s = if (cuts 46 s).length = k + 1 then rBytes (cuts 46 s) else none := by
  intro k
  induction k with
  | zero =>
    intro s
    rcases cuts_cases 46 s with ⟨hno, e⟩ | ⟨a, t, e, ha, ec⟩
    · rw [e, if_pos (show [s].length = 0 + 1 from rfl)]
      show (match sByte s with | none => none | some (n, r) => if r = [] then some [n] else none) = rBytes [s]
      by_cases h : s.all decOk = true
      · rw [sByte_end, if_pos h, rBytes]
        cases rByte s with
        | none => rfl
        | some n => rfl
      · have h' : s.all decOk = false := by simpa using h
        obtain ⟨x, c, y, e2, h1, h2⟩ := not_all h'
        rw [rBytes, rByte_no h', e2, sByte_stop h1 h2]
        cases rByte x with
        | none => rfl
        | some n => rfl
    · have hl : ¬ (cuts 46 s).length = 0 + 1 := by
        have := cuts_pos 46 t
        rw [ec, List.length_cons]; omega
      rw [if_neg hl]
      show (match sByte s with | none => none | some (n, r) => if r = [] then some [n] else none) = none
      by_cases h : a.all decOk = true
      · rw [e, sByte_stop h decOk_dot]
        cases rByte a with
        | none => rfl
        | some n => rfl
      · have h' : a.all decOk = false := by simpa using h
        obtain ⟨x, c, y, e2, h1, h2⟩ := not_all h'
        rw [e, e2, List.append_assoc, List.cons_append, sByte_stop h1 h2]
        cases rByte x with
        | none => rfl
        | some n => rfl
  | succ k ih =>
    intro s
    show (match sByte s with | none => none | some (n, r) => match r with | [] => none | c :: t => if c = 46 then (sBytes (k + 1) t).map (n :: ·) else none) = _
    rcases cuts_cases 46 s with ⟨hno, e⟩ | ⟨a, t, e, ha, ec⟩
    · rw [e, if_neg (by simp)]
      by_cases h : s.all decOk = true
      · rw [sByte_end, if_pos h]
        cases rByte s with
        | none => rfl
        | some n => rfl
      · have h' : s.all decOk = false := by simpa using h
        obtain ⟨x, c, y, e2, h1, h2⟩ := not_all h'
        have hc : c ≠ 46 := fun e3 => hno (by rw [e2, e3]; simp)
        rw [e2, sByte_stop h1 h2]
        cases rByte x with
        | none => rfl
        | some n => show (if c = 46 then _ else none) = none; rw [if_neg hc]
    · rw [ec, List.length_cons]
      by_cases h : a.all decOk = true
      · rw [e, sByte_stop h decOk_dot, rBytes]
        cases rByte a with
        | none => simp
        | some n =>
          show (if (46 : UInt8) = 46 then (sBytes (k + 1) t).map (n :: ·) else none) = _
          rw [if_pos rfl, ih t]
          by_cases hl : (cuts 46 t).length = k + 1
          · rw [if_pos hl, if_pos (by omega)]
          · rw [if_neg hl, if_neg (by omega)]; rfl
      · have h' : a.all decOk = false := by simpa using h
        obtain ⟨x, c, y, e2, h1, h2⟩ := not_all h'
        have hc : c ≠ 46 := fun e3 => ha (by rw [e2, e3]; simp)
        rw [rBytes, rByte_no h', e, e2, List.append_assoc, List.cons_append, sByte_stop h1 h2, ite_self]
        cases rByte x with
        | none => rfl
        | some n => show (if c = 46 then _ else none) = none; rw [if_neg hc]

/-- Four numbers, as two pieces. -/
def two : List Nat → List Nat
  | [a, b, c, d] => [a * 256 + b, c * 256 + d]
  | _ => []
def sFour (s : List UInt8) : Option (List Nat) := (sBytes 4 s).map two
def rFour (s : List UInt8) : Option (List Nat) := if (cuts 46 s).length = 4 then (rBytes (cuts 46 s)).map two else none
theorem four_eq (s : List UInt8) : sFour s = rFour s := by
  unfold sFour rFour
  rw [show (4 : Nat) = 3 + 1 from rfl, sBytes_eq 3 s]
  split <;> rfl

/-- A piece. -/
def okPiece (d : List UInt8) : Bool := decide (1 ≤ d.length ∧ d.length ≤ 4)
def rPiece (p : List UInt8) : Option Nat := if okPiece p = true ∧ p.all hexOk = true then some (hexN p) else none
/-- The reference's pieces of a text that is not empty. -/
def rGo (tail : Bool) : List (List UInt8) → Option (List Nat)
  | [] => some []
  | p :: r => if tail = true ∧ r = [] ∧ (46 : UInt8) ∈ p then rFour p else match rPiece p with
    | none => none
    | some n => (rGo tail r).map (n :: ·)
def rPieces (tail : Bool) (s : List UInt8) : Option (List Nat) := if s = [] then some [] else rGo tail (cuts 58 s)
/-- What lies ahead of two colons, and behind. -/
def gap2 : List UInt8 → Option (List UInt8 × List UInt8)
  | [] => none
  | c :: t => if c = 58 ∧ t.head? = some 58 then some ([], t.drop 1) else (gap2 t).map fun p => (c :: p.1, p.2)
def noughts (n : Nat) : List Nat := List.replicate n 0
def rParse6 (s : List UInt8) : Option (List Nat) := match gap2 s with
  | some (x, y) => match rPieces false x, rPieces true y with
    | some l, some m => if l.length + m.length ≤ 7 then some (l ++ noughts (8 - l.length - m.length) ++ m) else none
    | _, _ => none
  | none => match rPieces true s with
    | some l => if l.length = 8 then some l else none
    | none => none

/-- The program's pieces: what was read, and where the noughts stand. -/
def dotted (s : List UInt8) : Bool := decide ((46 : UInt8) ∈ s ∧ (58 : UInt8) ∉ s)
def sGo : Nat → List UInt8 → List Nat → Option Nat → Option (List Nat × Option Nat)
  | 0, _, _, _ => none
  | f + 1, s, l, g =>
    if 8 < l.length then none
    else if dotted s = true then (sFour s).map fun m => (l ++ m, g)
    else if okPiece (s.takeWhile hexOk) = true then
      match s.dropWhile hexOk with
      | [] => some (l ++ [hexN (s.takeWhile hexOk)], g)
      | c :: t => if c = 58 then
          (match t with
          | [] => none
          | d :: u => if d = 58 then
              (if g.isSome = true then none else if u = [] then some (l ++ [hexN (s.takeWhile hexOk)], some (l.length + 1)) else sGo f u (l ++ [hexN (s.takeWhile hexOk)]) (some (l.length + 1)))
            else sGo f (d :: u) (l ++ [hexN (s.takeWhile hexOk)]) g)
        else none
    else none
/-- The end: all noughts that are missing stand at the gap. -/
def sEnd : List Nat × Option Nat → Option (List Nat)
  | (l, none) => if l.length = 8 then some l else none
  | (l, some g) => if l.length ≤ 7 then some (l.take g ++ noughts (8 - l.length) ++ l.drop g) else none
def sAll (s : List UInt8) : Option (List Nat × Option Nat) := match s with
  | 58 :: 58 :: t => if t = [] then some ([], some 0) else sGo (s.length + 1) t [] (some 0)
  | [] => some ([], none)
  | _ => sGo (s.length + 1) s [] none
def pParse6 (s : List UInt8) : Option (List Nat) := (sAll s).bind sEnd

theorem sEnd_long {l : List Nat} {g : Option Nat} (h : 8 < l.length) : sEnd (l, g) = none := by
  cases g with
  | none => show (if _ then _ else _) = none; rw [if_neg (by omega)]
  | some g => show (if _ then _ else _) = none; rw [if_neg (by omega)]
theorem dotted_iff {s : List UInt8} (h : (58 : UInt8) ∉ s) : dotted s = decide ((46 : UInt8) ∈ s) := by unfold dotted; simp [h]
theorem dotted_no {s : List UInt8} (h : (58 : UInt8) ∈ s) : dotted s = false := by unfold dotted; simp [h]
theorem hex_dot : hexOk 46 = false := by decide
theorem rGo_no {tail : Bool} {p : List UInt8} {r : List (List UInt8)} (h : ¬ (tail = true ∧ r = [] ∧ (46 : UInt8) ∈ p)) : rGo tail (p :: r) = match rPiece p with | none => none | some n => (rGo tail r).map (n :: ·) := by
  rw [rGo, if_neg h]
theorem rGo_tail {p : List UInt8} (h : (46 : UInt8) ∈ p) : rGo true [p] = rFour p := by rw [rGo, if_pos ⟨rfl, rfl, h⟩]
theorem rPiece_no {p : List UInt8} (h : p.all hexOk = false) : rPiece p = none := by unfold rPiece; rw [if_neg (by rw [h]; simp)]
/-- No more gap: the rest's pieces, one by one. -/
theorem go_rest (F : List Nat × Option Nat → Option (List Nat)) (hF : ∀ l g, 8 < l.length → F (l, g) = none) (g : Option Nat) : ∀ (f : Nat) (s : List UInt8) (l : List Nat), s.length < f → (g.isSome = true ∨ gap2 s = none) → s ≠ [] →
    (sGo f s l g).bind F = (rGo true (cuts 58 s)).bind fun m => F (l ++ m, g) := by
  intro f
  induction f with
  | zero => intro s l h; omega
  | succ f ih =>
    intro s l hf hg hs
    rw [sGo]
    by_cases hl : 8 < l.length
    · rw [if_pos hl]
      cases rGo true (cuts 58 s) with
      | none => rfl
      | some m => exact (hF _ _ (by rw [List.length_append]; omega)).symm
    · rw [if_neg hl]
      rcases cuts_cases 58 s with ⟨hno, e⟩ | ⟨a, t, e, ha, ec⟩
      · rw [e, dotted_iff hno]
        by_cases hd : (46 : UInt8) ∈ s
        · rw [if_pos (by simpa using hd), rGo_tail hd, four_eq]
          cases rFour s <;> rfl
        · rw [if_neg (by simpa using hd), rGo_no (fun h => hd h.2.2)]
          by_cases h : s.all hexOk = true
          · obtain ⟨h1, h2⟩ := span_all h
            rw [h1, h2]
            unfold rPiece
            by_cases hk : okPiece s = true
            · rw [if_pos hk, if_pos ⟨hk, h⟩]; rfl
            · rw [if_neg hk, if_neg (fun e => hk e.1)]; rfl
          · have h' : s.all hexOk = false := by simpa using h
            obtain ⟨x, c, y, e2, h1, h2⟩ := not_all h'
            have hc : c ≠ 58 := fun e3 => hno (by rw [e2, e3]; simp)
            obtain ⟨h3, h4⟩ := span_stop (t := y) h1 h2
            rw [rPiece_no h', e2, h3, h4]
            simp only [if_neg hc]
            split <;> rfl
      · have hin : (58 : UInt8) ∈ s := by rw [e]; simp
        rw [ec, dotted_no hin, if_neg (by decide), rGo_no (fun h => cuts_ne _ _ h.2.1)]
        by_cases h : a.all hexOk = true
        · obtain ⟨h3, h4⟩ := span_stop (t := t) h hexOk_colon
          rw [e, h3, h4]
          unfold rPiece
          by_cases hk : okPiece a = true
          · rw [if_pos hk, if_pos ⟨hk, h⟩]
            simp only [if_pos]
            cases t with
            | nil =>
              show (none : Option _) = ((rGo true (cuts 58 [])).map (hexN a :: ·)).bind _
              have : rGo true (cuts 58 []) = none := by decide
              rw [this]; rfl
            | cons d u =>
              by_cases h58 : d = 58
              · subst h58
                have hgs : g.isSome = true := by
                  rcases hg with hg | hg
                  · exact hg
                  · exfalso
                    have : ∀ (a : List UInt8), gap2 (a ++ 58 :: 58 :: u) ≠ none := by
                      intro a
                      induction a with
                      | nil => rw [List.nil_append, gap2, if_pos ⟨rfl, rfl⟩]; simp
                      | cons x a ih =>
                        rw [List.cons_append, gap2]
                        split
                        · simp
                        · intro h; exact ih (by simpa using h)
                    exact this a (by rw [← e]; exact hg)
                simp only [if_pos, hgs]
                have : rGo true (cuts 58 (58 :: u)) = none := by
                  rw [cuts_hit, rGo_no (fun h => cuts_ne _ _ h.2.1)]; rfl
                rw [this]; rfl
              · simp only [if_neg h58]
                have hgu : g.isSome = true ∨ gap2 (d :: u) = none := by
                  rcases hg with hg | hg
                  · exact .inl hg
                  · refine .inr ?_
                    have : ∀ (a : List UInt8), gap2 (a ++ 58 :: d :: u) = none → gap2 (d :: u) = none := by
                      intro a
                      induction a with
                      | nil =>
                        intro h
                        rw [List.nil_append, gap2, if_neg (fun e => h58 (by simpa using e.2))] at h
                        simpa using h
                      | cons x a ih =>
                        intro h
                        rw [List.cons_append, gap2] at h
                        split at h
                        · cases h
                        · exact ih (by simpa using h)
                    exact this a (by rw [← e]; exact hg)
                have hlen : (d :: u).length < f := by
                  have := congrArg List.length e
                  rw [List.length_append, List.length_cons] at this
                  omega
                rw [ih (d :: u) _ hlen hgu (by simp)]
                cases rGo true (cuts 58 (d :: u)) with
                | none => rfl
                | some m => show F (l ++ [hexN a] ++ m, g) = F (l ++ hexN a :: m, g); rw [List.append_assoc]; rfl
          · rw [if_neg hk, if_neg (fun e => hk e.1)]; rfl
        · have h' : a.all hexOk = false := by simpa using h
          obtain ⟨x, c, y, e2, h1, h2⟩ := not_all h'
          have hc : c ≠ 58 := fun e3 => ha (by rw [e2, e3]; simp)
          obtain ⟨h3, h4⟩ := span_stop (t := y ++ 58 :: t) h1 h2
          rw [rPiece_no h', e, e2, List.append_assoc, List.cons_append, h3, h4]
          simp only [if_neg hc]
          split <;> rfl
theorem gap2_split : ∀ {s x y : List UInt8}, gap2 s = some (x, y) → s = x ++ 58 :: 58 :: y ∧ gap2 (x ++ [58]) = none := by
  intro s
  induction s with
  | nil => intro x y h; cases h
  | cons c t ih =>
    intro x y h
    rw [gap2] at h
    split at h
    · next hc =>
      injection h with h
      injection h with h1 h2
      subst h1
      obtain ⟨rfl, hh⟩ := hc
      cases t with
      | nil => cases hh
      | cons d u =>
        injection hh with hh
        subst hh
        subst h2
        exact ⟨rfl, by decide⟩
    · next hc =>
      cases hg : gap2 t with
      | none => rw [hg] at h; cases h
      | some p =>
        rw [hg] at h
        injection h with h
        injection h with h1 h2
        obtain ⟨x', y'⟩ := p
        subst h1; subst h2
        obtain ⟨e1, e2⟩ := ih hg
        refine ⟨by rw [e1]; rfl, ?_⟩
        rw [List.cons_append, gap2, e2, if_neg]
        · rfl
        · rintro ⟨rfl, hh⟩
          refine hc ⟨rfl, ?_⟩
          rw [e1]
          cases x' with
          | nil => rfl
          | cons a x' => exact hh
/-- Up to the gap. -/
theorem go_ahead (y : List UInt8) : ∀ (f : Nat) (x : List UInt8) (l : List Nat), x.length + y.length + 2 < f → gap2 (x ++ [58]) = none → x ≠ [] →
    (sGo f (x ++ 58 :: 58 :: y) l none).bind sEnd = (rGo false (cuts 58 x)).bind fun m => if y = [] then sEnd (l ++ m, some (l ++ m).length) else (rGo true (cuts 58 y)).bind fun k => sEnd (l ++ m ++ k, some (l ++ m).length) := by
  have tooLong : ∀ (l m : List Nat), 8 < l.length → (if y = [] then sEnd (l ++ m, some (l ++ m).length) else (rGo true (cuts 58 y)).bind fun k => sEnd (l ++ m ++ k, some (l ++ m).length)) = none := by
    intro l m h
    split
    · exact sEnd_long (by rw [List.length_append]; omega)
    · cases rGo true (cuts 58 y) with
      | none => rfl
      | some k => show sEnd (l ++ m ++ k, some (l ++ m).length) = none; exact sEnd_long (by rw [List.length_append, List.length_append]; omega)
  intro f
  induction f with
  | zero => intro x l h; omega
  | succ f ih =>
    intro x l hf hg hx
    rw [sGo]
    by_cases hl : 8 < l.length
    · rw [if_pos hl]
      cases rGo false (cuts 58 x) with
      | none => rfl
      | some m => exact (tooLong l m hl).symm
    · rw [if_neg hl, dotted_no (by simp), if_neg (by decide)]
      rcases cuts_cases 58 x with ⟨hno, e⟩ | ⟨a, t, e, ha, ec⟩
      · rw [e, rGo_no (fun h => by cases h.1)]
        by_cases h : x.all hexOk = true
        · obtain ⟨h3, h4⟩ := span_stop (t := 58 :: y) h hexOk_colon
          rw [h3, h4]
          unfold rPiece
          by_cases hk : okPiece x = true
          · rw [if_pos hk, if_pos ⟨hk, h⟩]
            simp only [if_pos, Option.isSome_none, Bool.false_eq_true, if_false]
            have hm : (rGo false []).map (hexN x :: ·) = some [hexN x] := rfl
            rw [hm, Option.bind_some]
            have hll : (l ++ [hexN x]).length = l.length + 1 := by simp
            by_cases hy : y = []
            · rw [if_pos hy, if_pos hy, hll]; rfl
            · rw [if_neg hy, if_neg hy, ← hll]
              exact go_rest sEnd (fun l g h => sEnd_long h) (some _) f y _ (by omega) (.inl rfl) hy
          · rw [if_neg hk, if_neg (fun e => hk e.1)]; rfl
        · have h' : x.all hexOk = false := by simpa using h
          obtain ⟨p, c, q, e2, h1, h2⟩ := not_all h'
          have hc : c ≠ 58 := fun e3 => hno (by rw [e2, e3]; simp)
          obtain ⟨h3, h4⟩ := span_stop (t := q ++ 58 :: 58 :: y) h1 h2
          rw [rPiece_no h', e2, List.append_assoc, List.cons_append, h3, h4]
          simp only [if_neg hc]
          split <;> rfl
      · rw [ec, rGo_no (fun h => by cases h.1)]
        by_cases h : a.all hexOk = true
        · obtain ⟨h3, h4⟩ := span_stop (t := t ++ 58 :: 58 :: y) h hexOk_colon
          rw [e, List.append_assoc, List.cons_append, h3, h4]
          unfold rPiece
          have ht : t ≠ [] ∧ t.head? ≠ some 58 ∧ gap2 (t ++ [58]) = none := by
            rw [e, List.append_assoc, List.cons_append] at hg
            have : ∀ (a : List UInt8), gap2 (a ++ 58 :: (t ++ [58])) = none → t ≠ [] ∧ t.head? ≠ some 58 ∧ gap2 (t ++ [58]) = none := by
              intro a
              induction a with
              | nil =>
                intro hh
                rw [List.nil_append, gap2] at hh
                split at hh
                · cases hh
                · next hn =>
                  refine ⟨?_, ?_, by simpa using hh⟩
                  · rintro rfl; exact hn ⟨rfl, rfl⟩
                  · intro h5
                    cases t with
                    | nil => cases h5
                    | cons d u => exact hn ⟨rfl, h5⟩
              | cons z a ih2 =>
                intro hh
                rw [List.cons_append, gap2] at hh
                split at hh
                · cases hh
                · exact ih2 (by simpa using hh)
            exact this a hg
          by_cases hk : okPiece a = true
          · rw [if_pos hk, if_pos ⟨hk, h⟩]
            simp only [if_pos]
            cases t with
            | nil => exact absurd rfl ht.1
            | cons d u =>
              have h58 : d ≠ 58 := fun e3 => ht.2.1 (by rw [e3]; rfl)
              rw [List.cons_append]
              simp only [if_neg h58]
              have hlen : (d :: u).length + y.length + 2 < f := by
                have := congrArg List.length e
                rw [List.length_append, List.length_cons] at this
                omega
              have h6 := ih (d :: u) (l ++ [hexN a]) hlen ht.2.2 (by simp)
              rw [List.cons_append] at h6
              rw [h6]
              cases rGo false (cuts 58 (d :: u)) with
              | none => rfl
              | some m =>
                show (if y = [] then sEnd (l ++ [hexN a] ++ m, some (l ++ [hexN a] ++ m).length) else _) = (if y = [] then sEnd (l ++ hexN a :: m, some (l ++ hexN a :: m).length) else _)
                rw [show l ++ [hexN a] ++ m = l ++ hexN a :: m by simp]
          · rw [if_neg hk, if_neg (fun e => hk e.1)]; rfl
        · have h' : a.all hexOk = false := by simpa using h
          obtain ⟨p, c, q, e2, h1, h2⟩ := not_all h'
          have hc : c ≠ 58 := fun e3 => ha (by rw [e2, e3]; simp)
          obtain ⟨h3, h4⟩ := span_stop (t := (q ++ 58 :: t) ++ 58 :: 58 :: y) h1 h2
          rw [rPiece_no h', e, e2]
          rw [show (p ++ c :: q ++ 58 :: t) ++ 58 :: 58 :: y = p ++ c :: ((q ++ 58 :: t) ++ 58 :: 58 :: y) by simp, h3, h4]
          simp only [if_neg hc]
          split <;> rfl
theorem sEnd_gap (l k : List Nat) : sEnd (l ++ k, some l.length) = if l.length + k.length ≤ 7 then some (l ++ noughts (8 - l.length - k.length) ++ k) else none := by
  show (if (l ++ k).length ≤ 7 then some ((l ++ k).take l.length ++ noughts (8 - (l ++ k).length) ++ (l ++ k).drop l.length) else none) = _
  rw [List.length_append, List.take_left, List.drop_left, Nat.sub_sub]
theorem sAll_one {s : List UInt8} (hs : s ≠ []) (h : ∀ t, s ≠ 58 :: 58 :: t) : sAll s = sGo (s.length + 1) s [] none := by
  unfold sAll
  split
  · next t => exact absurd rfl (h t)
  · exact absurd rfl hs
  · rfl
theorem parse6_eq (s : List UInt8) : pParse6 s = rParse6 s := by
  unfold pParse6 rParse6
  cases hg : gap2 s with
  | none =>
    show _ = match rPieces true s with | some l => if l.length = 8 then some l else none | none => none
    unfold rPieces
    by_cases hs : s = []
    · subst hs; decide
    · rw [if_neg hs, sAll_one hs (fun t e => by rw [e, gap2, if_pos ⟨rfl, rfl⟩] at hg; cases hg), go_rest sEnd (fun l g h => sEnd_long h) none _ s [] (by omega) (.inr hg) hs]
      cases rGo true (cuts 58 s) with
      | none => rfl
      | some m => rfl
  | some p =>
    obtain ⟨x, y⟩ := p
    obtain ⟨e, hx⟩ := gap2_split hg
    show _ = match rPieces false x, rPieces true y with | some l, some m => (if l.length + m.length ≤ 7 then some (l ++ noughts (8 - l.length - m.length) ++ m) else none) | _, _ => none
    unfold rPieces
    by_cases hx0 : x = []
    · subst hx0
      rw [if_pos rfl]
      rw [List.nil_append] at e
      have e1 : sAll s = if y = [] then some ([], some 0) else sGo (s.length + 1) y [] (some 0) := by rw [e]; rfl
      rw [e1]
      by_cases hy : y = []
      · rw [if_pos hy, if_pos hy]; exact sEnd_gap [] []
      · rw [if_neg hy, if_neg hy, go_rest sEnd (fun l g h => sEnd_long h) (some 0) _ y [] (by rw [e]; simp; omega) (.inl rfl) hy]
        cases rGo true (cuts 58 y) with
        | none => rfl
        | some m => exact sEnd_gap [] m
    · rw [if_neg hx0]
      have hne : ∀ t, s ≠ 58 :: 58 :: t := by
        intro t e2
        rw [e] at e2
        cases x with
        | nil => exact hx0 rfl
        | cons a x =>
          injection e2 with e3 e4
          subst e3
          cases x with
          | nil => revert hx; decide
          | cons b x =>
            injection e4 with e5 e6
            subst e5
            rw [List.cons_append, gap2, if_pos ⟨rfl, rfl⟩] at hx
            cases hx
      have hs : s ≠ [] := by rw [e]; simp
      rw [sAll_one hs hne]
      have h1 := go_ahead y (s.length + 1) x [] (by rw [e]; simp; omega) hx hx0
      rw [← e] at h1
      rw [h1]
      cases rGo false (cuts 58 x) with
      | none => rfl
      | some l =>
        simp only [Option.bind_some, List.nil_append]
        by_cases hy : y = []
        · rw [if_pos hy, if_pos hy]
          have := sEnd_gap l []
          rw [List.append_nil] at this
          exact this
        · rw [if_neg hy, if_neg hy]
          cases rGo true (cuts 58 y) with
          | none => rfl
          | some m => exact sEnd_gap l m
end Go.Proofs.YtaglbcniomcfnaaDoor

