/-
  No cell of these rows narrows 'for every input' (looked for: loops, veiled, ifaces, maps, wideKeys, modest, calm, conditions, laid).
  DERIVED. THE GIVEN ROWS OF THIS SEAT. 20 by the template 'for every input the law returns true; each argument reads behind the call as it read before'; 0 by the template 'total and deterministic' (their statements: YtalpkjdbennicaaTotals.lean).
  GIVEN WITH THE SEED: the statements are not yours to turn. If you find one false, say at which input.
  Laid BY PROGRAM, IN A SANDBOX (cutbox-rows.mjs): the forced cells as the released guide's own fill.sh prints them over the translation 55d96c88c309146d… (all of the seat's roots in one cut). By AI agents, Wed Nov 11 2026. No macro, syntax, notation, axiom, sorry.
-/
import Derived.Test.YtalpkjdbennicaaChecked
import GoSem.Claim
import GoSem.ClaimJoined
import GoSem.ClaimMapViews
import Derived.JoinedTies
import Derived.KernelRfl
namespace Go.Proofs.Ytalpkjdbennicaa
/- THE CELL 'sum', in the pinned program and in every row, IS THE sha256 OF THE DUMP (.gsa) THAT YtalpkjdbennicaaProg.lean LOADS. Nothing in Lean hashes anything: it is a label: what it is worth is what the hold of that sum in a sandbox is worth. -/
noncomputable def Try.pinned : Pinned := { name := "ytalpkjdbennicaa", sum := "55d96c88c309146d5283da9a78def7274dd4944ccec94db5a7c72f1973be2abf", checked := Try.checked }
namespace Rows
def none {H : Type} : Left H := { results := [], args := [] }

/-- 'shortcutlaw4.FoldMaps': WHATEVER THE INPUT: true; the input reads as it did. -/
def foldMapsSpec : ChangeSpec := { name := "foldMaps", fn := fun _ => fun
  | [d] => { results := [.lit (.bool true)], args := [d] }
  | _ => none }
def foldMapsRow : OpenClaim := { program := "ytalpkjdbennicaa", sum := "55d96c88c309146d5283da9a78def7274dd4944ccec94db5a7c72f1973be2abf", func := "shortcut/shortcutlaw4.FoldMaps", spec := "foldMaps", recurses := true, apart := false }
def FoldMapsSaid : Prop := foldMapsRow.holds Try.pinned (OpenSpec.ofChange foldMapsSpec)

/-- ITS FALSE NEIGHBOUR: 'it returns false'. Refute it at one input. -/
def foldMapsWrong : ChangeSpec := { name := "foldMaps", fn := fun _ => fun
  | [d] => { results := [.lit (.bool false)], args := [d] }
  | _ => none }
def FoldMapsWrongFalsely : Prop := foldMapsRow.holds Try.pinned (OpenSpec.ofChange foldMapsWrong)

/-- 'shortcutlaw4.FoldTexts': WHATEVER THE INPUT: true; the input reads as it did. -/
def foldTextsSpec : ChangeSpec := { name := "foldTexts", fn := fun _ => fun
  | [d] => { results := [.lit (.bool true)], args := [d] }
  | _ => none }
def foldTextsRow : OpenClaim := { program := "ytalpkjdbennicaa", sum := "55d96c88c309146d5283da9a78def7274dd4944ccec94db5a7c72f1973be2abf", func := "shortcut/shortcutlaw4.FoldTexts", spec := "foldTexts", recurses := true, apart := false }
def FoldTextsSaid : Prop := foldTextsRow.holds Try.pinned (OpenSpec.ofChange foldTextsSpec)

/-- ITS FALSE NEIGHBOUR: 'it returns false'. Refute it at one input. -/
def foldTextsWrong : ChangeSpec := { name := "foldTexts", fn := fun _ => fun
  | [d] => { results := [.lit (.bool false)], args := [d] }
  | _ => none }
def FoldTextsWrongFalsely : Prop := foldTextsRow.holds Try.pinned (OpenSpec.ofChange foldTextsWrong)

/-- 'shortcutlaw4.FoldStays': WHATEVER THE INPUT: true; the input reads as it did. -/
def foldStaysSpec : ChangeSpec := { name := "foldStays", fn := fun _ => fun
  | [d] => { results := [.lit (.bool true)], args := [d] }
  | _ => none }
def foldStaysRow : OpenClaim := { program := "ytalpkjdbennicaa", sum := "55d96c88c309146d5283da9a78def7274dd4944ccec94db5a7c72f1973be2abf", func := "shortcut/shortcutlaw4.FoldStays", spec := "foldStays", recurses := true, apart := false }
def FoldStaysSaid : Prop := foldStaysRow.holds Try.pinned (OpenSpec.ofChange foldStaysSpec)

/-- ITS FALSE NEIGHBOUR: 'it returns false'. Refute it at one input. -/
def foldStaysWrong : ChangeSpec := { name := "foldStays", fn := fun _ => fun
  | [d] => { results := [.lit (.bool false)], args := [d] }
  | _ => none }
def FoldStaysWrongFalsely : Prop := foldStaysRow.holds Try.pinned (OpenSpec.ofChange foldStaysWrong)

/-- 'shortcutlaw4.FoldForms': WHATEVER THE INPUT: true; the input reads as it did. -/
def foldFormsSpec : ChangeSpec := { name := "foldForms", fn := fun _ => fun
  | [] => { results := [.lit (.bool true)], args := [] }
  | _ => none }
def foldFormsRow : OpenClaim := { program := "ytalpkjdbennicaa", sum := "55d96c88c309146d5283da9a78def7274dd4944ccec94db5a7c72f1973be2abf", func := "shortcut/shortcutlaw4.FoldForms", spec := "foldForms", recurses := true, apart := false }
def FoldFormsSaid : Prop := foldFormsRow.holds Try.pinned (OpenSpec.ofChange foldFormsSpec)

/-- ITS FALSE NEIGHBOUR: 'it returns false'. Refute it at one input. -/
def foldFormsWrong : ChangeSpec := { name := "foldForms", fn := fun _ => fun
  | [] => { results := [.lit (.bool false)], args := [] }
  | _ => none }
def FoldFormsWrongFalsely : Prop := foldFormsRow.holds Try.pinned (OpenSpec.ofChange foldFormsWrong)

/-- 'shortcutlaw4.FoldParts': WHATEVER THE INPUT: true; the input reads as it did. -/
def foldPartsSpec : ChangeSpec := { name := "foldParts", fn := fun _ => fun
  | [d1, d2] => { results := [.lit (.bool true)], args := [d1, d2] }
  | _ => none }
def foldPartsRow : OpenClaim := { program := "ytalpkjdbennicaa", sum := "55d96c88c309146d5283da9a78def7274dd4944ccec94db5a7c72f1973be2abf", func := "shortcut/shortcutlaw4.FoldParts", spec := "foldParts", recurses := true, apart := false }
def FoldPartsSaid : Prop := foldPartsRow.holds Try.pinned (OpenSpec.ofChange foldPartsSpec)

/-- ITS FALSE NEIGHBOUR: 'it returns false'. Refute it at one input. -/
def foldPartsWrong : ChangeSpec := { name := "foldParts", fn := fun _ => fun
  | [d1, d2] => { results := [.lit (.bool false)], args := [d1, d2] }
  | _ => none }
def FoldPartsWrongFalsely : Prop := foldPartsRow.holds Try.pinned (OpenSpec.ofChange foldPartsWrong)

/-- 'shortcutlaw2.UtfAll': WHATEVER THE INPUT: true; the input reads as it did. -/
def utfAllSpec : ChangeSpec := { name := "utfAll", fn := fun _ => fun
  | [d1, d2] => { results := [.lit (.bool true)], args := [d1, d2] }
  | _ => none }
def utfAllRow : OpenClaim := { program := "ytalpkjdbennicaa", sum := "55d96c88c309146d5283da9a78def7274dd4944ccec94db5a7c72f1973be2abf", func := "shortcut/shortcutlaw2.UtfAll", spec := "utfAll", unfollowed := true, recurses := true, apart := false }
def UtfAllSaid : Prop := utfAllRow.holds Try.pinned (OpenSpec.ofChange utfAllSpec)

/-- ITS FALSE NEIGHBOUR: 'it returns false'. Refute it at one input. -/
def utfAllWrong : ChangeSpec := { name := "utfAll", fn := fun _ => fun
  | [d1, d2] => { results := [.lit (.bool false)], args := [d1, d2] }
  | _ => none }
def UtfAllWrongFalsely : Prop := utfAllRow.holds Try.pinned (OpenSpec.ofChange utfAllWrong)

/-- 'shortcutlaw2.UtfBack': WHATEVER THE INPUT: true; the input reads as it did. -/
def utfBackSpec : ChangeSpec := { name := "utfBack", fn := fun _ => fun
  | [d1, d2] => { results := [.lit (.bool true)], args := [d1, d2] }
  | _ => none }
def utfBackRow : OpenClaim := { program := "ytalpkjdbennicaa", sum := "55d96c88c309146d5283da9a78def7274dd4944ccec94db5a7c72f1973be2abf", func := "shortcut/shortcutlaw2.UtfBack", spec := "utfBack", unfollowed := true, recurses := true, apart := false }
def UtfBackSaid : Prop := utfBackRow.holds Try.pinned (OpenSpec.ofChange utfBackSpec)

/-- ITS FALSE NEIGHBOUR: 'it returns false'. Refute it at one input. -/
def utfBackWrong : ChangeSpec := { name := "utfBack", fn := fun _ => fun
  | [d1, d2] => { results := [.lit (.bool false)], args := [d1, d2] }
  | _ => none }
def UtfBackWrongFalsely : Prop := utfBackRow.holds Try.pinned (OpenSpec.ofChange utfBackWrong)

/-- 'shortcutlaw2.UtfGo': WHATEVER THE INPUT: true; the input reads as it did. -/
def utfGoSpec : ChangeSpec := { name := "utfGo", fn := fun _ => fun
  | [d] => { results := [.lit (.bool true)], args := [d] }
  | _ => none }
def utfGoRow : OpenClaim := { program := "ytalpkjdbennicaa", sum := "55d96c88c309146d5283da9a78def7274dd4944ccec94db5a7c72f1973be2abf", func := "shortcut/shortcutlaw2.UtfGo", spec := "utfGo", unfollowed := true, recurses := true, apart := false }
def UtfGoSaid : Prop := utfGoRow.holds Try.pinned (OpenSpec.ofChange utfGoSpec)

/-- ITS FALSE NEIGHBOUR: 'it returns false'. Refute it at one input. -/
def utfGoWrong : ChangeSpec := { name := "utfGo", fn := fun _ => fun
  | [d] => { results := [.lit (.bool false)], args := [d] }
  | _ => none }
def UtfGoWrongFalsely : Prop := utfGoRow.holds Try.pinned (OpenSpec.ofChange utfGoWrong)

/-- 'shortcutlaw2.UtfParts': WHATEVER THE INPUT: true; the input reads as it did. -/
def utfPartsSpec : ChangeSpec := { name := "utfParts", fn := fun _ => fun
  | [d1, d2] => { results := [.lit (.bool true)], args := [d1, d2] }
  | _ => none }
def utfPartsRow : OpenClaim := { program := "ytalpkjdbennicaa", sum := "55d96c88c309146d5283da9a78def7274dd4944ccec94db5a7c72f1973be2abf", func := "shortcut/shortcutlaw2.UtfParts", spec := "utfParts", unfollowed := true, recurses := true, apart := false }
def UtfPartsSaid : Prop := utfPartsRow.holds Try.pinned (OpenSpec.ofChange utfPartsSpec)

/-- ITS FALSE NEIGHBOUR: 'it returns false'. Refute it at one input. -/
def utfPartsWrong : ChangeSpec := { name := "utfParts", fn := fun _ => fun
  | [d1, d2] => { results := [.lit (.bool false)], args := [d1, d2] }
  | _ => none }
def UtfPartsWrongFalsely : Prop := utfPartsRow.holds Try.pinned (OpenSpec.ofChange utfPartsWrong)

/-- 'shortcutlaw2.UtfForms': WHATEVER THE INPUT: true; the input reads as it did. -/
def utfFormsSpec : ChangeSpec := { name := "utfForms", fn := fun _ => fun
  | [] => { results := [.lit (.bool true)], args := [] }
  | _ => none }
def utfFormsRow : OpenClaim := { program := "ytalpkjdbennicaa", sum := "55d96c88c309146d5283da9a78def7274dd4944ccec94db5a7c72f1973be2abf", func := "shortcut/shortcutlaw2.UtfForms", spec := "utfForms", unfollowed := true, recurses := true, apart := false }
def UtfFormsSaid : Prop := utfFormsRow.holds Try.pinned (OpenSpec.ofChange utfFormsSpec)

/-- ITS FALSE NEIGHBOUR: 'it returns false'. Refute it at one input. -/
def utfFormsWrong : ChangeSpec := { name := "utfForms", fn := fun _ => fun
  | [] => { results := [.lit (.bool false)], args := [] }
  | _ => none }
def UtfFormsWrongFalsely : Prop := utfFormsRow.holds Try.pinned (OpenSpec.ofChange utfFormsWrong)

/-- 'shortcutlaw3.PctAll': WHATEVER THE INPUT: true; the input reads as it did. -/
def pctAllSpec : ChangeSpec := { name := "pctAll", fn := fun _ => fun
  | [d1, d2, d3, d4] => { results := [.lit (.bool true)], args := [d1, d2, d3, d4] }
  | _ => none }
def pctAllRow : OpenClaim := { program := "ytalpkjdbennicaa", sum := "55d96c88c309146d5283da9a78def7274dd4944ccec94db5a7c72f1973be2abf", func := "shortcut/shortcutlaw3.PctAll", spec := "pctAll", inPlace := ["internal/abi.NoEscape", "internal/bytealg.IndexByteString"], unfollowed := true, recurses := true, apart := false }
def PctAllSaid : Prop := pctAllRow.holds Try.pinned (OpenSpec.ofChange pctAllSpec)

/-- ITS FALSE NEIGHBOUR: 'it returns false'. Refute it at one input. -/
def pctAllWrong : ChangeSpec := { name := "pctAll", fn := fun _ => fun
  | [d1, d2, d3, d4] => { results := [.lit (.bool false)], args := [d1, d2, d3, d4] }
  | _ => none }
def PctAllWrongFalsely : Prop := pctAllRow.holds Try.pinned (OpenSpec.ofChange pctAllWrong)

/-- 'shortcutlaw3.PctBack': WHATEVER THE INPUT: true; the input reads as it did. -/
def pctBackSpec : ChangeSpec := { name := "pctBack", fn := fun _ => fun
  | [d1, d2] => { results := [.lit (.bool true)], args := [d1, d2] }
  | _ => none }
def pctBackRow : OpenClaim := { program := "ytalpkjdbennicaa", sum := "55d96c88c309146d5283da9a78def7274dd4944ccec94db5a7c72f1973be2abf", func := "shortcut/shortcutlaw3.PctBack", spec := "pctBack", inPlace := ["internal/abi.NoEscape", "internal/bytealg.IndexByteString"], unfollowed := true, recurses := true, apart := false }
def PctBackSaid : Prop := pctBackRow.holds Try.pinned (OpenSpec.ofChange pctBackSpec)

/-- ITS FALSE NEIGHBOUR: 'it returns false'. Refute it at one input. -/
def pctBackWrong : ChangeSpec := { name := "pctBack", fn := fun _ => fun
  | [d1, d2] => { results := [.lit (.bool false)], args := [d1, d2] }
  | _ => none }
def PctBackWrongFalsely : Prop := pctBackRow.holds Try.pinned (OpenSpec.ofChange pctBackWrong)

/-- 'shortcutlaw3.PctNest': WHATEVER THE INPUT: true; the input reads as it did. -/
def pctNestSpec : ChangeSpec := { name := "pctNest", fn := fun _ => fun
  | [d] => { results := [.lit (.bool true)], args := [d] }
  | _ => none }
def pctNestRow : OpenClaim := { program := "ytalpkjdbennicaa", sum := "55d96c88c309146d5283da9a78def7274dd4944ccec94db5a7c72f1973be2abf", func := "shortcut/shortcutlaw3.PctNest", spec := "pctNest", inPlace := ["internal/abi.NoEscape", "internal/bytealg.IndexByteString"], unfollowed := true, recurses := true, apart := false }
def PctNestSaid : Prop := pctNestRow.holds Try.pinned (OpenSpec.ofChange pctNestSpec)

/-- ITS FALSE NEIGHBOUR: 'it returns false'. Refute it at one input. -/
def pctNestWrong : ChangeSpec := { name := "pctNest", fn := fun _ => fun
  | [d] => { results := [.lit (.bool false)], args := [d] }
  | _ => none }
def PctNestWrongFalsely : Prop := pctNestRow.holds Try.pinned (OpenSpec.ofChange pctNestWrong)

/-- 'shortcutlaw3.PctStays': WHATEVER THE INPUT: true; the input reads as it did. -/
def pctStaysSpec : ChangeSpec := { name := "pctStays", fn := fun _ => fun
  | [d1, d2] => { results := [.lit (.bool true)], args := [d1, d2] }
  | _ => none }
def pctStaysRow : OpenClaim := { program := "ytalpkjdbennicaa", sum := "55d96c88c309146d5283da9a78def7274dd4944ccec94db5a7c72f1973be2abf", func := "shortcut/shortcutlaw3.PctStays", spec := "pctStays", inPlace := ["internal/abi.NoEscape", "internal/bytealg.IndexByteString"], unfollowed := true, recurses := true, apart := false }
def PctStaysSaid : Prop := pctStaysRow.holds Try.pinned (OpenSpec.ofChange pctStaysSpec)

/-- ITS FALSE NEIGHBOUR: 'it returns false'. Refute it at one input. -/
def pctStaysWrong : ChangeSpec := { name := "pctStays", fn := fun _ => fun
  | [d1, d2] => { results := [.lit (.bool false)], args := [d1, d2] }
  | _ => none }
def PctStaysWrongFalsely : Prop := pctStaysRow.holds Try.pinned (OpenSpec.ofChange pctStaysWrong)

/-- 'shortcutlaw3.PctForms': WHATEVER THE INPUT: true; the input reads as it did. -/
def pctFormsSpec : ChangeSpec := { name := "pctForms", fn := fun _ => fun
  | [] => { results := [.lit (.bool true)], args := [] }
  | _ => none }
def pctFormsRow : OpenClaim := { program := "ytalpkjdbennicaa", sum := "55d96c88c309146d5283da9a78def7274dd4944ccec94db5a7c72f1973be2abf", func := "shortcut/shortcutlaw3.PctForms", spec := "pctForms", inPlace := ["internal/abi.NoEscape", "internal/bytealg.IndexByteString"], unfollowed := true, recurses := true, apart := false }
def PctFormsSaid : Prop := pctFormsRow.holds Try.pinned (OpenSpec.ofChange pctFormsSpec)

/-- ITS FALSE NEIGHBOUR: 'it returns false'. Refute it at one input. -/
def pctFormsWrong : ChangeSpec := { name := "pctForms", fn := fun _ => fun
  | [] => { results := [.lit (.bool false)], args := [] }
  | _ => none }
def PctFormsWrongFalsely : Prop := pctFormsRow.holds Try.pinned (OpenSpec.ofChange pctFormsWrong)

/-- 'shortcutlaw5.PunyEncodes': WHATEVER THE INPUT: true; the input reads as it did. -/
def punyEncodesSpec : ChangeSpec := { name := "punyEncodes", fn := fun _ => fun
  | [d] => { results := [.lit (.bool true)], args := [d] }
  | _ => none }
def punyEncodesRow : OpenClaim := { program := "ytalpkjdbennicaa", sum := "55d96c88c309146d5283da9a78def7274dd4944ccec94db5a7c72f1973be2abf", func := "shortcut/shortcutlaw5.PunyEncodes", spec := "punyEncodes", inPlace := ["internal/bytealg.IndexByteString", "slices.overlaps[rune]"], unfollowed := true, recurses := true, apart := false }
def PunyEncodesSaid : Prop := punyEncodesRow.holds Try.pinned (OpenSpec.ofChange punyEncodesSpec)

/-- ITS FALSE NEIGHBOUR: 'it returns false'. Refute it at one input. -/
def punyEncodesWrong : ChangeSpec := { name := "punyEncodes", fn := fun _ => fun
  | [d] => { results := [.lit (.bool false)], args := [d] }
  | _ => none }
def PunyEncodesWrongFalsely : Prop := punyEncodesRow.holds Try.pinned (OpenSpec.ofChange punyEncodesWrong)

/-- 'shortcutlaw5.PunyDecodes': WHATEVER THE INPUT: true; the input reads as it did. -/
def punyDecodesSpec : ChangeSpec := { name := "punyDecodes", fn := fun _ => fun
  | [d] => { results := [.lit (.bool true)], args := [d] }
  | _ => none }
def punyDecodesRow : OpenClaim := { program := "ytalpkjdbennicaa", sum := "55d96c88c309146d5283da9a78def7274dd4944ccec94db5a7c72f1973be2abf", func := "shortcut/shortcutlaw5.PunyDecodes", spec := "punyDecodes", inPlace := ["internal/bytealg.IndexByteString", "slices.overlaps[rune]"], unfollowed := true, recurses := true, apart := false }
def PunyDecodesSaid : Prop := punyDecodesRow.holds Try.pinned (OpenSpec.ofChange punyDecodesSpec)

/-- ITS FALSE NEIGHBOUR: 'it returns false'. Refute it at one input. -/
def punyDecodesWrong : ChangeSpec := { name := "punyDecodes", fn := fun _ => fun
  | [d] => { results := [.lit (.bool false)], args := [d] }
  | _ => none }
def PunyDecodesWrongFalsely : Prop := punyDecodesRow.holds Try.pinned (OpenSpec.ofChange punyDecodesWrong)

/-- 'shortcutlaw5.PunyBack': WHATEVER THE INPUT: true; the input reads as it did. -/
def punyBackSpec : ChangeSpec := { name := "punyBack", fn := fun _ => fun
  | [d] => { results := [.lit (.bool true)], args := [d] }
  | _ => none }
def punyBackRow : OpenClaim := { program := "ytalpkjdbennicaa", sum := "55d96c88c309146d5283da9a78def7274dd4944ccec94db5a7c72f1973be2abf", func := "shortcut/shortcutlaw5.PunyBack", spec := "punyBack", inPlace := ["internal/bytealg.IndexByteString", "slices.overlaps[rune]"], unfollowed := true, recurses := true, apart := false }
def PunyBackSaid : Prop := punyBackRow.holds Try.pinned (OpenSpec.ofChange punyBackSpec)

/-- ITS FALSE NEIGHBOUR: 'it returns false'. Refute it at one input. -/
def punyBackWrong : ChangeSpec := { name := "punyBack", fn := fun _ => fun
  | [d] => { results := [.lit (.bool false)], args := [d] }
  | _ => none }
def PunyBackWrongFalsely : Prop := punyBackRow.holds Try.pinned (OpenSpec.ofChange punyBackWrong)

/-- 'shortcutlaw5.PunyOne': WHATEVER THE INPUT: true; the input reads as it did. -/
def punyOneSpec : ChangeSpec := { name := "punyOne", fn := fun _ => fun
  | [d] => { results := [.lit (.bool true)], args := [d] }
  | _ => none }
def punyOneRow : OpenClaim := { program := "ytalpkjdbennicaa", sum := "55d96c88c309146d5283da9a78def7274dd4944ccec94db5a7c72f1973be2abf", func := "shortcut/shortcutlaw5.PunyOne", spec := "punyOne", inPlace := ["internal/bytealg.IndexByteString", "slices.overlaps[rune]"], unfollowed := true, recurses := true, apart := false }
def PunyOneSaid : Prop := punyOneRow.holds Try.pinned (OpenSpec.ofChange punyOneSpec)

/-- ITS FALSE NEIGHBOUR: 'it returns false'. Refute it at one input. -/
def punyOneWrong : ChangeSpec := { name := "punyOne", fn := fun _ => fun
  | [d] => { results := [.lit (.bool false)], args := [d] }
  | _ => none }
def PunyOneWrongFalsely : Prop := punyOneRow.holds Try.pinned (OpenSpec.ofChange punyOneWrong)

/-- 'shortcutlaw5.PunyForms': WHATEVER THE INPUT: true; the input reads as it did. -/
def punyFormsSpec : ChangeSpec := { name := "punyForms", fn := fun _ => fun
  | [] => { results := [.lit (.bool true)], args := [] }
  | _ => none }
def punyFormsRow : OpenClaim := { program := "ytalpkjdbennicaa", sum := "55d96c88c309146d5283da9a78def7274dd4944ccec94db5a7c72f1973be2abf", func := "shortcut/shortcutlaw5.PunyForms", spec := "punyForms", inPlace := ["internal/bytealg.IndexByteString", "slices.overlaps[rune]"], unfollowed := true, recurses := true, apart := false }
def PunyFormsSaid : Prop := punyFormsRow.holds Try.pinned (OpenSpec.ofChange punyFormsSpec)

/-- ITS FALSE NEIGHBOUR: 'it returns false'. Refute it at one input. -/
def punyFormsWrong : ChangeSpec := { name := "punyForms", fn := fun _ => fun
  | [] => { results := [.lit (.bool false)], args := [] }
  | _ => none }
def PunyFormsWrongFalsely : Prop := punyFormsRow.holds Try.pinned (OpenSpec.ofChange punyFormsWrong)

/- THE SECOND FORM. 'bulk': how many values and letters a reading holds, each counted each time it is reached (what is shared counts as often as it is met; a slice's spare places count too). A statement '..UptoSaid' is the law's where the arguments, and the package variables that the reading takes, are together of bulk at most 1048576: NARROWER than '..Said'. Prove '..Said' where nothing that the law and all that it calls make is longer than what came in: it says more and counts as full. Else prove '..UptoSaid'. A law counts once. -/
mutual
def uptoBulk {H : Type} : DataW H → Nat
  | .lit (.string bytes) => bytes.length + 1
  | .lit _ => 1
  | .nil => 1
  | .ptr d => uptoBulk d + 1
  | .slice elems spare => uptoBulkAll elems + uptoBulkAll spare + 1
  | .agg parts => uptoBulkAll parts + 1
  | .iface _ d => uptoBulk d + 1
  | .map entries => uptoBulkEntries entries + 1
  | .held _ => 1
def uptoBulkAll {H : Type} : List (DataW H) → Nat
  | [] => 0
  | d :: r => uptoBulk d + uptoBulkAll r
def uptoBulkEntries {H : Type} : List (Lit × DataW H) → Nat
  | [] => 0
  | x :: r => uptoBulkEntry x + uptoBulkEntries r
def uptoBulkEntry {H : Type} : Lit × DataW H → Nat
  | (.string bytes, d) => bytes.length + uptoBulk d + 1
  | (_, d) => uptoBulk d + 1
 end
def uptoSmall : (H : Type) → List (DataW H) → Bool := fun _ ds => decide (uptoBulkAll ds ≤ 1048576)
def OpenSpec.upto (s : _root_.Go.ChangeSpec) : _root_.Go.OpenSpec := { _root_.Go.OpenSpec.ofChange s with cond := some uptoSmall }

/-- 'shortcutlaw4.FoldMaps', WHERE WHAT IT READS IS OF BULK AT MOST 1048576: true; the input reads as it did. -/
def foldMapsUptoRow : OpenClaim := { program := "ytalpkjdbennicaa", sum := "55d96c88c309146d5283da9a78def7274dd4944ccec94db5a7c72f1973be2abf", func := "shortcut/shortcutlaw4.FoldMaps", spec := "foldMaps", recurses := true, apart := false, narrowed := true }
def FoldMapsUptoSaid : Prop := foldMapsUptoRow.holds Try.pinned (OpenSpec.upto foldMapsSpec)

/-- 'shortcutlaw4.FoldTexts', WHERE WHAT IT READS IS OF BULK AT MOST 1048576: true; the input reads as it did. -/
def foldTextsUptoRow : OpenClaim := { program := "ytalpkjdbennicaa", sum := "55d96c88c309146d5283da9a78def7274dd4944ccec94db5a7c72f1973be2abf", func := "shortcut/shortcutlaw4.FoldTexts", spec := "foldTexts", recurses := true, apart := false, narrowed := true }
def FoldTextsUptoSaid : Prop := foldTextsUptoRow.holds Try.pinned (OpenSpec.upto foldTextsSpec)

/-- 'shortcutlaw4.FoldStays', WHERE WHAT IT READS IS OF BULK AT MOST 1048576: true; the input reads as it did. -/
def foldStaysUptoRow : OpenClaim := { program := "ytalpkjdbennicaa", sum := "55d96c88c309146d5283da9a78def7274dd4944ccec94db5a7c72f1973be2abf", func := "shortcut/shortcutlaw4.FoldStays", spec := "foldStays", recurses := true, apart := false, narrowed := true }
def FoldStaysUptoSaid : Prop := foldStaysUptoRow.holds Try.pinned (OpenSpec.upto foldStaysSpec)

/-- 'shortcutlaw4.FoldForms', WHERE WHAT IT READS IS OF BULK AT MOST 1048576: true; the input reads as it did. -/
def foldFormsUptoRow : OpenClaim := { program := "ytalpkjdbennicaa", sum := "55d96c88c309146d5283da9a78def7274dd4944ccec94db5a7c72f1973be2abf", func := "shortcut/shortcutlaw4.FoldForms", spec := "foldForms", recurses := true, apart := false, narrowed := true }
def FoldFormsUptoSaid : Prop := foldFormsUptoRow.holds Try.pinned (OpenSpec.upto foldFormsSpec)

/-- 'shortcutlaw4.FoldParts', WHERE WHAT IT READS IS OF BULK AT MOST 1048576: true; the input reads as it did. -/
def foldPartsUptoRow : OpenClaim := { program := "ytalpkjdbennicaa", sum := "55d96c88c309146d5283da9a78def7274dd4944ccec94db5a7c72f1973be2abf", func := "shortcut/shortcutlaw4.FoldParts", spec := "foldParts", recurses := true, apart := false, narrowed := true }
def FoldPartsUptoSaid : Prop := foldPartsUptoRow.holds Try.pinned (OpenSpec.upto foldPartsSpec)

/-- 'shortcutlaw2.UtfAll', WHERE WHAT IT READS IS OF BULK AT MOST 1048576: true; the input reads as it did. -/
def utfAllUptoRow : OpenClaim := { program := "ytalpkjdbennicaa", sum := "55d96c88c309146d5283da9a78def7274dd4944ccec94db5a7c72f1973be2abf", func := "shortcut/shortcutlaw2.UtfAll", spec := "utfAll", unfollowed := true, recurses := true, apart := false, narrowed := true }
def UtfAllUptoSaid : Prop := utfAllUptoRow.holds Try.pinned (OpenSpec.upto utfAllSpec)

/-- 'shortcutlaw2.UtfBack', WHERE WHAT IT READS IS OF BULK AT MOST 1048576: true; the input reads as it did. -/
def utfBackUptoRow : OpenClaim := { program := "ytalpkjdbennicaa", sum := "55d96c88c309146d5283da9a78def7274dd4944ccec94db5a7c72f1973be2abf", func := "shortcut/shortcutlaw2.UtfBack", spec := "utfBack", unfollowed := true, recurses := true, apart := false, narrowed := true }
def UtfBackUptoSaid : Prop := utfBackUptoRow.holds Try.pinned (OpenSpec.upto utfBackSpec)

/-- 'shortcutlaw2.UtfGo', WHERE WHAT IT READS IS OF BULK AT MOST 1048576: true; the input reads as it did. -/
def utfGoUptoRow : OpenClaim := { program := "ytalpkjdbennicaa", sum := "55d96c88c309146d5283da9a78def7274dd4944ccec94db5a7c72f1973be2abf", func := "shortcut/shortcutlaw2.UtfGo", spec := "utfGo", unfollowed := true, recurses := true, apart := false, narrowed := true }
def UtfGoUptoSaid : Prop := utfGoUptoRow.holds Try.pinned (OpenSpec.upto utfGoSpec)

/-- 'shortcutlaw2.UtfParts', WHERE WHAT IT READS IS OF BULK AT MOST 1048576: true; the input reads as it did. -/
def utfPartsUptoRow : OpenClaim := { program := "ytalpkjdbennicaa", sum := "55d96c88c309146d5283da9a78def7274dd4944ccec94db5a7c72f1973be2abf", func := "shortcut/shortcutlaw2.UtfParts", spec := "utfParts", unfollowed := true, recurses := true, apart := false, narrowed := true }
def UtfPartsUptoSaid : Prop := utfPartsUptoRow.holds Try.pinned (OpenSpec.upto utfPartsSpec)

/-- 'shortcutlaw2.UtfForms', WHERE WHAT IT READS IS OF BULK AT MOST 1048576: true; the input reads as it did. -/
def utfFormsUptoRow : OpenClaim := { program := "ytalpkjdbennicaa", sum := "55d96c88c309146d5283da9a78def7274dd4944ccec94db5a7c72f1973be2abf", func := "shortcut/shortcutlaw2.UtfForms", spec := "utfForms", unfollowed := true, recurses := true, apart := false, narrowed := true }
def UtfFormsUptoSaid : Prop := utfFormsUptoRow.holds Try.pinned (OpenSpec.upto utfFormsSpec)

/-- 'shortcutlaw3.PctAll', WHERE WHAT IT READS IS OF BULK AT MOST 1048576: true; the input reads as it did. -/
def pctAllUptoRow : OpenClaim := { program := "ytalpkjdbennicaa", sum := "55d96c88c309146d5283da9a78def7274dd4944ccec94db5a7c72f1973be2abf", func := "shortcut/shortcutlaw3.PctAll", spec := "pctAll", inPlace := ["internal/abi.NoEscape", "internal/bytealg.IndexByteString"], unfollowed := true, recurses := true, apart := false, narrowed := true }
def PctAllUptoSaid : Prop := pctAllUptoRow.holds Try.pinned (OpenSpec.upto pctAllSpec)

/-- 'shortcutlaw3.PctBack', WHERE WHAT IT READS IS OF BULK AT MOST 1048576: true; the input reads as it did. -/
def pctBackUptoRow : OpenClaim := { program := "ytalpkjdbennicaa", sum := "55d96c88c309146d5283da9a78def7274dd4944ccec94db5a7c72f1973be2abf", func := "shortcut/shortcutlaw3.PctBack", spec := "pctBack", inPlace := ["internal/abi.NoEscape", "internal/bytealg.IndexByteString"], unfollowed := true, recurses := true, apart := false, narrowed := true }
def PctBackUptoSaid : Prop := pctBackUptoRow.holds Try.pinned (OpenSpec.upto pctBackSpec)

/-- 'shortcutlaw3.PctNest', WHERE WHAT IT READS IS OF BULK AT MOST 1048576: true; the input reads as it did. -/
def pctNestUptoRow : OpenClaim := { program := "ytalpkjdbennicaa", sum := "55d96c88c309146d5283da9a78def7274dd4944ccec94db5a7c72f1973be2abf", func := "shortcut/shortcutlaw3.PctNest", spec := "pctNest", inPlace := ["internal/abi.NoEscape", "internal/bytealg.IndexByteString"], unfollowed := true, recurses := true, apart := false, narrowed := true }
def PctNestUptoSaid : Prop := pctNestUptoRow.holds Try.pinned (OpenSpec.upto pctNestSpec)

/-- 'shortcutlaw3.PctStays', WHERE WHAT IT READS IS OF BULK AT MOST 1048576: true; the input reads as it did. -/
def pctStaysUptoRow : OpenClaim := { program := "ytalpkjdbennicaa", sum := "55d96c88c309146d5283da9a78def7274dd4944ccec94db5a7c72f1973be2abf", func := "shortcut/shortcutlaw3.PctStays", spec := "pctStays", inPlace := ["internal/abi.NoEscape", "internal/bytealg.IndexByteString"], unfollowed := true, recurses := true, apart := false, narrowed := true }
def PctStaysUptoSaid : Prop := pctStaysUptoRow.holds Try.pinned (OpenSpec.upto pctStaysSpec)

/-- 'shortcutlaw3.PctForms', WHERE WHAT IT READS IS OF BULK AT MOST 1048576: true; the input reads as it did. -/
def pctFormsUptoRow : OpenClaim := { program := "ytalpkjdbennicaa", sum := "55d96c88c309146d5283da9a78def7274dd4944ccec94db5a7c72f1973be2abf", func := "shortcut/shortcutlaw3.PctForms", spec := "pctForms", inPlace := ["internal/abi.NoEscape", "internal/bytealg.IndexByteString"], unfollowed := true, recurses := true, apart := false, narrowed := true }
def PctFormsUptoSaid : Prop := pctFormsUptoRow.holds Try.pinned (OpenSpec.upto pctFormsSpec)

/-- 'shortcutlaw5.PunyEncodes', WHERE WHAT IT READS IS OF BULK AT MOST 1048576: true; the input reads as it did. -/
def punyEncodesUptoRow : OpenClaim := { program := "ytalpkjdbennicaa", sum := "55d96c88c309146d5283da9a78def7274dd4944ccec94db5a7c72f1973be2abf", func := "shortcut/shortcutlaw5.PunyEncodes", spec := "punyEncodes", inPlace := ["internal/bytealg.IndexByteString", "slices.overlaps[rune]"], unfollowed := true, recurses := true, apart := false, narrowed := true }
def PunyEncodesUptoSaid : Prop := punyEncodesUptoRow.holds Try.pinned (OpenSpec.upto punyEncodesSpec)

/-- 'shortcutlaw5.PunyDecodes', WHERE WHAT IT READS IS OF BULK AT MOST 1048576: true; the input reads as it did. -/
def punyDecodesUptoRow : OpenClaim := { program := "ytalpkjdbennicaa", sum := "55d96c88c309146d5283da9a78def7274dd4944ccec94db5a7c72f1973be2abf", func := "shortcut/shortcutlaw5.PunyDecodes", spec := "punyDecodes", inPlace := ["internal/bytealg.IndexByteString", "slices.overlaps[rune]"], unfollowed := true, recurses := true, apart := false, narrowed := true }
def PunyDecodesUptoSaid : Prop := punyDecodesUptoRow.holds Try.pinned (OpenSpec.upto punyDecodesSpec)

/-- 'shortcutlaw5.PunyBack', WHERE WHAT IT READS IS OF BULK AT MOST 1048576: true; the input reads as it did. -/
def punyBackUptoRow : OpenClaim := { program := "ytalpkjdbennicaa", sum := "55d96c88c309146d5283da9a78def7274dd4944ccec94db5a7c72f1973be2abf", func := "shortcut/shortcutlaw5.PunyBack", spec := "punyBack", inPlace := ["internal/bytealg.IndexByteString", "slices.overlaps[rune]"], unfollowed := true, recurses := true, apart := false, narrowed := true }
def PunyBackUptoSaid : Prop := punyBackUptoRow.holds Try.pinned (OpenSpec.upto punyBackSpec)

/-- 'shortcutlaw5.PunyOne', WHERE WHAT IT READS IS OF BULK AT MOST 1048576: true; the input reads as it did. -/
def punyOneUptoRow : OpenClaim := { program := "ytalpkjdbennicaa", sum := "55d96c88c309146d5283da9a78def7274dd4944ccec94db5a7c72f1973be2abf", func := "shortcut/shortcutlaw5.PunyOne", spec := "punyOne", inPlace := ["internal/bytealg.IndexByteString", "slices.overlaps[rune]"], unfollowed := true, recurses := true, apart := false, narrowed := true }
def PunyOneUptoSaid : Prop := punyOneUptoRow.holds Try.pinned (OpenSpec.upto punyOneSpec)

/-- 'shortcutlaw5.PunyForms', WHERE WHAT IT READS IS OF BULK AT MOST 1048576: true; the input reads as it did. -/
def punyFormsUptoRow : OpenClaim := { program := "ytalpkjdbennicaa", sum := "55d96c88c309146d5283da9a78def7274dd4944ccec94db5a7c72f1973be2abf", func := "shortcut/shortcutlaw5.PunyForms", spec := "punyForms", inPlace := ["internal/bytealg.IndexByteString", "slices.overlaps[rune]"], unfollowed := true, recurses := true, apart := false, narrowed := true }
def PunyFormsUptoSaid : Prop := punyFormsUptoRow.holds Try.pinned (OpenSpec.upto punyFormsSpec)

end Rows
end Go.Proofs.Ytalpkjdbennicaa
