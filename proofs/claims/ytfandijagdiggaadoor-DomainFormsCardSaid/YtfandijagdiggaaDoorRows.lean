/-
  NARROWER THAN 'FOR EVERY INPUT', by the rows' own cells (each row's printed sentence says how): DomainAll: laid · DomainStays: laid · DomainLarge: laid · DomainForms: laid · DomainParts: laid.
  DERIVED. THE GIVEN ROWS OF THIS SEAT. 5 by the template 'for every input the law returns true; each argument reads behind the call as it read before'; 0 by the template 'total and deterministic' (their statements: YtfandijagdiggaaDoorTotals.lean).
  GIVEN WITH THE SEED: the statements are not yours to turn. If you find one false, say at which input.
  Laid BY PROGRAM, IN A SANDBOX (cutbox-rows.mjs): the forced cells as the released guide's own fill.sh prints them over the translation d6f8f7185b4729fa… (all of the seat's roots in one cut). By AI agents, Wed Nov 11 2026. No macro, syntax, notation, axiom, sorry.
-/
import Derived.Test.YtfandijagdiggaaDoorChecked
import GoSem.PinnedTables
import GoSem.Claim
import GoSem.ClaimJoined
import GoSem.ClaimMapViews
import Derived.JoinedTies
import Derived.KernelRfl
namespace Go.Proofs.YtfandijagdiggaaDoor
/- THE CELL 'sum', in the pinned program and in every row, IS THE sha256 OF THE DUMP (.gsa) THAT YtfandijagdiggaaDoorProg.lean LOADS. Nothing in Lean hashes anything: it is a label: what it is worth is what the hold of that sum in a sandbox is worth. -/
noncomputable def Tryd.pinned : Pinned := { name := "ytfandijagdiggaadoor", sum := "d6f8f7185b4729fa041bec95b66a1848eb509853b24ebb73a79a5790d8fd4276", checked := Tryd.checked }
namespace Rows
def none {H : Type} : Left H := { results := [], args := [] }

/- WHAT THE LISTED PACKAGE-LEVEL VARIABLES READ AS WHEN THE CALL BEGINS. Each datum BY PROGRAM (the guide's laid-datum.mjs) off the statement by which the dump's own 'gosem.cut.vars' lays the variable. In a bare row this is a premise. The card (YtfandijagdiggaaDoorCards.lean) ties it to the program's text. -/
def laid_unicode_utf8_acceptRanges {H : Type} : DataW H := .agg [.agg [.lit (.int .u8 128), .lit (.int .u8 191)], .agg [.lit (.int .u8 160), .lit (.int .u8 191)], .agg [.lit (.int .u8 128), .lit (.int .u8 159)], .agg [.lit (.int .u8 144), .lit (.int .u8 191)], .agg [.lit (.int .u8 128), .lit (.int .u8 143)], .agg [.lit (.int .u8 0), .lit (.int .u8 0)], .agg [.lit (.int .u8 0), .lit (.int .u8 0)], .agg [.lit (.int .u8 0), .lit (.int .u8 0)], .agg [.lit (.int .u8 0), .lit (.int .u8 0)], .agg [.lit (.int .u8 0), .lit (.int .u8 0)], .agg [.lit (.int .u8 0), .lit (.int .u8 0)], .agg [.lit (.int .u8 0), .lit (.int .u8 0)], .agg [.lit (.int .u8 0), .lit (.int .u8 0)], .agg [.lit (.int .u8 0), .lit (.int .u8 0)], .agg [.lit (.int .u8 0), .lit (.int .u8 0)], .agg [.lit (.int .u8 0), .lit (.int .u8 0)]]
/-- One of Go's own tables, pinned by name: the form's constant. -/
def laid_unicode_utf8_first : DataW Unit := Go.Pinned.utf8First

/-- 'shortcutlaw6.DomainAll': WHATEVER THE INPUT: true; the input reads as it did. -/
def domainAllSpec : ChangeSpec := { name := "domainAll", fn := fun _ => fun
  | [d] => { results := [.lit (.bool true)], args := [d] }
  | _ => none }
def domainAllRow : OpenClaim := { program := "ytfandijagdiggaadoor", sum := "d6f8f7185b4729fa041bec95b66a1848eb509853b24ebb73a79a5790d8fd4276", func := "shortcut/shortcutlaw6.DomainAll", spec := "domainAll", inPlace := ["internal/bytealg.IndexByteString", "slices.overlaps[rune]", "internal/abi.NoEscape", "internal/bytealg.MakeNoZero", "internal/bytealg.CountString", "internal/bytealg.IndexString"], unfollowed := true, recurses := true, named := ["unicode/utf8.first", "unicode/utf8.acceptRanges", "internal/bytealg.MaxLen"], apart := false, laid := [("unicode/utf8.acceptRanges", laid_unicode_utf8_acceptRanges), ("unicode/utf8.first", laid_unicode_utf8_first)] }
def DomainAllSaid : Prop := domainAllRow.holds Tryd.pinned (OpenSpec.ofChange domainAllSpec)

/-- ITS FALSE NEIGHBOUR: 'it returns false'. Refute it at one input. -/
def domainAllWrong : ChangeSpec := { name := "domainAll", fn := fun _ => fun
  | [d] => { results := [.lit (.bool false)], args := [d] }
  | _ => none }
def DomainAllWrongFalsely : Prop := domainAllRow.holds Tryd.pinned (OpenSpec.ofChange domainAllWrong)

/-- 'shortcutlaw6.DomainStays': WHATEVER THE INPUT: true; the input reads as it did. -/
def domainStaysSpec : ChangeSpec := { name := "domainStays", fn := fun _ => fun
  | [d] => { results := [.lit (.bool true)], args := [d] }
  | _ => none }
def domainStaysRow : OpenClaim := { program := "ytfandijagdiggaadoor", sum := "d6f8f7185b4729fa041bec95b66a1848eb509853b24ebb73a79a5790d8fd4276", func := "shortcut/shortcutlaw6.DomainStays", spec := "domainStays", inPlace := ["internal/bytealg.IndexByteString", "slices.overlaps[rune]", "internal/abi.NoEscape", "internal/bytealg.MakeNoZero", "internal/bytealg.CountString", "internal/bytealg.IndexString"], unfollowed := true, recurses := true, named := ["unicode/utf8.first", "unicode/utf8.acceptRanges", "internal/bytealg.MaxLen"], apart := false, laid := [("unicode/utf8.acceptRanges", laid_unicode_utf8_acceptRanges), ("unicode/utf8.first", laid_unicode_utf8_first)] }
def DomainStaysSaid : Prop := domainStaysRow.holds Tryd.pinned (OpenSpec.ofChange domainStaysSpec)

/-- ITS FALSE NEIGHBOUR: 'it returns false'. Refute it at one input. -/
def domainStaysWrong : ChangeSpec := { name := "domainStays", fn := fun _ => fun
  | [d] => { results := [.lit (.bool false)], args := [d] }
  | _ => none }
def DomainStaysWrongFalsely : Prop := domainStaysRow.holds Tryd.pinned (OpenSpec.ofChange domainStaysWrong)

/-- 'shortcutlaw6.DomainLarge': WHATEVER THE INPUT: true; the input reads as it did. -/
def domainLargeSpec : ChangeSpec := { name := "domainLarge", fn := fun _ => fun
  | [d] => { results := [.lit (.bool true)], args := [d] }
  | _ => none }
def domainLargeRow : OpenClaim := { program := "ytfandijagdiggaadoor", sum := "d6f8f7185b4729fa041bec95b66a1848eb509853b24ebb73a79a5790d8fd4276", func := "shortcut/shortcutlaw6.DomainLarge", spec := "domainLarge", inPlace := ["internal/bytealg.IndexByteString", "slices.overlaps[rune]", "internal/abi.NoEscape", "internal/bytealg.MakeNoZero", "internal/bytealg.CountString", "internal/bytealg.IndexString"], unfollowed := true, recurses := true, named := ["unicode/utf8.first", "unicode/utf8.acceptRanges", "internal/bytealg.MaxLen"], apart := false, laid := [("unicode/utf8.acceptRanges", laid_unicode_utf8_acceptRanges), ("unicode/utf8.first", laid_unicode_utf8_first)] }
def DomainLargeSaid : Prop := domainLargeRow.holds Tryd.pinned (OpenSpec.ofChange domainLargeSpec)

/-- ITS FALSE NEIGHBOUR: 'it returns false'. Refute it at one input. -/
def domainLargeWrong : ChangeSpec := { name := "domainLarge", fn := fun _ => fun
  | [d] => { results := [.lit (.bool false)], args := [d] }
  | _ => none }
def DomainLargeWrongFalsely : Prop := domainLargeRow.holds Tryd.pinned (OpenSpec.ofChange domainLargeWrong)

/-- 'shortcutlaw6.DomainForms': WHATEVER THE INPUT: true; the input reads as it did. -/
def domainFormsSpec : ChangeSpec := { name := "domainForms", fn := fun _ => fun
  | [] => { results := [.lit (.bool true)], args := [] }
  | _ => none }
def domainFormsRow : OpenClaim := { program := "ytfandijagdiggaadoor", sum := "d6f8f7185b4729fa041bec95b66a1848eb509853b24ebb73a79a5790d8fd4276", func := "shortcut/shortcutlaw6.DomainForms", spec := "domainForms", inPlace := ["internal/bytealg.IndexByteString", "slices.overlaps[rune]", "internal/abi.NoEscape", "internal/bytealg.MakeNoZero", "internal/bytealg.CountString", "internal/bytealg.IndexString"], unfollowed := true, recurses := true, named := ["unicode/utf8.first", "unicode/utf8.acceptRanges", "internal/bytealg.MaxLen"], apart := false, laid := [("unicode/utf8.acceptRanges", laid_unicode_utf8_acceptRanges), ("unicode/utf8.first", laid_unicode_utf8_first)] }
def DomainFormsSaid : Prop := domainFormsRow.holds Tryd.pinned (OpenSpec.ofChange domainFormsSpec)

/-- ITS FALSE NEIGHBOUR: 'it returns false'. Refute it at one input. -/
def domainFormsWrong : ChangeSpec := { name := "domainForms", fn := fun _ => fun
  | [] => { results := [.lit (.bool false)], args := [] }
  | _ => none }
def DomainFormsWrongFalsely : Prop := domainFormsRow.holds Tryd.pinned (OpenSpec.ofChange domainFormsWrong)

/-- 'shortcutlaw6.DomainParts': WHATEVER THE INPUT: true; the input reads as it did. -/
def domainPartsSpec : ChangeSpec := { name := "domainParts", fn := fun _ => fun
  | [d1, d2] => { results := [.lit (.bool true)], args := [d1, d2] }
  | _ => none }
def domainPartsRow : OpenClaim := { program := "ytfandijagdiggaadoor", sum := "d6f8f7185b4729fa041bec95b66a1848eb509853b24ebb73a79a5790d8fd4276", func := "shortcut/shortcutlaw6.DomainParts", spec := "domainParts", inPlace := ["internal/bytealg.IndexByteString", "slices.overlaps[rune]", "internal/abi.NoEscape", "internal/bytealg.MakeNoZero", "internal/bytealg.CountString", "internal/bytealg.IndexString"], unfollowed := true, recurses := true, named := ["unicode/utf8.first", "unicode/utf8.acceptRanges", "internal/bytealg.MaxLen"], apart := false, laid := [("unicode/utf8.acceptRanges", laid_unicode_utf8_acceptRanges), ("unicode/utf8.first", laid_unicode_utf8_first)] }
def DomainPartsSaid : Prop := domainPartsRow.holds Tryd.pinned (OpenSpec.ofChange domainPartsSpec)

/-- ITS FALSE NEIGHBOUR: 'it returns false'. Refute it at one input. -/
def domainPartsWrong : ChangeSpec := { name := "domainParts", fn := fun _ => fun
  | [d1, d2] => { results := [.lit (.bool false)], args := [d1, d2] }
  | _ => none }
def DomainPartsWrongFalsely : Prop := domainPartsRow.holds Tryd.pinned (OpenSpec.ofChange domainPartsWrong)

/- THE SECOND FORM. 'bulk': how many values and letters a reading holds, each counted each time it is reached (what is shared counts as often as it is met; a slice's spare places count too). A statement '..UptoSaid' is the law's where the arguments, and the package variables that the reading takes, are together of bulk at most 1048576: NARROWER than '..Said'. Prove '..Said' where nothing that the law and all that it calls make is longer than what came in: it says more and counts as full. Else prove '..UptoSaid'. A law counts once. -/
mutual
def uptoBulk {H : Type} : DataW H → Nat
  | .lit (.string bytes) => bytes.length + 1
  | .lit _ => 1
  | .nil => 1
  | .ptr d => uptoBulk d + 1
  | .slice elems spare => uptoBulkAll elems + uptoBulkAll spare + 1
  | .agg parts => uptoBulkAll parts + 1
  | .iface _ d => uptoBulk d + 1
  | .map entries => uptoBulkEntries entries + 1
  | .held _ => 1
def uptoBulkAll {H : Type} : List (DataW H) → Nat
  | [] => 0
  | d :: r => uptoBulk d + uptoBulkAll r
def uptoBulkEntries {H : Type} : List (Lit × DataW H) → Nat
  | [] => 0
  | x :: r => uptoBulkEntry x + uptoBulkEntries r
def uptoBulkEntry {H : Type} : Lit × DataW H → Nat
  | (.string bytes, d) => bytes.length + uptoBulk d + 1
  | (_, d) => uptoBulk d + 1
 end
def uptoSmall : (H : Type) → List (DataW H) → Bool := fun _ ds => decide (uptoBulkAll ds ≤ 1048576)
def OpenSpec.upto (s : _root_.Go.ChangeSpec) : _root_.Go.OpenSpec := { _root_.Go.OpenSpec.ofChange s with cond := some uptoSmall }

/-- 'shortcutlaw6.DomainAll', WHERE WHAT IT READS IS OF BULK AT MOST 1048576: true; the input reads as it did. -/
def domainAllUptoRow : OpenClaim := { program := "ytfandijagdiggaadoor", sum := "d6f8f7185b4729fa041bec95b66a1848eb509853b24ebb73a79a5790d8fd4276", func := "shortcut/shortcutlaw6.DomainAll", spec := "domainAll", inPlace := ["internal/bytealg.IndexByteString", "slices.overlaps[rune]", "internal/abi.NoEscape", "internal/bytealg.MakeNoZero", "internal/bytealg.CountString", "internal/bytealg.IndexString"], unfollowed := true, recurses := true, named := ["unicode/utf8.first", "unicode/utf8.acceptRanges", "internal/bytealg.MaxLen"], apart := false, laid := [("unicode/utf8.acceptRanges", laid_unicode_utf8_acceptRanges), ("unicode/utf8.first", laid_unicode_utf8_first)], narrowed := true }
def DomainAllUptoSaid : Prop := domainAllUptoRow.holds Tryd.pinned (OpenSpec.upto domainAllSpec)

/-- 'shortcutlaw6.DomainStays', WHERE WHAT IT READS IS OF BULK AT MOST 1048576: true; the input reads as it did. -/
def domainStaysUptoRow : OpenClaim := { program := "ytfandijagdiggaadoor", sum := "d6f8f7185b4729fa041bec95b66a1848eb509853b24ebb73a79a5790d8fd4276", func := "shortcut/shortcutlaw6.DomainStays", spec := "domainStays", inPlace := ["internal/bytealg.IndexByteString", "slices.overlaps[rune]", "internal/abi.NoEscape", "internal/bytealg.MakeNoZero", "internal/bytealg.CountString", "internal/bytealg.IndexString"], unfollowed := true, recurses := true, named := ["unicode/utf8.first", "unicode/utf8.acceptRanges", "internal/bytealg.MaxLen"], apart := false, laid := [("unicode/utf8.acceptRanges", laid_unicode_utf8_acceptRanges), ("unicode/utf8.first", laid_unicode_utf8_first)], narrowed := true }
def DomainStaysUptoSaid : Prop := domainStaysUptoRow.holds Tryd.pinned (OpenSpec.upto domainStaysSpec)

/-- 'shortcutlaw6.DomainLarge', WHERE WHAT IT READS IS OF BULK AT MOST 1048576: true; the input reads as it did. -/
def domainLargeUptoRow : OpenClaim := { program := "ytfandijagdiggaadoor", sum := "d6f8f7185b4729fa041bec95b66a1848eb509853b24ebb73a79a5790d8fd4276", func := "shortcut/shortcutlaw6.DomainLarge", spec := "domainLarge", inPlace := ["internal/bytealg.IndexByteString", "slices.overlaps[rune]", "internal/abi.NoEscape", "internal/bytealg.MakeNoZero", "internal/bytealg.CountString", "internal/bytealg.IndexString"], unfollowed := true, recurses := true, named := ["unicode/utf8.first", "unicode/utf8.acceptRanges", "internal/bytealg.MaxLen"], apart := false, laid := [("unicode/utf8.acceptRanges", laid_unicode_utf8_acceptRanges), ("unicode/utf8.first", laid_unicode_utf8_first)], narrowed := true }
def DomainLargeUptoSaid : Prop := domainLargeUptoRow.holds Tryd.pinned (OpenSpec.upto domainLargeSpec)

/-- 'shortcutlaw6.DomainForms', WHERE WHAT IT READS IS OF BULK AT MOST 1048576: true; the input reads as it did. -/
def domainFormsUptoRow : OpenClaim := { program := "ytfandijagdiggaadoor", sum := "d6f8f7185b4729fa041bec95b66a1848eb509853b24ebb73a79a5790d8fd4276", func := "shortcut/shortcutlaw6.DomainForms", spec := "domainForms", inPlace := ["internal/bytealg.IndexByteString", "slices.overlaps[rune]", "internal/abi.NoEscape", "internal/bytealg.MakeNoZero", "internal/bytealg.CountString", "internal/bytealg.IndexString"], unfollowed := true, recurses := true, named := ["unicode/utf8.first", "unicode/utf8.acceptRanges", "internal/bytealg.MaxLen"], apart := false, laid := [("unicode/utf8.acceptRanges", laid_unicode_utf8_acceptRanges), ("unicode/utf8.first", laid_unicode_utf8_first)], narrowed := true }
def DomainFormsUptoSaid : Prop := domainFormsUptoRow.holds Tryd.pinned (OpenSpec.upto domainFormsSpec)

/-- 'shortcutlaw6.DomainParts', WHERE WHAT IT READS IS OF BULK AT MOST 1048576: true; the input reads as it did. -/
def domainPartsUptoRow : OpenClaim := { program := "ytfandijagdiggaadoor", sum := "d6f8f7185b4729fa041bec95b66a1848eb509853b24ebb73a79a5790d8fd4276", func := "shortcut/shortcutlaw6.DomainParts", spec := "domainParts", inPlace := ["internal/bytealg.IndexByteString", "slices.overlaps[rune]", "internal/abi.NoEscape", "internal/bytealg.MakeNoZero", "internal/bytealg.CountString", "internal/bytealg.IndexString"], unfollowed := true, recurses := true, named := ["unicode/utf8.first", "unicode/utf8.acceptRanges", "internal/bytealg.MaxLen"], apart := false, laid := [("unicode/utf8.acceptRanges", laid_unicode_utf8_acceptRanges), ("unicode/utf8.first", laid_unicode_utf8_first)], narrowed := true }
def DomainPartsUptoSaid : Prop := domainPartsUptoRow.holds Tryd.pinned (OpenSpec.upto domainPartsSpec)

end Rows
end Go.Proofs.YtfandijagdiggaaDoor
