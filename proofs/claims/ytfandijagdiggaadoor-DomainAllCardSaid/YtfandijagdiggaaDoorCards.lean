/-
  DERIVED. GIVEN WITH THE SEED: THE CARDS: each row of YtfandijagdiggaaDoorRows.lean that lists a variable, with what it lists TIED to the program's text (the seventh form; the later family's looks); each row that meets fmt, with fmt's text TOLD by the authors' own Lean function (tested against real Go, not proved from fmt's source: count such statements apart). THE CARD IS WHAT COUNTS. Prove the row's statement (the work); the ties are given (YtfandijagdiggaaDoorTie.lean); close each card by the builder's one call (the guide's Derived/Test/ToyasCard.lean, 'card_holds'). Laid BY PROGRAM, IN A SANDBOX (cutbox-door.mjs). By AI agents, Wed Nov 11 2026. No macro, syntax, notation, axiom, sorry.
-/
import Derived.Test.YtfandijagdiggaaDoorRows
import GoSem.ClaimSeven
namespace Go.Proofs.YtfandijagdiggaaDoor
namespace Rows

/-- THE TIED CARD OF 'shortcutlaw6.DomainAll'. -/
def domainAllCard : Claim7 := { stood := { row := domainAllRow, standIns := [], harness := (true, "5790429fa7dcc4a4a4eca14075a27388e5e54aec7728e346ff139119fd050402"), looks := false }, kinds := [], alts := [], laidByText := true, laidKinds := [.data, .pinned], laidTests := true, laidLooks := .later }
def DomainAllCardSaid : Prop := Claim7.holds Tryd.pinned (.plain (OpenSpec.ofChange domainAllSpec)) domainAllCard

/-- THE TIED CARD OF 'shortcutlaw6.DomainStays'. -/
def domainStaysCard : Claim7 := { stood := { row := domainStaysRow, standIns := [], harness := (true, "5790429fa7dcc4a4a4eca14075a27388e5e54aec7728e346ff139119fd050402"), looks := false }, kinds := [], alts := [], laidByText := true, laidKinds := [.data, .pinned], laidTests := true, laidLooks := .later }
def DomainStaysCardSaid : Prop := Claim7.holds Tryd.pinned (.plain (OpenSpec.ofChange domainStaysSpec)) domainStaysCard

/-- THE TIED CARD OF 'shortcutlaw6.DomainLarge'. -/
def domainLargeCard : Claim7 := { stood := { row := domainLargeRow, standIns := [], harness := (true, "5790429fa7dcc4a4a4eca14075a27388e5e54aec7728e346ff139119fd050402"), looks := false }, kinds := [], alts := [], laidByText := true, laidKinds := [.data, .pinned], laidTests := true, laidLooks := .later }
def DomainLargeCardSaid : Prop := Claim7.holds Tryd.pinned (.plain (OpenSpec.ofChange domainLargeSpec)) domainLargeCard

/-- THE TIED CARD OF 'shortcutlaw6.DomainForms'. -/
def domainFormsCard : Claim7 := { stood := { row := domainFormsRow, standIns := [], harness := (true, "5790429fa7dcc4a4a4eca14075a27388e5e54aec7728e346ff139119fd050402"), looks := false }, kinds := [], alts := [], laidByText := true, laidKinds := [.data, .pinned], laidTests := true, laidLooks := .later }
def DomainFormsCardSaid : Prop := Claim7.holds Tryd.pinned (.plain (OpenSpec.ofChange domainFormsSpec)) domainFormsCard

/-- THE TIED CARD OF 'shortcutlaw6.DomainParts'. -/
def domainPartsCard : Claim7 := { stood := { row := domainPartsRow, standIns := [], harness := (true, "5790429fa7dcc4a4a4eca14075a27388e5e54aec7728e346ff139119fd050402"), looks := false }, kinds := [], alts := [], laidByText := true, laidKinds := [.data, .pinned], laidTests := true, laidLooks := .later }
def DomainPartsCardSaid : Prop := Claim7.holds Tryd.pinned (.plain (OpenSpec.ofChange domainPartsSpec)) domainPartsCard

/-- THE SECOND FORM's CARD OF 'shortcutlaw6.DomainAll'. -/
def domainAllUptoCard : Claim7 := { stood := { row := domainAllUptoRow, standIns := [], harness := (true, "5790429fa7dcc4a4a4eca14075a27388e5e54aec7728e346ff139119fd050402"), looks := false }, kinds := [], alts := [], laidByText := true, laidKinds := [.data, .pinned], laidTests := true, laidLooks := .later }
def DomainAllUptoCardSaid : Prop := Claim7.holds Tryd.pinned (.plain (OpenSpec.upto domainAllSpec)) domainAllUptoCard

/-- THE SECOND FORM's CARD OF 'shortcutlaw6.DomainStays'. -/
def domainStaysUptoCard : Claim7 := { stood := { row := domainStaysUptoRow, standIns := [], harness := (true, "5790429fa7dcc4a4a4eca14075a27388e5e54aec7728e346ff139119fd050402"), looks := false }, kinds := [], alts := [], laidByText := true, laidKinds := [.data, .pinned], laidTests := true, laidLooks := .later }
def DomainStaysUptoCardSaid : Prop := Claim7.holds Tryd.pinned (.plain (OpenSpec.upto domainStaysSpec)) domainStaysUptoCard

/-- THE SECOND FORM's CARD OF 'shortcutlaw6.DomainLarge'. -/
def domainLargeUptoCard : Claim7 := { stood := { row := domainLargeUptoRow, standIns := [], harness := (true, "5790429fa7dcc4a4a4eca14075a27388e5e54aec7728e346ff139119fd050402"), looks := false }, kinds := [], alts := [], laidByText := true, laidKinds := [.data, .pinned], laidTests := true, laidLooks := .later }
def DomainLargeUptoCardSaid : Prop := Claim7.holds Tryd.pinned (.plain (OpenSpec.upto domainLargeSpec)) domainLargeUptoCard

/-- THE SECOND FORM's CARD OF 'shortcutlaw6.DomainForms'. -/
def domainFormsUptoCard : Claim7 := { stood := { row := domainFormsUptoRow, standIns := [], harness := (true, "5790429fa7dcc4a4a4eca14075a27388e5e54aec7728e346ff139119fd050402"), looks := false }, kinds := [], alts := [], laidByText := true, laidKinds := [.data, .pinned], laidTests := true, laidLooks := .later }
def DomainFormsUptoCardSaid : Prop := Claim7.holds Tryd.pinned (.plain (OpenSpec.upto domainFormsSpec)) domainFormsUptoCard

/-- THE SECOND FORM's CARD OF 'shortcutlaw6.DomainParts'. -/
def domainPartsUptoCard : Claim7 := { stood := { row := domainPartsUptoRow, standIns := [], harness := (true, "5790429fa7dcc4a4a4eca14075a27388e5e54aec7728e346ff139119fd050402"), looks := false }, kinds := [], alts := [], laidByText := true, laidKinds := [.data, .pinned], laidTests := true, laidLooks := .later }
def DomainPartsUptoCardSaid : Prop := Claim7.holds Tryd.pinned (.plain (OpenSpec.upto domainPartsSpec)) domainPartsUptoCard
end Rows
end Go.Proofs.YtfandijagdiggaaDoor
