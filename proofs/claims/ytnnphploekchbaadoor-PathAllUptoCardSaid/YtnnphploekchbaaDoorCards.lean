/-
  DERIVED. GIVEN WITH THE SEED: THE CARDS: each row of YtnnphploekchbaaDoorRows.lean that lists a variable, with what it lists TIED to the program's text (the seventh form; the later family's looks); each row that meets fmt, with fmt's text TOLD by the authors' own Lean function (tested against real Go, not proved from fmt's source: count such statements apart). THE CARD IS WHAT COUNTS. Prove the row's statement (the work); the ties are given (YtnnphploekchbaaDoorTie.lean); close each card by the builder's one call (the guide's Derived/Test/ToyasCard.lean, 'card_holds'). Laid BY PROGRAM, IN A SANDBOX (cutbox-door.mjs). By AI agents, Wed Nov 11 2026. No macro, syntax, notation, axiom, sorry.
-/
import Derived.Test.YtnnphploekchbaaDoorRows
import GoSem.ClaimSeven
namespace Go.Proofs.YtnnphploekchbaaDoor
namespace Rows

/-- THE TIED CARD OF 'shortcutlaw10.PathAll'. -/
def pathAllCard : Claim7 := { stood := { row := pathAllRow, standIns := [], harness := (true, "baebea2d5473180df21706f640ce2133e372f225f6249cff1774884076019386"), looks := false }, kinds := [], alts := [], laidByText := true, laidKinds := [.data, .data, .data, .pinned, .pinned], laidTests := true, laidLooks := .later }
def PathAllCardSaid : Prop := Claim7.holds Tryd.pinned (.plain (OpenSpec.ofChange pathAllSpec)) pathAllCard

/-- THE TIED CARD OF 'shortcutlaw10.PathBack'. -/
def pathBackCard : Claim7 := { stood := { row := pathBackRow, standIns := [], harness := (true, "baebea2d5473180df21706f640ce2133e372f225f6249cff1774884076019386"), looks := false }, kinds := [], alts := [], laidByText := true, laidKinds := [.data, .data, .data, .pinned, .pinned], laidTests := true, laidLooks := .later }
def PathBackCardSaid : Prop := Claim7.holds Tryd.pinned (.plain (OpenSpec.ofChange pathBackSpec)) pathBackCard

/-- THE TIED CARD OF 'shortcutlaw10.PathParts'. -/
def pathPartsCard : Claim7 := { stood := { row := pathPartsRow, standIns := [], harness := (true, "baebea2d5473180df21706f640ce2133e372f225f6249cff1774884076019386"), looks := false }, kinds := [], alts := [], laidByText := true, laidKinds := [.data, .data, .data, .pinned, .pinned], laidTests := true, laidLooks := .later }
def PathPartsCardSaid : Prop := Claim7.holds Tryd.pinned (.plain (OpenSpec.ofChange pathPartsSpec)) pathPartsCard

/-- THE TIED CARD OF 'shortcutlaw10.PathForms'. -/
def pathFormsCard : Claim7 := { stood := { row := pathFormsRow, standIns := [], harness := (true, "baebea2d5473180df21706f640ce2133e372f225f6249cff1774884076019386"), looks := false }, kinds := [], alts := [], laidByText := true, laidKinds := [.data, .data, .data, .pinned, .pinned], laidTests := true, laidLooks := .later }
def PathFormsCardSaid : Prop := Claim7.holds Tryd.pinned (.plain (OpenSpec.ofChange pathFormsSpec)) pathFormsCard

/-- THE TIED CARD OF 'shortcutlaw10.PathDots'. -/
def pathDotsCard : Claim7 := { stood := { row := pathDotsRow, standIns := [], harness := (true, "baebea2d5473180df21706f640ce2133e372f225f6249cff1774884076019386"), looks := false }, kinds := [], alts := [], laidByText := true, laidKinds := [.data, .data, .data, .pinned, .pinned], laidTests := true, laidLooks := .later }
def PathDotsCardSaid : Prop := Claim7.holds Tryd.pinned (.plain (OpenSpec.ofChange pathDotsSpec)) pathDotsCard

/-- THE TIED CARD OF 'shortcutlaw11.QueryAll'. -/
def queryAllCard : Claim7 := { stood := { row := queryAllRow, standIns := [], harness := (true, "baebea2d5473180df21706f640ce2133e372f225f6249cff1774884076019386"), looks := false }, kinds := [], alts := [], laidByText := true, laidKinds := [.data, .pinned], laidTests := true, laidLooks := .later }
def QueryAllCardSaid : Prop := Claim7.holds Tryd.pinned (.plain (OpenSpec.ofChange queryAllSpec)) queryAllCard

/-- THE TIED CARD OF 'shortcutlaw11.QueryBack'. -/
def queryBackCard : Claim7 := { stood := { row := queryBackRow, standIns := [], harness := (true, "baebea2d5473180df21706f640ce2133e372f225f6249cff1774884076019386"), looks := false }, kinds := [], alts := [], laidByText := true, laidKinds := [.data, .pinned], laidTests := true, laidLooks := .later }
def QueryBackCardSaid : Prop := Claim7.holds Tryd.pinned (.plain (OpenSpec.ofChange queryBackSpec)) queryBackCard

/-- THE TIED CARD OF 'shortcutlaw11.QueryParts'. -/
def queryPartsCard : Claim7 := { stood := { row := queryPartsRow, standIns := [], harness := (true, "baebea2d5473180df21706f640ce2133e372f225f6249cff1774884076019386"), looks := false }, kinds := [], alts := [], laidByText := true, laidKinds := [.data, .pinned], laidTests := true, laidLooks := .later }
def QueryPartsCardSaid : Prop := Claim7.holds Tryd.pinned (.plain (OpenSpec.ofChange queryPartsSpec)) queryPartsCard

/-- THE TIED CARD OF 'shortcutlaw11.QueryMost'. -/
def queryMostCard : Claim7 := { stood := { row := queryMostRow, standIns := [], harness := (true, "baebea2d5473180df21706f640ce2133e372f225f6249cff1774884076019386"), looks := false }, kinds := [], alts := [], laidByText := true, laidKinds := [.data, .pinned], laidTests := true, laidLooks := .later }
def QueryMostCardSaid : Prop := Claim7.holds Tryd.pinned (.plain (OpenSpec.ofChange queryMostSpec)) queryMostCard

/-- THE TIED CARD OF 'shortcutlaw11.QueryForms'. -/
def queryFormsCard : Claim7 := { stood := { row := queryFormsRow, standIns := [], harness := (true, "baebea2d5473180df21706f640ce2133e372f225f6249cff1774884076019386"), looks := false }, kinds := [], alts := [], laidByText := true, laidKinds := [.data, .pinned], laidTests := true, laidLooks := .later }
def QueryFormsCardSaid : Prop := Claim7.holds Tryd.pinned (.plain (OpenSpec.ofChange queryFormsSpec)) queryFormsCard

/-- THE TIED CARD OF 'shortcutlaw13.RulesAll'. -/
def rulesAllCard : Claim7 := { stood := { row := rulesAllRow, standIns := [], harness := (true, "baebea2d5473180df21706f640ce2133e372f225f6249cff1774884076019386"), looks := false }, kinds := [], alts := [], laidByText := true, laidKinds := [.data, .pinned], laidTests := true, laidLooks := .later }
def RulesAllCardSaid : Prop := Claim7.holds Tryd.pinned (.plain (OpenSpec.ofChange rulesAllSpec)) rulesAllCard

/-- THE TIED CARD OF 'shortcutlaw13.RulesOnce'. -/
def rulesOnceCard : Claim7 := { stood := { row := rulesOnceRow, standIns := [], harness := (true, "baebea2d5473180df21706f640ce2133e372f225f6249cff1774884076019386"), looks := false }, kinds := [], alts := [], laidByText := true, laidKinds := [.data, .pinned], laidTests := true, laidLooks := .later }
def RulesOnceCardSaid : Prop := Claim7.holds Tryd.pinned (.plain (OpenSpec.ofChange rulesOnceSpec)) rulesOnceCard

/-- THE TIED CARD OF 'shortcutlaw13.RulesForms'. -/
def rulesFormsCard : Claim7 := { stood := { row := rulesFormsRow, standIns := [], harness := (true, "baebea2d5473180df21706f640ce2133e372f225f6249cff1774884076019386"), looks := false }, kinds := [], alts := [], laidByText := true, laidKinds := [.data, .pinned], laidTests := true, laidLooks := .later }
def RulesFormsCardSaid : Prop := Claim7.holds Tryd.pinned (.plain (OpenSpec.ofChange rulesFormsSpec)) rulesFormsCard

/-- THE TIED CARD OF 'shortcutlaw13.RulesStay'. -/
def rulesStayCard : Claim7 := { stood := { row := rulesStayRow, standIns := [], harness := (true, "baebea2d5473180df21706f640ce2133e372f225f6249cff1774884076019386"), looks := false }, kinds := [], alts := [], laidByText := true, laidKinds := [.data, .pinned], laidTests := true, laidLooks := .later }
def RulesStayCardSaid : Prop := Claim7.holds Tryd.pinned (.plain (OpenSpec.ofChange rulesStaySpec)) rulesStayCard

/-- THE SECOND FORM's CARD OF 'shortcutlaw10.PathAll'. -/
def pathAllUptoCard : Claim7 := { stood := { row := pathAllUptoRow, standIns := [], harness := (true, "baebea2d5473180df21706f640ce2133e372f225f6249cff1774884076019386"), looks := false }, kinds := [], alts := [], laidByText := true, laidKinds := [.data, .data, .data, .pinned, .pinned], laidTests := true, laidLooks := .later }
def PathAllUptoCardSaid : Prop := Claim7.holds Tryd.pinned (.plain (OpenSpec.upto pathAllSpec)) pathAllUptoCard

/-- THE SECOND FORM's CARD OF 'shortcutlaw10.PathBack'. -/
def pathBackUptoCard : Claim7 := { stood := { row := pathBackUptoRow, standIns := [], harness := (true, "baebea2d5473180df21706f640ce2133e372f225f6249cff1774884076019386"), looks := false }, kinds := [], alts := [], laidByText := true, laidKinds := [.data, .data, .data, .pinned, .pinned], laidTests := true, laidLooks := .later }
def PathBackUptoCardSaid : Prop := Claim7.holds Tryd.pinned (.plain (OpenSpec.upto pathBackSpec)) pathBackUptoCard

/-- THE SECOND FORM's CARD OF 'shortcutlaw10.PathParts'. -/
def pathPartsUptoCard : Claim7 := { stood := { row := pathPartsUptoRow, standIns := [], harness := (true, "baebea2d5473180df21706f640ce2133e372f225f6249cff1774884076019386"), looks := false }, kinds := [], alts := [], laidByText := true, laidKinds := [.data, .data, .data, .pinned, .pinned], laidTests := true, laidLooks := .later }
def PathPartsUptoCardSaid : Prop := Claim7.holds Tryd.pinned (.plain (OpenSpec.upto pathPartsSpec)) pathPartsUptoCard

/-- THE SECOND FORM's CARD OF 'shortcutlaw10.PathForms'. -/
def pathFormsUptoCard : Claim7 := { stood := { row := pathFormsUptoRow, standIns := [], harness := (true, "baebea2d5473180df21706f640ce2133e372f225f6249cff1774884076019386"), looks := false }, kinds := [], alts := [], laidByText := true, laidKinds := [.data, .data, .data, .pinned, .pinned], laidTests := true, laidLooks := .later }
def PathFormsUptoCardSaid : Prop := Claim7.holds Tryd.pinned (.plain (OpenSpec.upto pathFormsSpec)) pathFormsUptoCard

/-- THE SECOND FORM's CARD OF 'shortcutlaw10.PathDots'. -/
def pathDotsUptoCard : Claim7 := { stood := { row := pathDotsUptoRow, standIns := [], harness := (true, "baebea2d5473180df21706f640ce2133e372f225f6249cff1774884076019386"), looks := false }, kinds := [], alts := [], laidByText := true, laidKinds := [.data, .data, .data, .pinned, .pinned], laidTests := true, laidLooks := .later }
def PathDotsUptoCardSaid : Prop := Claim7.holds Tryd.pinned (.plain (OpenSpec.upto pathDotsSpec)) pathDotsUptoCard

/-- THE SECOND FORM's CARD OF 'shortcutlaw11.QueryAll'. -/
def queryAllUptoCard : Claim7 := { stood := { row := queryAllUptoRow, standIns := [], harness := (true, "baebea2d5473180df21706f640ce2133e372f225f6249cff1774884076019386"), looks := false }, kinds := [], alts := [], laidByText := true, laidKinds := [.data, .pinned], laidTests := true, laidLooks := .later }
def QueryAllUptoCardSaid : Prop := Claim7.holds Tryd.pinned (.plain (OpenSpec.upto queryAllSpec)) queryAllUptoCard

/-- THE SECOND FORM's CARD OF 'shortcutlaw11.QueryBack'. -/
def queryBackUptoCard : Claim7 := { stood := { row := queryBackUptoRow, standIns := [], harness := (true, "baebea2d5473180df21706f640ce2133e372f225f6249cff1774884076019386"), looks := false }, kinds := [], alts := [], laidByText := true, laidKinds := [.data, .pinned], laidTests := true, laidLooks := .later }
def QueryBackUptoCardSaid : Prop := Claim7.holds Tryd.pinned (.plain (OpenSpec.upto queryBackSpec)) queryBackUptoCard

/-- THE SECOND FORM's CARD OF 'shortcutlaw11.QueryParts'. -/
def queryPartsUptoCard : Claim7 := { stood := { row := queryPartsUptoRow, standIns := [], harness := (true, "baebea2d5473180df21706f640ce2133e372f225f6249cff1774884076019386"), looks := false }, kinds := [], alts := [], laidByText := true, laidKinds := [.data, .pinned], laidTests := true, laidLooks := .later }
def QueryPartsUptoCardSaid : Prop := Claim7.holds Tryd.pinned (.plain (OpenSpec.upto queryPartsSpec)) queryPartsUptoCard

/-- THE SECOND FORM's CARD OF 'shortcutlaw11.QueryMost'. -/
def queryMostUptoCard : Claim7 := { stood := { row := queryMostUptoRow, standIns := [], harness := (true, "baebea2d5473180df21706f640ce2133e372f225f6249cff1774884076019386"), looks := false }, kinds := [], alts := [], laidByText := true, laidKinds := [.data, .pinned], laidTests := true, laidLooks := .later }
def QueryMostUptoCardSaid : Prop := Claim7.holds Tryd.pinned (.plain (OpenSpec.upto queryMostSpec)) queryMostUptoCard

/-- THE SECOND FORM's CARD OF 'shortcutlaw11.QueryForms'. -/
def queryFormsUptoCard : Claim7 := { stood := { row := queryFormsUptoRow, standIns := [], harness := (true, "baebea2d5473180df21706f640ce2133e372f225f6249cff1774884076019386"), looks := false }, kinds := [], alts := [], laidByText := true, laidKinds := [.data, .pinned], laidTests := true, laidLooks := .later }
def QueryFormsUptoCardSaid : Prop := Claim7.holds Tryd.pinned (.plain (OpenSpec.upto queryFormsSpec)) queryFormsUptoCard

/-- THE SECOND FORM's CARD OF 'shortcutlaw13.RulesAll'. -/
def rulesAllUptoCard : Claim7 := { stood := { row := rulesAllUptoRow, standIns := [], harness := (true, "baebea2d5473180df21706f640ce2133e372f225f6249cff1774884076019386"), looks := false }, kinds := [], alts := [], laidByText := true, laidKinds := [.data, .pinned], laidTests := true, laidLooks := .later }
def RulesAllUptoCardSaid : Prop := Claim7.holds Tryd.pinned (.plain (OpenSpec.upto rulesAllSpec)) rulesAllUptoCard

/-- THE SECOND FORM's CARD OF 'shortcutlaw13.RulesOnce'. -/
def rulesOnceUptoCard : Claim7 := { stood := { row := rulesOnceUptoRow, standIns := [], harness := (true, "baebea2d5473180df21706f640ce2133e372f225f6249cff1774884076019386"), looks := false }, kinds := [], alts := [], laidByText := true, laidKinds := [.data, .pinned], laidTests := true, laidLooks := .later }
def RulesOnceUptoCardSaid : Prop := Claim7.holds Tryd.pinned (.plain (OpenSpec.upto rulesOnceSpec)) rulesOnceUptoCard

/-- THE SECOND FORM's CARD OF 'shortcutlaw13.RulesForms'. -/
def rulesFormsUptoCard : Claim7 := { stood := { row := rulesFormsUptoRow, standIns := [], harness := (true, "baebea2d5473180df21706f640ce2133e372f225f6249cff1774884076019386"), looks := false }, kinds := [], alts := [], laidByText := true, laidKinds := [.data, .pinned], laidTests := true, laidLooks := .later }
def RulesFormsUptoCardSaid : Prop := Claim7.holds Tryd.pinned (.plain (OpenSpec.upto rulesFormsSpec)) rulesFormsUptoCard

/-- THE SECOND FORM's CARD OF 'shortcutlaw13.RulesStay'. -/
def rulesStayUptoCard : Claim7 := { stood := { row := rulesStayUptoRow, standIns := [], harness := (true, "baebea2d5473180df21706f640ce2133e372f225f6249cff1774884076019386"), looks := false }, kinds := [], alts := [], laidByText := true, laidKinds := [.data, .pinned], laidTests := true, laidLooks := .later }
def RulesStayUptoCardSaid : Prop := Claim7.holds Tryd.pinned (.plain (OpenSpec.upto rulesStaySpec)) rulesStayUptoCard
end Rows
end Go.Proofs.YtnnphploekchbaaDoor
