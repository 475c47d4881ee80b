/-
  DERIVED. GIVEN WITH THE SEED: THE CARDS: each row of YtoapelcofjjdnaaGreatDoorRows.lean that lists a variable, with what it lists TIED to the program's text (the seventh form; the later family's looks); each row that meets fmt, with fmt's text TOLD by the authors' own Lean function (tested against real Go, not proved from fmt's source: count such statements apart). THE CARD IS WHAT COUNTS. Prove the row's statement (the work); the ties are given (YtoapelcofjjdnaaGreatDoorTie.lean); close each card by the builder's one call (the guide's Derived/Test/ToyasCard.lean, 'card_holds'). Laid BY PROGRAM, IN A SANDBOX (cutbox-door.mjs). By AI agents, Wed Nov 11 2026. No macro, syntax, notation, axiom, sorry.
-/
import Derived.Test.YtoapelcofjjdnaaGreatDoorRows
import GoSem.ClaimSeven
namespace Go.Proofs.YtoapelcofjjdnaaGreatDoor
namespace Rows

/-- THE TIED CARD OF 'shortcutlaw9.HostNumbers'. -/
def hostNumbersCard : Claim7 := { stood := { row := hostNumbersRow, standIns := [], harness := (true, "deede9eba3daf5b61f0ced40f53ed5a1e5256af06b7138013cd94ce352b2fdfa"), looks := true }, kinds := [], alts := [], laidByText := true, laidKinds := [.data, .data, .data, .data, .sentinel, .sentinel, .pinned], laidTests := true, laidLooks := .later }
def HostNumbersCardSaid : Prop := Claim7.holds Tryz.pinned (.plain (OpenSpec.ofChange hostNumbersSpec)) hostNumbersCard

/-- THE TIED CARD OF 'shortcutlaw9.HostForms'. -/
def hostFormsCard : Claim7 := { stood := { row := hostFormsRow, standIns := [], harness := (true, "deede9eba3daf5b61f0ced40f53ed5a1e5256af06b7138013cd94ce352b2fdfa"), looks := true }, kinds := [], alts := [], laidByText := true, laidKinds := [.data, .data, .data, .data, .sentinel, .sentinel, .pinned], laidTests := true, laidLooks := .later }
def HostFormsCardSaid : Prop := Claim7.holds Tryz.pinned (.plain (OpenSpec.ofChange hostFormsSpec)) hostFormsCard

/-- THE TIED CARD OF 'shortcutlaw14.PolicyNumbers'. -/
def policyNumbersCard : Claim7 := { stood := { row := policyNumbersRow, standIns := [], harness := (true, "deede9eba3daf5b61f0ced40f53ed5a1e5256af06b7138013cd94ce352b2fdfa"), looks := true }, kinds := [], alts := [], laidByText := true, laidKinds := [.data, .data, .data, .data, .sentinel, .sentinel, .pinned], laidTests := true, laidLooks := .later }
def PolicyNumbersCardSaid : Prop := Claim7.holds Tryz.pinned (.plain (OpenSpec.ofChange policyNumbersSpec)) policyNumbersCard

/-- THE TIED CARD OF 'shortcutlaw14.PolicyHosts'. -/
def policyHostsCard : Claim7 := { stood := { row := policyHostsRow, standIns := [], harness := (true, "deede9eba3daf5b61f0ced40f53ed5a1e5256af06b7138013cd94ce352b2fdfa"), looks := true }, kinds := [], alts := [], laidByText := true, laidKinds := [.data, .data, .data, .data, .sentinel, .sentinel, .pinned], laidTests := true, laidLooks := .later }
def PolicyHostsCardSaid : Prop := Claim7.holds Tryz.pinned (.plain (OpenSpec.ofChange policyHostsSpec)) policyHostsCard

/-- THE TIED CARD OF 'shortcutlaw14.PolicyMay'. -/
def policyMayCard : Claim7 := { stood := { row := policyMayRow, standIns := [], harness := (true, "deede9eba3daf5b61f0ced40f53ed5a1e5256af06b7138013cd94ce352b2fdfa"), looks := true }, kinds := [], alts := [], laidByText := true, laidKinds := [.data, .data, .data, .data, .sentinel, .sentinel, .pinned], laidTests := true, laidLooks := .later }
def PolicyMayCardSaid : Prop := Claim7.holds Tryz.pinned (.plain (OpenSpec.ofChange policyMaySpec)) policyMayCard

/-- THE TIED CARD OF 'shortcutlaw14.PolicyWays'. -/
def policyWaysCard : Claim7 := { stood := { row := policyWaysRow, standIns := [], harness := (true, "deede9eba3daf5b61f0ced40f53ed5a1e5256af06b7138013cd94ce352b2fdfa"), looks := true }, kinds := [], alts := [], laidByText := true, laidKinds := [.data, .data, .data, .data, .sentinel, .sentinel, .pinned], laidTests := true, laidLooks := .later }
def PolicyWaysCardSaid : Prop := Claim7.holds Tryz.pinned (.plain (OpenSpec.ofChange policyWaysSpec)) policyWaysCard

/-- THE TIED CARD OF 'shortcutlaw14.PolicyUnder'. -/
def policyUnderCard : Claim7 := { stood := { row := policyUnderRow, standIns := [], harness := (true, "deede9eba3daf5b61f0ced40f53ed5a1e5256af06b7138013cd94ce352b2fdfa"), looks := true }, kinds := [], alts := [], laidByText := true, laidKinds := [.data, .data, .data, .data, .sentinel, .sentinel, .pinned], laidTests := true, laidLooks := .later }
def PolicyUnderCardSaid : Prop := Claim7.holds Tryz.pinned (.plain (OpenSpec.ofChange policyUnderSpec)) policyUnderCard

/-- THE TIED CARD OF 'shortcutlaw14.PolicyEdges'. -/
def policyEdgesCard : Claim7 := { stood := { row := policyEdgesRow, standIns := [], harness := (true, "deede9eba3daf5b61f0ced40f53ed5a1e5256af06b7138013cd94ce352b2fdfa"), looks := true }, kinds := [], alts := [], laidByText := true, laidKinds := [.data, .data, .data, .data, .sentinel, .sentinel, .pinned], laidTests := true, laidLooks := .later }
def PolicyEdgesCardSaid : Prop := Claim7.holds Tryz.pinned (.plain (OpenSpec.ofChange policyEdgesSpec)) policyEdgesCard

/-- THE TIED CARD OF 'shortcutlaw14.PolicyForms'. -/
def policyFormsCard : Claim7 := { stood := { row := policyFormsRow, standIns := [], harness := (true, "deede9eba3daf5b61f0ced40f53ed5a1e5256af06b7138013cd94ce352b2fdfa"), looks := true }, kinds := [], alts := [], laidByText := true, laidKinds := [.data, .data, .data, .data, .sentinel, .sentinel, .pinned], laidTests := true, laidLooks := .later }
def PolicyFormsCardSaid : Prop := Claim7.holds Tryz.pinned (.plain (OpenSpec.ofChange policyFormsSpec)) policyFormsCard

/-- THE TIED CARD OF 'shortcutlaw9.HostAll'. -/
def hostAllCard : Claim7 := { stood := { row := hostAllRow, standIns := [], harness := (true, "deede9eba3daf5b61f0ced40f53ed5a1e5256af06b7138013cd94ce352b2fdfa"), looks := true }, kinds := [], alts := [], laidByText := true, laidKinds := [.data, .data, .data, .data, .sentinel, .sentinel, .pinned], laidTests := true, laidLooks := .later }
def HostAllCardSaid : Prop := Claim7.holds Tryz.pinned (.plain (OpenSpec.ofChange hostAllSpec)) hostAllCard

/-- THE TIED CARD OF 'shortcutlaw9.HostStays'. -/
def hostStaysCard : Claim7 := { stood := { row := hostStaysRow, standIns := [], harness := (true, "deede9eba3daf5b61f0ced40f53ed5a1e5256af06b7138013cd94ce352b2fdfa"), looks := true }, kinds := [], alts := [], laidByText := true, laidKinds := [.data, .data, .data, .data, .sentinel, .sentinel, .pinned], laidTests := true, laidLooks := .later }
def HostStaysCardSaid : Prop := Claim7.holds Tryz.pinned (.plain (OpenSpec.ofChange hostStaysSpec)) hostStaysCard

/-- THE SECOND FORM's CARD OF 'shortcutlaw9.HostNumbers'. -/
def hostNumbersUptoCard : Claim7 := { stood := { row := hostNumbersUptoRow, standIns := [], harness := (true, "deede9eba3daf5b61f0ced40f53ed5a1e5256af06b7138013cd94ce352b2fdfa"), looks := true }, kinds := [], alts := [], laidByText := true, laidKinds := [.data, .data, .data, .data, .sentinel, .sentinel, .pinned], laidTests := true, laidLooks := .later }
def HostNumbersUptoCardSaid : Prop := Claim7.holds Tryz.pinned (.plain (OpenSpec.upto hostNumbersSpec)) hostNumbersUptoCard

/-- THE SECOND FORM's CARD OF 'shortcutlaw9.HostForms'. -/
def hostFormsUptoCard : Claim7 := { stood := { row := hostFormsUptoRow, standIns := [], harness := (true, "deede9eba3daf5b61f0ced40f53ed5a1e5256af06b7138013cd94ce352b2fdfa"), looks := true }, kinds := [], alts := [], laidByText := true, laidKinds := [.data, .data, .data, .data, .sentinel, .sentinel, .pinned], laidTests := true, laidLooks := .later }
def HostFormsUptoCardSaid : Prop := Claim7.holds Tryz.pinned (.plain (OpenSpec.upto hostFormsSpec)) hostFormsUptoCard

/-- THE SECOND FORM's CARD OF 'shortcutlaw14.PolicyNumbers'. -/
def policyNumbersUptoCard : Claim7 := { stood := { row := policyNumbersUptoRow, standIns := [], harness := (true, "deede9eba3daf5b61f0ced40f53ed5a1e5256af06b7138013cd94ce352b2fdfa"), looks := true }, kinds := [], alts := [], laidByText := true, laidKinds := [.data, .data, .data, .data, .sentinel, .sentinel, .pinned], laidTests := true, laidLooks := .later }
def PolicyNumbersUptoCardSaid : Prop := Claim7.holds Tryz.pinned (.plain (OpenSpec.upto policyNumbersSpec)) policyNumbersUptoCard

/-- THE SECOND FORM's CARD OF 'shortcutlaw14.PolicyHosts'. -/
def policyHostsUptoCard : Claim7 := { stood := { row := policyHostsUptoRow, standIns := [], harness := (true, "deede9eba3daf5b61f0ced40f53ed5a1e5256af06b7138013cd94ce352b2fdfa"), looks := true }, kinds := [], alts := [], laidByText := true, laidKinds := [.data, .data, .data, .data, .sentinel, .sentinel, .pinned], laidTests := true, laidLooks := .later }
def PolicyHostsUptoCardSaid : Prop := Claim7.holds Tryz.pinned (.plain (OpenSpec.upto policyHostsSpec)) policyHostsUptoCard

/-- THE SECOND FORM's CARD OF 'shortcutlaw14.PolicyMay'. -/
def policyMayUptoCard : Claim7 := { stood := { row := policyMayUptoRow, standIns := [], harness := (true, "deede9eba3daf5b61f0ced40f53ed5a1e5256af06b7138013cd94ce352b2fdfa"), looks := true }, kinds := [], alts := [], laidByText := true, laidKinds := [.data, .data, .data, .data, .sentinel, .sentinel, .pinned], laidTests := true, laidLooks := .later }
def PolicyMayUptoCardSaid : Prop := Claim7.holds Tryz.pinned (.plain (OpenSpec.upto policyMaySpec)) policyMayUptoCard

/-- THE SECOND FORM's CARD OF 'shortcutlaw14.PolicyWays'. -/
def policyWaysUptoCard : Claim7 := { stood := { row := policyWaysUptoRow, standIns := [], harness := (true, "deede9eba3daf5b61f0ced40f53ed5a1e5256af06b7138013cd94ce352b2fdfa"), looks := true }, kinds := [], alts := [], laidByText := true, laidKinds := [.data, .data, .data, .data, .sentinel, .sentinel, .pinned], laidTests := true, laidLooks := .later }
def PolicyWaysUptoCardSaid : Prop := Claim7.holds Tryz.pinned (.plain (OpenSpec.upto policyWaysSpec)) policyWaysUptoCard

/-- THE SECOND FORM's CARD OF 'shortcutlaw14.PolicyUnder'. -/
def policyUnderUptoCard : Claim7 := { stood := { row := policyUnderUptoRow, standIns := [], harness := (true, "deede9eba3daf5b61f0ced40f53ed5a1e5256af06b7138013cd94ce352b2fdfa"), looks := true }, kinds := [], alts := [], laidByText := true, laidKinds := [.data, .data, .data, .data, .sentinel, .sentinel, .pinned], laidTests := true, laidLooks := .later }
def PolicyUnderUptoCardSaid : Prop := Claim7.holds Tryz.pinned (.plain (OpenSpec.upto policyUnderSpec)) policyUnderUptoCard

/-- THE SECOND FORM's CARD OF 'shortcutlaw14.PolicyEdges'. -/
def policyEdgesUptoCard : Claim7 := { stood := { row := policyEdgesUptoRow, standIns := [], harness := (true, "deede9eba3daf5b61f0ced40f53ed5a1e5256af06b7138013cd94ce352b2fdfa"), looks := true }, kinds := [], alts := [], laidByText := true, laidKinds := [.data, .data, .data, .data, .sentinel, .sentinel, .pinned], laidTests := true, laidLooks := .later }
def PolicyEdgesUptoCardSaid : Prop := Claim7.holds Tryz.pinned (.plain (OpenSpec.upto policyEdgesSpec)) policyEdgesUptoCard

/-- THE SECOND FORM's CARD OF 'shortcutlaw14.PolicyForms'. -/
def policyFormsUptoCard : Claim7 := { stood := { row := policyFormsUptoRow, standIns := [], harness := (true, "deede9eba3daf5b61f0ced40f53ed5a1e5256af06b7138013cd94ce352b2fdfa"), looks := true }, kinds := [], alts := [], laidByText := true, laidKinds := [.data, .data, .data, .data, .sentinel, .sentinel, .pinned], laidTests := true, laidLooks := .later }
def PolicyFormsUptoCardSaid : Prop := Claim7.holds Tryz.pinned (.plain (OpenSpec.upto policyFormsSpec)) policyFormsUptoCard

/-- THE SECOND FORM's CARD OF 'shortcutlaw9.HostAll'. -/
def hostAllUptoCard : Claim7 := { stood := { row := hostAllUptoRow, standIns := [], harness := (true, "deede9eba3daf5b61f0ced40f53ed5a1e5256af06b7138013cd94ce352b2fdfa"), looks := true }, kinds := [], alts := [], laidByText := true, laidKinds := [.data, .data, .data, .data, .sentinel, .sentinel, .pinned], laidTests := true, laidLooks := .later }
def HostAllUptoCardSaid : Prop := Claim7.holds Tryz.pinned (.plain (OpenSpec.upto hostAllSpec)) hostAllUptoCard

/-- THE SECOND FORM's CARD OF 'shortcutlaw9.HostStays'. -/
def hostStaysUptoCard : Claim7 := { stood := { row := hostStaysUptoRow, standIns := [], harness := (true, "deede9eba3daf5b61f0ced40f53ed5a1e5256af06b7138013cd94ce352b2fdfa"), looks := true }, kinds := [], alts := [], laidByText := true, laidKinds := [.data, .data, .data, .data, .sentinel, .sentinel, .pinned], laidTests := true, laidLooks := .later }
def HostStaysUptoCardSaid : Prop := Claim7.holds Tryz.pinned (.plain (OpenSpec.upto hostStaysSpec)) hostStaysUptoCard
end Rows
end Go.Proofs.YtoapelcofjjdnaaGreatDoor
