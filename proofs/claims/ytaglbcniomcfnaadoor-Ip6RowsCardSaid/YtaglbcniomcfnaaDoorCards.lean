/-
  DERIVED. GIVEN WITH THE SEED: THE CARDS: each row of YtaglbcniomcfnaaDoorRows.lean that lists a variable, with what it lists TIED to the program's text (the seventh form; the later family's looks); each row that meets fmt, with fmt's text TOLD by the authors' own Lean function (tested against real Go, not proved from fmt's source: count such statements apart). THE CARD IS WHAT COUNTS. Prove the row's statement (the work); the ties are given (YtaglbcniomcfnaaDoorTie.lean); close each card by the builder's one call (the guide's Derived/Test/ToyasCard.lean, 'card_holds'). Laid BY PROGRAM, IN A SANDBOX (cutbox-door.mjs). By AI agents, Wed Nov 11 2026. No macro, syntax, notation, axiom, sorry.
-/
import Derived.Test.YtaglbcniomcfnaaDoorRows
import GoSem.ClaimSeven
namespace Go.Proofs.YtaglbcniomcfnaaDoor
namespace Rows

/-- THE TIED CARD OF 'shortcutlaw7.Ip4All'. -/
def ip4AllCard : Claim7 := { stood := { row := ip4AllRow, standIns := [], harness := (true, "83f41dcafbf202789403d221f58dfe1b889ecc5e720ae8a2daa7fd3a6df884c6"), looks := true }, kinds := [], alts := [], laidByText := true, laidKinds := [.data, .data, .data, .data, .pinned], laidTests := true, laidLooks := .later }
def Ip4AllCardSaid : Prop := Claim7.holds Tryd.pinned (.plain (OpenSpec.ofChange ip4AllSpec)) ip4AllCard

/-- THE TIED CARD OF 'shortcutlaw7.Ip4Back'. -/
def ip4BackCard : Claim7 := { stood := { row := ip4BackRow, standIns := [], harness := (true, "83f41dcafbf202789403d221f58dfe1b889ecc5e720ae8a2daa7fd3a6df884c6"), looks := true }, kinds := [], alts := [], laidByText := true, laidKinds := [.data, .data, .data, .data, .pinned], laidTests := true, laidLooks := .later }
def Ip4BackCardSaid : Prop := Claim7.holds Tryd.pinned (.plain (OpenSpec.ofChange ip4BackSpec)) ip4BackCard

/-- THE TIED CARD OF 'shortcutlaw7.Ip4Parts'. -/
def ip4PartsCard : Claim7 := { stood := { row := ip4PartsRow, standIns := [], harness := (true, "83f41dcafbf202789403d221f58dfe1b889ecc5e720ae8a2daa7fd3a6df884c6"), looks := true }, kinds := [], alts := [], laidByText := true, laidKinds := [.data, .data, .data, .data, .pinned], laidTests := true, laidLooks := .later }
def Ip4PartsCardSaid : Prop := Claim7.holds Tryd.pinned (.plain (OpenSpec.ofChange ip4PartsSpec)) ip4PartsCard

/-- THE TIED CARD OF 'shortcutlaw7.Ip4Forms'. -/
def ip4FormsCard : Claim7 := { stood := { row := ip4FormsRow, standIns := [], harness := (true, "83f41dcafbf202789403d221f58dfe1b889ecc5e720ae8a2daa7fd3a6df884c6"), looks := true }, kinds := [], alts := [], laidByText := true, laidKinds := [.data, .data, .data, .data, .pinned], laidTests := true, laidLooks := .later }
def Ip4FormsCardSaid : Prop := Claim7.holds Tryd.pinned (.plain (OpenSpec.ofChange ip4FormsSpec)) ip4FormsCard

/-- THE TIED CARD OF 'shortcutlaw7.Ip4Order'. -/
def ip4OrderCard : Claim7 := { stood := { row := ip4OrderRow, standIns := [], harness := (true, "83f41dcafbf202789403d221f58dfe1b889ecc5e720ae8a2daa7fd3a6df884c6"), looks := true }, kinds := [], alts := [], laidByText := true, laidKinds := [.data, .data, .data, .data, .pinned], laidTests := true, laidLooks := .later }
def Ip4OrderCardSaid : Prop := Claim7.holds Tryd.pinned (.plain (OpenSpec.ofChange ip4OrderSpec)) ip4OrderCard

/-- THE TIED CARD OF 'shortcutlaw8.Ip6All'. -/
def ip6AllCard : Claim7 := { stood := { row := ip6AllRow, standIns := [], harness := (true, "83f41dcafbf202789403d221f58dfe1b889ecc5e720ae8a2daa7fd3a6df884c6"), looks := true }, kinds := [], alts := [], laidByText := true, laidKinds := [.data, .data, .data, .sentinel, .sentinel], laidTests := true, laidLooks := .later }
def Ip6AllCardSaid : Prop := Claim7.holds Tryd.pinned (.plain (OpenSpec.ofChange ip6AllSpec)) ip6AllCard

/-- THE TIED CARD OF 'shortcutlaw8.Ip6Back'. -/
def ip6BackCard : Claim7 := { stood := { row := ip6BackRow, standIns := [], harness := (true, "83f41dcafbf202789403d221f58dfe1b889ecc5e720ae8a2daa7fd3a6df884c6"), looks := true }, kinds := [], alts := [], laidByText := true, laidKinds := [.data, .data, .data, .sentinel, .sentinel], laidTests := true, laidLooks := .later }
def Ip6BackCardSaid : Prop := Claim7.holds Tryd.pinned (.plain (OpenSpec.ofChange ip6BackSpec)) ip6BackCard

/-- THE TIED CARD OF 'shortcutlaw8.Ip6Long'. -/
def ip6LongCard : Claim7 := { stood := { row := ip6LongRow, standIns := [], harness := (true, "83f41dcafbf202789403d221f58dfe1b889ecc5e720ae8a2daa7fd3a6df884c6"), looks := true }, kinds := [], alts := [], laidByText := true, laidKinds := [.data, .data, .data, .sentinel, .sentinel], laidTests := true, laidLooks := .later }
def Ip6LongCardSaid : Prop := Claim7.holds Tryd.pinned (.plain (OpenSpec.ofChange ip6LongSpec)) ip6LongCard

/-- THE TIED CARD OF 'shortcutlaw8.Ip6Rows'. -/
def ip6RowsCard : Claim7 := { stood := { row := ip6RowsRow, standIns := [], harness := (true, "83f41dcafbf202789403d221f58dfe1b889ecc5e720ae8a2daa7fd3a6df884c6"), looks := true }, kinds := [], alts := [], laidByText := true, laidKinds := [.data, .data, .data, .sentinel, .sentinel], laidTests := true, laidLooks := .later }
def Ip6RowsCardSaid : Prop := Claim7.holds Tryd.pinned (.plain (OpenSpec.ofChange ip6RowsSpec)) ip6RowsCard

/-- THE TIED CARD OF 'shortcutlaw8.Ip6Forms'. -/
def ip6FormsCard : Claim7 := { stood := { row := ip6FormsRow, standIns := [], harness := (true, "83f41dcafbf202789403d221f58dfe1b889ecc5e720ae8a2daa7fd3a6df884c6"), looks := true }, kinds := [], alts := [], laidByText := true, laidKinds := [.data, .data, .data, .sentinel, .sentinel], laidTests := true, laidLooks := .later }
def Ip6FormsCardSaid : Prop := Claim7.holds Tryd.pinned (.plain (OpenSpec.ofChange ip6FormsSpec)) ip6FormsCard

/-- THE TIED CARD OF 'shortcutlaw8.Ip6Gaps'. -/
def ip6GapsCard : Claim7 := { stood := { row := ip6GapsRow, standIns := [], harness := (true, "83f41dcafbf202789403d221f58dfe1b889ecc5e720ae8a2daa7fd3a6df884c6"), looks := true }, kinds := [], alts := [], laidByText := true, laidKinds := [.data, .data, .data, .sentinel, .sentinel], laidTests := true, laidLooks := .later }
def Ip6GapsCardSaid : Prop := Claim7.holds Tryd.pinned (.plain (OpenSpec.ofChange ip6GapsSpec)) ip6GapsCard

/-- THE SECOND FORM's CARD OF 'shortcutlaw7.Ip4All'. -/
def ip4AllUptoCard : Claim7 := { stood := { row := ip4AllUptoRow, standIns := [], harness := (true, "83f41dcafbf202789403d221f58dfe1b889ecc5e720ae8a2daa7fd3a6df884c6"), looks := true }, kinds := [], alts := [], laidByText := true, laidKinds := [.data, .data, .data, .data, .pinned], laidTests := true, laidLooks := .later }
def Ip4AllUptoCardSaid : Prop := Claim7.holds Tryd.pinned (.plain (OpenSpec.upto ip4AllSpec)) ip4AllUptoCard

/-- THE SECOND FORM's CARD OF 'shortcutlaw7.Ip4Back'. -/
def ip4BackUptoCard : Claim7 := { stood := { row := ip4BackUptoRow, standIns := [], harness := (true, "83f41dcafbf202789403d221f58dfe1b889ecc5e720ae8a2daa7fd3a6df884c6"), looks := true }, kinds := [], alts := [], laidByText := true, laidKinds := [.data, .data, .data, .data, .pinned], laidTests := true, laidLooks := .later }
def Ip4BackUptoCardSaid : Prop := Claim7.holds Tryd.pinned (.plain (OpenSpec.upto ip4BackSpec)) ip4BackUptoCard

/-- THE SECOND FORM's CARD OF 'shortcutlaw7.Ip4Parts'. -/
def ip4PartsUptoCard : Claim7 := { stood := { row := ip4PartsUptoRow, standIns := [], harness := (true, "83f41dcafbf202789403d221f58dfe1b889ecc5e720ae8a2daa7fd3a6df884c6"), looks := true }, kinds := [], alts := [], laidByText := true, laidKinds := [.data, .data, .data, .data, .pinned], laidTests := true, laidLooks := .later }
def Ip4PartsUptoCardSaid : Prop := Claim7.holds Tryd.pinned (.plain (OpenSpec.upto ip4PartsSpec)) ip4PartsUptoCard

/-- THE SECOND FORM's CARD OF 'shortcutlaw7.Ip4Forms'. -/
def ip4FormsUptoCard : Claim7 := { stood := { row := ip4FormsUptoRow, standIns := [], harness := (true, "83f41dcafbf202789403d221f58dfe1b889ecc5e720ae8a2daa7fd3a6df884c6"), looks := true }, kinds := [], alts := [], laidByText := true, laidKinds := [.data, .data, .data, .data, .pinned], laidTests := true, laidLooks := .later }
def Ip4FormsUptoCardSaid : Prop := Claim7.holds Tryd.pinned (.plain (OpenSpec.upto ip4FormsSpec)) ip4FormsUptoCard

/-- THE SECOND FORM's CARD OF 'shortcutlaw7.Ip4Order'. -/
def ip4OrderUptoCard : Claim7 := { stood := { row := ip4OrderUptoRow, standIns := [], harness := (true, "83f41dcafbf202789403d221f58dfe1b889ecc5e720ae8a2daa7fd3a6df884c6"), looks := true }, kinds := [], alts := [], laidByText := true, laidKinds := [.data, .data, .data, .data, .pinned], laidTests := true, laidLooks := .later }
def Ip4OrderUptoCardSaid : Prop := Claim7.holds Tryd.pinned (.plain (OpenSpec.upto ip4OrderSpec)) ip4OrderUptoCard

/-- THE SECOND FORM's CARD OF 'shortcutlaw8.Ip6All'. -/
def ip6AllUptoCard : Claim7 := { stood := { row := ip6AllUptoRow, standIns := [], harness := (true, "83f41dcafbf202789403d221f58dfe1b889ecc5e720ae8a2daa7fd3a6df884c6"), looks := true }, kinds := [], alts := [], laidByText := true, laidKinds := [.data, .data, .data, .sentinel, .sentinel], laidTests := true, laidLooks := .later }
def Ip6AllUptoCardSaid : Prop := Claim7.holds Tryd.pinned (.plain (OpenSpec.upto ip6AllSpec)) ip6AllUptoCard

/-- THE SECOND FORM's CARD OF 'shortcutlaw8.Ip6Back'. -/
def ip6BackUptoCard : Claim7 := { stood := { row := ip6BackUptoRow, standIns := [], harness := (true, "83f41dcafbf202789403d221f58dfe1b889ecc5e720ae8a2daa7fd3a6df884c6"), looks := true }, kinds := [], alts := [], laidByText := true, laidKinds := [.data, .data, .data, .sentinel, .sentinel], laidTests := true, laidLooks := .later }
def Ip6BackUptoCardSaid : Prop := Claim7.holds Tryd.pinned (.plain (OpenSpec.upto ip6BackSpec)) ip6BackUptoCard

/-- THE SECOND FORM's CARD OF 'shortcutlaw8.Ip6Long'. -/
def ip6LongUptoCard : Claim7 := { stood := { row := ip6LongUptoRow, standIns := [], harness := (true, "83f41dcafbf202789403d221f58dfe1b889ecc5e720ae8a2daa7fd3a6df884c6"), looks := true }, kinds := [], alts := [], laidByText := true, laidKinds := [.data, .data, .data, .sentinel, .sentinel], laidTests := true, laidLooks := .later }
def Ip6LongUptoCardSaid : Prop := Claim7.holds Tryd.pinned (.plain (OpenSpec.upto ip6LongSpec)) ip6LongUptoCard

/-- THE SECOND FORM's CARD OF 'shortcutlaw8.Ip6Rows'. -/
def ip6RowsUptoCard : Claim7 := { stood := { row := ip6RowsUptoRow, standIns := [], harness := (true, "83f41dcafbf202789403d221f58dfe1b889ecc5e720ae8a2daa7fd3a6df884c6"), looks := true }, kinds := [], alts := [], laidByText := true, laidKinds := [.data, .data, .data, .sentinel, .sentinel], laidTests := true, laidLooks := .later }
def Ip6RowsUptoCardSaid : Prop := Claim7.holds Tryd.pinned (.plain (OpenSpec.upto ip6RowsSpec)) ip6RowsUptoCard

/-- THE SECOND FORM's CARD OF 'shortcutlaw8.Ip6Forms'. -/
def ip6FormsUptoCard : Claim7 := { stood := { row := ip6FormsUptoRow, standIns := [], harness := (true, "83f41dcafbf202789403d221f58dfe1b889ecc5e720ae8a2daa7fd3a6df884c6"), looks := true }, kinds := [], alts := [], laidByText := true, laidKinds := [.data, .data, .data, .sentinel, .sentinel], laidTests := true, laidLooks := .later }
def Ip6FormsUptoCardSaid : Prop := Claim7.holds Tryd.pinned (.plain (OpenSpec.upto ip6FormsSpec)) ip6FormsUptoCard

/-- THE SECOND FORM's CARD OF 'shortcutlaw8.Ip6Gaps'. -/
def ip6GapsUptoCard : Claim7 := { stood := { row := ip6GapsUptoRow, standIns := [], harness := (true, "83f41dcafbf202789403d221f58dfe1b889ecc5e720ae8a2daa7fd3a6df884c6"), looks := true }, kinds := [], alts := [], laidByText := true, laidKinds := [.data, .data, .data, .sentinel, .sentinel], laidTests := true, laidLooks := .later }
def Ip6GapsUptoCardSaid : Prop := Claim7.holds Tryd.pinned (.plain (OpenSpec.upto ip6GapsSpec)) ip6GapsUptoCard
end Rows
end Go.Proofs.YtaglbcniomcfnaaDoor
