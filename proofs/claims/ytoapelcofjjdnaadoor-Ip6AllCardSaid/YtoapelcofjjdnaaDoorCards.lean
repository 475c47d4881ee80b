/-
  DERIVED. GIVEN WITH THE SEED: THE CARDS: each row of YtoapelcofjjdnaaDoorRows.lean that lists a variable, with what it lists TIED to the program's text (the seventh form; the later family's looks); each row that meets fmt, with fmt's text TOLD by the authors' own Lean function (tested against real Go, not proved from fmt's source: count such statements apart). THE CARD IS WHAT COUNTS. Prove the row's statement (the work); the ties are given (YtoapelcofjjdnaaDoorTie.lean); close each card by the builder's one call (the guide's Derived/Test/ToyasCard.lean, 'card_holds'). Laid BY PROGRAM, IN A SANDBOX (cutbox-door.mjs). By AI agents, Wed Nov 11 2026. No macro, syntax, notation, axiom, sorry.
-/
import Derived.Test.YtoapelcofjjdnaaDoorRows
import GoSem.ClaimSeven
namespace Go.Proofs.YtoapelcofjjdnaaDoor
namespace Rows

/-- THE TIED CARD OF 'shortcutlaw8.Ip6All'. -/
def ip6AllCard : Claim7 := { stood := { row := ip6AllRow, standIns := [], harness := (true, "1c4fb9d90cd3d645e62dc93ac522b627e3620c6ddbc80215d000cbd760d067df"), looks := true }, kinds := [], alts := [], laidByText := true, laidKinds := [.data, .data, .data, .sentinel, .sentinel], laidTests := true, laidLooks := .later }
def Ip6AllCardSaid : Prop := Claim7.holds Tryd.pinned (.plain (OpenSpec.ofChange ip6AllSpec)) ip6AllCard

/-- THE SECOND FORM's CARD OF 'shortcutlaw8.Ip6All'. -/
def ip6AllUptoCard : Claim7 := { stood := { row := ip6AllUptoRow, standIns := [], harness := (true, "1c4fb9d90cd3d645e62dc93ac522b627e3620c6ddbc80215d000cbd760d067df"), looks := true }, kinds := [], alts := [], laidByText := true, laidKinds := [.data, .data, .data, .sentinel, .sentinel], laidTests := true, laidLooks := .later }
def Ip6AllUptoCardSaid : Prop := Claim7.holds Tryd.pinned (.plain (OpenSpec.upto ip6AllSpec)) ip6AllUptoCard
end Rows
end Go.Proofs.YtoapelcofjjdnaaDoor
