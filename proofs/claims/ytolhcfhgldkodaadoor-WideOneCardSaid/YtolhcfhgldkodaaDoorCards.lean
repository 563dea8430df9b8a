/-
  DERIVED. GIVEN WITH THE SEED: THE CARDS: each row of YtolhcfhgldkodaaDoorRows.lean that lists a variable, with what it lists TIED to the program's text (the seventh form; the later family's looks); each row that meets fmt, with fmt's text TOLD by the authors' own Lean function (tested against real Go, not proved from fmt's source: count such statements apart). THE CARD IS WHAT COUNTS. Prove the row's statement (the work); the ties are given (YtolhcfhgldkodaaDoorTie.lean); close each card by the builder's one call (the guide's Derived/Test/ToyasCard.lean, 'card_holds'). Laid BY PROGRAM, IN A SANDBOX (cutbox-door.mjs). By AI agents, Wed Nov 11 2026. No macro, syntax, notation, axiom, sorry.
-/
import Derived.Test.YtolhcfhgldkodaaDoorRows
import GoSem.ClaimSeven
namespace Go.Proofs.YtolhcfhgldkodaaDoor
namespace Rows

/-- THE TIED CARD OF 'creellaw19.WideOne'. -/
def wideOneCard : Claim7 := { stood := { row := wideOneRow, standIns := [], harness := (true, "9fd92e4eb4a2273b3a86a5bc4960d052c9b1893c950a7f7ec9b51b2ac8ec9294"), looks := false }, kinds := [], alts := [], laidByText := true, laidKinds := [.data], laidTests := true, laidLooks := .later }
def WideOneCardSaid : Prop := Claim7.holds Tryd.pinned (.plain (OpenSpec.ofChange wideOneSpec)) wideOneCard

/-- THE SECOND FORM's CARD OF 'creellaw19.WideOne'. -/
def wideOneUptoCard : Claim7 := { stood := { row := wideOneUptoRow, standIns := [], harness := (true, "9fd92e4eb4a2273b3a86a5bc4960d052c9b1893c950a7f7ec9b51b2ac8ec9294"), looks := false }, kinds := [], alts := [], laidByText := true, laidKinds := [.data], laidTests := true, laidLooks := .later }
def WideOneUptoCardSaid : Prop := Claim7.holds Tryd.pinned (.plain (OpenSpec.upto wideOneSpec)) wideOneUptoCard
end Rows
end Go.Proofs.YtolhcfhgldkodaaDoor
