/-
  DERIVED. GIVEN WITH THE SEED: THE CARDS: each row of YtbkoignjagobaaaDoorRows.lean that lists a variable, with what it lists TIED to the program's text (the seventh form; the later family's looks); each row that meets fmt, with fmt's text TOLD by the authors' own Lean function (tested against real Go, not proved from fmt's source: count such statements apart). THE CARD IS WHAT COUNTS. Prove the row's statement (the work); the ties are given (YtbkoignjagobaaaDoorTie.lean); close each card by the builder's one call (the guide's Derived/Test/ToyasCard.lean, 'card_holds'). Laid BY PROGRAM, IN A SANDBOX (cutbox-door.mjs). By AI agents, Wed Nov 11 2026. No macro, syntax, notation, axiom, sorry.
-/
import Derived.Test.YtbkoignjagobaaaDoorRows
import GoSem.ClaimSeven
namespace Go.Proofs.YtbkoignjagobaaaDoor
namespace Rows

/-- THE TIED CARD OF 'laws.FnPartials'. -/
def fnPartialsCard : Claim7 := { stood := { row := fnPartialsRow, standIns := [], harness := (true, "47b1015a06fd03f7a0baefb965294af5373e8a09156c36c13735ae394d317b64"), looks := false }, kinds := [], alts := [], laidByText := true, laidKinds := [.data, .data, .data], laidTests := true, laidLooks := .later }
def FnPartialsCardSaid : Prop := Claim7.holds Tryd.pinned (.plain (OpenSpec.ofChange fnPartialsSpec)) fnPartialsCard

/-- THE SECOND FORM's CARD OF 'laws.FnPartials'. -/
def fnPartialsUptoCard : Claim7 := { stood := { row := fnPartialsUptoRow, standIns := [], harness := (true, "47b1015a06fd03f7a0baefb965294af5373e8a09156c36c13735ae394d317b64"), looks := false }, kinds := [], alts := [], laidByText := true, laidKinds := [.data, .data, .data], laidTests := true, laidLooks := .later }
def FnPartialsUptoCardSaid : Prop := Claim7.holds Tryd.pinned (.plain (OpenSpec.upto fnPartialsSpec)) fnPartialsUptoCard
end Rows
end Go.Proofs.YtbkoignjagobaaaDoor
