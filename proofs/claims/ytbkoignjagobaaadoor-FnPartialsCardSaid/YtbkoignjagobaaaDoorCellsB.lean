/-
  Contracts of the functions on cells, more.
-/
import Derived.Test.YtbkoignjagobaaaDoorCells
namespace Go.Proofs.YtbkoignjagobaaaDoor
open Go.RowKit
set_option linter.unusedVariables false



def blackB (x y : Int) : Bool := okB x y && ((x + y) % 2 == 0)
end Go.Proofs.YtbkoignjagobaaaDoor
