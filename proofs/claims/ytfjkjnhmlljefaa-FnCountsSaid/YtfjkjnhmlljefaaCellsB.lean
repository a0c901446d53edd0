/-
  Contracts of the functions on cells, more.
-/
import Derived.Test.YtfjkjnhmlljefaaCells
namespace Go.Proofs.Ytfjkjnhmlljefaa
open Go.RowKit
set_option linter.unusedVariables false



def blackB (x y : Int) : Bool := okB x y && ((x + y) % 2 == 0)
end Go.Proofs.Ytfjkjnhmlljefaa
