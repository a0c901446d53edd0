/-
  What a law over a region wants at its beginning.
-/
import Derived.Test.YtbkoignjagobaaaDoorReg
import Derived.Test.YtbkoignjagobaaaDoorRegI
namespace Go.Proofs.YtbkoignjagobaaaDoor
open Go.RowKit
end Go.Proofs.YtbkoignjagobaaaDoor
