/-
  Closed facts on this seat's program that every step of a row wants.
-/
import Derived.Test.YtbkoignjagobaaaDoorChecked
import Derived.Test.YtbkoignjagobaaaDoorKit
import Derived.KernelRfl
namespace Go.Proofs.YtbkoignjagobaaaDoor
theorem own : ownKnob Tryd.prog.godebug = none := by kernel_rfl
theorem laidOut : laidOutB Tryd.prog = true := by kernel_rfl
end Go.Proofs.YtbkoignjagobaaaDoor
