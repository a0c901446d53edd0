/-
  Closed facts on this seat's program that every step of a row wants.
-/
import Derived.Test.YtlbmmdkmelcedaaDoorChecked
import Derived.Test.YtlbmmdkmelcedaaDoorKit
import Derived.KernelRfl
namespace Go.Proofs.YtlbmmdkmelcedaaDoor
theorem own : ownKnob Tryd.prog.godebug = none := by kernel_rfl
theorem laidOut : laidOutB Tryd.prog = true := by kernel_rfl
end Go.Proofs.YtlbmmdkmelcedaaDoor
