/-
  Closed facts on this seat's program that every step of a row wants.
-/
import Derived.Test.YtlbmmdkmelcedaaChecked
import Derived.Test.YtlbmmdkmelcedaaKit
import Derived.KernelRfl
namespace Go.Proofs.Ytlbmmdkmelcedaa
theorem own : ownKnob Try.prog.godebug = none := by kernel_rfl
theorem laidOut : laidOutB Try.prog = true := by kernel_rfl
end Go.Proofs.Ytlbmmdkmelcedaa
