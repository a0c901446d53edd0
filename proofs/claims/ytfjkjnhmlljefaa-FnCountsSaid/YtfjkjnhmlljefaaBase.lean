/-
  Closed facts on this seat's program that every step of a row wants.
-/
import Derived.Test.YtfjkjnhmlljefaaChecked
import Derived.Test.YtfjkjnhmlljefaaKit
import Derived.KernelRfl
namespace Go.Proofs.Ytfjkjnhmlljefaa
theorem own : ownKnob Try.prog.godebug = none := by kernel_rfl
theorem laidOut : laidOutB Try.prog = true := by kernel_rfl
end Go.Proofs.Ytfjkjnhmlljefaa
