/-
  Closed facts on this seat's program that every step of a row wants.
-/
import Derived.Test.YtdnbngdnpmelmaaChecked
import Derived.Test.YtdnbngdnpmelmaaKit
import Derived.KernelRfl
namespace Go.Proofs.Ytdnbngdnpmelmaa
theorem own : ownKnob Try.prog.godebug = none := by kernel_rfl
theorem laidOut : laidOutB Try.prog = true := by kernel_rfl
end Go.Proofs.Ytdnbngdnpmelmaa
