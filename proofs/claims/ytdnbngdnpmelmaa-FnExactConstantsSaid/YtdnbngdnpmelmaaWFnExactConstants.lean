/-
  The walk of the law FnExactConstants: it compares constants alone.
-/
import Derived.Test.YtdnbngdnpmelmaaKit
import Derived.Test.YtdnbngdnpmelmaaProg
namespace Go.Proofs.Ytdnbngdnpmelmaa.fnExactConstants
open Go.RowKit
set_option linter.unusedVariables false
set_option linter.unusedSimpArgs false

theorem walk (w : World) : Calls Try.prog 3 #[] w fun e w' => e = .returned (.bool true) ∧ Below w.heap.size w w' := by
  go_enter Try.func3, Try.ntmps3
  go_wp2
  go_ret
  exact ⟨rfl, by repeat' (first | assumption | (with_reducible exact Below.refl _ _) | (with_reducible refine Below.drew ?_) | (with_reducible refine Below.alloc ?_ ?_ _) | (with_reducible refine Below.setCell ?_ ?_ _) | omega | (simp; done) | (simp; omega))⟩
end Go.Proofs.Ytdnbngdnpmelmaa.fnExactConstants
