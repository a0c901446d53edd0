/-
  What a law over a region wants at its beginning.
-/
import Derived.Test.YtfjkjnhmlljefaaReg
import Derived.Test.YtfjkjnhmlljefaaRegI
namespace Go.Proofs.Ytfjkjnhmlljefaa
open Go.RowKit
theorem szR_yes (a : Option Addr) (n c : Nat) (w : World) (h : n ≤ 1048576) : Calls Try.prog 11 #[.agg #[.slice a n c], .int .i64 1048576] w fun e w' => e = .returned (.int .i64 (1048576 - n)) ∧ Below w.heap.size w w' := by
  have := szRegion_any a n c w (by unfold maxLen; omega)
  rwa [if_pos h] at this
theorem szR_no (a : Option Addr) (n c : Nat) (w : World) (h : ¬ n ≤ 1048576) (hn : n ≤ maxLen) : Calls Try.prog 11 #[.agg #[.slice a n c], .int .i64 1048576] w fun e w' => e = .returned (.int .i64 (-1)) ∧ Below w.heap.size w w' := by
  have := szRegion_any a n c w hn
  rwa [if_neg h] at this
end Go.Proofs.Ytfjkjnhmlljefaa
