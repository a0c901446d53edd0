/-
  Contracts of the order of dominoes and of their overlap.
-/
import Derived.Test.YtfjkjnhmlljefaaDom
namespace Go.Proofs.Ytfjkjnhmlljefaa
open Go.RowKit
set_option linter.unusedVariables false
set_option linter.unusedSimpArgs false

def b2i (b : Bool) : Int := if b then 1 else 0
/-- The number by which valid dominoes are ordered. -/
def ordI (x y : Int) (d : Bool) : Int := 2 * (y * 8 + x) + b2i d

def befB (x y : Int) (d : Bool) (x' y' : Int) (d' : Bool) : Bool := domB x y d && (domB x' y' d' && decide (ordI x y d < ordI x' y' d'))
theorem befB_no1 {x y x' y' : Int} {d d' : Bool} (h : domB x y d = false) : befB x y d x' y' d' = false := by simp [befB, h]
theorem befB_no2 {x y x' y' : Int} {d d' : Bool} (h : domB x' y' d' = false) : befB x y d x' y' d' = false := by simp [befB, h]
theorem befB_yes {x y x' y' : Int} {d d' : Bool} (h : domB x y d = true) (h' : domB x' y' d' = true) : befB x y d x' y' d' = decide (ordI x y d < ordI x' y' d') := by simp [befB, h, h']
theorem ord_bd {x y : Int} {d : Bool} (h : domB x y d = true) : 0 ≤ ordI x y d ∧ ordI x y d ≤ 127 := by
  have h1 := okB_iff.1 (domB_ok h).1
  unfold ordI b2i
  cases d <;> simp <;> omega

end Go.Proofs.Ytfjkjnhmlljefaa
