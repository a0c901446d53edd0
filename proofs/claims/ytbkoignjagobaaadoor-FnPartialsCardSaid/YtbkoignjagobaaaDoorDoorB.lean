/-
  The door: the listed tables as the walks need them; the program's FormatInt.
-/
import Derived.Test.YtbkoignjagobaaaDoorRows
import Derived.Test.YtbkoignjagobaaaDoorDec
import Derived.Test.YtbkoignjagobaaaDoorShelf
import Derived.Lib.LaidTab
import Derived.Lib.AppendIntMem
import Derived.Stop.LaidErr
import Derived.LaidMore
import Derived.Stop.Joined
namespace Go.Proofs.YtbkoignjagobaaaDoor
open Go.RowKit
set_option linter.unusedVariables false
set_option linter.unusedSimpArgs false

/-- The three tables, as the rows list them. -/
def laid3 : List (String × DataW Unit) := Rows.fnPartialsRow.laid
def tabName : String := (laid3.map (·.1)).getD 2 default
/-- The table that a number's text is made from reads as it was laid. -/
def TabB (w : World) : Prop := Lib.TabIs Tryd.prog w tabName .u64 Lib.pow10Tab
theorem TabB.next {w w' : World} (h : TabB w) (hb : Below w.heap.size w w') : TabB w' := (Lib.tabBelow_of_tabIs h) w' hb
theorem tabB_of {W : World} (h : laidMetH Tryd.prog laid3 W) : TabB W := by
  rw [MakeChecks.laidMetH_plain _ _ _ (by kernel_rfl)] at h
  exact Lib.tabIs_of_head (g := 1) (t := 100) (e := 50) (n := 20) (by kernel_rfl) (by kernel_rfl) (by kernel_rfl) (by kernel_rfl) (by kernel_rfl) (by kernel_rfl) (show laidMet Tryd.prog ((tabName, Lib.tabData .u64 Lib.pow10Tab) :: []) W from ((show laidMet Tryd.prog (_ :: _ :: _ :: []) W from h).tail.tail))
theorem implFmt_any (n : Int) (w : World) (h0 : -9223372036854775808 ≤ n) (h1 : n ≤ 9223372036854775807) (hT : TabB w) :
    Calls Tryd.prog 46 #[.int .i64 n] w fun e w' => e = .returned (.string (strD (Lib.itoa n))) ∧ Below w.heap.size w w' := by
  go_enter Tryd.func46, Tryd.ntmps46
  go_wp2_with (go_at_call 53; fail)
  refine (Tryd.strconv_Itoa n h0 h1 w hT).mono ?_
  rintro e w1 ⟨rfl, k, os, hw⟩
  have hB : Below w.heap.size w w1 := by rw [hw]; exact Lib.below_grow _ _ (Nat.le_refl _) _ _
  clear hw
  go_wp2_with fail
  go_ret
  exact ⟨rfl, hB⟩
theorem implFmt_small (n : Nat) (w : World) (h : n < 100) :
    Calls Tryd.prog 46 #[.int .i64 (n : Int)] w fun e w' => e = .returned (.string (strD (Lib.itoa (n : Int)))) ∧ Below w.heap.size w w' := by
  have HE : Hid (strD (Lib.itoa (n : Int)) = ⟨(Lib.decDigits n).toArray⟩) := Lib.hid (by unfold strD Lib.itoa; rw [if_neg (by omega)]; rfl)
  go_enter Tryd.func46, Tryd.ntmps46
  go_wp2_with (go_at_call 53; fail)
  refine (Tryd.strconv_Itoa_small n h w).mono ?_
  rintro e w1 ⟨rfl, rfl⟩
  go_wp2_with fail
  go_ret
  exact ⟨by rw [HE.out]; rfl, Below.refl _ _⟩
end Go.Proofs.YtbkoignjagobaaaDoor
