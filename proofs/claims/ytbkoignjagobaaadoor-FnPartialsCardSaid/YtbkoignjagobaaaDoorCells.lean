/-
  Contracts of the functions on cells: what each returns; nothing that was there is written.
-/
import Derived.Test.YtbkoignjagobaaaDoorProg
import Derived.Test.YtbkoignjagobaaaDoorKit
import Derived.WalkLawsBesides
import Derived.WalkSpells
import Derived.Outline
namespace Go.Proofs.YtbkoignjagobaaaDoor
open Go.RowKit
set_option linter.unusedVariables false

theorem ret_b {a b : Bool} (h : a = b) : Ending.returned (.bool a) = .returned (.bool b) := by rw [h]
theorem ret_i {a b : Int} (h : a = b) : Ending.returned (.int .i64 a) = .returned (.int .i64 b) := by rw [h]

def inB (x a b : Int) : Bool := decide (a ≤ x) && decide (x ≤ b)
def okB (x y : Int) : Bool := inB x 0 7 && inB y 0 7
theorem inB_iff {x a b : Int} : inB x a b = true ↔ a ≤ x ∧ x ≤ b := by simp [inB]
theorem inB_no {x a b : Int} : inB x a b = false ↔ x < a ∨ b < x := by simp [inB]; omega
theorem okB_iff {x y : Int} : okB x y = true ↔ (0 ≤ x ∧ x ≤ 7) ∧ 0 ≤ y ∧ y ≤ 7 := by simp [okB, inB_iff]

theorem specIn_any (x a b : Int) (w : World) :
    Calls Tryd.prog 51 #[.int .i64 x, .int .i64 a, .int .i64 b] w fun e w' => e = .returned (.bool (inB x a b)) ∧ w = w' := by
  by_cases h1 : a ≤ x
  · by_cases h2 : x ≤ b
    · have H := Lib.hid (inB_iff.2 ⟨h1, h2⟩)
      go_enter Tryd.func51, Tryd.ntmps51
      go_wp2
      go_ret
      exact ⟨ret_b H.out.symm, rfl⟩
    · have H := Lib.hid ((inB_no (a := a)).2 (.inr (Int.not_le.1 h2)))
      go_enter Tryd.func51, Tryd.ntmps51
      go_wp2
      go_ret
      exact ⟨ret_b H.out.symm, rfl⟩
  · have H := Lib.hid ((inB_no (b := b)).2 (.inl (Int.not_le.1 h1)))
    go_enter Tryd.func51, Tryd.ntmps51
    go_wp2
    go_ret
    exact ⟨ret_b H.out.symm, rfl⟩

theorem within_any (x a b : Int) (w : World) :
    Calls Tryd.prog 52 #[.int .i64 x, .int .i64 a, .int .i64 b] w fun e w' => e = .returned (.bool (inB x a b)) ∧ w = w' := by
  by_cases h1 : a ≤ x
  · by_cases h2 : x ≤ b
    · have H := Lib.hid (inB_iff.2 ⟨h1, h2⟩)
      go_enter Tryd.func52, Tryd.ntmps52
      go_wp2
      go_ret
      exact ⟨ret_b H.out.symm, rfl⟩
    · have H := Lib.hid ((inB_no (a := a)).2 (.inr (Int.not_le.1 h2)))
      go_enter Tryd.func52, Tryd.ntmps52
      go_wp2
      go_ret
      exact ⟨ret_b H.out.symm, rfl⟩
  · have H := Lib.hid ((inB_no (b := b)).2 (.inl (Int.not_le.1 h1)))
    go_enter Tryd.func52, Tryd.ntmps52
    go_wp2
    go_ret
    exact ⟨ret_b H.out.symm, rfl⟩

theorem implOk_any (x y : Int) (w : World) :
    Calls Tryd.prog 37 #[.agg #[.int .i64 x, .int .i64 y]] w fun e w' => e = .returned (.bool (okB x y)) ∧ Below w.heap.size w w' := by
  by_cases h1 : inB x 0 7 = true
  · go_enter Tryd.func37, Tryd.ntmps37
    go_wp2_with (go_at_call 52; refine (within_any _ _ _ _).mono ?_; rintro e w' ⟨rfl, rfl⟩)
    go_ret
    exact ⟨by simp [okB, h1], (Below.refl _ _).alloc (Nat.le_refl _) _⟩
  · have h1' : inB x 0 7 = false := by simpa using h1
    go_enter Tryd.func37, Tryd.ntmps37
    go_wp2_with (go_at_call 52; refine (within_any _ _ _ _).mono ?_; rintro e w' ⟨rfl, rfl⟩)
    go_ret
    exact ⟨by simp [okB, h1'], (Below.refl _ _).alloc (Nat.le_refl _) _⟩

theorem specOk_any (x y : Int) (w : World) :
    Calls Tryd.prog 41 #[.agg #[.int .i64 x, .int .i64 y]] w fun e w' => e = .returned (.bool (okB x y)) ∧ Below w.heap.size w w' := by
  by_cases h1 : inB x 0 7 = true
  · go_enter Tryd.func41, Tryd.ntmps41
    go_wp2_with (go_at_call 51; refine (specIn_any _ _ _ _).mono ?_; rintro e w' ⟨rfl, rfl⟩)
    go_ret
    exact ⟨by simp [okB, h1], (Below.refl _ _).alloc (Nat.le_refl _) _⟩
  · have h1' : inB x 0 7 = false := by simpa using h1
    go_enter Tryd.func41, Tryd.ntmps41
    go_wp2_with (go_at_call 51; refine (specIn_any _ _ _ _).mono ?_; rintro e w' ⟨rfl, rfl⟩)
    go_ret
    exact ⟨by simp [okB, h1'], (Below.refl _ _).alloc (Nat.le_refl _) _⟩

end Go.Proofs.YtbkoignjagobaaaDoor
