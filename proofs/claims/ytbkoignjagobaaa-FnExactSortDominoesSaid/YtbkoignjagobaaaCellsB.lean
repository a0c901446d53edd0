/-
  Contracts of the functions on cells, more.
-/
import Derived.Test.YtbkoignjagobaaaCells
namespace Go.Proofs.Ytbkoignjagobaaa
open Go.RowKit
set_option linter.unusedVariables false

theorem toCell_any (x y : Int) (w : World) :
    Calls Try.prog 30 #[.agg #[.int .i64 x, .int .i64 y]] w fun e w' => e = .returned (.agg #[.int .i64 x, .int .i64 y]) ∧ Below w.heap.size w w' := by
  go_enter Try.func30, Try.ntmps30
  go_wp2
  exact bodyPost_ret (v := .agg #[.int .i64 x, .int .i64 y]) (by simp [results, Try.results30, go_sem]) rfl ⟨rfl, by repeat (first | exact Below.refl _ _ | (refine Below.alloc ?_ (by first | omega | (simp; omega) | simp) _) | (refine Below.setCell ?_ (by first | omega | (simp; omega) | simp) _) | (refine Below.drew ?_))⟩

theorem eqCell_any (x y x' y' : Int) (w : World) :
    Calls Try.prog 55 #[.agg #[.int .i64 x, .int .i64 y], .agg #[.int .i64 x', .int .i64 y']] w fun e w' => e = .returned (.bool (x == x' && y == y')) ∧ Below w.heap.size w w' := by
  by_cases h1 : x = x'
  · subst h1
    by_cases h2 : y = y'
    · subst h2
      go_enter Try.func55, Try.ntmps55
      go_wp2
      go_ret
      exact ⟨ret_b (by simp), by repeat (first | exact Below.refl _ _ | (refine Below.alloc ?_ (by first | omega | (simp; omega) | simp) _) | (refine Below.setCell ?_ (by first | omega | (simp; omega) | simp) _) | (refine Below.drew ?_))⟩
    · have h2' : (y != y') = true := by simpa using h2
      go_enter Try.func55, Try.ntmps55
      go_wp2
      go_ret
      exact ⟨ret_b (by simpa using h2), by repeat (first | exact Below.refl _ _ | (refine Below.alloc ?_ (by first | omega | (simp; omega) | simp) _) | (refine Below.setCell ?_ (by first | omega | (simp; omega) | simp) _) | (refine Below.drew ?_))⟩
  · have h1' : (x != x') = true := by simpa using h1
    go_enter Try.func55, Try.ntmps55
    go_wp2
    go_ret
    exact ⟨ret_b (by simp [h1]), by repeat (first | exact Below.refl _ _ | (refine Below.alloc ?_ (by first | omega | (simp; omega) | simp) _) | (refine Below.setCell ?_ (by first | omega | (simp; omega) | simp) _) | (refine Below.drew ?_))⟩

def blackB (x y : Int) : Bool := okB x y && ((x + y) % 2 == 0)
end Go.Proofs.Ytbkoignjagobaaa
