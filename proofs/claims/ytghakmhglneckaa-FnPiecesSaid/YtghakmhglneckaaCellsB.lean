/-
  Contracts of the functions on cells, more.
-/
import Derived.Test.YtghakmhglneckaaCells
namespace Go.Proofs.Ytghakmhglneckaa
open Go.RowKit
set_option linter.unusedVariables false

theorem toCell_any (x y : Int) (w : World) :
    Calls Try.prog 16 #[.agg #[.int .i64 x, .int .i64 y]] w fun e w' => e = .returned (.agg #[.int .i64 x, .int .i64 y]) ∧ Below w.heap.size w w' := by
  go_enter Try.func16, Try.ntmps16
  go_wp2
  exact bodyPost_ret (v := .agg #[.int .i64 x, .int .i64 y]) (by simp [results, Try.results16, go_sem]) rfl ⟨rfl, by repeat (first | exact Below.refl _ _ | (refine Below.alloc ?_ (by first | omega | (simp; omega) | simp) _) | (refine Below.setCell ?_ (by first | omega | (simp; omega) | simp) _) | (refine Below.drew ?_))⟩

theorem eqCell_any (x y x' y' : Int) (w : World) :
    Calls Try.prog 51 #[.agg #[.int .i64 x, .int .i64 y], .agg #[.int .i64 x', .int .i64 y']] w fun e w' => e = .returned (.bool (x == x' && y == y')) ∧ Below w.heap.size w w' := by
  by_cases h1 : x = x'
  · subst h1
    by_cases h2 : y = y'
    · subst h2
      go_enter Try.func51, Try.ntmps51
      go_wp2
      go_ret
      exact ⟨ret_b (by simp), by repeat (first | exact Below.refl _ _ | (refine Below.alloc ?_ (by first | omega | (simp; omega) | simp) _) | (refine Below.setCell ?_ (by first | omega | (simp; omega) | simp) _) | (refine Below.drew ?_))⟩
    · have h2' : (y != y') = true := by simpa using h2
      go_enter Try.func51, Try.ntmps51
      go_wp2
      go_ret
      exact ⟨ret_b (by simpa using h2), by repeat (first | exact Below.refl _ _ | (refine Below.alloc ?_ (by first | omega | (simp; omega) | simp) _) | (refine Below.setCell ?_ (by first | omega | (simp; omega) | simp) _) | (refine Below.drew ?_))⟩
  · have h1' : (x != x') = true := by simpa using h1
    go_enter Try.func51, Try.ntmps51
    go_wp2
    go_ret
    exact ⟨ret_b (by simp [h1]), by repeat (first | exact Below.refl _ _ | (refine Below.alloc ?_ (by first | omega | (simp; omega) | simp) _) | (refine Below.setCell ?_ (by first | omega | (simp; omega) | simp) _) | (refine Below.drew ?_))⟩

def blackB (x y : Int) : Bool := okB x y && ((x + y) % 2 == 0)
theorem implBlack_any (x y : Int) (w : World) :
    Calls Try.prog 73 #[.agg #[.int .i64 x, .int .i64 y]] w fun e w' => e = .returned (.bool (blackB x y)) ∧ Below w.heap.size w w' := by
  by_cases h1 : okB x y = true
  · obtain ⟨⟨hx0, hx7⟩, hy0, hy7⟩ := okB_iff.1 h1
    go_enter Try.func73, Try.ntmps73
    go_wp2_with (go_at_call 64; refine (implOk_any _ _ _).mono ?_; rintro e w1 ⟨rfl, hb1⟩; have hz := hb1.size; (try simp at hz); have hc1 : ∀ b o, b ≤ w.heap.size + 0 → w1.cell? ⟨b, o, none⟩ = _ := fun b o h => hb1.cell (p := ⟨b, o, none⟩) (by first | omega | (simp; omega)); have hB : Below w.heap.size w w1 := below_step hb1 (by first | omega | (simp; omega) | simp) (by repeat (first | assumption | exact Below.refl _ _ | refine Below.alloc ?_ (by first | omega | (simp; omega) | simp) _ | refine Below.setCell ?_ (by first | omega | (simp; omega) | simp) _)); clear hb1)
    go_ret
    exact ⟨ret_b (by simp [blackB, h1]), by repeat (first | assumption | exact Below.refl _ _ | (refine Below.alloc ?_ (by first | omega | (simp; omega) | simp) _) | (refine Below.setCell ?_ (by first | omega | (simp; omega) | simp) _) | (refine Below.drew ?_))⟩
  · have h1' : okB x y = false := by simpa using h1
    go_enter Try.func73, Try.ntmps73
    go_wp2_with (go_at_call 64; refine (implOk_any _ _ _).mono ?_; rintro e w1 ⟨rfl, hb1⟩; have hz := hb1.size; (try simp at hz); have hc1 : ∀ b o, b ≤ w.heap.size + 0 → w1.cell? ⟨b, o, none⟩ = _ := fun b o h => hb1.cell (p := ⟨b, o, none⟩) (by first | omega | (simp; omega)); have hB : Below w.heap.size w w1 := below_step hb1 (by first | omega | (simp; omega) | simp) (by repeat (first | assumption | exact Below.refl _ _ | refine Below.alloc ?_ (by first | omega | (simp; omega) | simp) _ | refine Below.setCell ?_ (by first | omega | (simp; omega) | simp) _)); clear hb1)
    go_ret
    exact ⟨ret_b (by simp [blackB, h1']), by repeat (first | assumption | exact Below.refl _ _ | (refine Below.alloc ?_ (by first | omega | (simp; omega) | simp) _) | (refine Below.setCell ?_ (by first | omega | (simp; omega) | simp) _) | (refine Below.drew ?_))⟩
end Go.Proofs.Ytghakmhglneckaa
