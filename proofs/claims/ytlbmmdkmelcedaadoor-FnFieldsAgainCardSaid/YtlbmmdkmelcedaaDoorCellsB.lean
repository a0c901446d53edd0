/-
  Contracts of the functions on cells, more.
-/
import Derived.Test.YtlbmmdkmelcedaaDoorCells
namespace Go.Proofs.YtlbmmdkmelcedaaDoor
open Go.RowKit
set_option linter.unusedVariables false



def blackB (x y : Int) : Bool := okB x y && ((x + y) % 2 == 0)
theorem implBlack_any (x y : Int) (w : World) :
    Calls Tryd.prog 36 #[.agg #[.int .i64 x, .int .i64 y]] w fun e w' => e = .returned (.bool (blackB x y)) ∧ Below w.heap.size w w' := by
  by_cases h1 : okB x y = true
  · obtain ⟨⟨hx0, hx7⟩, hy0, hy7⟩ := okB_iff.1 h1
    go_enter Tryd.func36, Tryd.ntmps36
    go_wp2_with (go_at_call 57; refine (implOk_any _ _ _).mono ?_; rintro e w1 ⟨rfl, hb1⟩; have hz := hb1.size; (try simp at hz); have hc1 : ∀ b o, b ≤ w.heap.size + 0 → w1.cell? ⟨b, o, none⟩ = _ := fun b o h => hb1.cell (p := ⟨b, o, none⟩) (by first | omega | (simp; omega)); have hB : Below w.heap.size w w1 := below_step hb1 (by first | omega | (simp; omega) | simp) (by repeat (first | assumption | exact Below.refl _ _ | refine Below.alloc ?_ (by first | omega | (simp; omega) | simp) _ | refine Below.setCell ?_ (by first | omega | (simp; omega) | simp) _)); clear hb1)
    go_ret
    exact ⟨ret_b (by simp [blackB, h1]), by repeat (first | assumption | exact Below.refl _ _ | (refine Below.alloc ?_ (by first | omega | (simp; omega) | simp) _) | (refine Below.setCell ?_ (by first | omega | (simp; omega) | simp) _) | (refine Below.drew ?_))⟩
  · have h1' : okB x y = false := by simpa using h1
    go_enter Tryd.func36, Tryd.ntmps36
    go_wp2_with (go_at_call 57; refine (implOk_any _ _ _).mono ?_; rintro e w1 ⟨rfl, hb1⟩; have hz := hb1.size; (try simp at hz); have hc1 : ∀ b o, b ≤ w.heap.size + 0 → w1.cell? ⟨b, o, none⟩ = _ := fun b o h => hb1.cell (p := ⟨b, o, none⟩) (by first | omega | (simp; omega)); have hB : Below w.heap.size w w1 := below_step hb1 (by first | omega | (simp; omega) | simp) (by repeat (first | assumption | exact Below.refl _ _ | refine Below.alloc ?_ (by first | omega | (simp; omega) | simp) _ | refine Below.setCell ?_ (by first | omega | (simp; omega) | simp) _)); clear hb1)
    go_ret
    exact ⟨ret_b (by simp [blackB, h1']), by repeat (first | assumption | exact Below.refl _ _ | (refine Below.alloc ?_ (by first | omega | (simp; omega) | simp) _) | (refine Below.setCell ?_ (by first | omega | (simp; omega) | simp) _) | (refine Below.drew ?_))⟩
end Go.Proofs.YtlbmmdkmelcedaaDoor
