/-
  The reference's contract of the overlap of two dominoes.
-/
import Derived.Test.YtbkoignjagobaaaDoorDomD
import Derived.Test.YtbkoignjagobaaaDoorDomB
namespace Go.Proofs.YtbkoignjagobaaaDoor
open Go.RowKit
set_option linter.unusedVariables false
set_option linter.unusedSimpArgs false

theorem bit_eq {x y x' y' : Int} (h : okB x y = true) (h' : okB x' y' = true) : (y * 8 + x).toNat = (y' * 8 + x').toNat ↔ x = x' ∧ y = y' := by
  have a := okB_iff.1 h
  have b := okB_iff.1 h'
  constructor
  · intro e; omega
  · rintro ⟨rfl, rfl⟩; rfl
theorem lap_iff {x y x' y' : Int} {d d' : Bool} (h : domB x y d = true) (h' : domB x' y' d' = true) : lapB x y d x' y' d' = true ↔
    ((undX1 x y d = undX1 x' y' d' ∧ undY1 x y d = undY1 x' y' d') ∨ (undX1 x y d = undX2 x' y' d' ∧ undY1 x y d = undY2 x' y' d')) ∨ ((undX2 x y d = undX1 x' y' d' ∧ undY2 x y d = undY1 x' y' d') ∨ (undX2 x y d = undX2 x' y' d' ∧ undY2 x y d = undY2 x' y' d')) := by
  obtain ⟨a1, a2, a3, a4⟩ := und_yes h
  obtain ⟨b1, b2, b3, b4⟩ := und_yes h'
  obtain ⟨k1, k2⟩ := domB_ok h
  obtain ⟨l1, l2⟩ := domB_ok h'
  rw [a1, a2, a3, a4, b1, b2, b3, b4, lapB_yes h h']
  unfold domS bitOf
  simp only [Bool.not_eq_true', decide_eq_false_iff_not, pair_and]
  constructor
  · intro hh
    by_cases c1 : x = x' ∧ y = y'
    · exact .inl (.inl c1)
    by_cases c2 : x = secX x' d' ∧ y = secY y' d'
    · exact .inl (.inr c2)
    by_cases c3 : secX x d = x' ∧ secY y d = y'
    · exact .inr (.inl c3)
    by_cases c4 : secX x d = secX x' d' ∧ secY y d = secY y' d'
    · exact .inr (.inr c4)
    exact absurd ⟨fun e => c1 ((bit_eq k1 l1).1 e), fun e => c2 ((bit_eq k1 l2).1 e), fun e => c3 ((bit_eq k2 l1).1 e), fun e => c4 ((bit_eq k2 l2).1 e)⟩ hh
  · rintro (h1 | h1) ⟨c1, c2, c3, c4⟩
    · rcases h1 with h1 | h1
      · exact c1 ((bit_eq k1 l1).2 h1)
      · exact c2 ((bit_eq k1 l2).2 h1)
    · rcases h1 with h1 | h1
      · exact c3 ((bit_eq k2 l1).2 h1)
      · exact c4 ((bit_eq k2 l2).2 h1)
end Go.Proofs.YtbkoignjagobaaaDoor
