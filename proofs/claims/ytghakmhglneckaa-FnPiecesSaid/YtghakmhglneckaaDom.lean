/-
  Contracts of the functions on dominoes.
-/
import Derived.Test.YtghakmhglneckaaCellsC
namespace Go.Proofs.Ytghakmhglneckaa
open Go.RowKit
set_option linter.unusedVariables false
set_option linter.unusedSimpArgs false

/-- The second cell of a domino. -/
def secX (x : Int) (d : Bool) : Int := if d then x else wrap64 (x + 1)
def secY (y : Int) (d : Bool) : Int := if d then wrap64 (y + 1) else y
def domB (x y : Int) (d : Bool) : Bool := okB x y && okB (secX x d) (secY y d)
theorem secX_t {x : Int} : secX x true = x := rfl
theorem secX_f {x : Int} : secX x false = wrap64 (x + 1) := rfl
theorem secY_t {x : Int} : secY x true = wrap64 (x + 1) := rfl
theorem secY_f {x : Int} : secY x false = x := rfl
theorem wrap_small64 {n : Int} (h0 : -1000 ≤ n) (h1 : n ≤ 1000) : wrap64 n = n := IntWalk.wrap64_in n ⟨by omega, by omega⟩
theorem domB_iff {x y : Int} {d : Bool} : domB x y d = true ↔ (0 ≤ x ∧ 0 ≤ y) ∧ if d then x ≤ 7 ∧ y ≤ 6 else x ≤ 6 ∧ y ≤ 7 := by
  unfold domB secX secY
  rw [Bool.and_eq_true, okB_iff, okB_iff]
  cases d
  · simp only [Bool.false_eq_true, if_false]
    constructor
    · rintro ⟨⟨⟨a, b⟩, c, e⟩, ⟨f, g⟩, h, i⟩
      rw [wrap_small64 (by omega) (by omega)] at f g
      omega
    · rintro ⟨⟨a, b⟩, c, e⟩
      rw [wrap_small64 (by omega) (by omega)]
      omega
  · simp only [if_true]
    constructor
    · rintro ⟨⟨⟨a, b⟩, c, e⟩, ⟨f, g⟩, h, i⟩
      rw [wrap_small64 (by omega) (by omega)] at h i
      omega
    · rintro ⟨⟨a, b⟩, c, e⟩
      rw [wrap_small64 (by omega) (by omega)]
      omega
theorem domB_secX {x y : Int} {d : Bool} (h : domB x y d = true) : secX x d = if d then x else x + 1 := by
  have := domB_iff.1 h
  cases d
  · simp at this; simp only [secX_f, Bool.false_eq_true, if_false]; exact wrap_small64 (by omega) (by omega)
  · rfl
theorem domB_secY {x y : Int} {d : Bool} (h : domB x y d = true) : secY y d = if d then y + 1 else y := by
  have := domB_iff.1 h
  cases d
  · rfl
  · simp at this; simp only [secY_t, if_true]; exact wrap_small64 (by omega) (by omega)
theorem domB_ok {x y : Int} {d : Bool} (h : domB x y d = true) : okB x y = true ∧ okB (secX x d) (secY y d) = true := by
  unfold domB at h; simpa using h



theorem domB_no1 {x y : Int} {d : Bool} (h : okB x y = false) : domB x y d = false := by simp [domB, h]
theorem domB_two {x y : Int} {d : Bool} (h : okB x y = true) : domB x y d = okB (secX x d) (secY y d) := by simp [domB, h]
end Go.Proofs.Ytghakmhglneckaa
