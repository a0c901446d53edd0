/-
  The ways to lay dominoes, by lists and by sets; half as many dominoes as cells are a tiling.
-/
import Derived.Test.YtfjkjnhmlljefaaCntA
import Derived.Test.YtfjkjnhmlljefaaCP
namespace Go.Proofs.Ytfjkjnhmlljefaa
open Go.RowKit
set_option linter.unusedVariables false
set_option linter.unusedSimpArgs false

namespace Tl
theorem tl_odd : ∀ (k : Nat), k ≤ 64 → ∀ (S : Nat → Bool) (n : Nat), many k S = 2 * n + 1 → tl k S = 0 := by
  intro k
  induction k with
  | zero => intro _ S n h; simp [many] at h
  | succ k ih =>
    intro hk S n h
    rw [many_succ] at h
    show (if S (63 - k) then tot (nxt (63 - k)) (fun g => if S g then tl k (out2 S (63 - k) g) else 0) else tl k S) = 0
    by_cases hS : S (63 - k) = true
    · rw [if_pos hS] at h ⊢
      refine tot_zero fun g hg => ?_
      obtain ⟨h1, h2, h3⟩ := nxt_gt hg
      by_cases hSg : S g = true
      · rw [if_pos hSg]
        have h4 : many k S = many k (fun j => S j && !(j == g)) + 1 := many_out (by omega) (by omega) (by omega) hSg
        have h5 : many k (out2 S (63 - k) g) = many k (fun j => S j && !(j == g)) := many_congr fun j hj => by
          have : (63 - j == 63 - k) = false := by simp; omega
          simp [out2, this]
        exact ih (by omega) _ (n - 1) (by omega)
      · rw [if_neg hSg]
    · rw [if_neg hS] at h ⊢
      exact ih (by omega) S n (by omega)
end Tl
theorem w64p_mod (n : Int) : w64p n % 18446744073709551616 = n % 18446744073709551616 := by unfold w64p; omega
theorem w64p_in (n : Int) : -9223372036854775808 ≤ w64p n ∧ w64p n < 9223372036854775808 := by unfold w64p; omega
theorem fold_mod {α : Type} (f : α → Int) (l : List α) : ∀ b : Int, (l.foldl (fun o d => w64p (o + f d)) b) % 18446744073709551616 = (b + (l.map f).sum) % 18446744073709551616 := by
  induction l with
  | nil => intro b; simp
  | cons a l ih =>
    intro b
    have h := w64p_mod (b + f a)
    rw [List.foldl_cons, ih, List.map_cons, List.sum_cons]
    omega
theorem fold_in {α : Type} (f : α → Int) (l : List α) : ∀ b : Int, -9223372036854775808 ≤ b ∧ b < 9223372036854775808 → -9223372036854775808 ≤ (l.foldl (fun o d => w64p (o + f d)) b) ∧ (l.foldl (fun o d => w64p (o + f d)) b) < 9223372036854775808 := by
  induction l with
  | nil => intro b h; exact h
  | cons a l ih => intro b _; rw [List.foldl_cons]; exact ih _ (w64p_in _)
theorem pN_in : ∀ (C : List (Int × Int)) (n : Nat), -9223372036854775808 ≤ pN C n ∧ pN C n < 9223372036854775808 := by
  intro C
  induction C with
  | nil =>
    intro n
    by_cases h : n = 0
    · subst h; rw [pN_zero]; omega
    · rw [pN_nil h]; omega
  | cons c rest ih =>
    intro n
    by_cases h : n = 0
    · subst h; rw [pN_zero]; omega
    · rw [pN_cons h]
      exact fold_in _ _ _ (ih n)
theorem hasB_cell {R i : Nat} (hi : i < 64) : hasB R (cellOf i).1 (cellOf i).2 = R.testBit i := hasB_at hi
/-- The neighbours behind the least cell. -/
theorem nb_nxt {R k : Nat} (hR : R < 2 ^ 64) (hk : k < 64) (hlow : ∀ j, j ≤ k → R.testBit j = false) : (cellsL R).filter (nb2 (cellOf k)) = ((Tl.nxt k).filter fun g => R.testBit g).map cellOf := by
  rw [← nb_filter]
  have hok : okB (cellOf k).1 (cellOf k).2 = true := okB_iff.2 (by simp only [cellOf]; omega)
  rw [← can_nb hok]
  have hb : ∀ x y : Int, okB x y = false → hasB R x y = false := fun x y h => by unfold hasB; rw [h, Bool.false_and]
  have hf : (canL (cellOf k).1 (cellOf k).2).filter (fun d => hasB R d.1 d.2) = (candL (cellOf k).1 (cellOf k).2).filter (fun d => hasB R d.1 d.2) := by
    unfold canL
    rw [List.filter_filter]
    refine List.filter_congr fun d _ => ?_
    cases h : okB d.1 d.2
    · rw [hb _ _ h]; rfl
    · simp
  rw [hf]
  have e1 : hasB R (cellOf k).1 ((cellOf k).2 - 1) = false := by
    by_cases h8 : 8 ≤ k
    · have : hasB R (cellOf k).1 ((cellOf k).2 - 1) = hasB R (cellOf (k - 8)).1 (cellOf (k - 8)).2 := by
        congr 1 <;> simp only [cellOf] <;> omega
      rw [this, hasB_cell (by omega)]
      exact hlow _ (by omega)
    · exact hb _ _ (by cases h : okB (cellOf k).1 ((cellOf k).2 - 1) <;> first | rfl | (have := okB_iff.1 h; simp only [cellOf] at this; omega))
  have e2 : hasB R ((cellOf k).1 - 1) (cellOf k).2 = false := by
    by_cases h8 : 1 ≤ k % 8
    · have : hasB R ((cellOf k).1 - 1) (cellOf k).2 = hasB R (cellOf (k - 1)).1 (cellOf (k - 1)).2 := by
        congr 1 <;> simp only [cellOf] <;> omega
      rw [this, hasB_cell (by omega)]
      exact hlow _ (by omega)
    · exact hb _ _ (by cases h : okB ((cellOf k).1 - 1) (cellOf k).2 <;> first | rfl | (have := okB_iff.1 h; simp only [cellOf] at this; omega))
  unfold candL Tl.nxt
  have hr : k % 8 < 7 → ((cellOf k).1 + 1, (cellOf k).2) = cellOf (k + 1) := by
    intro h; simp only [cellOf, Prod.mk.injEq]; omega
  have hd : ((cellOf k).1, (cellOf k).2 + 1) = cellOf (k + 8) := by
    simp only [cellOf, Prod.mk.injEq]; omega
  have f3 : [((cellOf k).1 + 1, (cellOf k).2)].filter (fun d => hasB R d.1 d.2) = ((if k % 8 == 7 then [] else [k + 1]).filter fun g => R.testBit g).map cellOf := by
    by_cases h7 : k % 8 < 7
    · rw [hr h7, if_neg (by simp; omega)]
      rw [List.filter_cons, List.filter_cons, hasB_cell (by omega)]
      cases R.testBit (k + 1) <;> rfl
    · rw [if_pos (by simp; omega)]
      have : hasB R ((cellOf k).1 + 1) (cellOf k).2 = false := hb _ _ (by cases h : okB ((cellOf k).1 + 1) (cellOf k).2 <;> first | rfl | (have := okB_iff.1 h; simp only [cellOf] at this; omega))
      rw [List.filter_cons, this]
      rfl
  have f4 : [((cellOf k).1, (cellOf k).2 + 1)].filter (fun d => hasB R d.1 d.2) = ((if k < 56 then [k + 8] else []).filter fun g => R.testBit g).map cellOf := by
    by_cases h7 : k < 56
    · rw [hd, if_pos h7]
      rw [List.filter_cons, List.filter_cons, hasB_cell (by omega)]
      cases R.testBit (k + 8) <;> rfl
    · rw [if_neg h7]
      have : hasB R (cellOf k).1 ((cellOf k).2 + 1) = false := hb _ _ (by cases h : okB (cellOf k).1 ((cellOf k).2 + 1) <;> first | rfl | (have := okB_iff.1 h; simp only [cellOf] at this; omega))
      rw [List.filter_cons, this]
      rfl
  rw [List.filter_append, List.map_append, ← f3, ← f4, ← List.filter_append]
  rw [List.filter_cons, if_neg (by rw [e1]; simp), List.filter_cons, if_neg (by rw [e2]; simp)]
  rfl
end Go.Proofs.Ytfjkjnhmlljefaa
