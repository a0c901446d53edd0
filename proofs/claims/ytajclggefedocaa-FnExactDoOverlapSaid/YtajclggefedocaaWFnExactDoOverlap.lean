/-
  The walk of the law FnExactDoOverlap: it returns true, and nothing that was there is written.
-/
import Derived.Test.YtajclggefedocaaDomE
namespace Go.Proofs.Ytajclggefedocaa.fnExactDoOverlap
open Go.RowKit
set_option linter.unusedVariables false
set_option linter.unusedSimpArgs false

theorem walk (x0 y0 : Int) (d0 : Bool) (x1 y1 : Int) (d1 : Bool) (w : World) (wx0 : (Lit.int .i64 x0).wf = true) (wy0 : (Lit.int .i64 y0).wf = true) (wx1 : (Lit.int .i64 x1).wf = true) (wy1 : (Lit.int .i64 y1).wf = true) :
    Calls Try.prog 14 #[.agg #[.int .i64 x0, .int .i64 y0, .bool d0], .agg #[.int .i64 x1, .int .i64 y1, .bool d1]] w fun e w' => e = .returned (.bool true) ∧ Below w.heap.size w w' := by
  go_enter Try.func14, Try.ntmps14
  go_wp2
  refine hold_start (S := (fun w' => w'.cell? ⟨w.heap.size, 0, none⟩ = some (.int .i64 x0) ∧ w'.cell? ⟨w.heap.size, 1, none⟩ = some (.int .i64 y0) ∧ w'.cell? ⟨w.heap.size, 2, none⟩ = some (.bool d0) ∧ w'.cell? ⟨w.heap.size + 1, 0, none⟩ = some (.int .i64 x1) ∧ w'.cell? ⟨w.heap.size + 1, 1, none⟩ = some (.int .i64 y1) ∧ w'.cell? ⟨w.heap.size + 1, 2, none⟩ = some (.bool d1) ∧ Below w.heap.size w w' ∧ w.heap.size + 2 ≤ w'.heap.size)) (by kernel_rfl) (by kernel_rfl) (by intro _ _ d _ _ h; cases d <;> exact h) ?_ (fun hHC hH0 => ?_)
  · (first | (go_keep; done) | ((try go_split_ands); (repeat' apply And.intro) <;> first | assumption | (refine (hb1.cell (by first | omega | (simp; done) | (simp; omega))).trans ?_; first | assumption | simp) | (exact below_step hb1 (by first | omega | (simp; done) | (simp; omega)) (by assumption)) | (have hz' := hb1.size; (try simp at hz'); omega) | ((repeat' (first | assumption | (with_reducible exact Below.refl _ _) | (with_reducible refine Below.drew ?_) | (with_reducible refine Below.alloc ?_ ?_ _) | (with_reducible refine Below.setCell ?_ ?_ _) | omega | (simp; done) | (simp; omega))); done) | go_simp | (simp; done) | (simp; omega)))
  refine hold_plain 0 (v := ?_) hHC hH0 (by simp only [List.getElem?_toArray, List.getElem?_cons_succ, List.getElem?_cons_zero]; rfl) rfl (by kernel_rfl) ?_ ?_
  rotate_left 1
  · (intro w hSw; (try dsimp only at hSw); go_simp; try with_reducible rfl)
  try simp only [Act.put, List.setIfInBounds_toArray, List.set_cons_zero, List.set_cons_succ]
  refine hold_plain 2 (v := ?_) hHC hH0 (by simp only [List.getElem?_toArray, List.getElem?_cons_succ, List.getElem?_cons_zero]; rfl) rfl (by kernel_rfl) ?_ ?_
  rotate_left 1
  · (intro w hSw; (try dsimp only at hSw); go_simp; try with_reducible rfl)
  try simp only [Act.put, List.setIfInBounds_toArray, List.set_cons_zero, List.set_cons_succ]
  refine hold_call0 1 (by simp only [List.getElem?_toArray, List.getElem?_cons_succ, List.getElem?_cons_zero]; rfl) rfl (by kernel_rfl) (fun K hK => ?_)
  go_simp
  first | (go_at_call 30; refine (toDomino_any _ _ _ _).mono ?_; rintro e w1 ⟨rfl, hb1⟩) | (go_at_call 41; refine (specLap_any _ _ _ _ _ _ _).mono ?_; rintro e w1 ⟨rfl, hb1⟩)
  refine hK.out _ _ ?_ (fun hH1 => ?_)
  · (first | (go_keep; done) | ((try go_split_ands); (repeat' apply And.intro) <;> first | assumption | (refine (hb1.cell (by first | omega | (simp; done) | (simp; omega))).trans ?_; first | assumption | simp) | (exact below_step hb1 (by first | omega | (simp; done) | (simp; omega)) (by assumption)) | (have hz' := hb1.size; (try simp at hz'); omega) | ((repeat' (first | assumption | (with_reducible exact Below.refl _ _) | (with_reducible refine Below.drew ?_) | (with_reducible refine Below.alloc ?_ ?_ _) | (with_reducible refine Below.setCell ?_ ?_ _) | omega | (simp; done) | (simp; omega))); done) | go_simp | (simp; done) | (simp; omega)))
  clear hK K hH0
  try simp only [Act.put, List.setIfInBounds_toArray, List.set_cons_zero, List.set_cons_succ]
  refine hold_call0 3 (by simp only [List.getElem?_toArray, List.getElem?_cons_succ, List.getElem?_cons_zero]; rfl) rfl (by kernel_rfl) (fun K hK => ?_)
  go_simp
  first | (go_at_call 30; refine (toDomino_any _ _ _ _).mono ?_; rintro e w1 ⟨rfl, hb1⟩) | (go_at_call 41; refine (specLap_any _ _ _ _ _ _ _).mono ?_; rintro e w1 ⟨rfl, hb1⟩)
  refine hK.out _ _ ?_ (fun hH2 => ?_)
  · (first | (go_keep; done) | ((try go_split_ands); (repeat' apply And.intro) <;> first | assumption | (refine (hb1.cell (by first | omega | (simp; done) | (simp; omega))).trans ?_; first | assumption | simp) | (exact below_step hb1 (by first | omega | (simp; done) | (simp; omega)) (by assumption)) | (have hz' := hb1.size; (try simp at hz'); omega) | ((repeat' (first | assumption | (with_reducible exact Below.refl _ _) | (with_reducible refine Below.drew ?_) | (with_reducible refine Below.alloc ?_ ?_ _) | (with_reducible refine Below.setCell ?_ ?_ _) | omega | (simp; done) | (simp; omega))); done) | go_simp | (simp; done) | (simp; omega)))
  clear hK K hH1
  try simp only [Act.put, List.setIfInBounds_toArray, List.set_cons_zero, List.set_cons_succ]
  refine hold_call0 4 (by simp only [List.getElem?_toArray, List.getElem?_cons_succ, List.getElem?_cons_zero]; rfl) rfl (by kernel_rfl) (fun K hK => ?_)
  go_simp
  first | (go_at_call 30; refine (toDomino_any _ _ _ _).mono ?_; rintro e w1 ⟨rfl, hb1⟩) | (go_at_call 41; refine (specLap_any _ _ _ _ _ _ _).mono ?_; rintro e w1 ⟨rfl, hb1⟩)
  refine hK.out _ _ ?_ (fun hH3 => ?_)
  · (first | (go_keep; done) | ((try go_split_ands); (repeat' apply And.intro) <;> first | assumption | (refine (hb1.cell (by first | omega | (simp; done) | (simp; omega))).trans ?_; first | assumption | simp) | (exact below_step hb1 (by first | omega | (simp; done) | (simp; omega)) (by assumption)) | (have hz' := hb1.size; (try simp at hz'); omega) | ((repeat' (first | assumption | (with_reducible exact Below.refl _ _) | (with_reducible refine Below.drew ?_) | (with_reducible refine Below.alloc ?_ ?_ _) | (with_reducible refine Below.setCell ?_ ?_ _) | omega | (simp; done) | (simp; omega))); done) | go_simp | (simp; done) | (simp; omega)))
  clear hK K hH2
  try simp only [Act.put, List.setIfInBounds_toArray, List.set_cons_zero, List.set_cons_succ]
  refine hold_plain 5 (v := ?_) hHC hH3 (by simp only [List.getElem?_toArray, List.getElem?_cons_succ, List.getElem?_cons_zero]; rfl) rfl (by kernel_rfl) ?_ ?_
  rotate_left 1
  · (intro w hSw; (try dsimp only at hSw); go_simp; try with_reducible rfl)
  try simp only [Act.put, List.setIfInBounds_toArray, List.set_cons_zero, List.set_cons_succ]
  refine wpAnyH_done (by kernel_rfl) ?_ _
  (try dsimp only at hH3)
  go_split_ands
  clear hHC
  go_wp2_with fail
  refine hold_start (S := (fun w' => w'.cell? ⟨w.heap.size, 0, none⟩ = some (.int .i64 x0) ∧ w'.cell? ⟨w.heap.size, 1, none⟩ = some (.int .i64 y0) ∧ w'.cell? ⟨w.heap.size, 2, none⟩ = some (.bool d0) ∧ w'.cell? ⟨w.heap.size + 1, 0, none⟩ = some (.int .i64 x1) ∧ w'.cell? ⟨w.heap.size + 1, 1, none⟩ = some (.int .i64 y1) ∧ w'.cell? ⟨w.heap.size + 1, 2, none⟩ = some (.bool d1) ∧ Below w.heap.size w w' ∧ w.heap.size + 2 ≤ w'.heap.size)) (by kernel_rfl) (by kernel_rfl) (by intro _ _ d _ _ h; cases d <;> exact h) ?_ (fun hHC hH0 => ?_)
  · (first | (go_keep; done) | ((try go_split_ands); (repeat' apply And.intro) <;> first | assumption | (refine (hb1.cell (by first | omega | (simp; done) | (simp; omega))).trans ?_; first | assumption | simp) | (exact below_step hb1 (by first | omega | (simp; done) | (simp; omega)) (by assumption)) | (have hz' := hb1.size; (try simp at hz'); omega) | ((repeat' (first | assumption | (with_reducible exact Below.refl _ _) | (with_reducible refine Below.drew ?_) | (with_reducible refine Below.alloc ?_ ?_ _) | (with_reducible refine Below.setCell ?_ ?_ _) | omega | (simp; done) | (simp; omega))); done) | go_simp | (simp; done) | (simp; omega)))
  refine hold_plain 0 (v := ?_) hHC hH0 (by simp only [List.getElem?_toArray, List.getElem?_cons_succ, List.getElem?_cons_zero]; rfl) rfl (by kernel_rfl) ?_ ?_
  rotate_left 1
  · (intro w hSw; (try dsimp only at hSw); go_simp; try with_reducible rfl)
  try simp only [Act.put, List.setIfInBounds_toArray, List.set_cons_zero, List.set_cons_succ]
  refine hold_plain 2 (v := ?_) hHC hH0 (by simp only [List.getElem?_toArray, List.getElem?_cons_succ, List.getElem?_cons_zero]; rfl) rfl (by kernel_rfl) ?_ ?_
  rotate_left 1
  · (intro w hSw; (try dsimp only at hSw); go_simp; try with_reducible rfl)
  try simp only [Act.put, List.setIfInBounds_toArray, List.set_cons_zero, List.set_cons_succ]
  refine hold_call0 1 (by simp only [List.getElem?_toArray, List.getElem?_cons_succ, List.getElem?_cons_zero]; rfl) rfl (by kernel_rfl) (fun K hK => ?_)
  go_simp
  first | (go_at_call 30; refine (toDomino_any _ _ _ _).mono ?_; rintro e w1 ⟨rfl, hb1⟩) | (go_at_call 42; refine (implLap_any _ _ _ _ _ _ _).mono ?_; rintro e w1 ⟨rfl, hb1⟩)
  refine hK.out _ _ ?_ (fun hH1 => ?_)
  · (first | (go_keep; done) | ((try go_split_ands); (repeat' apply And.intro) <;> first | assumption | (refine (hb1.cell (by first | omega | (simp; done) | (simp; omega))).trans ?_; first | assumption | simp) | (exact below_step hb1 (by first | omega | (simp; done) | (simp; omega)) (by assumption)) | (have hz' := hb1.size; (try simp at hz'); omega) | ((repeat' (first | assumption | (with_reducible exact Below.refl _ _) | (with_reducible refine Below.drew ?_) | (with_reducible refine Below.alloc ?_ ?_ _) | (with_reducible refine Below.setCell ?_ ?_ _) | omega | (simp; done) | (simp; omega))); done) | go_simp | (simp; done) | (simp; omega)))
  clear hK K hH0
  try simp only [Act.put, List.setIfInBounds_toArray, List.set_cons_zero, List.set_cons_succ]
  refine hold_call0 3 (by simp only [List.getElem?_toArray, List.getElem?_cons_succ, List.getElem?_cons_zero]; rfl) rfl (by kernel_rfl) (fun K hK => ?_)
  go_simp
  first | (go_at_call 30; refine (toDomino_any _ _ _ _).mono ?_; rintro e w1 ⟨rfl, hb1⟩) | (go_at_call 42; refine (implLap_any _ _ _ _ _ _ _).mono ?_; rintro e w1 ⟨rfl, hb1⟩)
  refine hK.out _ _ ?_ (fun hH2 => ?_)
  · (first | (go_keep; done) | ((try go_split_ands); (repeat' apply And.intro) <;> first | assumption | (refine (hb1.cell (by first | omega | (simp; done) | (simp; omega))).trans ?_; first | assumption | simp) | (exact below_step hb1 (by first | omega | (simp; done) | (simp; omega)) (by assumption)) | (have hz' := hb1.size; (try simp at hz'); omega) | ((repeat' (first | assumption | (with_reducible exact Below.refl _ _) | (with_reducible refine Below.drew ?_) | (with_reducible refine Below.alloc ?_ ?_ _) | (with_reducible refine Below.setCell ?_ ?_ _) | omega | (simp; done) | (simp; omega))); done) | go_simp | (simp; done) | (simp; omega)))
  clear hK K hH1
  try simp only [Act.put, List.setIfInBounds_toArray, List.set_cons_zero, List.set_cons_succ]
  refine hold_call0 4 (by simp only [List.getElem?_toArray, List.getElem?_cons_succ, List.getElem?_cons_zero]; rfl) rfl (by kernel_rfl) (fun K hK => ?_)
  go_simp
  first | (go_at_call 30; refine (toDomino_any _ _ _ _).mono ?_; rintro e w1 ⟨rfl, hb1⟩) | (go_at_call 42; refine (implLap_any _ _ _ _ _ _ _).mono ?_; rintro e w1 ⟨rfl, hb1⟩)
  refine hK.out _ _ ?_ (fun hH3 => ?_)
  · (first | (go_keep; done) | ((try go_split_ands); (repeat' apply And.intro) <;> first | assumption | (refine (hb1.cell (by first | omega | (simp; done) | (simp; omega))).trans ?_; first | assumption | simp) | (exact below_step hb1 (by first | omega | (simp; done) | (simp; omega)) (by assumption)) | (have hz' := hb1.size; (try simp at hz'); omega) | ((repeat' (first | assumption | (with_reducible exact Below.refl _ _) | (with_reducible refine Below.drew ?_) | (with_reducible refine Below.alloc ?_ ?_ _) | (with_reducible refine Below.setCell ?_ ?_ _) | omega | (simp; done) | (simp; omega))); done) | go_simp | (simp; done) | (simp; omega)))
  clear hK K hH2
  try simp only [Act.put, List.setIfInBounds_toArray, List.set_cons_zero, List.set_cons_succ]
  refine hold_plain 5 (v := ?_) hHC hH3 (by simp only [List.getElem?_toArray, List.getElem?_cons_succ, List.getElem?_cons_zero]; rfl) rfl (by kernel_rfl) ?_ ?_
  rotate_left 1
  · (intro w hSw; (try dsimp only at hSw); go_simp; try with_reducible rfl)
  try simp only [Act.put, List.setIfInBounds_toArray, List.set_cons_zero, List.set_cons_succ]
  refine wpAnyH_done (by kernel_rfl) ?_ _
  (try dsimp only at hH3)
  go_split_ands
  clear hHC
  go_wp2
  go_ret
  exact ⟨ret_b (by simp), by repeat' (first | assumption | (with_reducible exact Below.refl _ _) | (with_reducible refine Below.drew ?_) | (with_reducible refine Below.alloc ?_ ?_ _) | (with_reducible refine Below.setCell ?_ ?_ _) | omega | (simp; done) | (simp; omega))⟩
end Go.Proofs.Ytajclggefedocaa.fnExactDoOverlap
