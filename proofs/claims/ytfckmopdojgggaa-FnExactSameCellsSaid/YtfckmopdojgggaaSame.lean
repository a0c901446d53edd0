/-
  Contracts of 'the same cells'.
-/
import Derived.Test.YtfckmopdojgggaaCount
namespace Go.Proofs.Ytfckmopdojgggaa
open Go.RowKit
set_option linter.unusedVariables false
set_option linter.unusedSimpArgs false

def scB (zs ys : List Int) : Bool := rokB zs && (rokB ys && decide (setS zs = setS ys))
theorem scB_no1 {zs ys : List Int} (h : rokB zs = false) : scB zs ys = false := by simp [scB, h]
theorem scB_no2 {zs ys : List Int} (h : rokB ys = false) : scB zs ys = false := by simp [scB, h]
theorem scB_yes {zs ys : List Int} (h : rokB zs = true) (h' : rokB ys = true) : scB zs ys = decide (setS zs = setS ys) := by simp [scB, h, h']
theorem same_of_bits {S T : Nat} (hS : S < 2 ^ 64) (hT : T < 2 ^ 64) (h : ∀ i, i < 64 → S.testBit i = T.testBit i) : S = T := by
  apply Nat.eq_of_testBit_eq
  intro i
  by_cases hi : i < 64
  · exact h i hi
  · rw [Nat.testBit_lt_two_pow (Nat.lt_of_lt_of_le hS (Nat.pow_le_pow_right (by omega) (by omega))), Nat.testBit_lt_two_pow (Nat.lt_of_lt_of_le hT (Nat.pow_le_pow_right (by omega) (by omega)))]

set_option maxHeartbeats 1600000 in
set_option maxRecDepth 100000 in
theorem implSame_any (a b : Option Addr) (n c m d : Nat) (zs ys : List Int) (w : World) (hz : zs.length = n) (hn : n ≤ 1048576) (hy : ys.length = m) (hm : m ≤ 1048576) (hr : RdI w a zs) (hs : RdI w b ys) :
    Calls Try.prog 38 #[.agg #[.slice a n c], .agg #[.slice b m d]] w fun e w' => e = .returned (.bool (scB zs ys)) ∧ Below w.heap.size w w' := by
  have HZ := Lib.hid hz
  have HY := Lib.hid hy
  clear hz hy
  have tok1 : True := trivial
  have tok2 : True := trivial
  have tok3 : True := trivial
  have tok4 : True := trivial
  by_cases h1 : rokB zs = true
  · by_cases h2 : rokB ys = true
    · have HB := Lib.hid (scB_yes h1 h2)
      go_enter Try.func38, Try.ntmps38
      go_wp2_with fail
      refine hold_start (S := (fun w' => w'.cell? ⟨w.heap.size, 0, none⟩ = some (.slice a n c) ∧ w'.cell? ⟨w.heap.size + 1, 0, none⟩ = some (.slice b m d) ∧ Below w.heap.size w w' ∧ w.heap.size + 2 ≤ w'.heap.size)) (by kernel_rfl) (by kernel_rfl) (by intro _ _ d _ _ h; cases d <;> exact h) ?_ (fun hHC hH0 => ?_)
      · (first | (go_keep; done) | ((try go_split_ands); (repeat' apply And.intro) <;> first | assumption | (with_reducible refine Rd.below ?_ hb1; assumption) | (with_reducible refine Rd.drew ?_; repeat' (first | assumption | (with_reducible refine Rd.alloc ?_ _))) | (refine (hb1.cell (by first | omega | (simp; done) | (simp; omega))).trans ?_; first | assumption | simp) | (exact below_step hb1 (by first | omega | (simp; done) | (simp; omega)) (by assumption)) | (have hz' := hb1.size; (try simp at hz'); omega) | ((repeat' (first | assumption | (with_reducible exact Below.refl _ _) | (with_reducible refine Below.drew ?_) | (with_reducible refine Below.alloc ?_ ?_ _) | (with_reducible refine Below.setCell ?_ ?_ _) | omega | (simp; done) | (simp; omega))); done) | go_simp | (simp; done) | (simp; omega)))
      refine hold_plain 0 (v := ?_) hHC hH0 (by simp only [List.getElem?_toArray, List.getElem?_cons_succ, List.getElem?_cons_zero]; rfl) rfl (by kernel_rfl) ?_ ?_
      rotate_left 1
      · (intro w hSw; (try dsimp only at hSw); go_simp; try with_reducible rfl)
      try simp only [Act.put, List.setIfInBounds_toArray, List.set_cons_zero, List.set_cons_succ]
      refine hold_call0 1 (by simp only [List.getElem?_toArray, List.getElem?_cons_succ, List.getElem?_cons_zero]; rfl) rfl (by kernel_rfl) (fun K hK => ?_)
      go_simp
      obtain ⟨_, _, hs1, _⟩ := id hH0; first | (have _t := tok1; (go_at_call 18; refine (implRok_any _ _ _ zs _ HZ.out hn (Rd.below hr (by repeat' (first | assumption | (with_reducible exact Below.refl _ _) | (with_reducible refine Below.drew ?_) | (with_reducible refine Below.alloc ?_ ?_ _) | (with_reducible refine Below.setCell ?_ ?_ _) | omega | (simp; done) | (simp; omega))))).mono ?_; rintro e w1 ⟨rfl, hb1⟩); clear tok1) | (have _t := tok2; (go_at_call 18; refine (implRok_any _ _ _ ys _ HY.out hm (Rd.below hs (by repeat' (first | assumption | (with_reducible exact Below.refl _ _) | (with_reducible refine Below.drew ?_) | (with_reducible refine Below.alloc ?_ ?_ _) | (with_reducible refine Below.setCell ?_ ?_ _) | omega | (simp; done) | (simp; omega))))).mono ?_; rintro e w1 ⟨rfl, hb1⟩); clear tok2) | (have _t := tok3; (go_at_call 75; refine (set_any _ _ _ zs _ HZ.out h1 (Rd.below hr (by repeat' (first | assumption | (with_reducible exact Below.refl _ _) | (with_reducible refine Below.drew ?_) | (with_reducible refine Below.alloc ?_ ?_ _) | (with_reducible refine Below.setCell ?_ ?_ _) | omega | (simp; done) | (simp; omega))))).mono ?_; rintro e w1 ⟨rfl, hb1⟩); clear tok3) | (have _t := tok4; (go_at_call 75; refine (set_any _ _ _ ys _ HY.out h2 (Rd.below hs (by repeat' (first | assumption | (with_reducible exact Below.refl _ _) | (with_reducible refine Below.drew ?_) | (with_reducible refine Below.alloc ?_ ?_ _) | (with_reducible refine Below.setCell ?_ ?_ _) | omega | (simp; done) | (simp; omega))))).mono ?_; rintro e w1 ⟨rfl, hb1⟩); clear tok4)
      refine hK.out _ _ ?_ (fun hH1 => ?_)
      · (first | (go_keep; done) | ((try go_split_ands); (repeat' apply And.intro) <;> first | assumption | (with_reducible refine Rd.below ?_ hb1; assumption) | (with_reducible refine Rd.drew ?_; repeat' (first | assumption | (with_reducible refine Rd.alloc ?_ _))) | (refine (hb1.cell (by first | omega | (simp; done) | (simp; omega))).trans ?_; first | assumption | simp) | (exact below_step hb1 (by first | omega | (simp; done) | (simp; omega)) (by assumption)) | (have hz' := hb1.size; (try simp at hz'); omega) | ((repeat' (first | assumption | (with_reducible exact Below.refl _ _) | (with_reducible refine Below.drew ?_) | (with_reducible refine Below.alloc ?_ ?_ _) | (with_reducible refine Below.setCell ?_ ?_ _) | omega | (simp; done) | (simp; omega))); done) | go_simp | (simp; done) | (simp; omega)))
      clear hK K hH0
      try simp only [Act.put, List.setIfInBounds_toArray, List.set_cons_zero, List.set_cons_succ]
      refine hold_plain 2 (v := ?_) hHC hH1 (by simp only [List.getElem?_toArray, List.getElem?_cons_succ, List.getElem?_cons_zero]; rfl) rfl (by kernel_rfl) ?_ ?_
      rotate_left 1
      · (intro w hSw; (try dsimp only at hSw); go_simp; try with_reducible rfl)
      try simp only [Act.put, List.setIfInBounds_toArray, List.set_cons_zero, List.set_cons_succ]
      refine hold_yes 3 (v := ?_) hHC hH1 (by simp only [List.getElem?_toArray, List.getElem?_cons_succ, List.getElem?_cons_zero]; rfl) rfl (by kernel_rfl) (by kernel_rfl) ?_ ?_
      rotate_left 1
      · (intro w hSw; (try dsimp only at hSw); go_simp; try with_reducible rfl)
      try simp only [Act.put, List.setIfInBounds_toArray, List.set_cons_zero, List.set_cons_succ]
      refine hold_call1 4 (by simp only [List.getElem?_toArray, List.getElem?_cons_succ, List.getElem?_cons_zero]; rfl) rfl (by kernel_rfl) (by kernel_rfl) (fun K hK => ?_)
      go_simp
      obtain ⟨_, _, hs1, _⟩ := id hH1; first | (have _t := tok1; (go_at_call 18; refine (implRok_any _ _ _ zs _ HZ.out hn (Rd.below hr (by repeat' (first | assumption | (with_reducible exact Below.refl _ _) | (with_reducible refine Below.drew ?_) | (with_reducible refine Below.alloc ?_ ?_ _) | (with_reducible refine Below.setCell ?_ ?_ _) | omega | (simp; done) | (simp; omega))))).mono ?_; rintro e w1 ⟨rfl, hb1⟩); clear tok1) | (have _t := tok2; (go_at_call 18; refine (implRok_any _ _ _ ys _ HY.out hm (Rd.below hs (by repeat' (first | assumption | (with_reducible exact Below.refl _ _) | (with_reducible refine Below.drew ?_) | (with_reducible refine Below.alloc ?_ ?_ _) | (with_reducible refine Below.setCell ?_ ?_ _) | omega | (simp; done) | (simp; omega))))).mono ?_; rintro e w1 ⟨rfl, hb1⟩); clear tok2) | (have _t := tok3; (go_at_call 75; refine (set_any _ _ _ zs _ HZ.out h1 (Rd.below hr (by repeat' (first | assumption | (with_reducible exact Below.refl _ _) | (with_reducible refine Below.drew ?_) | (with_reducible refine Below.alloc ?_ ?_ _) | (with_reducible refine Below.setCell ?_ ?_ _) | omega | (simp; done) | (simp; omega))))).mono ?_; rintro e w1 ⟨rfl, hb1⟩); clear tok3) | (have _t := tok4; (go_at_call 75; refine (set_any _ _ _ ys _ HY.out h2 (Rd.below hs (by repeat' (first | assumption | (with_reducible exact Below.refl _ _) | (with_reducible refine Below.drew ?_) | (with_reducible refine Below.alloc ?_ ?_ _) | (with_reducible refine Below.setCell ?_ ?_ _) | omega | (simp; done) | (simp; omega))))).mono ?_; rintro e w1 ⟨rfl, hb1⟩); clear tok4)
      refine hK.out _ _ ?_ (fun hH2 => ?_)
      · (first | (go_keep; done) | ((try go_split_ands); (repeat' apply And.intro) <;> first | assumption | (with_reducible refine Rd.below ?_ hb1; assumption) | (with_reducible refine Rd.drew ?_; repeat' (first | assumption | (with_reducible refine Rd.alloc ?_ _))) | (refine (hb1.cell (by first | omega | (simp; done) | (simp; omega))).trans ?_; first | assumption | simp) | (exact below_step hb1 (by first | omega | (simp; done) | (simp; omega)) (by assumption)) | (have hz' := hb1.size; (try simp at hz'); omega) | ((repeat' (first | assumption | (with_reducible exact Below.refl _ _) | (with_reducible refine Below.drew ?_) | (with_reducible refine Below.alloc ?_ ?_ _) | (with_reducible refine Below.setCell ?_ ?_ _) | omega | (simp; done) | (simp; omega))); done) | go_simp | (simp; done) | (simp; omega)))
      clear hK K hH1
      try simp only [Act.put, List.setIfInBounds_toArray, List.set_cons_zero, List.set_cons_succ]
      refine hold_plain 5 (v := ?_) hHC hH2 (by simp only [List.getElem?_toArray, List.getElem?_cons_succ, List.getElem?_cons_zero]; rfl) rfl (by kernel_rfl) ?_ ?_
      rotate_left 1
      · (intro w hSw; (try dsimp only at hSw); go_simp; try with_reducible rfl)
      try simp only [Act.put, List.setIfInBounds_toArray, List.set_cons_zero, List.set_cons_succ]
      refine hold_plain 6 (v := ?_) hHC hH2 (by simp only [List.getElem?_toArray, List.getElem?_cons_succ, List.getElem?_cons_zero]; rfl) rfl (by kernel_rfl) ?_ ?_
      rotate_left 1
      · (intro w hSw; (try dsimp only at hSw); go_simp; try with_reducible rfl)
      try simp only [Act.put, List.setIfInBounds_toArray, List.set_cons_zero, List.set_cons_succ]
      refine hold_yes 7 (v := ?_) hHC hH2 (by simp only [List.getElem?_toArray, List.getElem?_cons_succ, List.getElem?_cons_zero]; rfl) rfl (by kernel_rfl) (by kernel_rfl) ?_ ?_
      rotate_left 1
      · (intro w hSw; (try dsimp only at hSw); go_simp; try with_reducible rfl)
      try simp only [Act.put, List.setIfInBounds_toArray, List.set_cons_zero, List.set_cons_succ]
      refine hold_yes 9 (v := ?_) hHC hH2 (by simp only [List.getElem?_toArray, List.getElem?_cons_succ, List.getElem?_cons_zero]; rfl) rfl (by kernel_rfl) (by kernel_rfl) ?_ ?_
      rotate_left 1
      · (intro w hSw; (try dsimp only at hSw); go_simp; try with_reducible rfl)
      try simp only [Act.put, List.setIfInBounds_toArray, List.set_cons_zero, List.set_cons_succ]
      refine hold_call1 8 (by simp only [List.getElem?_toArray, List.getElem?_cons_succ, List.getElem?_cons_zero]; rfl) rfl (by kernel_rfl) (by kernel_rfl) (fun K hK => ?_)
      go_simp
      obtain ⟨_, _, hs1, _⟩ := id hH2; first | (have _t := tok1; (go_at_call 18; refine (implRok_any _ _ _ zs _ HZ.out hn (Rd.below hr (by repeat' (first | assumption | (with_reducible exact Below.refl _ _) | (with_reducible refine Below.drew ?_) | (with_reducible refine Below.alloc ?_ ?_ _) | (with_reducible refine Below.setCell ?_ ?_ _) | omega | (simp; done) | (simp; omega))))).mono ?_; rintro e w1 ⟨rfl, hb1⟩); clear tok1) | (have _t := tok2; (go_at_call 18; refine (implRok_any _ _ _ ys _ HY.out hm (Rd.below hs (by repeat' (first | assumption | (with_reducible exact Below.refl _ _) | (with_reducible refine Below.drew ?_) | (with_reducible refine Below.alloc ?_ ?_ _) | (with_reducible refine Below.setCell ?_ ?_ _) | omega | (simp; done) | (simp; omega))))).mono ?_; rintro e w1 ⟨rfl, hb1⟩); clear tok2) | (have _t := tok3; (go_at_call 75; refine (set_any _ _ _ zs _ HZ.out h1 (Rd.below hr (by repeat' (first | assumption | (with_reducible exact Below.refl _ _) | (with_reducible refine Below.drew ?_) | (with_reducible refine Below.alloc ?_ ?_ _) | (with_reducible refine Below.setCell ?_ ?_ _) | omega | (simp; done) | (simp; omega))))).mono ?_; rintro e w1 ⟨rfl, hb1⟩); clear tok3) | (have _t := tok4; (go_at_call 75; refine (set_any _ _ _ ys _ HY.out h2 (Rd.below hs (by repeat' (first | assumption | (with_reducible exact Below.refl _ _) | (with_reducible refine Below.drew ?_) | (with_reducible refine Below.alloc ?_ ?_ _) | (with_reducible refine Below.setCell ?_ ?_ _) | omega | (simp; done) | (simp; omega))))).mono ?_; rintro e w1 ⟨rfl, hb1⟩); clear tok4)
      refine hK.out _ _ ?_ (fun hH3 => ?_)
      · (first | (go_keep; done) | ((try go_split_ands); (repeat' apply And.intro) <;> first | assumption | (with_reducible refine Rd.below ?_ hb1; assumption) | (with_reducible refine Rd.drew ?_; repeat' (first | assumption | (with_reducible refine Rd.alloc ?_ _))) | (refine (hb1.cell (by first | omega | (simp; done) | (simp; omega))).trans ?_; first | assumption | simp) | (exact below_step hb1 (by first | omega | (simp; done) | (simp; omega)) (by assumption)) | (have hz' := hb1.size; (try simp at hz'); omega) | ((repeat' (first | assumption | (with_reducible exact Below.refl _ _) | (with_reducible refine Below.drew ?_) | (with_reducible refine Below.alloc ?_ ?_ _) | (with_reducible refine Below.setCell ?_ ?_ _) | omega | (simp; done) | (simp; omega))); done) | go_simp | (simp; done) | (simp; omega)))
      clear hK K hH2
      try simp only [Act.put, List.setIfInBounds_toArray, List.set_cons_zero, List.set_cons_succ]
      refine hold_call1 10 (by simp only [List.getElem?_toArray, List.getElem?_cons_succ, List.getElem?_cons_zero]; rfl) rfl (by kernel_rfl) (by kernel_rfl) (fun K hK => ?_)
      go_simp
      obtain ⟨_, _, hs1, _⟩ := id hH3; first | (have _t := tok1; (go_at_call 18; refine (implRok_any _ _ _ zs _ HZ.out hn (Rd.below hr (by repeat' (first | assumption | (with_reducible exact Below.refl _ _) | (with_reducible refine Below.drew ?_) | (with_reducible refine Below.alloc ?_ ?_ _) | (with_reducible refine Below.setCell ?_ ?_ _) | omega | (simp; done) | (simp; omega))))).mono ?_; rintro e w1 ⟨rfl, hb1⟩); clear tok1) | (have _t := tok2; (go_at_call 18; refine (implRok_any _ _ _ ys _ HY.out hm (Rd.below hs (by repeat' (first | assumption | (with_reducible exact Below.refl _ _) | (with_reducible refine Below.drew ?_) | (with_reducible refine Below.alloc ?_ ?_ _) | (with_reducible refine Below.setCell ?_ ?_ _) | omega | (simp; done) | (simp; omega))))).mono ?_; rintro e w1 ⟨rfl, hb1⟩); clear tok2) | (have _t := tok3; (go_at_call 75; refine (set_any _ _ _ zs _ HZ.out h1 (Rd.below hr (by repeat' (first | assumption | (with_reducible exact Below.refl _ _) | (with_reducible refine Below.drew ?_) | (with_reducible refine Below.alloc ?_ ?_ _) | (with_reducible refine Below.setCell ?_ ?_ _) | omega | (simp; done) | (simp; omega))))).mono ?_; rintro e w1 ⟨rfl, hb1⟩); clear tok3) | (have _t := tok4; (go_at_call 75; refine (set_any _ _ _ ys _ HY.out h2 (Rd.below hs (by repeat' (first | assumption | (with_reducible exact Below.refl _ _) | (with_reducible refine Below.drew ?_) | (with_reducible refine Below.alloc ?_ ?_ _) | (with_reducible refine Below.setCell ?_ ?_ _) | omega | (simp; done) | (simp; omega))))).mono ?_; rintro e w1 ⟨rfl, hb1⟩); clear tok4)
      refine hK.out _ _ ?_ (fun hH4 => ?_)
      · (first | (go_keep; done) | ((try go_split_ands); (repeat' apply And.intro) <;> first | assumption | (with_reducible refine Rd.below ?_ hb1; assumption) | (with_reducible refine Rd.drew ?_; repeat' (first | assumption | (with_reducible refine Rd.alloc ?_ _))) | (refine (hb1.cell (by first | omega | (simp; done) | (simp; omega))).trans ?_; first | assumption | simp) | (exact below_step hb1 (by first | omega | (simp; done) | (simp; omega)) (by assumption)) | (have hz' := hb1.size; (try simp at hz'); omega) | ((repeat' (first | assumption | (with_reducible exact Below.refl _ _) | (with_reducible refine Below.drew ?_) | (with_reducible refine Below.alloc ?_ ?_ _) | (with_reducible refine Below.setCell ?_ ?_ _) | omega | (simp; done) | (simp; omega))); done) | go_simp | (simp; done) | (simp; omega)))
      clear hK K hH3
      try simp only [Act.put, List.setIfInBounds_toArray, List.set_cons_zero, List.set_cons_succ]
      refine hold_yes 11 (v := ?_) hHC hH4 (by simp only [List.getElem?_toArray, List.getElem?_cons_succ, List.getElem?_cons_zero]; rfl) rfl (by kernel_rfl) (by kernel_rfl) ?_ ?_
      rotate_left 1
      · (intro w hSw; (try dsimp only at hSw); go_simp; try with_reducible rfl)
      try simp only [Act.put, List.setIfInBounds_toArray, List.set_cons_zero, List.set_cons_succ]
      refine hold_plain 12 (v := ?_) hHC hH4 (by simp only [List.getElem?_toArray, List.getElem?_cons_succ, List.getElem?_cons_zero]; rfl) rfl (by kernel_rfl) ?_ ?_
      rotate_left 1
      · (intro w hSw; (try dsimp only at hSw); go_simp; try with_reducible rfl)
      try simp only [Act.put, List.setIfInBounds_toArray, List.set_cons_zero, List.set_cons_succ]
      refine hold_plain 13 (v := ?_) hHC hH4 (by simp only [List.getElem?_toArray, List.getElem?_cons_succ, List.getElem?_cons_zero]; rfl) rfl (by kernel_rfl) ?_ ?_
      rotate_left 1
      · (intro w hSw; (try dsimp only at hSw); go_simp; try with_reducible rfl)
      try simp only [Act.put, List.setIfInBounds_toArray, List.set_cons_zero, List.set_cons_succ]
      refine wpAnyH_done (by kernel_rfl) ?_ _
      (try dsimp only at hH4)
      go_split_ands
      clear hHC
      go_wp2
      go_ret
      exact ⟨ret_b (by rw [HB.out]; exact Bool.eq_iff_iff.2 (by simp only [beq_iff_eq, decide_eq_true_eq]; omega)), by repeat' (first | assumption | (with_reducible exact Below.refl _ _) | (with_reducible refine Below.drew ?_) | (with_reducible refine Below.alloc ?_ ?_ _) | (with_reducible refine Below.setCell ?_ ?_ _) | omega | (simp; done) | (simp; omega))⟩
    · have h2' : rokB ys = false := by simpa using h2
      have HB := Lib.hid (scB_no2 (zs := zs) h2')
      go_enter Try.func38, Try.ntmps38
      go_wp2_with fail
      refine hold_start (S := (fun w' => w'.cell? ⟨w.heap.size, 0, none⟩ = some (.slice a n c) ∧ w'.cell? ⟨w.heap.size + 1, 0, none⟩ = some (.slice b m d) ∧ Below w.heap.size w w' ∧ w.heap.size + 2 ≤ w'.heap.size)) (by kernel_rfl) (by kernel_rfl) (by intro _ _ d _ _ h; cases d <;> exact h) ?_ (fun hHC hH0 => ?_)
      · (first | (go_keep; done) | ((try go_split_ands); (repeat' apply And.intro) <;> first | assumption | (with_reducible refine Rd.below ?_ hb1; assumption) | (with_reducible refine Rd.drew ?_; repeat' (first | assumption | (with_reducible refine Rd.alloc ?_ _))) | (refine (hb1.cell (by first | omega | (simp; done) | (simp; omega))).trans ?_; first | assumption | simp) | (exact below_step hb1 (by first | omega | (simp; done) | (simp; omega)) (by assumption)) | (have hz' := hb1.size; (try simp at hz'); omega) | ((repeat' (first | assumption | (with_reducible exact Below.refl _ _) | (with_reducible refine Below.drew ?_) | (with_reducible refine Below.alloc ?_ ?_ _) | (with_reducible refine Below.setCell ?_ ?_ _) | omega | (simp; done) | (simp; omega))); done) | go_simp | (simp; done) | (simp; omega)))
      refine hold_plain 0 (v := ?_) hHC hH0 (by simp only [List.getElem?_toArray, List.getElem?_cons_succ, List.getElem?_cons_zero]; rfl) rfl (by kernel_rfl) ?_ ?_
      rotate_left 1
      · (intro w hSw; (try dsimp only at hSw); go_simp; try with_reducible rfl)
      try simp only [Act.put, List.setIfInBounds_toArray, List.set_cons_zero, List.set_cons_succ]
      refine hold_call0 1 (by simp only [List.getElem?_toArray, List.getElem?_cons_succ, List.getElem?_cons_zero]; rfl) rfl (by kernel_rfl) (fun K hK => ?_)
      go_simp
      obtain ⟨_, _, hs1, _⟩ := id hH0; first | (have _t := tok1; (go_at_call 18; refine (implRok_any _ _ _ zs _ HZ.out hn (Rd.below hr (by repeat' (first | assumption | (with_reducible exact Below.refl _ _) | (with_reducible refine Below.drew ?_) | (with_reducible refine Below.alloc ?_ ?_ _) | (with_reducible refine Below.setCell ?_ ?_ _) | omega | (simp; done) | (simp; omega))))).mono ?_; rintro e w1 ⟨rfl, hb1⟩); clear tok1) | (have _t := tok2; (go_at_call 18; refine (implRok_any _ _ _ ys _ HY.out hm (Rd.below hs (by repeat' (first | assumption | (with_reducible exact Below.refl _ _) | (with_reducible refine Below.drew ?_) | (with_reducible refine Below.alloc ?_ ?_ _) | (with_reducible refine Below.setCell ?_ ?_ _) | omega | (simp; done) | (simp; omega))))).mono ?_; rintro e w1 ⟨rfl, hb1⟩); clear tok2)
      refine hK.out _ _ ?_ (fun hH1 => ?_)
      · (first | (go_keep; done) | ((try go_split_ands); (repeat' apply And.intro) <;> first | assumption | (with_reducible refine Rd.below ?_ hb1; assumption) | (with_reducible refine Rd.drew ?_; repeat' (first | assumption | (with_reducible refine Rd.alloc ?_ _))) | (refine (hb1.cell (by first | omega | (simp; done) | (simp; omega))).trans ?_; first | assumption | simp) | (exact below_step hb1 (by first | omega | (simp; done) | (simp; omega)) (by assumption)) | (have hz' := hb1.size; (try simp at hz'); omega) | ((repeat' (first | assumption | (with_reducible exact Below.refl _ _) | (with_reducible refine Below.drew ?_) | (with_reducible refine Below.alloc ?_ ?_ _) | (with_reducible refine Below.setCell ?_ ?_ _) | omega | (simp; done) | (simp; omega))); done) | go_simp | (simp; done) | (simp; omega)))
      clear hK K hH0
      try simp only [Act.put, List.setIfInBounds_toArray, List.set_cons_zero, List.set_cons_succ]
      refine hold_plain 2 (v := ?_) hHC hH1 (by simp only [List.getElem?_toArray, List.getElem?_cons_succ, List.getElem?_cons_zero]; rfl) rfl (by kernel_rfl) ?_ ?_
      rotate_left 1
      · (intro w hSw; (try dsimp only at hSw); go_simp; try with_reducible rfl)
      try simp only [Act.put, List.setIfInBounds_toArray, List.set_cons_zero, List.set_cons_succ]
      refine hold_yes 3 (v := ?_) hHC hH1 (by simp only [List.getElem?_toArray, List.getElem?_cons_succ, List.getElem?_cons_zero]; rfl) rfl (by kernel_rfl) (by kernel_rfl) ?_ ?_
      rotate_left 1
      · (intro w hSw; (try dsimp only at hSw); go_simp; try with_reducible rfl)
      try simp only [Act.put, List.setIfInBounds_toArray, List.set_cons_zero, List.set_cons_succ]
      refine hold_call1 4 (by simp only [List.getElem?_toArray, List.getElem?_cons_succ, List.getElem?_cons_zero]; rfl) rfl (by kernel_rfl) (by kernel_rfl) (fun K hK => ?_)
      go_simp
      obtain ⟨_, _, hs1, _⟩ := id hH1; first | (have _t := tok1; (go_at_call 18; refine (implRok_any _ _ _ zs _ HZ.out hn (Rd.below hr (by repeat' (first | assumption | (with_reducible exact Below.refl _ _) | (with_reducible refine Below.drew ?_) | (with_reducible refine Below.alloc ?_ ?_ _) | (with_reducible refine Below.setCell ?_ ?_ _) | omega | (simp; done) | (simp; omega))))).mono ?_; rintro e w1 ⟨rfl, hb1⟩); clear tok1) | (have _t := tok2; (go_at_call 18; refine (implRok_any _ _ _ ys _ HY.out hm (Rd.below hs (by repeat' (first | assumption | (with_reducible exact Below.refl _ _) | (with_reducible refine Below.drew ?_) | (with_reducible refine Below.alloc ?_ ?_ _) | (with_reducible refine Below.setCell ?_ ?_ _) | omega | (simp; done) | (simp; omega))))).mono ?_; rintro e w1 ⟨rfl, hb1⟩); clear tok2)
      refine hK.out _ _ ?_ (fun hH2 => ?_)
      · (first | (go_keep; done) | ((try go_split_ands); (repeat' apply And.intro) <;> first | assumption | (with_reducible refine Rd.below ?_ hb1; assumption) | (with_reducible refine Rd.drew ?_; repeat' (first | assumption | (with_reducible refine Rd.alloc ?_ _))) | (refine (hb1.cell (by first | omega | (simp; done) | (simp; omega))).trans ?_; first | assumption | simp) | (exact below_step hb1 (by first | omega | (simp; done) | (simp; omega)) (by assumption)) | (have hz' := hb1.size; (try simp at hz'); omega) | ((repeat' (first | assumption | (with_reducible exact Below.refl _ _) | (with_reducible refine Below.drew ?_) | (with_reducible refine Below.alloc ?_ ?_ _) | (with_reducible refine Below.setCell ?_ ?_ _) | omega | (simp; done) | (simp; omega))); done) | go_simp | (simp; done) | (simp; omega)))
      clear hK K hH1
      try simp only [Act.put, List.setIfInBounds_toArray, List.set_cons_zero, List.set_cons_succ]
      refine hold_plain 5 (v := ?_) hHC hH2 (by simp only [List.getElem?_toArray, List.getElem?_cons_succ, List.getElem?_cons_zero]; rfl) rfl (by kernel_rfl) ?_ ?_
      rotate_left 1
      · (intro w hSw; (try dsimp only at hSw); go_simp; try with_reducible rfl)
      try simp only [Act.put, List.setIfInBounds_toArray, List.set_cons_zero, List.set_cons_succ]
      refine hold_plain 6 (v := ?_) hHC hH2 (by simp only [List.getElem?_toArray, List.getElem?_cons_succ, List.getElem?_cons_zero]; rfl) rfl (by kernel_rfl) ?_ ?_
      rotate_left 1
      · (intro w hSw; (try dsimp only at hSw); go_simp; try with_reducible rfl)
      try simp only [Act.put, List.setIfInBounds_toArray, List.set_cons_zero, List.set_cons_succ]
      refine hold_no 7 hHC hH2 (by simp only [List.getElem?_toArray, List.getElem?_cons_succ, List.getElem?_cons_zero]; rfl) rfl (by kernel_rfl) (by kernel_rfl) ?_
      try simp only [Act.put, List.setIfInBounds_toArray, List.set_cons_zero, List.set_cons_succ]
      refine hold_no 8 hHC hH2 (by simp only [List.getElem?_toArray, List.getElem?_cons_succ, List.getElem?_cons_zero]; rfl) rfl (by kernel_rfl) (by kernel_rfl) ?_
      try simp only [Act.put, List.setIfInBounds_toArray, List.set_cons_zero, List.set_cons_succ]
      refine hold_no 9 hHC hH2 (by simp only [List.getElem?_toArray, List.getElem?_cons_succ, List.getElem?_cons_zero]; rfl) rfl (by kernel_rfl) (by kernel_rfl) ?_
      try simp only [Act.put, List.setIfInBounds_toArray, List.set_cons_zero, List.set_cons_succ]
      refine hold_no 10 hHC hH2 (by simp only [List.getElem?_toArray, List.getElem?_cons_succ, List.getElem?_cons_zero]; rfl) rfl (by kernel_rfl) (by kernel_rfl) ?_
      try simp only [Act.put, List.setIfInBounds_toArray, List.set_cons_zero, List.set_cons_succ]
      refine hold_no 11 hHC hH2 (by simp only [List.getElem?_toArray, List.getElem?_cons_succ, List.getElem?_cons_zero]; rfl) rfl (by kernel_rfl) (by kernel_rfl) ?_
      try simp only [Act.put, List.setIfInBounds_toArray, List.set_cons_zero, List.set_cons_succ]
      refine hold_plain 12 (v := ?_) hHC hH2 (by simp only [List.getElem?_toArray, List.getElem?_cons_succ, List.getElem?_cons_zero]; rfl) rfl (by kernel_rfl) ?_ ?_
      rotate_left 1
      · (intro w hSw; (try dsimp only at hSw); go_simp; try with_reducible rfl)
      try simp only [Act.put, List.setIfInBounds_toArray, List.set_cons_zero, List.set_cons_succ]
      refine hold_plain 13 (v := ?_) hHC hH2 (by simp only [List.getElem?_toArray, List.getElem?_cons_succ, List.getElem?_cons_zero]; rfl) rfl (by kernel_rfl) ?_ ?_
      rotate_left 1
      · (intro w hSw; (try dsimp only at hSw); go_simp; try with_reducible rfl)
      try simp only [Act.put, List.setIfInBounds_toArray, List.set_cons_zero, List.set_cons_succ]
      refine wpAnyH_done (by kernel_rfl) ?_ _
      (try dsimp only at hH2)
      go_split_ands
      clear hHC
      go_wp2
      go_ret
      exact ⟨ret_b HB.out.symm, by repeat' (first | assumption | (with_reducible exact Below.refl _ _) | (with_reducible refine Below.drew ?_) | (with_reducible refine Below.alloc ?_ ?_ _) | (with_reducible refine Below.setCell ?_ ?_ _) | omega | (simp; done) | (simp; omega))⟩
  · have h1' : rokB zs = false := by simpa using h1
    have HB := Lib.hid (scB_no1 (ys := ys) h1')
    go_enter Try.func38, Try.ntmps38
    go_wp2_with fail
    refine hold_start (S := (fun w' => w'.cell? ⟨w.heap.size, 0, none⟩ = some (.slice a n c) ∧ w'.cell? ⟨w.heap.size + 1, 0, none⟩ = some (.slice b m d) ∧ Below w.heap.size w w' ∧ w.heap.size + 2 ≤ w'.heap.size)) (by kernel_rfl) (by kernel_rfl) (by intro _ _ d _ _ h; cases d <;> exact h) ?_ (fun hHC hH0 => ?_)
    · (first | (go_keep; done) | ((try go_split_ands); (repeat' apply And.intro) <;> first | assumption | (with_reducible refine Rd.below ?_ hb1; assumption) | (with_reducible refine Rd.drew ?_; repeat' (first | assumption | (with_reducible refine Rd.alloc ?_ _))) | (refine (hb1.cell (by first | omega | (simp; done) | (simp; omega))).trans ?_; first | assumption | simp) | (exact below_step hb1 (by first | omega | (simp; done) | (simp; omega)) (by assumption)) | (have hz' := hb1.size; (try simp at hz'); omega) | ((repeat' (first | assumption | (with_reducible exact Below.refl _ _) | (with_reducible refine Below.drew ?_) | (with_reducible refine Below.alloc ?_ ?_ _) | (with_reducible refine Below.setCell ?_ ?_ _) | omega | (simp; done) | (simp; omega))); done) | go_simp | (simp; done) | (simp; omega)))
    refine hold_plain 0 (v := ?_) hHC hH0 (by simp only [List.getElem?_toArray, List.getElem?_cons_succ, List.getElem?_cons_zero]; rfl) rfl (by kernel_rfl) ?_ ?_
    rotate_left 1
    · (intro w hSw; (try dsimp only at hSw); go_simp; try with_reducible rfl)
    try simp only [Act.put, List.setIfInBounds_toArray, List.set_cons_zero, List.set_cons_succ]
    refine hold_call0 1 (by simp only [List.getElem?_toArray, List.getElem?_cons_succ, List.getElem?_cons_zero]; rfl) rfl (by kernel_rfl) (fun K hK => ?_)
    go_simp
    obtain ⟨_, _, hs1, _⟩ := id hH0; first | (have _t := tok1; (go_at_call 18; refine (implRok_any _ _ _ zs _ HZ.out hn (Rd.below hr (by repeat' (first | assumption | (with_reducible exact Below.refl _ _) | (with_reducible refine Below.drew ?_) | (with_reducible refine Below.alloc ?_ ?_ _) | (with_reducible refine Below.setCell ?_ ?_ _) | omega | (simp; done) | (simp; omega))))).mono ?_; rintro e w1 ⟨rfl, hb1⟩); clear tok1) | (have _t := tok2; (go_at_call 18; refine (implRok_any _ _ _ ys _ HY.out hm (Rd.below hs (by repeat' (first | assumption | (with_reducible exact Below.refl _ _) | (with_reducible refine Below.drew ?_) | (with_reducible refine Below.alloc ?_ ?_ _) | (with_reducible refine Below.setCell ?_ ?_ _) | omega | (simp; done) | (simp; omega))))).mono ?_; rintro e w1 ⟨rfl, hb1⟩); clear tok2)
    refine hK.out _ _ ?_ (fun hH1 => ?_)
    · (first | (go_keep; done) | ((try go_split_ands); (repeat' apply And.intro) <;> first | assumption | (with_reducible refine Rd.below ?_ hb1; assumption) | (with_reducible refine Rd.drew ?_; repeat' (first | assumption | (with_reducible refine Rd.alloc ?_ _))) | (refine (hb1.cell (by first | omega | (simp; done) | (simp; omega))).trans ?_; first | assumption | simp) | (exact below_step hb1 (by first | omega | (simp; done) | (simp; omega)) (by assumption)) | (have hz' := hb1.size; (try simp at hz'); omega) | ((repeat' (first | assumption | (with_reducible exact Below.refl _ _) | (with_reducible refine Below.drew ?_) | (with_reducible refine Below.alloc ?_ ?_ _) | (with_reducible refine Below.setCell ?_ ?_ _) | omega | (simp; done) | (simp; omega))); done) | go_simp | (simp; done) | (simp; omega)))
    clear hK K hH0
    try simp only [Act.put, List.setIfInBounds_toArray, List.set_cons_zero, List.set_cons_succ]
    refine hold_plain 2 (v := ?_) hHC hH1 (by simp only [List.getElem?_toArray, List.getElem?_cons_succ, List.getElem?_cons_zero]; rfl) rfl (by kernel_rfl) ?_ ?_
    rotate_left 1
    · (intro w hSw; (try dsimp only at hSw); go_simp; try with_reducible rfl)
    try simp only [Act.put, List.setIfInBounds_toArray, List.set_cons_zero, List.set_cons_succ]
    refine hold_no 3 hHC hH1 (by simp only [List.getElem?_toArray, List.getElem?_cons_succ, List.getElem?_cons_zero]; rfl) rfl (by kernel_rfl) (by kernel_rfl) ?_
    try simp only [Act.put, List.setIfInBounds_toArray, List.set_cons_zero, List.set_cons_succ]
    refine hold_no 4 hHC hH1 (by simp only [List.getElem?_toArray, List.getElem?_cons_succ, List.getElem?_cons_zero]; rfl) rfl (by kernel_rfl) (by kernel_rfl) ?_
    try simp only [Act.put, List.setIfInBounds_toArray, List.set_cons_zero, List.set_cons_succ]
    refine hold_plain 5 (v := ?_) hHC hH1 (by simp only [List.getElem?_toArray, List.getElem?_cons_succ, List.getElem?_cons_zero]; rfl) rfl (by kernel_rfl) ?_ ?_
    rotate_left 1
    · (intro w hSw; (try dsimp only at hSw); go_simp; try with_reducible rfl)
    try simp only [Act.put, List.setIfInBounds_toArray, List.set_cons_zero, List.set_cons_succ]
    refine hold_plain 6 (v := ?_) hHC hH1 (by simp only [List.getElem?_toArray, List.getElem?_cons_succ, List.getElem?_cons_zero]; rfl) rfl (by kernel_rfl) ?_ ?_
    rotate_left 1
    · (intro w hSw; (try dsimp only at hSw); go_simp; try with_reducible rfl)
    try simp only [Act.put, List.setIfInBounds_toArray, List.set_cons_zero, List.set_cons_succ]
    refine hold_no 7 hHC hH1 (by simp only [List.getElem?_toArray, List.getElem?_cons_succ, List.getElem?_cons_zero]; rfl) rfl (by kernel_rfl) (by kernel_rfl) ?_
    try simp only [Act.put, List.setIfInBounds_toArray, List.set_cons_zero, List.set_cons_succ]
    refine hold_no 8 hHC hH1 (by simp only [List.getElem?_toArray, List.getElem?_cons_succ, List.getElem?_cons_zero]; rfl) rfl (by kernel_rfl) (by kernel_rfl) ?_
    try simp only [Act.put, List.setIfInBounds_toArray, List.set_cons_zero, List.set_cons_succ]
    refine hold_no 9 hHC hH1 (by simp only [List.getElem?_toArray, List.getElem?_cons_succ, List.getElem?_cons_zero]; rfl) rfl (by kernel_rfl) (by kernel_rfl) ?_
    try simp only [Act.put, List.setIfInBounds_toArray, List.set_cons_zero, List.set_cons_succ]
    refine hold_no 10 hHC hH1 (by simp only [List.getElem?_toArray, List.getElem?_cons_succ, List.getElem?_cons_zero]; rfl) rfl (by kernel_rfl) (by kernel_rfl) ?_
    try simp only [Act.put, List.setIfInBounds_toArray, List.set_cons_zero, List.set_cons_succ]
    refine hold_no 11 hHC hH1 (by simp only [List.getElem?_toArray, List.getElem?_cons_succ, List.getElem?_cons_zero]; rfl) rfl (by kernel_rfl) (by kernel_rfl) ?_
    try simp only [Act.put, List.setIfInBounds_toArray, List.set_cons_zero, List.set_cons_succ]
    refine hold_plain 12 (v := ?_) hHC hH1 (by simp only [List.getElem?_toArray, List.getElem?_cons_succ, List.getElem?_cons_zero]; rfl) rfl (by kernel_rfl) ?_ ?_
    rotate_left 1
    · (intro w hSw; (try dsimp only at hSw); go_simp; try with_reducible rfl)
    try simp only [Act.put, List.setIfInBounds_toArray, List.set_cons_zero, List.set_cons_succ]
    refine hold_plain 13 (v := ?_) hHC hH1 (by simp only [List.getElem?_toArray, List.getElem?_cons_succ, List.getElem?_cons_zero]; rfl) rfl (by kernel_rfl) ?_ ?_
    rotate_left 1
    · (intro w hSw; (try dsimp only at hSw); go_simp; try with_reducible rfl)
    try simp only [Act.put, List.setIfInBounds_toArray, List.set_cons_zero, List.set_cons_succ]
    refine wpAnyH_done (by kernel_rfl) ?_ _
    (try dsimp only at hH1)
    go_split_ands
    clear hHC
    go_wp2
    go_ret
    exact ⟨ret_b HB.out.symm, by repeat' (first | assumption | (with_reducible exact Below.refl _ _) | (with_reducible refine Below.drew ?_) | (with_reducible refine Below.alloc ?_ ?_ _) | (with_reducible refine Below.setCell ?_ ?_ _) | omega | (simp; done) | (simp; omega))⟩

set_option maxHeartbeats 1600000 in
set_option maxRecDepth 100000 in
theorem specSame_any (a b : Option Addr) (n c m d : Nat) (zs ys : List Int) (w : World) (hz : zs.length = n) (hn : n ≤ 1048576) (hy : ys.length = m) (hm : m ≤ 1048576) (hr : RdI w a zs) (hs : RdI w b ys) :
    Calls Try.prog 37 #[.agg #[.slice a n c], .agg #[.slice b m d]] w fun e w' => e = .returned (.bool (scB zs ys)) ∧ Below w.heap.size w w' := by
  have HZ := Lib.hid hz
  have HY := Lib.hid hy
  clear hz hy
  have tok1 : True := trivial
  have tok2 : True := trivial
  by_cases h1 : rokB zs = true
  · by_cases h2 : rokB ys = true
    · have HB := Lib.hid (scB_yes h1 h2)
      obtain ⟨S, hS⟩ : ∃ S, S = setS zs := ⟨_, rfl⟩
      obtain ⟨T, hT⟩ : ∃ T, T = setS ys := ⟨_, rfl⟩
      have HS := Lib.hid hS
      have HT := Lib.hid hT
      have HS64 := Lib.hid (setS_lt h1)
      have HT64 := Lib.hid (setS_lt h2)
      clear hS hT
      have tok3 : True := trivial
      have tok4 : True := trivial
      go_enter Try.func37, Try.ntmps37
      go_wp2_with (first | (have _t := tok1; (go_at_call 16; refine (specRok_any _ _ _ zs _ HZ.out hn (Rd.below hr (by repeat' (first | assumption | (with_reducible exact Below.refl _ _) | (with_reducible refine Below.drew ?_) | (with_reducible refine Below.alloc ?_ ?_ _) | (with_reducible refine Below.setCell ?_ ?_ _) | omega | (simp; done) | (simp; omega))))).mono ?_; rintro e wa ⟨rfl, hbwa⟩; have hzwa := hbwa.size; (try simp at hzwa); (try have hl0w_wa : w.heap.size < wa.heap.size := by omega); (try have hl1w_wa : w.heap.size + 1 < wa.heap.size := by omega); (try have hl2w_wa : w.heap.size + 1 + 1 < wa.heap.size := by omega); (try have hl3w_wa : w.heap.size + 1 + 1 + 1 < wa.heap.size := by omega); (first | (have hcw_wa : ∀ b o, b ≤ w.heap.size + 6 → wa.cell? ⟨b, o, none⟩ = _ := fun b o h => hbwa.cell (p := ⟨b, o, none⟩) (by first | omega | (simp; omega)); have hfw_wa : ∀ b o, b ≤ w.heap.size + 6 → wa.frozen? ⟨b, o, none⟩ = _ := fun b o h => hbwa.frozen (p := ⟨b, o, none⟩) (by first | omega | (simp; omega))) | (have hcw_wa : ∀ b o, b ≤ w.heap.size + 5 → wa.cell? ⟨b, o, none⟩ = _ := fun b o h => hbwa.cell (p := ⟨b, o, none⟩) (by first | omega | (simp; omega)); have hfw_wa : ∀ b o, b ≤ w.heap.size + 5 → wa.frozen? ⟨b, o, none⟩ = _ := fun b o h => hbwa.frozen (p := ⟨b, o, none⟩) (by first | omega | (simp; omega))) | (have hcw_wa : ∀ b o, b ≤ w.heap.size + 4 → wa.cell? ⟨b, o, none⟩ = _ := fun b o h => hbwa.cell (p := ⟨b, o, none⟩) (by first | omega | (simp; omega)); have hfw_wa : ∀ b o, b ≤ w.heap.size + 4 → wa.frozen? ⟨b, o, none⟩ = _ := fun b o h => hbwa.frozen (p := ⟨b, o, none⟩) (by first | omega | (simp; omega))) | (have hcw_wa : ∀ b o, b ≤ w.heap.size + 3 → wa.cell? ⟨b, o, none⟩ = _ := fun b o h => hbwa.cell (p := ⟨b, o, none⟩) (by first | omega | (simp; omega)); have hfw_wa : ∀ b o, b ≤ w.heap.size + 3 → wa.frozen? ⟨b, o, none⟩ = _ := fun b o h => hbwa.frozen (p := ⟨b, o, none⟩) (by first | omega | (simp; omega))) | (have hcw_wa : ∀ b o, b ≤ w.heap.size + 2 → wa.cell? ⟨b, o, none⟩ = _ := fun b o h => hbwa.cell (p := ⟨b, o, none⟩) (by first | omega | (simp; omega)); have hfw_wa : ∀ b o, b ≤ w.heap.size + 2 → wa.frozen? ⟨b, o, none⟩ = _ := fun b o h => hbwa.frozen (p := ⟨b, o, none⟩) (by first | omega | (simp; omega))) | (have hcw_wa : ∀ b o, b ≤ w.heap.size + 1 → wa.cell? ⟨b, o, none⟩ = _ := fun b o h => hbwa.cell (p := ⟨b, o, none⟩) (by first | omega | (simp; omega)); have hfw_wa : ∀ b o, b ≤ w.heap.size + 1 → wa.frozen? ⟨b, o, none⟩ = _ := fun b o h => hbwa.frozen (p := ⟨b, o, none⟩) (by first | omega | (simp; omega))) | (have hcw_wa : ∀ b o, b ≤ w.heap.size + 0 → wa.cell? ⟨b, o, none⟩ = _ := fun b o h => hbwa.cell (p := ⟨b, o, none⟩) (by first | omega | (simp; omega)); have hfw_wa : ∀ b o, b ≤ w.heap.size + 0 → wa.frozen? ⟨b, o, none⟩ = _ := fun b o h => hbwa.frozen (p := ⟨b, o, none⟩) (by first | omega | (simp; omega))) | skip); have hBwa : Below w.heap.size w wa := below_step hbwa (by first | omega | (simp; done) | (simp; omega)) (by repeat' (first | assumption | (with_reducible exact Below.refl _ _) | (with_reducible refine Below.drew ?_) | (with_reducible refine Below.alloc ?_ ?_ _) | (with_reducible refine Below.setCell ?_ ?_ _) | omega | (simp; done) | (simp; omega))); clear hbwa); clear tok1) | (have _t := tok2; (go_at_call 16; refine (specRok_any _ _ _ ys _ HY.out hm (Rd.below hs (by repeat' (first | assumption | (with_reducible exact Below.refl _ _) | (with_reducible refine Below.drew ?_) | (with_reducible refine Below.alloc ?_ ?_ _) | (with_reducible refine Below.setCell ?_ ?_ _) | omega | (simp; done) | (simp; omega))))).mono ?_; rintro e wb ⟨rfl, hbwb⟩; have hzwb := hbwb.size; (try simp at hzwb); (try have hl0w_wb : w.heap.size < wb.heap.size := by omega); (try have hl1w_wb : w.heap.size + 1 < wb.heap.size := by omega); (try have hl2w_wb : w.heap.size + 1 + 1 < wb.heap.size := by omega); (try have hl3w_wb : w.heap.size + 1 + 1 + 1 < wb.heap.size := by omega); (first | (have hcw_wb : ∀ b o, b ≤ w.heap.size + 6 → wb.cell? ⟨b, o, none⟩ = _ := fun b o h => hbwb.cell (p := ⟨b, o, none⟩) (by first | omega | (simp; omega)); have hfw_wb : ∀ b o, b ≤ w.heap.size + 6 → wb.frozen? ⟨b, o, none⟩ = _ := fun b o h => hbwb.frozen (p := ⟨b, o, none⟩) (by first | omega | (simp; omega))) | (have hcw_wb : ∀ b o, b ≤ w.heap.size + 5 → wb.cell? ⟨b, o, none⟩ = _ := fun b o h => hbwb.cell (p := ⟨b, o, none⟩) (by first | omega | (simp; omega)); have hfw_wb : ∀ b o, b ≤ w.heap.size + 5 → wb.frozen? ⟨b, o, none⟩ = _ := fun b o h => hbwb.frozen (p := ⟨b, o, none⟩) (by first | omega | (simp; omega))) | (have hcw_wb : ∀ b o, b ≤ w.heap.size + 4 → wb.cell? ⟨b, o, none⟩ = _ := fun b o h => hbwb.cell (p := ⟨b, o, none⟩) (by first | omega | (simp; omega)); have hfw_wb : ∀ b o, b ≤ w.heap.size + 4 → wb.frozen? ⟨b, o, none⟩ = _ := fun b o h => hbwb.frozen (p := ⟨b, o, none⟩) (by first | omega | (simp; omega))) | (have hcw_wb : ∀ b o, b ≤ w.heap.size + 3 → wb.cell? ⟨b, o, none⟩ = _ := fun b o h => hbwb.cell (p := ⟨b, o, none⟩) (by first | omega | (simp; omega)); have hfw_wb : ∀ b o, b ≤ w.heap.size + 3 → wb.frozen? ⟨b, o, none⟩ = _ := fun b o h => hbwb.frozen (p := ⟨b, o, none⟩) (by first | omega | (simp; omega))) | (have hcw_wb : ∀ b o, b ≤ w.heap.size + 2 → wb.cell? ⟨b, o, none⟩ = _ := fun b o h => hbwb.cell (p := ⟨b, o, none⟩) (by first | omega | (simp; omega)); have hfw_wb : ∀ b o, b ≤ w.heap.size + 2 → wb.frozen? ⟨b, o, none⟩ = _ := fun b o h => hbwb.frozen (p := ⟨b, o, none⟩) (by first | omega | (simp; omega))) | (have hcw_wb : ∀ b o, b ≤ w.heap.size + 1 → wb.cell? ⟨b, o, none⟩ = _ := fun b o h => hbwb.cell (p := ⟨b, o, none⟩) (by first | omega | (simp; omega)); have hfw_wb : ∀ b o, b ≤ w.heap.size + 1 → wb.frozen? ⟨b, o, none⟩ = _ := fun b o h => hbwb.frozen (p := ⟨b, o, none⟩) (by first | omega | (simp; omega))) | (have hcw_wb : ∀ b o, b ≤ w.heap.size + 0 → wb.cell? ⟨b, o, none⟩ = _ := fun b o h => hbwb.cell (p := ⟨b, o, none⟩) (by first | omega | (simp; omega)); have hfw_wb : ∀ b o, b ≤ w.heap.size + 0 → wb.frozen? ⟨b, o, none⟩ = _ := fun b o h => hbwb.frozen (p := ⟨b, o, none⟩) (by first | omega | (simp; omega))) | skip); have hBwb : Below w.heap.size w wb := below_step hbwb (by first | omega | (simp; done) | (simp; omega)) (by repeat' (first | assumption | (with_reducible exact Below.refl _ _) | (with_reducible refine Below.drew ?_) | (with_reducible refine Below.alloc ?_ ?_ _) | (with_reducible refine Below.setCell ?_ ?_ _) | omega | (simp; done) | (simp; omega))); clear hbwb); clear tok2))
      have hbx1 : wb.cell? ⟨w.heap.size, 0, none⟩ = some (.slice a n c) := by go_simp
      have hbx2 : wb.cell? ⟨w.heap.size + 1, 0, none⟩ = some (.slice b m d) := by go_simp
      go_loopw [5] (fun i wr => ∃ k : Nat, k ≤ 64 ∧ i = .int .i64 k ∧ Hid (∀ i, i < k → S.testBit i = T.testBit i) ∧ wr.cell? ⟨w.heap.size, 0, none⟩ = some (.slice a n c) ∧ wr.cell? ⟨w.heap.size + 1, 0, none⟩ = some (.slice b m d) ∧ w.heap.size + 2 ≤ wr.heap.size ∧ Below w.heap.size w wr) (fun i _ => 64 - (intOf i).toNat)
      case atStart => exact ⟨0, Nat.zero_le _, rfl, Lib.hid (fun i h => by omega), hbx1, hbx2, by omega, by repeat' (first | assumption | (with_reducible exact Below.refl _ _) | (with_reducible refine Below.drew ?_) | (with_reducible refine Below.alloc ?_ ?_ _) | (with_reducible refine Below.setCell ?_ ?_ _) | omega | (simp; done) | (simp; omega))⟩
      case round =>
        clear hbx1 hbx2
        obtain ⟨k, hk, rfl, hE, hbx1, hbx2, hsz, hB⟩ := hrel
        by_cases hlt : k < 64
        · obtain ⟨hx, hy⟩ := atXY hlt
          have hok := ok_at hlt
          obtain ⟨b1, hb1⟩ : ∃ b, b = S.testBit k := ⟨_, rfl⟩
          have hh1 : hasB (setS zs) ((k : Int) % 8) ((k : Int) / 8) = b1 := by rw [← HS.out, hb1]; exact hasB_at hlt
          have HB1 := Lib.hid hb1
          by_cases heq : T.testBit k = b1
          · have hh2 : hasB (setS ys) ((k : Int) % 8) ((k : Int) / 8) = b1 := by rw [← HT.out, ← heq]; exact hasB_at hlt
            have HE2 : Hid (∀ i, i < k + 1 → S.testBit i = T.testBit i) := Lib.hid (fun i hi => by
              by_cases h : i = k
              · subst h; rw [heq, hb1]
              · exact hE.out i (by omega))
            clear hb1 heq
            go_wp2_with (go_at_call 71; refine (specAt_any _ _).mono ?_; rintro e wb' ⟨rfl, hbwb'⟩; have hzwb' := hbwb'.size; (try simp at hzwb'); (try have hl0w_wb' : w.heap.size < wb'.heap.size := by omega); (try have hl1w_wb' : w.heap.size + 1 < wb'.heap.size := by omega); (try have hl2w_wb' : w.heap.size + 1 + 1 < wb'.heap.size := by omega); (try have hl3w_wb' : w.heap.size + 1 + 1 + 1 < wb'.heap.size := by omega); (first | (have hcw_wb' : ∀ b o, b ≤ w.heap.size + 6 → wb'.cell? ⟨b, o, none⟩ = _ := fun b o h => hbwb'.cell (p := ⟨b, o, none⟩) (by first | omega | (simp; omega)); have hfw_wb' : ∀ b o, b ≤ w.heap.size + 6 → wb'.frozen? ⟨b, o, none⟩ = _ := fun b o h => hbwb'.frozen (p := ⟨b, o, none⟩) (by first | omega | (simp; omega))) | (have hcw_wb' : ∀ b o, b ≤ w.heap.size + 5 → wb'.cell? ⟨b, o, none⟩ = _ := fun b o h => hbwb'.cell (p := ⟨b, o, none⟩) (by first | omega | (simp; omega)); have hfw_wb' : ∀ b o, b ≤ w.heap.size + 5 → wb'.frozen? ⟨b, o, none⟩ = _ := fun b o h => hbwb'.frozen (p := ⟨b, o, none⟩) (by first | omega | (simp; omega))) | (have hcw_wb' : ∀ b o, b ≤ w.heap.size + 4 → wb'.cell? ⟨b, o, none⟩ = _ := fun b o h => hbwb'.cell (p := ⟨b, o, none⟩) (by first | omega | (simp; omega)); have hfw_wb' : ∀ b o, b ≤ w.heap.size + 4 → wb'.frozen? ⟨b, o, none⟩ = _ := fun b o h => hbwb'.frozen (p := ⟨b, o, none⟩) (by first | omega | (simp; omega))) | (have hcw_wb' : ∀ b o, b ≤ w.heap.size + 3 → wb'.cell? ⟨b, o, none⟩ = _ := fun b o h => hbwb'.cell (p := ⟨b, o, none⟩) (by first | omega | (simp; omega)); have hfw_wb' : ∀ b o, b ≤ w.heap.size + 3 → wb'.frozen? ⟨b, o, none⟩ = _ := fun b o h => hbwb'.frozen (p := ⟨b, o, none⟩) (by first | omega | (simp; omega))) | (have hcw_wb' : ∀ b o, b ≤ w.heap.size + 2 → wb'.cell? ⟨b, o, none⟩ = _ := fun b o h => hbwb'.cell (p := ⟨b, o, none⟩) (by first | omega | (simp; omega)); have hfw_wb' : ∀ b o, b ≤ w.heap.size + 2 → wb'.frozen? ⟨b, o, none⟩ = _ := fun b o h => hbwb'.frozen (p := ⟨b, o, none⟩) (by first | omega | (simp; omega))) | (have hcw_wb' : ∀ b o, b ≤ w.heap.size + 1 → wb'.cell? ⟨b, o, none⟩ = _ := fun b o h => hbwb'.cell (p := ⟨b, o, none⟩) (by first | omega | (simp; omega)); have hfw_wb' : ∀ b o, b ≤ w.heap.size + 1 → wb'.frozen? ⟨b, o, none⟩ = _ := fun b o h => hbwb'.frozen (p := ⟨b, o, none⟩) (by first | omega | (simp; omega))) | (have hcw_wb' : ∀ b o, b ≤ w.heap.size + 0 → wb'.cell? ⟨b, o, none⟩ = _ := fun b o h => hbwb'.cell (p := ⟨b, o, none⟩) (by first | omega | (simp; omega)); have hfw_wb' : ∀ b o, b ≤ w.heap.size + 0 → wb'.frozen? ⟨b, o, none⟩ = _ := fun b o h => hbwb'.frozen (p := ⟨b, o, none⟩) (by first | omega | (simp; omega))) | skip); have hBwb' : Below w.heap.size w wb' := below_step hbwb' (by first | omega | (simp; done) | (simp; omega)) (by repeat' (first | assumption | (with_reducible exact Below.refl _ _) | (with_reducible refine Below.drew ?_) | (with_reducible refine Below.alloc ?_ ?_ _) | (with_reducible refine Below.setCell ?_ ?_ _) | omega | (simp; done) | (simp; omega))); clear hbwb')
            refine hold_start (S := (fun w' => w'.cell? ⟨w.heap.size, 0, none⟩ = some (.slice a n c) ∧ w'.cell? ⟨w.heap.size + 1, 0, none⟩ = some (.slice b m d) ∧ w'.cell? ⟨wb'.heap.size, 0, none⟩ = some (.int .i64 ((k : Int) % 8)) ∧ w'.cell? ⟨wb'.heap.size, 1, none⟩ = some (.int .i64 ((k : Int) / 8)) ∧ Below w.heap.size w w' ∧ wb'.heap.size + 1 ≤ w'.heap.size)) (by kernel_rfl) (by kernel_rfl) (by intro _ _ d _ _ h; cases d <;> exact h) ?_ (fun hHC hH0 => ?_)
            · (first | (go_keep; done) | ((try go_split_ands); (repeat' apply And.intro) <;> first | assumption | (with_reducible refine Rd.below ?_ hb1; assumption) | (with_reducible refine Rd.drew ?_; repeat' (first | assumption | (with_reducible refine Rd.alloc ?_ _))) | (refine (hb1.cell (by first | omega | (simp; done) | (simp; omega))).trans ?_; first | assumption | simp) | (exact below_step hb1 (by first | omega | (simp; done) | (simp; omega)) (by assumption)) | (have hz' := hb1.size; (try simp at hz'); omega) | ((repeat' (first | assumption | (with_reducible exact Below.refl _ _) | (with_reducible refine Below.drew ?_) | (with_reducible refine Below.alloc ?_ ?_ _) | (with_reducible refine Below.setCell ?_ ?_ _) | omega | (simp; done) | (simp; omega))); done) | go_simp | (simp; done) | (simp; omega)))
            refine hold_plain 0 (v := ?_) hHC hH0 (by simp only [List.getElem?_toArray, List.getElem?_cons_succ, List.getElem?_cons_zero]; rfl) rfl (by kernel_rfl) ?_ ?_
            rotate_left 1
            · (intro w hSw; (try dsimp only at hSw); go_simp; try with_reducible rfl)
            try simp only [Act.put, List.setIfInBounds_toArray, List.set_cons_zero, List.set_cons_succ]
            refine hold_plain 1 (v := ?_) hHC hH0 (by simp only [List.getElem?_toArray, List.getElem?_cons_succ, List.getElem?_cons_zero]; rfl) rfl (by kernel_rfl) ?_ ?_
            rotate_left 1
            · (intro w hSw; (try dsimp only at hSw); go_simp; try with_reducible rfl)
            try simp only [Act.put, List.setIfInBounds_toArray, List.set_cons_zero, List.set_cons_succ]
            refine hold_plain 3 (v := ?_) hHC hH0 (by simp only [List.getElem?_toArray, List.getElem?_cons_succ, List.getElem?_cons_zero]; rfl) rfl (by kernel_rfl) ?_ ?_
            rotate_left 1
            · (intro w hSw; (try dsimp only at hSw); go_simp; try with_reducible rfl)
            try simp only [Act.put, List.setIfInBounds_toArray, List.set_cons_zero, List.set_cons_succ]
            refine hold_plain 4 (v := ?_) hHC hH0 (by simp only [List.getElem?_toArray, List.getElem?_cons_succ, List.getElem?_cons_zero]; rfl) rfl (by kernel_rfl) ?_ ?_
            rotate_left 1
            · (intro w hSw; (try dsimp only at hSw); go_simp; try with_reducible rfl)
            try simp only [Act.put, List.setIfInBounds_toArray, List.set_cons_zero, List.set_cons_succ]
            refine hold_call0 2 (by simp only [List.getElem?_toArray, List.getElem?_cons_succ, List.getElem?_cons_zero]; rfl) rfl (by kernel_rfl) (fun K hK => ?_)
            go_simp
            obtain ⟨_, _, _, _, hs1, _⟩ := id hH0; first | (have _t := tok3; (go_at_call 74; refine (l03_any _ _ _ zs _ _ _ HZ.out h1 hok (Rd.below hr (by repeat' (first | assumption | (with_reducible exact Below.refl _ _) | (with_reducible refine Below.drew ?_) | (with_reducible refine Below.alloc ?_ ?_ _) | (with_reducible refine Below.setCell ?_ ?_ _) | omega | (simp; done) | (simp; omega))))).mono ?_; rintro e w1 ⟨rfl, hb1⟩); clear tok3) | (go_at_call 74; refine (l03_any _ _ _ ys _ _ _ HY.out h2 hok (Rd.below hs (by repeat' (first | assumption | (with_reducible exact Below.refl _ _) | (with_reducible refine Below.drew ?_) | (with_reducible refine Below.alloc ?_ ?_ _) | (with_reducible refine Below.setCell ?_ ?_ _) | omega | (simp; done) | (simp; omega))))).mono ?_; rintro e w1 ⟨rfl, hb1⟩)
            refine hK.out _ _ ?_ (fun hH1 => ?_)
            · (first | (go_keep; done) | ((try go_split_ands); (repeat' apply And.intro) <;> first | assumption | (with_reducible refine Rd.below ?_ hb1; assumption) | (with_reducible refine Rd.drew ?_; repeat' (first | assumption | (with_reducible refine Rd.alloc ?_ _))) | (refine (hb1.cell (by first | omega | (simp; done) | (simp; omega))).trans ?_; first | assumption | simp) | (exact below_step hb1 (by first | omega | (simp; done) | (simp; omega)) (by assumption)) | (have hz' := hb1.size; (try simp at hz'); omega) | ((repeat' (first | assumption | (with_reducible exact Below.refl _ _) | (with_reducible refine Below.drew ?_) | (with_reducible refine Below.alloc ?_ ?_ _) | (with_reducible refine Below.setCell ?_ ?_ _) | omega | (simp; done) | (simp; omega))); done) | go_simp | (simp; done) | (simp; omega)))
            clear hK K hH0
            try simp only [Act.put, List.setIfInBounds_toArray, List.set_cons_zero, List.set_cons_succ]
            refine hold_call0 5 (by simp only [List.getElem?_toArray, List.getElem?_cons_succ, List.getElem?_cons_zero]; rfl) rfl (by kernel_rfl) (fun K hK => ?_)
            go_simp
            obtain ⟨_, _, _, _, hs1, _⟩ := id hH1; first | (have _t := tok3; (go_at_call 74; refine (l03_any _ _ _ zs _ _ _ HZ.out h1 hok (Rd.below hr (by repeat' (first | assumption | (with_reducible exact Below.refl _ _) | (with_reducible refine Below.drew ?_) | (with_reducible refine Below.alloc ?_ ?_ _) | (with_reducible refine Below.setCell ?_ ?_ _) | omega | (simp; done) | (simp; omega))))).mono ?_; rintro e w1 ⟨rfl, hb1⟩); clear tok3) | (go_at_call 74; refine (l03_any _ _ _ ys _ _ _ HY.out h2 hok (Rd.below hs (by repeat' (first | assumption | (with_reducible exact Below.refl _ _) | (with_reducible refine Below.drew ?_) | (with_reducible refine Below.alloc ?_ ?_ _) | (with_reducible refine Below.setCell ?_ ?_ _) | omega | (simp; done) | (simp; omega))))).mono ?_; rintro e w1 ⟨rfl, hb1⟩)
            refine hK.out _ _ ?_ (fun hH2 => ?_)
            · (first | (go_keep; done) | ((try go_split_ands); (repeat' apply And.intro) <;> first | assumption | (with_reducible refine Rd.below ?_ hb1; assumption) | (with_reducible refine Rd.drew ?_; repeat' (first | assumption | (with_reducible refine Rd.alloc ?_ _))) | (refine (hb1.cell (by first | omega | (simp; done) | (simp; omega))).trans ?_; first | assumption | simp) | (exact below_step hb1 (by first | omega | (simp; done) | (simp; omega)) (by assumption)) | (have hz' := hb1.size; (try simp at hz'); omega) | ((repeat' (first | assumption | (with_reducible exact Below.refl _ _) | (with_reducible refine Below.drew ?_) | (with_reducible refine Below.alloc ?_ ?_ _) | (with_reducible refine Below.setCell ?_ ?_ _) | omega | (simp; done) | (simp; omega))); done) | go_simp | (simp; done) | (simp; omega)))
            clear hK K hH1
            try simp only [Act.put, List.setIfInBounds_toArray, List.set_cons_zero, List.set_cons_succ]
            refine hold_plain 6 (v := ?_) hHC hH2 (by simp only [List.getElem?_toArray, List.getElem?_cons_succ, List.getElem?_cons_zero]; rfl) rfl (by kernel_rfl) ?_ ?_
            rotate_left 1
            · (intro w hSw; (try dsimp only at hSw); go_simp; try with_reducible rfl)
            try simp only [Act.put, List.setIfInBounds_toArray, List.set_cons_zero, List.set_cons_succ]
            refine wpAnyH_done (by kernel_rfl) ?_ _
            (try dsimp only at hH2)
            go_split_ands
            clear hHC
            go_wp2
            go_roundw
            case rel => exact ⟨k + 1, by omega, by go_num, HE2, by assumption, by assumption, by omega, by repeat' (first | assumption | (with_reducible exact Below.refl _ _) | (with_reducible refine Below.drew ?_) | (with_reducible refine Below.alloc ?_ ?_ _) | (with_reducible refine Below.setCell ?_ ?_ _) | omega | (simp; done) | (simp; omega))⟩
            case measure => simp [intOf]; omega
          · have hh2 : hasB (setS ys) ((k : Int) % 8) ((k : Int) / 8) = !b1 := by
              have : T.testBit k = !b1 := by revert heq; cases T.testBit k <;> cases b1 <;> simp
              rw [← HT.out, ← this]; exact hasB_at hlt
            have HN : Hid (scB zs ys = false) := Lib.hid (by
              rw [HB.out, decide_eq_false_iff_not]
              intro h
              exact heq (by rw [HT.out, ← h, ← HS.out, ← hb1]))
            clear hb1 heq
            go_wp2_with (go_at_call 71; refine (specAt_any _ _).mono ?_; rintro e wb' ⟨rfl, hbwb'⟩; have hzwb' := hbwb'.size; (try simp at hzwb'); (try have hl0w_wb' : w.heap.size < wb'.heap.size := by omega); (try have hl1w_wb' : w.heap.size + 1 < wb'.heap.size := by omega); (try have hl2w_wb' : w.heap.size + 1 + 1 < wb'.heap.size := by omega); (try have hl3w_wb' : w.heap.size + 1 + 1 + 1 < wb'.heap.size := by omega); (first | (have hcw_wb' : ∀ b o, b ≤ w.heap.size + 6 → wb'.cell? ⟨b, o, none⟩ = _ := fun b o h => hbwb'.cell (p := ⟨b, o, none⟩) (by first | omega | (simp; omega)); have hfw_wb' : ∀ b o, b ≤ w.heap.size + 6 → wb'.frozen? ⟨b, o, none⟩ = _ := fun b o h => hbwb'.frozen (p := ⟨b, o, none⟩) (by first | omega | (simp; omega))) | (have hcw_wb' : ∀ b o, b ≤ w.heap.size + 5 → wb'.cell? ⟨b, o, none⟩ = _ := fun b o h => hbwb'.cell (p := ⟨b, o, none⟩) (by first | omega | (simp; omega)); have hfw_wb' : ∀ b o, b ≤ w.heap.size + 5 → wb'.frozen? ⟨b, o, none⟩ = _ := fun b o h => hbwb'.frozen (p := ⟨b, o, none⟩) (by first | omega | (simp; omega))) | (have hcw_wb' : ∀ b o, b ≤ w.heap.size + 4 → wb'.cell? ⟨b, o, none⟩ = _ := fun b o h => hbwb'.cell (p := ⟨b, o, none⟩) (by first | omega | (simp; omega)); have hfw_wb' : ∀ b o, b ≤ w.heap.size + 4 → wb'.frozen? ⟨b, o, none⟩ = _ := fun b o h => hbwb'.frozen (p := ⟨b, o, none⟩) (by first | omega | (simp; omega))) | (have hcw_wb' : ∀ b o, b ≤ w.heap.size + 3 → wb'.cell? ⟨b, o, none⟩ = _ := fun b o h => hbwb'.cell (p := ⟨b, o, none⟩) (by first | omega | (simp; omega)); have hfw_wb' : ∀ b o, b ≤ w.heap.size + 3 → wb'.frozen? ⟨b, o, none⟩ = _ := fun b o h => hbwb'.frozen (p := ⟨b, o, none⟩) (by first | omega | (simp; omega))) | (have hcw_wb' : ∀ b o, b ≤ w.heap.size + 2 → wb'.cell? ⟨b, o, none⟩ = _ := fun b o h => hbwb'.cell (p := ⟨b, o, none⟩) (by first | omega | (simp; omega)); have hfw_wb' : ∀ b o, b ≤ w.heap.size + 2 → wb'.frozen? ⟨b, o, none⟩ = _ := fun b o h => hbwb'.frozen (p := ⟨b, o, none⟩) (by first | omega | (simp; omega))) | (have hcw_wb' : ∀ b o, b ≤ w.heap.size + 1 → wb'.cell? ⟨b, o, none⟩ = _ := fun b o h => hbwb'.cell (p := ⟨b, o, none⟩) (by first | omega | (simp; omega)); have hfw_wb' : ∀ b o, b ≤ w.heap.size + 1 → wb'.frozen? ⟨b, o, none⟩ = _ := fun b o h => hbwb'.frozen (p := ⟨b, o, none⟩) (by first | omega | (simp; omega))) | (have hcw_wb' : ∀ b o, b ≤ w.heap.size + 0 → wb'.cell? ⟨b, o, none⟩ = _ := fun b o h => hbwb'.cell (p := ⟨b, o, none⟩) (by first | omega | (simp; omega)); have hfw_wb' : ∀ b o, b ≤ w.heap.size + 0 → wb'.frozen? ⟨b, o, none⟩ = _ := fun b o h => hbwb'.frozen (p := ⟨b, o, none⟩) (by first | omega | (simp; omega))) | skip); have hBwb' : Below w.heap.size w wb' := below_step hbwb' (by first | omega | (simp; done) | (simp; omega)) (by repeat' (first | assumption | (with_reducible exact Below.refl _ _) | (with_reducible refine Below.drew ?_) | (with_reducible refine Below.alloc ?_ ?_ _) | (with_reducible refine Below.setCell ?_ ?_ _) | omega | (simp; done) | (simp; omega))); clear hbwb')
            refine hold_start (S := (fun w' => w'.cell? ⟨w.heap.size, 0, none⟩ = some (.slice a n c) ∧ w'.cell? ⟨w.heap.size + 1, 0, none⟩ = some (.slice b m d) ∧ w'.cell? ⟨wb'.heap.size, 0, none⟩ = some (.int .i64 ((k : Int) % 8)) ∧ w'.cell? ⟨wb'.heap.size, 1, none⟩ = some (.int .i64 ((k : Int) / 8)) ∧ Below w.heap.size w w' ∧ wb'.heap.size + 1 ≤ w'.heap.size)) (by kernel_rfl) (by kernel_rfl) (by intro _ _ d _ _ h; cases d <;> exact h) ?_ (fun hHC hH0 => ?_)
            · (first | (go_keep; done) | ((try go_split_ands); (repeat' apply And.intro) <;> first | assumption | (with_reducible refine Rd.below ?_ hb1; assumption) | (with_reducible refine Rd.drew ?_; repeat' (first | assumption | (with_reducible refine Rd.alloc ?_ _))) | (refine (hb1.cell (by first | omega | (simp; done) | (simp; omega))).trans ?_; first | assumption | simp) | (exact below_step hb1 (by first | omega | (simp; done) | (simp; omega)) (by assumption)) | (have hz' := hb1.size; (try simp at hz'); omega) | ((repeat' (first | assumption | (with_reducible exact Below.refl _ _) | (with_reducible refine Below.drew ?_) | (with_reducible refine Below.alloc ?_ ?_ _) | (with_reducible refine Below.setCell ?_ ?_ _) | omega | (simp; done) | (simp; omega))); done) | go_simp | (simp; done) | (simp; omega)))
            refine hold_plain 0 (v := ?_) hHC hH0 (by simp only [List.getElem?_toArray, List.getElem?_cons_succ, List.getElem?_cons_zero]; rfl) rfl (by kernel_rfl) ?_ ?_
            rotate_left 1
            · (intro w hSw; (try dsimp only at hSw); go_simp; try with_reducible rfl)
            try simp only [Act.put, List.setIfInBounds_toArray, List.set_cons_zero, List.set_cons_succ]
            refine hold_plain 1 (v := ?_) hHC hH0 (by simp only [List.getElem?_toArray, List.getElem?_cons_succ, List.getElem?_cons_zero]; rfl) rfl (by kernel_rfl) ?_ ?_
            rotate_left 1
            · (intro w hSw; (try dsimp only at hSw); go_simp; try with_reducible rfl)
            try simp only [Act.put, List.setIfInBounds_toArray, List.set_cons_zero, List.set_cons_succ]
            refine hold_plain 3 (v := ?_) hHC hH0 (by simp only [List.getElem?_toArray, List.getElem?_cons_succ, List.getElem?_cons_zero]; rfl) rfl (by kernel_rfl) ?_ ?_
            rotate_left 1
            · (intro w hSw; (try dsimp only at hSw); go_simp; try with_reducible rfl)
            try simp only [Act.put, List.setIfInBounds_toArray, List.set_cons_zero, List.set_cons_succ]
            refine hold_plain 4 (v := ?_) hHC hH0 (by simp only [List.getElem?_toArray, List.getElem?_cons_succ, List.getElem?_cons_zero]; rfl) rfl (by kernel_rfl) ?_ ?_
            rotate_left 1
            · (intro w hSw; (try dsimp only at hSw); go_simp; try with_reducible rfl)
            try simp only [Act.put, List.setIfInBounds_toArray, List.set_cons_zero, List.set_cons_succ]
            refine hold_call0 2 (by simp only [List.getElem?_toArray, List.getElem?_cons_succ, List.getElem?_cons_zero]; rfl) rfl (by kernel_rfl) (fun K hK => ?_)
            go_simp
            obtain ⟨_, _, _, _, hs1, _⟩ := id hH0; first | (have _t := tok3; (go_at_call 74; refine (l03_any _ _ _ zs _ _ _ HZ.out h1 hok (Rd.below hr (by repeat' (first | assumption | (with_reducible exact Below.refl _ _) | (with_reducible refine Below.drew ?_) | (with_reducible refine Below.alloc ?_ ?_ _) | (with_reducible refine Below.setCell ?_ ?_ _) | omega | (simp; done) | (simp; omega))))).mono ?_; rintro e w1 ⟨rfl, hb1⟩); clear tok3) | (go_at_call 74; refine (l03_any _ _ _ ys _ _ _ HY.out h2 hok (Rd.below hs (by repeat' (first | assumption | (with_reducible exact Below.refl _ _) | (with_reducible refine Below.drew ?_) | (with_reducible refine Below.alloc ?_ ?_ _) | (with_reducible refine Below.setCell ?_ ?_ _) | omega | (simp; done) | (simp; omega))))).mono ?_; rintro e w1 ⟨rfl, hb1⟩)
            refine hK.out _ _ ?_ (fun hH1 => ?_)
            · (first | (go_keep; done) | ((try go_split_ands); (repeat' apply And.intro) <;> first | assumption | (with_reducible refine Rd.below ?_ hb1; assumption) | (with_reducible refine Rd.drew ?_; repeat' (first | assumption | (with_reducible refine Rd.alloc ?_ _))) | (refine (hb1.cell (by first | omega | (simp; done) | (simp; omega))).trans ?_; first | assumption | simp) | (exact below_step hb1 (by first | omega | (simp; done) | (simp; omega)) (by assumption)) | (have hz' := hb1.size; (try simp at hz'); omega) | ((repeat' (first | assumption | (with_reducible exact Below.refl _ _) | (with_reducible refine Below.drew ?_) | (with_reducible refine Below.alloc ?_ ?_ _) | (with_reducible refine Below.setCell ?_ ?_ _) | omega | (simp; done) | (simp; omega))); done) | go_simp | (simp; done) | (simp; omega)))
            clear hK K hH0
            try simp only [Act.put, List.setIfInBounds_toArray, List.set_cons_zero, List.set_cons_succ]
            refine hold_call0 5 (by simp only [List.getElem?_toArray, List.getElem?_cons_succ, List.getElem?_cons_zero]; rfl) rfl (by kernel_rfl) (fun K hK => ?_)
            go_simp
            obtain ⟨_, _, _, _, hs1, _⟩ := id hH1; first | (have _t := tok3; (go_at_call 74; refine (l03_any _ _ _ zs _ _ _ HZ.out h1 hok (Rd.below hr (by repeat' (first | assumption | (with_reducible exact Below.refl _ _) | (with_reducible refine Below.drew ?_) | (with_reducible refine Below.alloc ?_ ?_ _) | (with_reducible refine Below.setCell ?_ ?_ _) | omega | (simp; done) | (simp; omega))))).mono ?_; rintro e w1 ⟨rfl, hb1⟩); clear tok3) | (go_at_call 74; refine (l03_any _ _ _ ys _ _ _ HY.out h2 hok (Rd.below hs (by repeat' (first | assumption | (with_reducible exact Below.refl _ _) | (with_reducible refine Below.drew ?_) | (with_reducible refine Below.alloc ?_ ?_ _) | (with_reducible refine Below.setCell ?_ ?_ _) | omega | (simp; done) | (simp; omega))))).mono ?_; rintro e w1 ⟨rfl, hb1⟩)
            refine hK.out _ _ ?_ (fun hH2 => ?_)
            · (first | (go_keep; done) | ((try go_split_ands); (repeat' apply And.intro) <;> first | assumption | (with_reducible refine Rd.below ?_ hb1; assumption) | (with_reducible refine Rd.drew ?_; repeat' (first | assumption | (with_reducible refine Rd.alloc ?_ _))) | (refine (hb1.cell (by first | omega | (simp; done) | (simp; omega))).trans ?_; first | assumption | simp) | (exact below_step hb1 (by first | omega | (simp; done) | (simp; omega)) (by assumption)) | (have hz' := hb1.size; (try simp at hz'); omega) | ((repeat' (first | assumption | (with_reducible exact Below.refl _ _) | (with_reducible refine Below.drew ?_) | (with_reducible refine Below.alloc ?_ ?_ _) | (with_reducible refine Below.setCell ?_ ?_ _) | omega | (simp; done) | (simp; omega))); done) | go_simp | (simp; done) | (simp; omega)))
            clear hK K hH1
            try simp only [Act.put, List.setIfInBounds_toArray, List.set_cons_zero, List.set_cons_succ]
            refine hold_plain 6 (v := ?_) hHC hH2 (by simp only [List.getElem?_toArray, List.getElem?_cons_succ, List.getElem?_cons_zero]; rfl) rfl (by kernel_rfl) ?_ ?_
            rotate_left 1
            · (intro w hSw; (try dsimp only at hSw); go_simp; try with_reducible rfl)
            try simp only [Act.put, List.setIfInBounds_toArray, List.set_cons_zero, List.set_cons_succ]
            refine wpAnyH_done (by kernel_rfl) ?_ _
            (try dsimp only at hH2)
            go_split_ands
            clear hHC
            go_wp2
            go_ret
            exact ⟨ret_b HN.out.symm, by repeat' (first | assumption | (with_reducible exact Below.refl _ _) | (with_reducible refine Below.drew ?_) | (with_reducible refine Below.alloc ?_ ?_ _) | (with_reducible refine Below.setCell ?_ ?_ _) | omega | (simp; done) | (simp; omega))⟩
        · have hkn : k = 64 := by omega
          have HN : Hid (scB zs ys = true) := Lib.hid (by
            rw [HB.out, decide_eq_true_iff]
            have h := same_of_bits (S := S) (T := T) (by rw [HS.out]; exact HS64.out) (by rw [HT.out]; exact HT64.out) (by have := hE.out; rwa [hkn] at this)
            rw [← HS.out, ← HT.out, h])
          clear hkn
          go_wp2
          go_ret
          exact ⟨ret_b HN.out.symm, hB⟩
    · have h2' : rokB ys = false := by simpa using h2
      have HB := Lib.hid (scB_no2 (zs := zs) h2')
      go_enter Try.func37, Try.ntmps37
      go_wp2_with (first | (have _t := tok1; (go_at_call 16; refine (specRok_any _ _ _ zs _ HZ.out hn (Rd.below hr (by repeat' (first | assumption | (with_reducible exact Below.refl _ _) | (with_reducible refine Below.drew ?_) | (with_reducible refine Below.alloc ?_ ?_ _) | (with_reducible refine Below.setCell ?_ ?_ _) | omega | (simp; done) | (simp; omega))))).mono ?_; rintro e wa ⟨rfl, hbwa⟩; have hzwa := hbwa.size; (try simp at hzwa); (try have hl0w_wa : w.heap.size < wa.heap.size := by omega); (try have hl1w_wa : w.heap.size + 1 < wa.heap.size := by omega); (try have hl2w_wa : w.heap.size + 1 + 1 < wa.heap.size := by omega); (try have hl3w_wa : w.heap.size + 1 + 1 + 1 < wa.heap.size := by omega); (first | (have hcw_wa : ∀ b o, b ≤ w.heap.size + 6 → wa.cell? ⟨b, o, none⟩ = _ := fun b o h => hbwa.cell (p := ⟨b, o, none⟩) (by first | omega | (simp; omega)); have hfw_wa : ∀ b o, b ≤ w.heap.size + 6 → wa.frozen? ⟨b, o, none⟩ = _ := fun b o h => hbwa.frozen (p := ⟨b, o, none⟩) (by first | omega | (simp; omega))) | (have hcw_wa : ∀ b o, b ≤ w.heap.size + 5 → wa.cell? ⟨b, o, none⟩ = _ := fun b o h => hbwa.cell (p := ⟨b, o, none⟩) (by first | omega | (simp; omega)); have hfw_wa : ∀ b o, b ≤ w.heap.size + 5 → wa.frozen? ⟨b, o, none⟩ = _ := fun b o h => hbwa.frozen (p := ⟨b, o, none⟩) (by first | omega | (simp; omega))) | (have hcw_wa : ∀ b o, b ≤ w.heap.size + 4 → wa.cell? ⟨b, o, none⟩ = _ := fun b o h => hbwa.cell (p := ⟨b, o, none⟩) (by first | omega | (simp; omega)); have hfw_wa : ∀ b o, b ≤ w.heap.size + 4 → wa.frozen? ⟨b, o, none⟩ = _ := fun b o h => hbwa.frozen (p := ⟨b, o, none⟩) (by first | omega | (simp; omega))) | (have hcw_wa : ∀ b o, b ≤ w.heap.size + 3 → wa.cell? ⟨b, o, none⟩ = _ := fun b o h => hbwa.cell (p := ⟨b, o, none⟩) (by first | omega | (simp; omega)); have hfw_wa : ∀ b o, b ≤ w.heap.size + 3 → wa.frozen? ⟨b, o, none⟩ = _ := fun b o h => hbwa.frozen (p := ⟨b, o, none⟩) (by first | omega | (simp; omega))) | (have hcw_wa : ∀ b o, b ≤ w.heap.size + 2 → wa.cell? ⟨b, o, none⟩ = _ := fun b o h => hbwa.cell (p := ⟨b, o, none⟩) (by first | omega | (simp; omega)); have hfw_wa : ∀ b o, b ≤ w.heap.size + 2 → wa.frozen? ⟨b, o, none⟩ = _ := fun b o h => hbwa.frozen (p := ⟨b, o, none⟩) (by first | omega | (simp; omega))) | (have hcw_wa : ∀ b o, b ≤ w.heap.size + 1 → wa.cell? ⟨b, o, none⟩ = _ := fun b o h => hbwa.cell (p := ⟨b, o, none⟩) (by first | omega | (simp; omega)); have hfw_wa : ∀ b o, b ≤ w.heap.size + 1 → wa.frozen? ⟨b, o, none⟩ = _ := fun b o h => hbwa.frozen (p := ⟨b, o, none⟩) (by first | omega | (simp; omega))) | (have hcw_wa : ∀ b o, b ≤ w.heap.size + 0 → wa.cell? ⟨b, o, none⟩ = _ := fun b o h => hbwa.cell (p := ⟨b, o, none⟩) (by first | omega | (simp; omega)); have hfw_wa : ∀ b o, b ≤ w.heap.size + 0 → wa.frozen? ⟨b, o, none⟩ = _ := fun b o h => hbwa.frozen (p := ⟨b, o, none⟩) (by first | omega | (simp; omega))) | skip); have hBwa : Below w.heap.size w wa := below_step hbwa (by first | omega | (simp; done) | (simp; omega)) (by repeat' (first | assumption | (with_reducible exact Below.refl _ _) | (with_reducible refine Below.drew ?_) | (with_reducible refine Below.alloc ?_ ?_ _) | (with_reducible refine Below.setCell ?_ ?_ _) | omega | (simp; done) | (simp; omega))); clear hbwa); clear tok1) | (have _t := tok2; (go_at_call 16; refine (specRok_any _ _ _ ys _ HY.out hm (Rd.below hs (by repeat' (first | assumption | (with_reducible exact Below.refl _ _) | (with_reducible refine Below.drew ?_) | (with_reducible refine Below.alloc ?_ ?_ _) | (with_reducible refine Below.setCell ?_ ?_ _) | omega | (simp; done) | (simp; omega))))).mono ?_; rintro e wb ⟨rfl, hbwb⟩; have hzwb := hbwb.size; (try simp at hzwb); (try have hl0w_wb : w.heap.size < wb.heap.size := by omega); (try have hl1w_wb : w.heap.size + 1 < wb.heap.size := by omega); (try have hl2w_wb : w.heap.size + 1 + 1 < wb.heap.size := by omega); (try have hl3w_wb : w.heap.size + 1 + 1 + 1 < wb.heap.size := by omega); (first | (have hcw_wb : ∀ b o, b ≤ w.heap.size + 6 → wb.cell? ⟨b, o, none⟩ = _ := fun b o h => hbwb.cell (p := ⟨b, o, none⟩) (by first | omega | (simp; omega)); have hfw_wb : ∀ b o, b ≤ w.heap.size + 6 → wb.frozen? ⟨b, o, none⟩ = _ := fun b o h => hbwb.frozen (p := ⟨b, o, none⟩) (by first | omega | (simp; omega))) | (have hcw_wb : ∀ b o, b ≤ w.heap.size + 5 → wb.cell? ⟨b, o, none⟩ = _ := fun b o h => hbwb.cell (p := ⟨b, o, none⟩) (by first | omega | (simp; omega)); have hfw_wb : ∀ b o, b ≤ w.heap.size + 5 → wb.frozen? ⟨b, o, none⟩ = _ := fun b o h => hbwb.frozen (p := ⟨b, o, none⟩) (by first | omega | (simp; omega))) | (have hcw_wb : ∀ b o, b ≤ w.heap.size + 4 → wb.cell? ⟨b, o, none⟩ = _ := fun b o h => hbwb.cell (p := ⟨b, o, none⟩) (by first | omega | (simp; omega)); have hfw_wb : ∀ b o, b ≤ w.heap.size + 4 → wb.frozen? ⟨b, o, none⟩ = _ := fun b o h => hbwb.frozen (p := ⟨b, o, none⟩) (by first | omega | (simp; omega))) | (have hcw_wb : ∀ b o, b ≤ w.heap.size + 3 → wb.cell? ⟨b, o, none⟩ = _ := fun b o h => hbwb.cell (p := ⟨b, o, none⟩) (by first | omega | (simp; omega)); have hfw_wb : ∀ b o, b ≤ w.heap.size + 3 → wb.frozen? ⟨b, o, none⟩ = _ := fun b o h => hbwb.frozen (p := ⟨b, o, none⟩) (by first | omega | (simp; omega))) | (have hcw_wb : ∀ b o, b ≤ w.heap.size + 2 → wb.cell? ⟨b, o, none⟩ = _ := fun b o h => hbwb.cell (p := ⟨b, o, none⟩) (by first | omega | (simp; omega)); have hfw_wb : ∀ b o, b ≤ w.heap.size + 2 → wb.frozen? ⟨b, o, none⟩ = _ := fun b o h => hbwb.frozen (p := ⟨b, o, none⟩) (by first | omega | (simp; omega))) | (have hcw_wb : ∀ b o, b ≤ w.heap.size + 1 → wb.cell? ⟨b, o, none⟩ = _ := fun b o h => hbwb.cell (p := ⟨b, o, none⟩) (by first | omega | (simp; omega)); have hfw_wb : ∀ b o, b ≤ w.heap.size + 1 → wb.frozen? ⟨b, o, none⟩ = _ := fun b o h => hbwb.frozen (p := ⟨b, o, none⟩) (by first | omega | (simp; omega))) | (have hcw_wb : ∀ b o, b ≤ w.heap.size + 0 → wb.cell? ⟨b, o, none⟩ = _ := fun b o h => hbwb.cell (p := ⟨b, o, none⟩) (by first | omega | (simp; omega)); have hfw_wb : ∀ b o, b ≤ w.heap.size + 0 → wb.frozen? ⟨b, o, none⟩ = _ := fun b o h => hbwb.frozen (p := ⟨b, o, none⟩) (by first | omega | (simp; omega))) | skip); have hBwb : Below w.heap.size w wb := below_step hbwb (by first | omega | (simp; done) | (simp; omega)) (by repeat' (first | assumption | (with_reducible exact Below.refl _ _) | (with_reducible refine Below.drew ?_) | (with_reducible refine Below.alloc ?_ ?_ _) | (with_reducible refine Below.setCell ?_ ?_ _) | omega | (simp; done) | (simp; omega))); clear hbwb); clear tok2))
      go_ret
      exact ⟨ret_b HB.out.symm, by repeat' (first | assumption | (with_reducible exact Below.refl _ _) | (with_reducible refine Below.drew ?_) | (with_reducible refine Below.alloc ?_ ?_ _) | (with_reducible refine Below.setCell ?_ ?_ _) | omega | (simp; done) | (simp; omega))⟩
  · have h1' : rokB zs = false := by simpa using h1
    have HB := Lib.hid (scB_no1 (ys := ys) h1')
    go_enter Try.func37, Try.ntmps37
    go_wp2_with (have _t := tok1; (go_at_call 16; refine (specRok_any _ _ _ zs _ HZ.out hn (Rd.below hr (by repeat' (first | assumption | (with_reducible exact Below.refl _ _) | (with_reducible refine Below.drew ?_) | (with_reducible refine Below.alloc ?_ ?_ _) | (with_reducible refine Below.setCell ?_ ?_ _) | omega | (simp; done) | (simp; omega))))).mono ?_; rintro e wa ⟨rfl, hbwa⟩; have hzwa := hbwa.size; (try simp at hzwa); (try have hl0w_wa : w.heap.size < wa.heap.size := by omega); (try have hl1w_wa : w.heap.size + 1 < wa.heap.size := by omega); (try have hl2w_wa : w.heap.size + 1 + 1 < wa.heap.size := by omega); (try have hl3w_wa : w.heap.size + 1 + 1 + 1 < wa.heap.size := by omega); (first | (have hcw_wa : ∀ b o, b ≤ w.heap.size + 6 → wa.cell? ⟨b, o, none⟩ = _ := fun b o h => hbwa.cell (p := ⟨b, o, none⟩) (by first | omega | (simp; omega)); have hfw_wa : ∀ b o, b ≤ w.heap.size + 6 → wa.frozen? ⟨b, o, none⟩ = _ := fun b o h => hbwa.frozen (p := ⟨b, o, none⟩) (by first | omega | (simp; omega))) | (have hcw_wa : ∀ b o, b ≤ w.heap.size + 5 → wa.cell? ⟨b, o, none⟩ = _ := fun b o h => hbwa.cell (p := ⟨b, o, none⟩) (by first | omega | (simp; omega)); have hfw_wa : ∀ b o, b ≤ w.heap.size + 5 → wa.frozen? ⟨b, o, none⟩ = _ := fun b o h => hbwa.frozen (p := ⟨b, o, none⟩) (by first | omega | (simp; omega))) | (have hcw_wa : ∀ b o, b ≤ w.heap.size + 4 → wa.cell? ⟨b, o, none⟩ = _ := fun b o h => hbwa.cell (p := ⟨b, o, none⟩) (by first | omega | (simp; omega)); have hfw_wa : ∀ b o, b ≤ w.heap.size + 4 → wa.frozen? ⟨b, o, none⟩ = _ := fun b o h => hbwa.frozen (p := ⟨b, o, none⟩) (by first | omega | (simp; omega))) | (have hcw_wa : ∀ b o, b ≤ w.heap.size + 3 → wa.cell? ⟨b, o, none⟩ = _ := fun b o h => hbwa.cell (p := ⟨b, o, none⟩) (by first | omega | (simp; omega)); have hfw_wa : ∀ b o, b ≤ w.heap.size + 3 → wa.frozen? ⟨b, o, none⟩ = _ := fun b o h => hbwa.frozen (p := ⟨b, o, none⟩) (by first | omega | (simp; omega))) | (have hcw_wa : ∀ b o, b ≤ w.heap.size + 2 → wa.cell? ⟨b, o, none⟩ = _ := fun b o h => hbwa.cell (p := ⟨b, o, none⟩) (by first | omega | (simp; omega)); have hfw_wa : ∀ b o, b ≤ w.heap.size + 2 → wa.frozen? ⟨b, o, none⟩ = _ := fun b o h => hbwa.frozen (p := ⟨b, o, none⟩) (by first | omega | (simp; omega))) | (have hcw_wa : ∀ b o, b ≤ w.heap.size + 1 → wa.cell? ⟨b, o, none⟩ = _ := fun b o h => hbwa.cell (p := ⟨b, o, none⟩) (by first | omega | (simp; omega)); have hfw_wa : ∀ b o, b ≤ w.heap.size + 1 → wa.frozen? ⟨b, o, none⟩ = _ := fun b o h => hbwa.frozen (p := ⟨b, o, none⟩) (by first | omega | (simp; omega))) | (have hcw_wa : ∀ b o, b ≤ w.heap.size + 0 → wa.cell? ⟨b, o, none⟩ = _ := fun b o h => hbwa.cell (p := ⟨b, o, none⟩) (by first | omega | (simp; omega)); have hfw_wa : ∀ b o, b ≤ w.heap.size + 0 → wa.frozen? ⟨b, o, none⟩ = _ := fun b o h => hbwa.frozen (p := ⟨b, o, none⟩) (by first | omega | (simp; omega))) | skip); have hBwa : Below w.heap.size w wa := below_step hbwa (by first | omega | (simp; done) | (simp; omega)) (by repeat' (first | assumption | (with_reducible exact Below.refl _ _) | (with_reducible refine Below.drew ?_) | (with_reducible refine Below.alloc ?_ ?_ _) | (with_reducible refine Below.setCell ?_ ?_ _) | omega | (simp; done) | (simp; omega))); clear hbwa); clear tok1)
    go_ret
    exact ⟨ret_b HB.out.symm, by repeat' (first | assumption | (with_reducible exact Below.refl _ _) | (with_reducible refine Below.drew ?_) | (with_reducible refine Below.alloc ?_ ?_ _) | (with_reducible refine Below.setCell ?_ ?_ _) | omega | (simp; done) | (simp; omega))⟩
end Go.Proofs.Ytfckmopdojgggaa
