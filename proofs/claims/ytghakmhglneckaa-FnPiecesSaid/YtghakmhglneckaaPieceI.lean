/-
  The program's piece of a cell.
-/
import Derived.Test.YtghakmhglneckaaReach
import Derived.Test.YtghakmhglneckaaList
namespace Go.Proofs.Ytghakmhglneckaa
open Go.RowKit
set_option linter.unusedVariables false
set_option linter.unusedSimpArgs false

theorem cells_of_set {O : Nat} {L : List CellI} (h : SetOf O L) : cellsL O = ((List.range 64).filter fun j => decide (cellOf j ∈ L)).map cellOf := by
  unfold cellsL cellsK
  congr 1
  refine List.filter_congr fun j hj => ?_
  have hj := List.mem_range.1 hj
  rw [← hasB_at hj, h.2]
theorem implHas_val (a : Option Addr) (n c : Nat) (zs : List Int) (x y : Int) (w : World) (hz : zs.length = n) (hn : n ≤ 1048576) (hr : RdI w a zs) {b : Bool} (h : hcB zs x y = b) :
    Calls Try.prog 50 #[.agg #[.slice a n c], .agg #[.int .i64 x, .int .i64 y]] w fun e w' => e = .returned (.bool b) ∧ Below w.heap.size w w' := by
  subst h
  exact implHas_any a n c zs x y w hz hn hr
set_option maxHeartbeats 1600000 in
set_option maxRecDepth 100000 in
theorem implPiece_any (a : Option Addr) (n c : Nat) (zs : List Int) (x y : Int) (w : World) (hz : zs.length = n) (hn : n ≤ 1048576) (hr : RdI w a zs) :
    Calls Try.prog 17 #[.agg #[.slice a n c], .agg #[.int .i64 x, .int .i64 y]] w fun e w' => ∃ a' c', e = .returned (.slice a' (pieceL zs x y).length c') ∧ OwnC w' w.heap.size (.slice a' (pieceL zs x y).length c') (pieceL zs x y) ∧ Below w.heap.size w w' := by
  have HZ := Lib.hid hz
  clear hz
  rcases Bool.eq_false_or_eq_true (hcB zs x y) with hh | hh
  · have HH := Lib.hid (fun (W : World) (h : RdI W a zs) => implHas_val a n c zs x y W HZ.out hn h hh)
    have hok : rokB zs = true := by have := hh; unfold hcB at this; rw [Bool.and_eq_true] at this; exact this.1
    have hxy : hasB (setS zs) x y = true := by rw [hcB_yes hok] at hh; exact hh
    have HS := Lib.hid (fun (W : World) (h : RdI W a zs) => set_any a n c zs W HZ.out hok h)
    have HRE := Lib.hid (fun W : World => reach_any (setS zs) x y W (Lib.hid (setS_lt hok)) hxy)
    have HPL : Hid (∀ O, SetOf O (bfsR (setS zs) (x, y)) → cellsL O = pieceL zs x y) := Lib.hid (fun O h => by rw [cells_of_set h, pieceL, if_pos hh])
    obtain ⟨L, hL⟩ : ∃ L, L = pieceL zs x y := ⟨_, rfl⟩
    rw [← hL] at HPL ⊢
    obtain ⟨S, hS⟩ : ∃ S, S = setS zs := ⟨_, rfl⟩
    rw [← hS] at HS HRE HPL
    clear hL hS hh hok hxy
    go_enter Try.func17, Try.ntmps17
    go_wp2_with (go_at_call 50; fail)
    refine (HH.out _ (by repeat' (first | assumption | (with_reducible refine Rd.alloc ?_ _) | (with_reducible refine Rd.drew ?_)))).mono ?_
    rintro e w2 ⟨rfl, hb⟩
    have hz2 := hb.size
    simp at hz2
    have hcr : w2.cell? ⟨w.heap.size, 0, none⟩ = some (.slice a n c) := (hb.cell (p := ⟨w.heap.size, 0, none⟩) (by first | omega | (simp; done) | (simp; omega))).trans (by go_simp)
    have hcx : w2.cell? ⟨w.heap.size + 1, 0, none⟩ = some (.int .i64 x) := (hb.cell (p := ⟨w.heap.size + 1, 0, none⟩) (by first | omega | (simp; done) | (simp; omega))).trans (by go_simp)
    have hcy : w2.cell? ⟨w.heap.size + 1, 1, none⟩ = some (.int .i64 y) := (hb.cell (p := ⟨w.heap.size + 1, 1, none⟩) (by first | omega | (simp; done) | (simp; omega))).trans (by go_simp)
    have hr2 : RdI w2 a zs := Rd.below (by repeat' (first | assumption | (with_reducible refine Rd.alloc ?_ _) | (with_reducible refine Rd.drew ?_))) hb
    have hB2 : Below w.heap.size w w2 := below_step hb (by first | omega | (simp; done) | (simp; omega)) (by repeat' (first | assumption | (with_reducible exact Below.refl _ _) | (with_reducible refine Below.drew ?_) | (with_reducible refine Below.alloc ?_ ?_ _) | (with_reducible refine Below.setCell ?_ ?_ _) | omega | (simp; done) | (simp; omega)))
    clear hb hr
    go_wp2_with fail
    refine hold_start (S := (fun w' => w'.cell? ⟨w.heap.size, 0, none⟩ = some (.slice a n c) ∧ w'.cell? ⟨w.heap.size + 1, 0, none⟩ = some (.int .i64 x) ∧ w'.cell? ⟨w.heap.size + 1, 1, none⟩ = some (.int .i64 y) ∧ RdI w' a zs ∧ Below w.heap.size w w' ∧ w.heap.size + 2 ≤ w'.heap.size)) (by kernel_rfl) (by kernel_rfl) (by intro _ _ d _ _ h; cases d <;> exact h) ?_ (fun hHC hH0 => ?_)
    · (first | (go_keep; done) | ((try go_split_ands); (repeat' apply And.intro) <;> first | assumption | (with_reducible refine Rd.below ?_ hb1; assumption) | (with_reducible refine Rd.drew ?_; repeat' (first | assumption | (with_reducible refine Rd.alloc ?_ _))) | (refine (hb1.cell (by first | omega | (simp; done) | (simp; omega))).trans ?_; first | assumption | simp) | (exact below_step hb1 (by first | omega | (simp; done) | (simp; omega)) (by assumption)) | (have hz' := hb1.size; (try simp at hz'); omega) | ((repeat' (first | assumption | (with_reducible exact Below.refl _ _) | (with_reducible refine Below.drew ?_) | (with_reducible refine Below.alloc ?_ ?_ _) | (with_reducible refine Below.setCell ?_ ?_ _) | omega | (simp; done) | (simp; omega))); done) | go_simp | (simp; done) | (simp; omega)))
    refine hold_plain 0 (v := ?_) hHC hH0 (by simp only [List.getElem?_toArray, List.getElem?_cons_succ, List.getElem?_cons_zero]; rfl) rfl (by kernel_rfl) ?_ ?_
    rotate_left 1
    · (intro w hSw; (try dsimp only at hSw); go_simp; try with_reducible rfl)
    try simp only [Act.put, List.setIfInBounds_toArray, List.set_cons_zero, List.set_cons_succ]
    refine hold_plain 2 (v := ?_) hHC hH0 (by simp only [List.getElem?_toArray, List.getElem?_cons_succ, List.getElem?_cons_zero]; rfl) rfl (by kernel_rfl) ?_ ?_
    rotate_left 1
    · (intro w hSw; (try dsimp only at hSw); go_simp; try with_reducible rfl)
    try simp only [Act.put, List.setIfInBounds_toArray, List.set_cons_zero, List.set_cons_succ]
    refine hold_call0 1 (by simp only [List.getElem?_toArray, List.getElem?_cons_succ, List.getElem?_cons_zero]; rfl) rfl (by kernel_rfl) (fun K hK => ?_)
    go_simp
    obtain ⟨_, _, _, hs1, _, hs3⟩ := id hH0; (first | (go_at_call 38; refine (HS.out _ (by repeat' (first | assumption | (with_reducible refine Rd.alloc ?_ _) | (with_reducible refine Rd.drew ?_)))).mono ?_; rintro e w1 ⟨rfl, hb1⟩) | (go_at_call 44; refine (HRE.out _).mono ?_; rintro e w1 ⟨O, rfl, hSO, hb1⟩; have HCE := Lib.hid (fun W : World => by have g := cells_any O W (Lib.hid hSO.1); rw [HPL.out O hSO] at g; exact g)) | (go_at_call 45; refine (HCE.out _).mono ?_; rintro e w1 ⟨a9, c9, rfl, hO9, hb1⟩; have hO10 := Lib.hid (own_base hO9 (show w.heap.size ≤ _ by omega)); clear hO9))
    refine hK.out _ _ ?_ (fun hH1 => ?_)
    · (first | (go_keep; done) | ((try go_split_ands); (repeat' apply And.intro) <;> first | assumption | (with_reducible refine Rd.below ?_ hb1; assumption) | (with_reducible refine Rd.drew ?_; repeat' (first | assumption | (with_reducible refine Rd.alloc ?_ _))) | (refine (hb1.cell (by first | omega | (simp; done) | (simp; omega))).trans ?_; first | assumption | simp) | (exact below_step hb1 (by first | omega | (simp; done) | (simp; omega)) (by assumption)) | (have hz' := hb1.size; (try simp at hz'); omega) | ((repeat' (first | assumption | (with_reducible exact Below.refl _ _) | (with_reducible refine Below.drew ?_) | (with_reducible refine Below.alloc ?_ ?_ _) | (with_reducible refine Below.setCell ?_ ?_ _) | omega | (simp; done) | (simp; omega))); done) | go_simp | (simp; done) | (simp; omega)))
    clear hK K hH0
    try simp only [Act.put, List.setIfInBounds_toArray, List.set_cons_zero, List.set_cons_succ]
    refine hold_call0 3 (by simp only [List.getElem?_toArray, List.getElem?_cons_succ, List.getElem?_cons_zero]; rfl) rfl (by kernel_rfl) (fun K hK => ?_)
    go_simp
    obtain ⟨_, _, _, hs1, _, hs3⟩ := id hH1; (first | (go_at_call 38; refine (HS.out _ (by repeat' (first | assumption | (with_reducible refine Rd.alloc ?_ _) | (with_reducible refine Rd.drew ?_)))).mono ?_; rintro e w1 ⟨rfl, hb1⟩) | (go_at_call 44; refine (HRE.out _).mono ?_; rintro e w1 ⟨O, rfl, hSO, hb1⟩; have HCE := Lib.hid (fun W : World => by have g := cells_any O W (Lib.hid hSO.1); rw [HPL.out O hSO] at g; exact g)) | (go_at_call 45; refine (HCE.out _).mono ?_; rintro e w1 ⟨a9, c9, rfl, hO9, hb1⟩; have hO10 := Lib.hid (own_base hO9 (show w.heap.size ≤ _ by omega)); clear hO9))
    refine hK.out _ _ ?_ (fun hH2 => ?_)
    · (first | (go_keep; done) | ((try go_split_ands); (repeat' apply And.intro) <;> first | assumption | (with_reducible refine Rd.below ?_ hb1; assumption) | (with_reducible refine Rd.drew ?_; repeat' (first | assumption | (with_reducible refine Rd.alloc ?_ _))) | (refine (hb1.cell (by first | omega | (simp; done) | (simp; omega))).trans ?_; first | assumption | simp) | (exact below_step hb1 (by first | omega | (simp; done) | (simp; omega)) (by assumption)) | (have hz' := hb1.size; (try simp at hz'); omega) | ((repeat' (first | assumption | (with_reducible exact Below.refl _ _) | (with_reducible refine Below.drew ?_) | (with_reducible refine Below.alloc ?_ ?_ _) | (with_reducible refine Below.setCell ?_ ?_ _) | omega | (simp; done) | (simp; omega))); done) | go_simp | (simp; done) | (simp; omega)))
    clear hK K hH1
    try simp only [Act.put, List.setIfInBounds_toArray, List.set_cons_zero, List.set_cons_succ]
    refine hold_call0 4 (by simp only [List.getElem?_toArray, List.getElem?_cons_succ, List.getElem?_cons_zero]; rfl) rfl (by kernel_rfl) (fun K hK => ?_)
    go_simp
    obtain ⟨_, _, _, hs1, _, hs3⟩ := id hH2; (first | (go_at_call 38; refine (HS.out _ (by repeat' (first | assumption | (with_reducible refine Rd.alloc ?_ _) | (with_reducible refine Rd.drew ?_)))).mono ?_; rintro e w1 ⟨rfl, hb1⟩) | (go_at_call 44; refine (HRE.out _).mono ?_; rintro e w1 ⟨O, rfl, hSO, hb1⟩; have HCE := Lib.hid (fun W : World => by have g := cells_any O W (Lib.hid hSO.1); rw [HPL.out O hSO] at g; exact g)) | (go_at_call 45; refine (HCE.out _).mono ?_; rintro e w1 ⟨a9, c9, rfl, hO9, hb1⟩; have hO10 := Lib.hid (own_base hO9 (show w.heap.size ≤ _ by omega)); clear hO9))
    refine hK.out _ _ ?_ (fun hH3 => ?_)
    · (first | (go_keep; done) | ((try go_split_ands); (repeat' apply And.intro) <;> first | assumption | (with_reducible refine Rd.below ?_ hb1; assumption) | (with_reducible refine Rd.drew ?_; repeat' (first | assumption | (with_reducible refine Rd.alloc ?_ _))) | (refine (hb1.cell (by first | omega | (simp; done) | (simp; omega))).trans ?_; first | assumption | simp) | (exact below_step hb1 (by first | omega | (simp; done) | (simp; omega)) (by assumption)) | (have hz' := hb1.size; (try simp at hz'); omega) | ((repeat' (first | assumption | (with_reducible exact Below.refl _ _) | (with_reducible refine Below.drew ?_) | (with_reducible refine Below.alloc ?_ ?_ _) | (with_reducible refine Below.setCell ?_ ?_ _) | omega | (simp; done) | (simp; omega))); done) | go_simp | (simp; done) | (simp; omega)))
    clear hK K hH2
    try simp only [Act.put, List.setIfInBounds_toArray, List.set_cons_zero, List.set_cons_succ]
    refine hold_plain 5 (v := ?_) hHC hH3 (by simp only [List.getElem?_toArray, List.getElem?_cons_succ, List.getElem?_cons_zero]; rfl) rfl (by kernel_rfl) ?_ ?_
    rotate_left 1
    · (intro w hSw; (try dsimp only at hSw); go_simp; try with_reducible rfl)
    try simp only [Act.put, List.setIfInBounds_toArray, List.set_cons_zero, List.set_cons_succ]
    refine wpAnyH_done (by kernel_rfl) ?_ _
    (try dsimp only at hH3)
    go_split_ands
    clear hHC
    go_wp2
    go_ret
    exact ⟨a9, c9, rfl, hO10.out, by repeat' (first | assumption | (with_reducible exact Below.refl _ _) | (with_reducible refine Below.drew ?_) | (with_reducible refine Below.alloc ?_ ?_ _) | (with_reducible refine Below.setCell ?_ ?_ _) | omega | (simp; done) | (simp; omega))⟩
  · have HH := Lib.hid (fun (W : World) (h : RdI W a zs) => implHas_val a n c zs x y W HZ.out hn h hh)
    have HT : Hid (pieceL zs x y = []) := Lib.hid (by rw [pieceL, hh]; rfl)
    clear hh
    go_enter Try.func17, Try.ntmps17
    go_wp2_with (go_at_call 50; refine (HH.out _ (Rd.below hr (by repeat' (first | assumption | (with_reducible exact Below.refl _ _) | (with_reducible refine Below.drew ?_) | (with_reducible refine Below.alloc ?_ ?_ _) | (with_reducible refine Below.setCell ?_ ?_ _) | omega | (simp; done) | (simp; omega))))).mono ?_; rintro e w1 ⟨rfl, hbw1⟩; have hzw1 := hbw1.size; (try simp at hzw1); (try have hl0w_w1 : w.heap.size < w1.heap.size := by omega); (try have hl1w_w1 : w.heap.size + 1 < w1.heap.size := by omega); (try have hl2w_w1 : w.heap.size + 1 + 1 < w1.heap.size := by omega); (try have hl3w_w1 : w.heap.size + 1 + 1 + 1 < w1.heap.size := by omega); (first | (have hcw_w1 : ∀ b o, b ≤ w.heap.size + 6 → w1.cell? ⟨b, o, none⟩ = _ := fun b o h => hbw1.cell (p := ⟨b, o, none⟩) (by first | omega | (simp; omega)); have hfw_w1 : ∀ b o, b ≤ w.heap.size + 6 → w1.frozen? ⟨b, o, none⟩ = _ := fun b o h => hbw1.frozen (p := ⟨b, o, none⟩) (by first | omega | (simp; omega))) | (have hcw_w1 : ∀ b o, b ≤ w.heap.size + 5 → w1.cell? ⟨b, o, none⟩ = _ := fun b o h => hbw1.cell (p := ⟨b, o, none⟩) (by first | omega | (simp; omega)); have hfw_w1 : ∀ b o, b ≤ w.heap.size + 5 → w1.frozen? ⟨b, o, none⟩ = _ := fun b o h => hbw1.frozen (p := ⟨b, o, none⟩) (by first | omega | (simp; omega))) | (have hcw_w1 : ∀ b o, b ≤ w.heap.size + 4 → w1.cell? ⟨b, o, none⟩ = _ := fun b o h => hbw1.cell (p := ⟨b, o, none⟩) (by first | omega | (simp; omega)); have hfw_w1 : ∀ b o, b ≤ w.heap.size + 4 → w1.frozen? ⟨b, o, none⟩ = _ := fun b o h => hbw1.frozen (p := ⟨b, o, none⟩) (by first | omega | (simp; omega))) | (have hcw_w1 : ∀ b o, b ≤ w.heap.size + 3 → w1.cell? ⟨b, o, none⟩ = _ := fun b o h => hbw1.cell (p := ⟨b, o, none⟩) (by first | omega | (simp; omega)); have hfw_w1 : ∀ b o, b ≤ w.heap.size + 3 → w1.frozen? ⟨b, o, none⟩ = _ := fun b o h => hbw1.frozen (p := ⟨b, o, none⟩) (by first | omega | (simp; omega))) | (have hcw_w1 : ∀ b o, b ≤ w.heap.size + 2 → w1.cell? ⟨b, o, none⟩ = _ := fun b o h => hbw1.cell (p := ⟨b, o, none⟩) (by first | omega | (simp; omega)); have hfw_w1 : ∀ b o, b ≤ w.heap.size + 2 → w1.frozen? ⟨b, o, none⟩ = _ := fun b o h => hbw1.frozen (p := ⟨b, o, none⟩) (by first | omega | (simp; omega))) | (have hcw_w1 : ∀ b o, b ≤ w.heap.size + 1 → w1.cell? ⟨b, o, none⟩ = _ := fun b o h => hbw1.cell (p := ⟨b, o, none⟩) (by first | omega | (simp; omega)); have hfw_w1 : ∀ b o, b ≤ w.heap.size + 1 → w1.frozen? ⟨b, o, none⟩ = _ := fun b o h => hbw1.frozen (p := ⟨b, o, none⟩) (by first | omega | (simp; omega))) | (have hcw_w1 : ∀ b o, b ≤ w.heap.size + 0 → w1.cell? ⟨b, o, none⟩ = _ := fun b o h => hbw1.cell (p := ⟨b, o, none⟩) (by first | omega | (simp; omega)); have hfw_w1 : ∀ b o, b ≤ w.heap.size + 0 → w1.frozen? ⟨b, o, none⟩ = _ := fun b o h => hbw1.frozen (p := ⟨b, o, none⟩) (by first | omega | (simp; omega))) | skip); have hBw1 : Below w.heap.size w w1 := below_step hbw1 (by first | omega | (simp; done) | (simp; omega)) (by repeat' (first | assumption | (with_reducible exact Below.refl _ _) | (with_reducible refine Below.drew ?_) | (with_reducible refine Below.alloc ?_ ?_ _) | (with_reducible refine Below.setCell ?_ ?_ _) | omega | (simp; done) | (simp; omega))); clear hbw1)
    go_ret
    refine ⟨none, 0, by rw [HT.out]; rfl, ?_, by repeat' (first | assumption | (with_reducible exact Below.refl _ _) | (with_reducible refine Below.drew ?_) | (with_reducible refine Below.alloc ?_ ?_ _) | (with_reducible refine Below.setCell ?_ ?_ _) | omega | (simp; done) | (simp; omega))⟩
    rw [HT.out]
    exact ⟨rfl, .inl ⟨rfl, rfl⟩⟩
end Go.Proofs.Ytghakmhglneckaa
