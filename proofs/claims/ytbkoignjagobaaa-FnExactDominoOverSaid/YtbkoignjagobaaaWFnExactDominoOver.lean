/-
  The walk of the law FnExactDominoOver: it returns true, and nothing that was there is written.
-/
import Derived.Test.YtbkoignjagobaaaDomB
import Derived.Deep.DeepCutAuto
namespace Go.Proofs.Ytbkoignjagobaaa.fnExactDominoOver
open Go.RowKit
set_option linter.unusedVariables false
set_option linter.unusedSimpArgs false
section
variable {P : Program} {ops : Array Oper} {Q : Exit → Act → World → Prop} {S : World → Prop} {fuel : Nat} {listed : Array Bool} {a : Act} {w : World}
theorem hold_two (i j : Nat) {oi oj : Oper} (hi : ops[i]? = some oi) (hg : oi.guard = none) (hj : ops[j]? = some oj) (hgj : oj.guard = none) (hr : Region.ready .any ops listed = [i, j])
    (h : ∀ K' : Act → World → Prop, Shut (∀ a w, S w → (S w → wpAnyH P .any ops Q S fuel (listed.setIfInBounds i true) a w) → K' a w) → Oper.wp P oi a w K' Q)
    (h' : ∀ K' : Act → World → Prop, Shut (∀ a w, S w → (S w → wpAnyH P .any ops Q S fuel (listed.setIfInBounds j true) a w) → K' a w) → Oper.wp P oj a w K' Q) : wpAnyH P .any ops Q S (fuel + 1) listed a w :=
  wpAnyH_ready hr (by simp) (AllReadyH.cons hi (fun K hK => by rw [if_pos (by simp [Region.wanted, hg])]; exact h K hK) (AllReadyH.cons hj (fun K hK => by rw [if_pos (by simp [Region.wanted, hgj])]; exact h' K hK) AllReadyH.nil))
end
set_option maxHeartbeats 6400000 in
set_option maxRecDepth 100000 in
theorem walk (x0 y0 : Int) (x1 y1 : Int) (w : World) (wx0 : (Lit.int .i64 x0).wf = true) (wy0 : (Lit.int .i64 y0).wf = true) (wx1 : (Lit.int .i64 x1).wf = true) (wy1 : (Lit.int .i64 y1).wf = true) :
    Calls Try.prog 8 #[.agg #[.int .i64 x0, .int .i64 y0], .agg #[.int .i64 x1, .int .i64 y1]] w fun e w' => e = .returned (.bool true) ∧ Below w.heap.size w w' := by
  have HSp := Lib.hid (fun W => specOvr_any x0 y0 x1 y1 W)
  have HIm := Lib.hid (fun W => implOvr_any x0 y0 x1 y1 W)
  obtain ⟨vx, h1⟩ : ∃ v, v = ovrX x0 y0 x1 y1 := ⟨_, rfl⟩
  obtain ⟨vy, h2⟩ : ∃ v, v = ovrY x0 y0 x1 y1 := ⟨_, rfl⟩
  obtain ⟨vd, h3⟩ : ∃ v, v = ovrD x0 y0 x1 y1 := ⟨_, rfl⟩
  obtain ⟨vb, h4⟩ : ∃ v, v = nbB x0 y0 x1 y1 := ⟨_, rfl⟩
  rw [← h1, ← h2, ← h3, ← h4] at HSp HIm
  clear h1 h2 h3 h4 wx0 wy0 wx1 wy1
  go_enter Try.func8, Try.ntmps8
  go_upto_region 1 with fail
  go_cut [5, 6] (fun p b wx => ∃ B, p = .pointer (some ⟨B, 0, none⟩) ∧ b = .bool vb ∧ w.heap.size + 2 ≤ B ∧ B < wx.heap.size ∧ wx.cell? ⟨B, 0, none⟩ = some (.int .i64 vx) ∧ wx.cell? ⟨B, 1, none⟩ = some (.int .i64 vy) ∧ wx.cell? ⟨B, 2, none⟩ = some (.bool vd) ∧ wx.cell? ⟨w.heap.size, 0, none⟩ = some (.int .i64 x0) ∧ wx.cell? ⟨w.heap.size, 1, none⟩ = some (.int .i64 y0) ∧ wx.cell? ⟨w.heap.size + 1, 0, none⟩ = some (.int .i64 x1) ∧ wx.cell? ⟨w.heap.size + 1, 1, none⟩ = some (.int .i64 y1) ∧ Below w.heap.size w wx ∧ w.heap.size + 2 ≤ wx.heap.size)
  case first =>
    refine hold_start (S := (fun w' => w'.cell? ⟨w.heap.size, 0, none⟩ = some (.int .i64 x0) ∧ w'.cell? ⟨w.heap.size, 1, none⟩ = some (.int .i64 y0) ∧ w'.cell? ⟨w.heap.size + 1, 0, none⟩ = some (.int .i64 x1) ∧ w'.cell? ⟨w.heap.size + 1, 1, none⟩ = some (.int .i64 y1) ∧ Below w.heap.size w w' ∧ w.heap.size + 2 ≤ w'.heap.size)) (by kernel_rfl) (by kernel_rfl) (by intro _ _ d _ _ h; cases d <;> exact h) ?_ (fun hHC hH0 => ?_)
    · exact ⟨by go_simp, by go_simp, by go_simp, by go_simp, by repeat' (first | assumption | (with_reducible exact Below.refl _ _) | (with_reducible refine Below.drew ?_) | (with_reducible refine Below.alloc ?_ ?_ _) | (with_reducible refine Below.setCell ?_ ?_ _) | omega | (simp; done) | (simp; omega)), by simp⟩
    obtain ⟨w0, hw0⟩ : ∃ w0, w0 = ((w.alloc (.cells #[.int .i64 x0, .int .i64 y0] 45)).alloc (.cells #[.int .i64 x1, .int .i64 y1] 45)).drew := ⟨_, rfl⟩
    rw [← hw0] at hH0 ⊢
    clear hw0
    refine hold_plain 0 (v := ?_) hHC hH0 (by simp only [List.getElem?_toArray, List.getElem?_cons_succ, List.getElem?_cons_zero]; rfl) rfl (by kernel_rfl) ?_ ?_
    rotate_left 1
    · (intro w hSw; (try dsimp only at hSw); go_simp; try with_reducible rfl)
    (try simp only [Act.put, List.setIfInBounds_toArray, List.set_cons_zero, List.set_cons_succ])
    refine hold_plain 2 (v := ?_) hHC hH0 (by simp only [List.getElem?_toArray, List.getElem?_cons_succ, List.getElem?_cons_zero]; rfl) rfl (by kernel_rfl) ?_ ?_
    rotate_left 1
    · (intro w hSw; (try dsimp only at hSw); go_simp; try with_reducible rfl)
    (try simp only [Act.put, List.setIfInBounds_toArray, List.set_cons_zero, List.set_cons_succ])
    refine hold_two 1 8 (by simp only [List.getElem?_toArray, List.getElem?_cons_succ, List.getElem?_cons_zero]; rfl) rfl (by simp only [List.getElem?_toArray, List.getElem?_cons_succ, List.getElem?_cons_zero]; rfl) rfl (by kernel_rfl) (fun K hK => ?_) (fun K hK => ?_)
    · go_simp
      obtain ⟨a0, a1, a2, a3, hB, hs⟩ := id hH0
      go_at_call 30
      refine (toCell_any _ _ _).mono ?_
      rintro e v1 ⟨rfl, hb⟩
      have hz := hb.size
      have hS1 : (fun w' => w'.cell? ⟨w.heap.size, 0, none⟩ = some (.int .i64 x0) ∧ w'.cell? ⟨w.heap.size, 1, none⟩ = some (.int .i64 y0) ∧ w'.cell? ⟨w.heap.size + 1, 0, none⟩ = some (.int .i64 x1) ∧ w'.cell? ⟨w.heap.size + 1, 1, none⟩ = some (.int .i64 y1) ∧ Below w.heap.size w w' ∧ w.heap.size + 2 ≤ w'.heap.size) v1 := ⟨(hb.cell (p := ⟨w.heap.size, 0, none⟩) (by first | omega | (simp; done) | (simp; omega))).trans a0, (hb.cell (p := ⟨w.heap.size, 1, none⟩) (by first | omega | (simp; done) | (simp; omega))).trans a1, (hb.cell (p := ⟨w.heap.size + 1, 0, none⟩) (by first | omega | (simp; done) | (simp; omega))).trans a2, (hb.cell (p := ⟨w.heap.size + 1, 1, none⟩) (by first | omega | (simp; done) | (simp; omega))).trans a3, below_step hb (by omega) hB, by omega⟩
      clear hb hz a0 a1 a2 a3 hB hs
      refine hK.out _ _ ?_ (fun hH1 => ?_)
      · exact hS1
      clear hK K hH0 hS1
      (try simp only [Act.put, List.setIfInBounds_toArray, List.set_cons_zero, List.set_cons_succ])
      refine hold_two 3 8 (by simp only [List.getElem?_toArray, List.getElem?_cons_succ, List.getElem?_cons_zero]; rfl) rfl (by simp only [List.getElem?_toArray, List.getElem?_cons_succ, List.getElem?_cons_zero]; rfl) rfl (by kernel_rfl) (fun K hK => ?_) (fun K hK => ?_)
      · go_simp
        obtain ⟨a0, a1, a2, a3, hB, hs⟩ := id hH1
        go_at_call 30
        refine (toCell_any _ _ _).mono ?_
        rintro e v3 ⟨rfl, hb⟩
        have hz := hb.size
        have hS1 : (fun w' => w'.cell? ⟨w.heap.size, 0, none⟩ = some (.int .i64 x0) ∧ w'.cell? ⟨w.heap.size, 1, none⟩ = some (.int .i64 y0) ∧ w'.cell? ⟨w.heap.size + 1, 0, none⟩ = some (.int .i64 x1) ∧ w'.cell? ⟨w.heap.size + 1, 1, none⟩ = some (.int .i64 y1) ∧ Below w.heap.size w w' ∧ w.heap.size + 2 ≤ w'.heap.size) v3 := ⟨(hb.cell (p := ⟨w.heap.size, 0, none⟩) (by first | omega | (simp; done) | (simp; omega))).trans a0, (hb.cell (p := ⟨w.heap.size, 1, none⟩) (by first | omega | (simp; done) | (simp; omega))).trans a1, (hb.cell (p := ⟨w.heap.size + 1, 0, none⟩) (by first | omega | (simp; done) | (simp; omega))).trans a2, (hb.cell (p := ⟨w.heap.size + 1, 1, none⟩) (by first | omega | (simp; done) | (simp; omega))).trans a3, below_step hb (by omega) hB, by omega⟩
        clear hb hz a0 a1 a2 a3 hB hs
        refine hK.out _ _ ?_ (fun hH2 => ?_)
        · exact hS1
        clear hK K hH1 hS1
        (try simp only [Act.put, List.setIfInBounds_toArray, List.set_cons_zero, List.set_cons_succ])
        refine hold_two 4 8 (by simp only [List.getElem?_toArray, List.getElem?_cons_succ, List.getElem?_cons_zero]; rfl) rfl (by simp only [List.getElem?_toArray, List.getElem?_cons_succ, List.getElem?_cons_zero]; rfl) rfl (by kernel_rfl) (fun K hK => ?_) (fun K hK => ?_)
        · go_simp
          obtain ⟨a0, a1, a2, a3, hB, hs⟩ := id hH2
          go_at_call 32
          refine (HSp.out _).mono ?_
          rintro e v4 ⟨rfl, hb⟩
          have hz := hb.size
          have hS1 : (fun w' => w'.cell? ⟨w.heap.size, 0, none⟩ = some (.int .i64 x0) ∧ w'.cell? ⟨w.heap.size, 1, none⟩ = some (.int .i64 y0) ∧ w'.cell? ⟨w.heap.size + 1, 0, none⟩ = some (.int .i64 x1) ∧ w'.cell? ⟨w.heap.size + 1, 1, none⟩ = some (.int .i64 y1) ∧ Below w.heap.size w w' ∧ w.heap.size + 2 ≤ w'.heap.size) v4 := ⟨(hb.cell (p := ⟨w.heap.size, 0, none⟩) (by first | omega | (simp; done) | (simp; omega))).trans a0, (hb.cell (p := ⟨w.heap.size, 1, none⟩) (by first | omega | (simp; done) | (simp; omega))).trans a1, (hb.cell (p := ⟨w.heap.size + 1, 0, none⟩) (by first | omega | (simp; done) | (simp; omega))).trans a2, (hb.cell (p := ⟨w.heap.size + 1, 1, none⟩) (by first | omega | (simp; done) | (simp; omega))).trans a3, below_step hb (by omega) hB, by omega⟩
          clear hb hz a0 a1 a2 a3 hB hs
          refine hK.out _ _ ?_ (fun hH3 => ?_)
          · exact hS1
          clear hK K hH2 hS1
          (try simp only [Act.put, List.setIfInBounds_toArray, List.set_cons_zero, List.set_cons_succ])
          refine hold_plain 5 (v := ?_) hHC hH3 (by simp only [List.getElem?_toArray, List.getElem?_cons_succ, List.getElem?_cons_zero]; rfl) rfl (by kernel_rfl) ?_ ?_
          rotate_left 1
          · (intro w hSw; (try dsimp only at hSw); go_simp; try with_reducible rfl)
          (try simp only [Act.put, List.setIfInBounds_toArray, List.set_cons_zero, List.set_cons_succ])
          refine hold_plain 6 (v := ?_) hHC hH3 (by simp only [List.getElem?_toArray, List.getElem?_cons_succ, List.getElem?_cons_zero]; rfl) rfl (by kernel_rfl) ?_ ?_
          rotate_left 1
          · (intro w hSw; (try dsimp only at hSw); go_simp; try with_reducible rfl)
          (try simp only [Act.put, List.setIfInBounds_toArray, List.set_cons_zero, List.set_cons_succ])
          refine hold_plain 7 (v := ?_) hHC hH3 (by simp only [List.getElem?_toArray, List.getElem?_cons_succ, List.getElem?_cons_zero]; rfl) rfl (by kernel_rfl) ?_ ?_
          rotate_left 1
          · (intro w hSw; (try dsimp only at hSw); go_simp; try with_reducible rfl)
          (try simp only [Act.put, List.setIfInBounds_toArray, List.set_cons_zero, List.set_cons_succ])
          refine hold_call0 8 (by simp only [List.getElem?_toArray, List.getElem?_cons_succ, List.getElem?_cons_zero]; rfl) rfl (by kernel_rfl) (fun K hK => ?_)
          go_simp
          obtain ⟨a0, a1, a2, a3, hB, hs⟩ := id hH3
          obtain ⟨B, hBq⟩ : ∃ B, B = v4.heap.size := ⟨_, rfl⟩
          obtain ⟨wA, hA⟩ : ∃ wA, wA = v4.alloc (.cells #[.int .i64 0, .int .i64 0, .bool false] 51) := ⟨_, rfl⟩
          rw [← hA, ← hBq]
          have hl : v4.heap.size < wA.heap.size := by rw [hA]; simp
          have k0 : wA.cell? ⟨B, 0, none⟩ = some (.int .i64 0) := by rw [hA, hBq]; simp
          have k1 : wA.cell? ⟨B, 1, none⟩ = some (.int .i64 0) := by rw [hA, hBq]; simp
          have k2 : wA.cell? ⟨B, 2, none⟩ = some (.bool false) := by rw [hA, hBq]; simp
          have f0 : wA.frozen? ⟨B, 0, none⟩ = false := by rw [hA, hBq]; simp
          have f1 : wA.frozen? ⟨B, 1, none⟩ = false := by rw [hA, hBq]; simp
          have f2 : wA.frozen? ⟨B, 2, none⟩ = false := by rw [hA, hBq]; simp
          have hBl : B < wA.heap.size := by omega
          have hBo : w.heap.size + 2 ≤ B := by omega
          have hS1 : (fun w' => w'.cell? ⟨w.heap.size, 0, none⟩ = some (.int .i64 x0) ∧ w'.cell? ⟨w.heap.size, 1, none⟩ = some (.int .i64 y0) ∧ w'.cell? ⟨w.heap.size + 1, 0, none⟩ = some (.int .i64 x1) ∧ w'.cell? ⟨w.heap.size + 1, 1, none⟩ = some (.int .i64 y1) ∧ Below w.heap.size w w' ∧ w.heap.size + 2 ≤ w'.heap.size) wA := ⟨by rw [hA]; exact (World.cell?_alloc_past _ _ _ (by omega)).trans a0, by rw [hA]; exact (World.cell?_alloc_past _ _ _ (by omega)).trans a1, by rw [hA]; exact (World.cell?_alloc_past _ _ _ (by omega)).trans a2, by rw [hA]; exact (World.cell?_alloc_past _ _ _ (by omega)).trans a3, by rw [hA]; exact hB.alloc (by omega) _, by omega⟩
          clear hA hBq hl a0 a1 a2 a3 hB hs
          refine hK.out _ _ ?_ (fun hH4 => ?_)
          · exact hS1
          clear hK K hH3 hS1
          (try simp only [Act.put, List.setIfInBounds_toArray, List.set_cons_zero, List.set_cons_succ])
          refine hold_call0 9 (by simp only [List.getElem?_toArray, List.getElem?_cons_succ, List.getElem?_cons_zero]; rfl) rfl (by kernel_rfl) (fun K hK => ?_)
          go_simp
          obtain ⟨a0, a1, a2, a3, hB, hs⟩ := id hH4
          obtain ⟨wS, hW⟩ : ∃ wS, wS = (((wA.setCell ⟨B, 0, none⟩ (.int .i64 vx)).setCell ⟨B, 1, none⟩ (.int .i64 vy)).setCell ⟨B, 2, none⟩ (.bool vd)) := ⟨_, rfl⟩
          rw [← hW]
          have q0 : wS.cell? ⟨B, 0, none⟩ = some (.int .i64 vx) := by rw [hW]; go_simp
          have q1 : wS.cell? ⟨B, 1, none⟩ = some (.int .i64 vy) := by rw [hW]; go_simp
          have q2 : wS.cell? ⟨B, 2, none⟩ = some (.bool vd) := by rw [hW]; go_simp
          have hS1 : (fun w' => w'.cell? ⟨w.heap.size, 0, none⟩ = some (.int .i64 x0) ∧ w'.cell? ⟨w.heap.size, 1, none⟩ = some (.int .i64 y0) ∧ w'.cell? ⟨w.heap.size + 1, 0, none⟩ = some (.int .i64 x1) ∧ w'.cell? ⟨w.heap.size + 1, 1, none⟩ = some (.int .i64 y1) ∧ Below w.heap.size w w' ∧ w.heap.size + 2 ≤ w'.heap.size) wS := ⟨by rw [hW]; go_simp, by rw [hW]; go_simp, by rw [hW]; go_simp, by rw [hW]; go_simp, by rw [hW]; exact ((hB.setCell (by simp; omega) _).setCell (by simp; omega) _).setCell (by simp; omega) _, by rw [hW]; simpa using hs⟩
          replace hBl : B < wS.heap.size := by rw [hW]; simpa using hBl
          clear hW a0 a1 a2 a3 hB hs
          refine hK.out _ _ ?_ (fun hH5 => ?_)
          · exact hS1
          clear hK K hH4 hS1
          (try simp only [Act.put, List.setIfInBounds_toArray, List.set_cons_zero, List.set_cons_succ])
          refine hold_plain 10 (v := ?_) hHC hH5 (by simp only [List.getElem?_toArray, List.getElem?_cons_succ, List.getElem?_cons_zero]; rfl) rfl (by kernel_rfl) ?_ ?_
          rotate_left 1
          · (intro w hSw; (try dsimp only at hSw); go_simp; try with_reducible rfl)
          (try simp only [Act.put, List.setIfInBounds_toArray, List.set_cons_zero, List.set_cons_succ])
          refine wpAnyH_done (by kernel_rfl) ?_ _
          obtain ⟨a0, a1, a2, a3, hB, hs⟩ := id hH5
          clear hHC
          go_wp2_with fail
          go_meet
          exact ⟨B, rfl, rfl, hBo, hBl, q0, q1, q2, a0, a1, a2, a3, hB, hs⟩
        · go_simp
          obtain ⟨a0, a1, a2, a3, hB, hs⟩ := id hH2
          obtain ⟨B, hBq⟩ : ∃ B, B = v3.heap.size := ⟨_, rfl⟩
          obtain ⟨wA, hA⟩ : ∃ wA, wA = v3.alloc (.cells #[.int .i64 0, .int .i64 0, .bool false] 51) := ⟨_, rfl⟩
          rw [← hA, ← hBq]
          have hl : v3.heap.size < wA.heap.size := by rw [hA]; simp
          have k0 : wA.cell? ⟨B, 0, none⟩ = some (.int .i64 0) := by rw [hA, hBq]; simp
          have k1 : wA.cell? ⟨B, 1, none⟩ = some (.int .i64 0) := by rw [hA, hBq]; simp
          have k2 : wA.cell? ⟨B, 2, none⟩ = some (.bool false) := by rw [hA, hBq]; simp
          have f0 : wA.frozen? ⟨B, 0, none⟩ = false := by rw [hA, hBq]; simp
          have f1 : wA.frozen? ⟨B, 1, none⟩ = false := by rw [hA, hBq]; simp
          have f2 : wA.frozen? ⟨B, 2, none⟩ = false := by rw [hA, hBq]; simp
          have hBl : B < wA.heap.size := by omega
          have hBo : w.heap.size + 2 ≤ B := by omega
          have hS1 : (fun w' => w'.cell? ⟨w.heap.size, 0, none⟩ = some (.int .i64 x0) ∧ w'.cell? ⟨w.heap.size, 1, none⟩ = some (.int .i64 y0) ∧ w'.cell? ⟨w.heap.size + 1, 0, none⟩ = some (.int .i64 x1) ∧ w'.cell? ⟨w.heap.size + 1, 1, none⟩ = some (.int .i64 y1) ∧ Below w.heap.size w w' ∧ w.heap.size + 2 ≤ w'.heap.size) wA := ⟨by rw [hA]; exact (World.cell?_alloc_past _ _ _ (by omega)).trans a0, by rw [hA]; exact (World.cell?_alloc_past _ _ _ (by omega)).trans a1, by rw [hA]; exact (World.cell?_alloc_past _ _ _ (by omega)).trans a2, by rw [hA]; exact (World.cell?_alloc_past _ _ _ (by omega)).trans a3, by rw [hA]; exact hB.alloc (by omega) _, by omega⟩
          clear hA hBq hl a0 a1 a2 a3 hB hs
          refine hK.out _ _ ?_ (fun hH3 => ?_)
          · exact hS1
          clear hK K hH2 hS1
          (try simp only [Act.put, List.setIfInBounds_toArray, List.set_cons_zero, List.set_cons_succ])
          refine hold_call0 4 (by simp only [List.getElem?_toArray, List.getElem?_cons_succ, List.getElem?_cons_zero]; rfl) rfl (by kernel_rfl) (fun K hK => ?_)
          go_simp
          obtain ⟨a0, a1, a2, a3, hB, hs⟩ := id hH3
          go_at_call 32
          refine (HSp.out _).mono ?_
          rintro e v4 ⟨rfl, hb⟩
          have hz := hb.size
          have hS1 : (fun w' => w'.cell? ⟨w.heap.size, 0, none⟩ = some (.int .i64 x0) ∧ w'.cell? ⟨w.heap.size, 1, none⟩ = some (.int .i64 y0) ∧ w'.cell? ⟨w.heap.size + 1, 0, none⟩ = some (.int .i64 x1) ∧ w'.cell? ⟨w.heap.size + 1, 1, none⟩ = some (.int .i64 y1) ∧ Below w.heap.size w w' ∧ w.heap.size + 2 ≤ w'.heap.size) v4 := ⟨(hb.cell (p := ⟨w.heap.size, 0, none⟩) (by first | omega | (simp; done) | (simp; omega))).trans a0, (hb.cell (p := ⟨w.heap.size, 1, none⟩) (by first | omega | (simp; done) | (simp; omega))).trans a1, (hb.cell (p := ⟨w.heap.size + 1, 0, none⟩) (by first | omega | (simp; done) | (simp; omega))).trans a2, (hb.cell (p := ⟨w.heap.size + 1, 1, none⟩) (by first | omega | (simp; done) | (simp; omega))).trans a3, below_step hb (by omega) hB, by omega⟩
          replace k0 : v4.cell? ⟨B, 0, none⟩ = some (.int .i64 0) := (hb.cell (p := ⟨B, 0, none⟩) (by first | omega | (simp; done) | (simp; omega))).trans k0
          replace k1 : v4.cell? ⟨B, 1, none⟩ = some (.int .i64 0) := (hb.cell (p := ⟨B, 1, none⟩) (by first | omega | (simp; done) | (simp; omega))).trans k1
          replace k2 : v4.cell? ⟨B, 2, none⟩ = some (.bool false) := (hb.cell (p := ⟨B, 2, none⟩) (by first | omega | (simp; done) | (simp; omega))).trans k2
          replace f0 : v4.frozen? ⟨B, 0, none⟩ = false := (hb.frozen (p := ⟨B, 0, none⟩) (by first | omega | (simp; done) | (simp; omega))).trans f0
          replace f1 : v4.frozen? ⟨B, 1, none⟩ = false := (hb.frozen (p := ⟨B, 1, none⟩) (by first | omega | (simp; done) | (simp; omega))).trans f1
          replace f2 : v4.frozen? ⟨B, 2, none⟩ = false := (hb.frozen (p := ⟨B, 2, none⟩) (by first | omega | (simp; done) | (simp; omega))).trans f2
          replace hBl : B < v4.heap.size := by omega
          clear hb hz a0 a1 a2 a3 hB hs
          refine hK.out _ _ ?_ (fun hH4 => ?_)
          · exact hS1
          clear hK K hH3 hS1
          (try simp only [Act.put, List.setIfInBounds_toArray, List.set_cons_zero, List.set_cons_succ])
          refine hold_plain 5 (v := ?_) hHC hH4 (by simp only [List.getElem?_toArray, List.getElem?_cons_succ, List.getElem?_cons_zero]; rfl) rfl (by kernel_rfl) ?_ ?_
          rotate_left 1
          · (intro w hSw; (try dsimp only at hSw); go_simp; try with_reducible rfl)
          (try simp only [Act.put, List.setIfInBounds_toArray, List.set_cons_zero, List.set_cons_succ])
          refine hold_plain 6 (v := ?_) hHC hH4 (by simp only [List.getElem?_toArray, List.getElem?_cons_succ, List.getElem?_cons_zero]; rfl) rfl (by kernel_rfl) ?_ ?_
          rotate_left 1
          · (intro w hSw; (try dsimp only at hSw); go_simp; try with_reducible rfl)
          (try simp only [Act.put, List.setIfInBounds_toArray, List.set_cons_zero, List.set_cons_succ])
          refine hold_plain 7 (v := ?_) hHC hH4 (by simp only [List.getElem?_toArray, List.getElem?_cons_succ, List.getElem?_cons_zero]; rfl) rfl (by kernel_rfl) ?_ ?_
          rotate_left 1
          · (intro w hSw; (try dsimp only at hSw); go_simp; try with_reducible rfl)
          (try simp only [Act.put, List.setIfInBounds_toArray, List.set_cons_zero, List.set_cons_succ])
          refine hold_call0 9 (by simp only [List.getElem?_toArray, List.getElem?_cons_succ, List.getElem?_cons_zero]; rfl) rfl (by kernel_rfl) (fun K hK => ?_)
          go_simp
          obtain ⟨a0, a1, a2, a3, hB, hs⟩ := id hH4
          obtain ⟨wS, hW⟩ : ∃ wS, wS = (((v4.setCell ⟨B, 0, none⟩ (.int .i64 vx)).setCell ⟨B, 1, none⟩ (.int .i64 vy)).setCell ⟨B, 2, none⟩ (.bool vd)) := ⟨_, rfl⟩
          rw [← hW]
          have q0 : wS.cell? ⟨B, 0, none⟩ = some (.int .i64 vx) := by rw [hW]; go_simp
          have q1 : wS.cell? ⟨B, 1, none⟩ = some (.int .i64 vy) := by rw [hW]; go_simp
          have q2 : wS.cell? ⟨B, 2, none⟩ = some (.bool vd) := by rw [hW]; go_simp
          have hS1 : (fun w' => w'.cell? ⟨w.heap.size, 0, none⟩ = some (.int .i64 x0) ∧ w'.cell? ⟨w.heap.size, 1, none⟩ = some (.int .i64 y0) ∧ w'.cell? ⟨w.heap.size + 1, 0, none⟩ = some (.int .i64 x1) ∧ w'.cell? ⟨w.heap.size + 1, 1, none⟩ = some (.int .i64 y1) ∧ Below w.heap.size w w' ∧ w.heap.size + 2 ≤ w'.heap.size) wS := ⟨by rw [hW]; go_simp, by rw [hW]; go_simp, by rw [hW]; go_simp, by rw [hW]; go_simp, by rw [hW]; exact ((hB.setCell (by simp; omega) _).setCell (by simp; omega) _).setCell (by simp; omega) _, by rw [hW]; simpa using hs⟩
          replace hBl : B < wS.heap.size := by rw [hW]; simpa using hBl
          clear hW a0 a1 a2 a3 hB hs
          refine hK.out _ _ ?_ (fun hH5 => ?_)
          · exact hS1
          clear hK K hH4 hS1
          (try simp only [Act.put, List.setIfInBounds_toArray, List.set_cons_zero, List.set_cons_succ])
          refine hold_plain 10 (v := ?_) hHC hH5 (by simp only [List.getElem?_toArray, List.getElem?_cons_succ, List.getElem?_cons_zero]; rfl) rfl (by kernel_rfl) ?_ ?_
          rotate_left 1
          · (intro w hSw; (try dsimp only at hSw); go_simp; try with_reducible rfl)
          (try simp only [Act.put, List.setIfInBounds_toArray, List.set_cons_zero, List.set_cons_succ])
          refine wpAnyH_done (by kernel_rfl) ?_ _
          obtain ⟨a0, a1, a2, a3, hB, hs⟩ := id hH5
          clear hHC
          go_wp2_with fail
          go_meet
          exact ⟨B, rfl, rfl, hBo, hBl, q0, q1, q2, a0, a1, a2, a3, hB, hs⟩
      · go_simp
        obtain ⟨a0, a1, a2, a3, hB, hs⟩ := id hH1
        obtain ⟨B, hBq⟩ : ∃ B, B = v1.heap.size := ⟨_, rfl⟩
        obtain ⟨wA, hA⟩ : ∃ wA, wA = v1.alloc (.cells #[.int .i64 0, .int .i64 0, .bool false] 51) := ⟨_, rfl⟩
        rw [← hA, ← hBq]
        have hl : v1.heap.size < wA.heap.size := by rw [hA]; simp
        have k0 : wA.cell? ⟨B, 0, none⟩ = some (.int .i64 0) := by rw [hA, hBq]; simp
        have k1 : wA.cell? ⟨B, 1, none⟩ = some (.int .i64 0) := by rw [hA, hBq]; simp
        have k2 : wA.cell? ⟨B, 2, none⟩ = some (.bool false) := by rw [hA, hBq]; simp
        have f0 : wA.frozen? ⟨B, 0, none⟩ = false := by rw [hA, hBq]; simp
        have f1 : wA.frozen? ⟨B, 1, none⟩ = false := by rw [hA, hBq]; simp
        have f2 : wA.frozen? ⟨B, 2, none⟩ = false := by rw [hA, hBq]; simp
        have hBl : B < wA.heap.size := by omega
        have hBo : w.heap.size + 2 ≤ B := by omega
        have hS1 : (fun w' => w'.cell? ⟨w.heap.size, 0, none⟩ = some (.int .i64 x0) ∧ w'.cell? ⟨w.heap.size, 1, none⟩ = some (.int .i64 y0) ∧ w'.cell? ⟨w.heap.size + 1, 0, none⟩ = some (.int .i64 x1) ∧ w'.cell? ⟨w.heap.size + 1, 1, none⟩ = some (.int .i64 y1) ∧ Below w.heap.size w w' ∧ w.heap.size + 2 ≤ w'.heap.size) wA := ⟨by rw [hA]; exact (World.cell?_alloc_past _ _ _ (by omega)).trans a0, by rw [hA]; exact (World.cell?_alloc_past _ _ _ (by omega)).trans a1, by rw [hA]; exact (World.cell?_alloc_past _ _ _ (by omega)).trans a2, by rw [hA]; exact (World.cell?_alloc_past _ _ _ (by omega)).trans a3, by rw [hA]; exact hB.alloc (by omega) _, by omega⟩
        clear hA hBq hl a0 a1 a2 a3 hB hs
        refine hK.out _ _ ?_ (fun hH2 => ?_)
        · exact hS1
        clear hK K hH1 hS1
        (try simp only [Act.put, List.setIfInBounds_toArray, List.set_cons_zero, List.set_cons_succ])
        refine hold_call0 3 (by simp only [List.getElem?_toArray, List.getElem?_cons_succ, List.getElem?_cons_zero]; rfl) rfl (by kernel_rfl) (fun K hK => ?_)
        go_simp
        obtain ⟨a0, a1, a2, a3, hB, hs⟩ := id hH2
        go_at_call 30
        refine (toCell_any _ _ _).mono ?_
        rintro e v3 ⟨rfl, hb⟩
        have hz := hb.size
        have hS1 : (fun w' => w'.cell? ⟨w.heap.size, 0, none⟩ = some (.int .i64 x0) ∧ w'.cell? ⟨w.heap.size, 1, none⟩ = some (.int .i64 y0) ∧ w'.cell? ⟨w.heap.size + 1, 0, none⟩ = some (.int .i64 x1) ∧ w'.cell? ⟨w.heap.size + 1, 1, none⟩ = some (.int .i64 y1) ∧ Below w.heap.size w w' ∧ w.heap.size + 2 ≤ w'.heap.size) v3 := ⟨(hb.cell (p := ⟨w.heap.size, 0, none⟩) (by first | omega | (simp; done) | (simp; omega))).trans a0, (hb.cell (p := ⟨w.heap.size, 1, none⟩) (by first | omega | (simp; done) | (simp; omega))).trans a1, (hb.cell (p := ⟨w.heap.size + 1, 0, none⟩) (by first | omega | (simp; done) | (simp; omega))).trans a2, (hb.cell (p := ⟨w.heap.size + 1, 1, none⟩) (by first | omega | (simp; done) | (simp; omega))).trans a3, below_step hb (by omega) hB, by omega⟩
        replace k0 : v3.cell? ⟨B, 0, none⟩ = some (.int .i64 0) := (hb.cell (p := ⟨B, 0, none⟩) (by first | omega | (simp; done) | (simp; omega))).trans k0
        replace k1 : v3.cell? ⟨B, 1, none⟩ = some (.int .i64 0) := (hb.cell (p := ⟨B, 1, none⟩) (by first | omega | (simp; done) | (simp; omega))).trans k1
        replace k2 : v3.cell? ⟨B, 2, none⟩ = some (.bool false) := (hb.cell (p := ⟨B, 2, none⟩) (by first | omega | (simp; done) | (simp; omega))).trans k2
        replace f0 : v3.frozen? ⟨B, 0, none⟩ = false := (hb.frozen (p := ⟨B, 0, none⟩) (by first | omega | (simp; done) | (simp; omega))).trans f0
        replace f1 : v3.frozen? ⟨B, 1, none⟩ = false := (hb.frozen (p := ⟨B, 1, none⟩) (by first | omega | (simp; done) | (simp; omega))).trans f1
        replace f2 : v3.frozen? ⟨B, 2, none⟩ = false := (hb.frozen (p := ⟨B, 2, none⟩) (by first | omega | (simp; done) | (simp; omega))).trans f2
        replace hBl : B < v3.heap.size := by omega
        clear hb hz a0 a1 a2 a3 hB hs
        refine hK.out _ _ ?_ (fun hH3 => ?_)
        · exact hS1
        clear hK K hH2 hS1
        (try simp only [Act.put, List.setIfInBounds_toArray, List.set_cons_zero, List.set_cons_succ])
        refine hold_call0 4 (by simp only [List.getElem?_toArray, List.getElem?_cons_succ, List.getElem?_cons_zero]; rfl) rfl (by kernel_rfl) (fun K hK => ?_)
        go_simp
        obtain ⟨a0, a1, a2, a3, hB, hs⟩ := id hH3
        go_at_call 32
        refine (HSp.out _).mono ?_
        rintro e v4 ⟨rfl, hb⟩
        have hz := hb.size
        have hS1 : (fun w' => w'.cell? ⟨w.heap.size, 0, none⟩ = some (.int .i64 x0) ∧ w'.cell? ⟨w.heap.size, 1, none⟩ = some (.int .i64 y0) ∧ w'.cell? ⟨w.heap.size + 1, 0, none⟩ = some (.int .i64 x1) ∧ w'.cell? ⟨w.heap.size + 1, 1, none⟩ = some (.int .i64 y1) ∧ Below w.heap.size w w' ∧ w.heap.size + 2 ≤ w'.heap.size) v4 := ⟨(hb.cell (p := ⟨w.heap.size, 0, none⟩) (by first | omega | (simp; done) | (simp; omega))).trans a0, (hb.cell (p := ⟨w.heap.size, 1, none⟩) (by first | omega | (simp; done) | (simp; omega))).trans a1, (hb.cell (p := ⟨w.heap.size + 1, 0, none⟩) (by first | omega | (simp; done) | (simp; omega))).trans a2, (hb.cell (p := ⟨w.heap.size + 1, 1, none⟩) (by first | omega | (simp; done) | (simp; omega))).trans a3, below_step hb (by omega) hB, by omega⟩
        replace k0 : v4.cell? ⟨B, 0, none⟩ = some (.int .i64 0) := (hb.cell (p := ⟨B, 0, none⟩) (by first | omega | (simp; done) | (simp; omega))).trans k0
        replace k1 : v4.cell? ⟨B, 1, none⟩ = some (.int .i64 0) := (hb.cell (p := ⟨B, 1, none⟩) (by first | omega | (simp; done) | (simp; omega))).trans k1
        replace k2 : v4.cell? ⟨B, 2, none⟩ = some (.bool false) := (hb.cell (p := ⟨B, 2, none⟩) (by first | omega | (simp; done) | (simp; omega))).trans k2
        replace f0 : v4.frozen? ⟨B, 0, none⟩ = false := (hb.frozen (p := ⟨B, 0, none⟩) (by first | omega | (simp; done) | (simp; omega))).trans f0
        replace f1 : v4.frozen? ⟨B, 1, none⟩ = false := (hb.frozen (p := ⟨B, 1, none⟩) (by first | omega | (simp; done) | (simp; omega))).trans f1
        replace f2 : v4.frozen? ⟨B, 2, none⟩ = false := (hb.frozen (p := ⟨B, 2, none⟩) (by first | omega | (simp; done) | (simp; omega))).trans f2
        replace hBl : B < v4.heap.size := by omega
        clear hb hz a0 a1 a2 a3 hB hs
        refine hK.out _ _ ?_ (fun hH4 => ?_)
        · exact hS1
        clear hK K hH3 hS1
        (try simp only [Act.put, List.setIfInBounds_toArray, List.set_cons_zero, List.set_cons_succ])
        refine hold_plain 5 (v := ?_) hHC hH4 (by simp only [List.getElem?_toArray, List.getElem?_cons_succ, List.getElem?_cons_zero]; rfl) rfl (by kernel_rfl) ?_ ?_
        rotate_left 1
        · (intro w hSw; (try dsimp only at hSw); go_simp; try with_reducible rfl)
        (try simp only [Act.put, List.setIfInBounds_toArray, List.set_cons_zero, List.set_cons_succ])
        refine hold_plain 6 (v := ?_) hHC hH4 (by simp only [List.getElem?_toArray, List.getElem?_cons_succ, List.getElem?_cons_zero]; rfl) rfl (by kernel_rfl) ?_ ?_
        rotate_left 1
        · (intro w hSw; (try dsimp only at hSw); go_simp; try with_reducible rfl)
        (try simp only [Act.put, List.setIfInBounds_toArray, List.set_cons_zero, List.set_cons_succ])
        refine hold_plain 7 (v := ?_) hHC hH4 (by simp only [List.getElem?_toArray, List.getElem?_cons_succ, List.getElem?_cons_zero]; rfl) rfl (by kernel_rfl) ?_ ?_
        rotate_left 1
        · (intro w hSw; (try dsimp only at hSw); go_simp; try with_reducible rfl)
        (try simp only [Act.put, List.setIfInBounds_toArray, List.set_cons_zero, List.set_cons_succ])
        refine hold_call0 9 (by simp only [List.getElem?_toArray, List.getElem?_cons_succ, List.getElem?_cons_zero]; rfl) rfl (by kernel_rfl) (fun K hK => ?_)
        go_simp
        obtain ⟨a0, a1, a2, a3, hB, hs⟩ := id hH4
        obtain ⟨wS, hW⟩ : ∃ wS, wS = (((v4.setCell ⟨B, 0, none⟩ (.int .i64 vx)).setCell ⟨B, 1, none⟩ (.int .i64 vy)).setCell ⟨B, 2, none⟩ (.bool vd)) := ⟨_, rfl⟩
        rw [← hW]
        have q0 : wS.cell? ⟨B, 0, none⟩ = some (.int .i64 vx) := by rw [hW]; go_simp
        have q1 : wS.cell? ⟨B, 1, none⟩ = some (.int .i64 vy) := by rw [hW]; go_simp
        have q2 : wS.cell? ⟨B, 2, none⟩ = some (.bool vd) := by rw [hW]; go_simp
        have hS1 : (fun w' => w'.cell? ⟨w.heap.size, 0, none⟩ = some (.int .i64 x0) ∧ w'.cell? ⟨w.heap.size, 1, none⟩ = some (.int .i64 y0) ∧ w'.cell? ⟨w.heap.size + 1, 0, none⟩ = some (.int .i64 x1) ∧ w'.cell? ⟨w.heap.size + 1, 1, none⟩ = some (.int .i64 y1) ∧ Below w.heap.size w w' ∧ w.heap.size + 2 ≤ w'.heap.size) wS := ⟨by rw [hW]; go_simp, by rw [hW]; go_simp, by rw [hW]; go_simp, by rw [hW]; go_simp, by rw [hW]; exact ((hB.setCell (by simp; omega) _).setCell (by simp; omega) _).setCell (by simp; omega) _, by rw [hW]; simpa using hs⟩
        replace hBl : B < wS.heap.size := by rw [hW]; simpa using hBl
        clear hW a0 a1 a2 a3 hB hs
        refine hK.out _ _ ?_ (fun hH5 => ?_)
        · exact hS1
        clear hK K hH4 hS1
        (try simp only [Act.put, List.setIfInBounds_toArray, List.set_cons_zero, List.set_cons_succ])
        refine hold_plain 10 (v := ?_) hHC hH5 (by simp only [List.getElem?_toArray, List.getElem?_cons_succ, List.getElem?_cons_zero]; rfl) rfl (by kernel_rfl) ?_ ?_
        rotate_left 1
        · (intro w hSw; (try dsimp only at hSw); go_simp; try with_reducible rfl)
        (try simp only [Act.put, List.setIfInBounds_toArray, List.set_cons_zero, List.set_cons_succ])
        refine wpAnyH_done (by kernel_rfl) ?_ _
        obtain ⟨a0, a1, a2, a3, hB, hs⟩ := id hH5
        clear hHC
        go_wp2_with fail
        go_meet
        exact ⟨B, rfl, rfl, hBo, hBl, q0, q1, q2, a0, a1, a2, a3, hB, hs⟩
    · go_simp
      obtain ⟨a0, a1, a2, a3, hB, hs⟩ := id hH0
      obtain ⟨B, hBq⟩ : ∃ B, B = w0.heap.size := ⟨_, rfl⟩
      obtain ⟨wA, hA⟩ : ∃ wA, wA = w0.alloc (.cells #[.int .i64 0, .int .i64 0, .bool false] 51) := ⟨_, rfl⟩
      rw [← hA, ← hBq]
      have hl : w0.heap.size < wA.heap.size := by rw [hA]; simp
      have k0 : wA.cell? ⟨B, 0, none⟩ = some (.int .i64 0) := by rw [hA, hBq]; simp
      have k1 : wA.cell? ⟨B, 1, none⟩ = some (.int .i64 0) := by rw [hA, hBq]; simp
      have k2 : wA.cell? ⟨B, 2, none⟩ = some (.bool false) := by rw [hA, hBq]; simp
      have f0 : wA.frozen? ⟨B, 0, none⟩ = false := by rw [hA, hBq]; simp
      have f1 : wA.frozen? ⟨B, 1, none⟩ = false := by rw [hA, hBq]; simp
      have f2 : wA.frozen? ⟨B, 2, none⟩ = false := by rw [hA, hBq]; simp
      have hBl : B < wA.heap.size := by omega
      have hBo : w.heap.size + 2 ≤ B := by omega
      have hS1 : (fun w' => w'.cell? ⟨w.heap.size, 0, none⟩ = some (.int .i64 x0) ∧ w'.cell? ⟨w.heap.size, 1, none⟩ = some (.int .i64 y0) ∧ w'.cell? ⟨w.heap.size + 1, 0, none⟩ = some (.int .i64 x1) ∧ w'.cell? ⟨w.heap.size + 1, 1, none⟩ = some (.int .i64 y1) ∧ Below w.heap.size w w' ∧ w.heap.size + 2 ≤ w'.heap.size) wA := ⟨by rw [hA]; exact (World.cell?_alloc_past _ _ _ (by omega)).trans a0, by rw [hA]; exact (World.cell?_alloc_past _ _ _ (by omega)).trans a1, by rw [hA]; exact (World.cell?_alloc_past _ _ _ (by omega)).trans a2, by rw [hA]; exact (World.cell?_alloc_past _ _ _ (by omega)).trans a3, by rw [hA]; exact hB.alloc (by omega) _, by omega⟩
      clear hA hBq hl a0 a1 a2 a3 hB hs
      refine hK.out _ _ ?_ (fun hH1 => ?_)
      · exact hS1
      clear hK K hH0 hS1
      (try simp only [Act.put, List.setIfInBounds_toArray, List.set_cons_zero, List.set_cons_succ])
      refine hold_call0 1 (by simp only [List.getElem?_toArray, List.getElem?_cons_succ, List.getElem?_cons_zero]; rfl) rfl (by kernel_rfl) (fun K hK => ?_)
      go_simp
      obtain ⟨a0, a1, a2, a3, hB, hs⟩ := id hH1
      go_at_call 30
      refine (toCell_any _ _ _).mono ?_
      rintro e v1 ⟨rfl, hb⟩
      have hz := hb.size
      have hS1 : (fun w' => w'.cell? ⟨w.heap.size, 0, none⟩ = some (.int .i64 x0) ∧ w'.cell? ⟨w.heap.size, 1, none⟩ = some (.int .i64 y0) ∧ w'.cell? ⟨w.heap.size + 1, 0, none⟩ = some (.int .i64 x1) ∧ w'.cell? ⟨w.heap.size + 1, 1, none⟩ = some (.int .i64 y1) ∧ Below w.heap.size w w' ∧ w.heap.size + 2 ≤ w'.heap.size) v1 := ⟨(hb.cell (p := ⟨w.heap.size, 0, none⟩) (by first | omega | (simp; done) | (simp; omega))).trans a0, (hb.cell (p := ⟨w.heap.size, 1, none⟩) (by first | omega | (simp; done) | (simp; omega))).trans a1, (hb.cell (p := ⟨w.heap.size + 1, 0, none⟩) (by first | omega | (simp; done) | (simp; omega))).trans a2, (hb.cell (p := ⟨w.heap.size + 1, 1, none⟩) (by first | omega | (simp; done) | (simp; omega))).trans a3, below_step hb (by omega) hB, by omega⟩
      replace k0 : v1.cell? ⟨B, 0, none⟩ = some (.int .i64 0) := (hb.cell (p := ⟨B, 0, none⟩) (by first | omega | (simp; done) | (simp; omega))).trans k0
      replace k1 : v1.cell? ⟨B, 1, none⟩ = some (.int .i64 0) := (hb.cell (p := ⟨B, 1, none⟩) (by first | omega | (simp; done) | (simp; omega))).trans k1
      replace k2 : v1.cell? ⟨B, 2, none⟩ = some (.bool false) := (hb.cell (p := ⟨B, 2, none⟩) (by first | omega | (simp; done) | (simp; omega))).trans k2
      replace f0 : v1.frozen? ⟨B, 0, none⟩ = false := (hb.frozen (p := ⟨B, 0, none⟩) (by first | omega | (simp; done) | (simp; omega))).trans f0
      replace f1 : v1.frozen? ⟨B, 1, none⟩ = false := (hb.frozen (p := ⟨B, 1, none⟩) (by first | omega | (simp; done) | (simp; omega))).trans f1
      replace f2 : v1.frozen? ⟨B, 2, none⟩ = false := (hb.frozen (p := ⟨B, 2, none⟩) (by first | omega | (simp; done) | (simp; omega))).trans f2
      replace hBl : B < v1.heap.size := by omega
      clear hb hz a0 a1 a2 a3 hB hs
      refine hK.out _ _ ?_ (fun hH2 => ?_)
      · exact hS1
      clear hK K hH1 hS1
      (try simp only [Act.put, List.setIfInBounds_toArray, List.set_cons_zero, List.set_cons_succ])
      refine hold_call0 3 (by simp only [List.getElem?_toArray, List.getElem?_cons_succ, List.getElem?_cons_zero]; rfl) rfl (by kernel_rfl) (fun K hK => ?_)
      go_simp
      obtain ⟨a0, a1, a2, a3, hB, hs⟩ := id hH2
      go_at_call 30
      refine (toCell_any _ _ _).mono ?_
      rintro e v3 ⟨rfl, hb⟩
      have hz := hb.size
      have hS1 : (fun w' => w'.cell? ⟨w.heap.size, 0, none⟩ = some (.int .i64 x0) ∧ w'.cell? ⟨w.heap.size, 1, none⟩ = some (.int .i64 y0) ∧ w'.cell? ⟨w.heap.size + 1, 0, none⟩ = some (.int .i64 x1) ∧ w'.cell? ⟨w.heap.size + 1, 1, none⟩ = some (.int .i64 y1) ∧ Below w.heap.size w w' ∧ w.heap.size + 2 ≤ w'.heap.size) v3 := ⟨(hb.cell (p := ⟨w.heap.size, 0, none⟩) (by first | omega | (simp; done) | (simp; omega))).trans a0, (hb.cell (p := ⟨w.heap.size, 1, none⟩) (by first | omega | (simp; done) | (simp; omega))).trans a1, (hb.cell (p := ⟨w.heap.size + 1, 0, none⟩) (by first | omega | (simp; done) | (simp; omega))).trans a2, (hb.cell (p := ⟨w.heap.size + 1, 1, none⟩) (by first | omega | (simp; done) | (simp; omega))).trans a3, below_step hb (by omega) hB, by omega⟩
      replace k0 : v3.cell? ⟨B, 0, none⟩ = some (.int .i64 0) := (hb.cell (p := ⟨B, 0, none⟩) (by first | omega | (simp; done) | (simp; omega))).trans k0
      replace k1 : v3.cell? ⟨B, 1, none⟩ = some (.int .i64 0) := (hb.cell (p := ⟨B, 1, none⟩) (by first | omega | (simp; done) | (simp; omega))).trans k1
      replace k2 : v3.cell? ⟨B, 2, none⟩ = some (.bool false) := (hb.cell (p := ⟨B, 2, none⟩) (by first | omega | (simp; done) | (simp; omega))).trans k2
      replace f0 : v3.frozen? ⟨B, 0, none⟩ = false := (hb.frozen (p := ⟨B, 0, none⟩) (by first | omega | (simp; done) | (simp; omega))).trans f0
      replace f1 : v3.frozen? ⟨B, 1, none⟩ = false := (hb.frozen (p := ⟨B, 1, none⟩) (by first | omega | (simp; done) | (simp; omega))).trans f1
      replace f2 : v3.frozen? ⟨B, 2, none⟩ = false := (hb.frozen (p := ⟨B, 2, none⟩) (by first | omega | (simp; done) | (simp; omega))).trans f2
      replace hBl : B < v3.heap.size := by omega
      clear hb hz a0 a1 a2 a3 hB hs
      refine hK.out _ _ ?_ (fun hH3 => ?_)
      · exact hS1
      clear hK K hH2 hS1
      (try simp only [Act.put, List.setIfInBounds_toArray, List.set_cons_zero, List.set_cons_succ])
      refine hold_call0 4 (by simp only [List.getElem?_toArray, List.getElem?_cons_succ, List.getElem?_cons_zero]; rfl) rfl (by kernel_rfl) (fun K hK => ?_)
      go_simp
      obtain ⟨a0, a1, a2, a3, hB, hs⟩ := id hH3
      go_at_call 32
      refine (HSp.out _).mono ?_
      rintro e v4 ⟨rfl, hb⟩
      have hz := hb.size
      have hS1 : (fun w' => w'.cell? ⟨w.heap.size, 0, none⟩ = some (.int .i64 x0) ∧ w'.cell? ⟨w.heap.size, 1, none⟩ = some (.int .i64 y0) ∧ w'.cell? ⟨w.heap.size + 1, 0, none⟩ = some (.int .i64 x1) ∧ w'.cell? ⟨w.heap.size + 1, 1, none⟩ = some (.int .i64 y1) ∧ Below w.heap.size w w' ∧ w.heap.size + 2 ≤ w'.heap.size) v4 := ⟨(hb.cell (p := ⟨w.heap.size, 0, none⟩) (by first | omega | (simp; done) | (simp; omega))).trans a0, (hb.cell (p := ⟨w.heap.size, 1, none⟩) (by first | omega | (simp; done) | (simp; omega))).trans a1, (hb.cell (p := ⟨w.heap.size + 1, 0, none⟩) (by first | omega | (simp; done) | (simp; omega))).trans a2, (hb.cell (p := ⟨w.heap.size + 1, 1, none⟩) (by first | omega | (simp; done) | (simp; omega))).trans a3, below_step hb (by omega) hB, by omega⟩
      replace k0 : v4.cell? ⟨B, 0, none⟩ = some (.int .i64 0) := (hb.cell (p := ⟨B, 0, none⟩) (by first | omega | (simp; done) | (simp; omega))).trans k0
      replace k1 : v4.cell? ⟨B, 1, none⟩ = some (.int .i64 0) := (hb.cell (p := ⟨B, 1, none⟩) (by first | omega | (simp; done) | (simp; omega))).trans k1
      replace k2 : v4.cell? ⟨B, 2, none⟩ = some (.bool false) := (hb.cell (p := ⟨B, 2, none⟩) (by first | omega | (simp; done) | (simp; omega))).trans k2
      replace f0 : v4.frozen? ⟨B, 0, none⟩ = false := (hb.frozen (p := ⟨B, 0, none⟩) (by first | omega | (simp; done) | (simp; omega))).trans f0
      replace f1 : v4.frozen? ⟨B, 1, none⟩ = false := (hb.frozen (p := ⟨B, 1, none⟩) (by first | omega | (simp; done) | (simp; omega))).trans f1
      replace f2 : v4.frozen? ⟨B, 2, none⟩ = false := (hb.frozen (p := ⟨B, 2, none⟩) (by first | omega | (simp; done) | (simp; omega))).trans f2
      replace hBl : B < v4.heap.size := by omega
      clear hb hz a0 a1 a2 a3 hB hs
      refine hK.out _ _ ?_ (fun hH4 => ?_)
      · exact hS1
      clear hK K hH3 hS1
      (try simp only [Act.put, List.setIfInBounds_toArray, List.set_cons_zero, List.set_cons_succ])
      refine hold_plain 5 (v := ?_) hHC hH4 (by simp only [List.getElem?_toArray, List.getElem?_cons_succ, List.getElem?_cons_zero]; rfl) rfl (by kernel_rfl) ?_ ?_
      rotate_left 1
      · (intro w hSw; (try dsimp only at hSw); go_simp; try with_reducible rfl)
      (try simp only [Act.put, List.setIfInBounds_toArray, List.set_cons_zero, List.set_cons_succ])
      refine hold_plain 6 (v := ?_) hHC hH4 (by simp only [List.getElem?_toArray, List.getElem?_cons_succ, List.getElem?_cons_zero]; rfl) rfl (by kernel_rfl) ?_ ?_
      rotate_left 1
      · (intro w hSw; (try dsimp only at hSw); go_simp; try with_reducible rfl)
      (try simp only [Act.put, List.setIfInBounds_toArray, List.set_cons_zero, List.set_cons_succ])
      refine hold_plain 7 (v := ?_) hHC hH4 (by simp only [List.getElem?_toArray, List.getElem?_cons_succ, List.getElem?_cons_zero]; rfl) rfl (by kernel_rfl) ?_ ?_
      rotate_left 1
      · (intro w hSw; (try dsimp only at hSw); go_simp; try with_reducible rfl)
      (try simp only [Act.put, List.setIfInBounds_toArray, List.set_cons_zero, List.set_cons_succ])
      refine hold_call0 9 (by simp only [List.getElem?_toArray, List.getElem?_cons_succ, List.getElem?_cons_zero]; rfl) rfl (by kernel_rfl) (fun K hK => ?_)
      go_simp
      obtain ⟨a0, a1, a2, a3, hB, hs⟩ := id hH4
      obtain ⟨wS, hW⟩ : ∃ wS, wS = (((v4.setCell ⟨B, 0, none⟩ (.int .i64 vx)).setCell ⟨B, 1, none⟩ (.int .i64 vy)).setCell ⟨B, 2, none⟩ (.bool vd)) := ⟨_, rfl⟩
      rw [← hW]
      have q0 : wS.cell? ⟨B, 0, none⟩ = some (.int .i64 vx) := by rw [hW]; go_simp
      have q1 : wS.cell? ⟨B, 1, none⟩ = some (.int .i64 vy) := by rw [hW]; go_simp
      have q2 : wS.cell? ⟨B, 2, none⟩ = some (.bool vd) := by rw [hW]; go_simp
      have hS1 : (fun w' => w'.cell? ⟨w.heap.size, 0, none⟩ = some (.int .i64 x0) ∧ w'.cell? ⟨w.heap.size, 1, none⟩ = some (.int .i64 y0) ∧ w'.cell? ⟨w.heap.size + 1, 0, none⟩ = some (.int .i64 x1) ∧ w'.cell? ⟨w.heap.size + 1, 1, none⟩ = some (.int .i64 y1) ∧ Below w.heap.size w w' ∧ w.heap.size + 2 ≤ w'.heap.size) wS := ⟨by rw [hW]; go_simp, by rw [hW]; go_simp, by rw [hW]; go_simp, by rw [hW]; go_simp, by rw [hW]; exact ((hB.setCell (by simp; omega) _).setCell (by simp; omega) _).setCell (by simp; omega) _, by rw [hW]; simpa using hs⟩
      replace hBl : B < wS.heap.size := by rw [hW]; simpa using hBl
      clear hW a0 a1 a2 a3 hB hs
      refine hK.out _ _ ?_ (fun hH5 => ?_)
      · exact hS1
      clear hK K hH4 hS1
      (try simp only [Act.put, List.setIfInBounds_toArray, List.set_cons_zero, List.set_cons_succ])
      refine hold_plain 10 (v := ?_) hHC hH5 (by simp only [List.getElem?_toArray, List.getElem?_cons_succ, List.getElem?_cons_zero]; rfl) rfl (by kernel_rfl) ?_ ?_
      rotate_left 1
      · (intro w hSw; (try dsimp only at hSw); go_simp; try with_reducible rfl)
      (try simp only [Act.put, List.setIfInBounds_toArray, List.set_cons_zero, List.set_cons_succ])
      refine wpAnyH_done (by kernel_rfl) ?_ _
      obtain ⟨a0, a1, a2, a3, hB, hs⟩ := id hH5
      clear hHC
      go_wp2_with fail
      go_meet
      exact ⟨B, rfl, rfl, hBo, hBl, q0, q1, q2, a0, a1, a2, a3, hB, hs⟩
  case rest =>
    obtain ⟨B1, rfl, rfl, hlo, hl1, e0, e1, e2, c0, c1, c2, c3, hBc, hsc⟩ := hcut
    clear HSp
    go_upto_region 2 with fail
    go_cut [7, 8] (fun p b wx => ∃ B, p = .pointer (some ⟨B, 0, none⟩) ∧ b = .bool vb ∧ B1 + 1 ≤ B ∧ B < wx.heap.size ∧ wx.cell? ⟨B, 0, none⟩ = some (.int .i64 vx) ∧ wx.cell? ⟨B, 1, none⟩ = some (.int .i64 vy) ∧ wx.cell? ⟨B, 2, none⟩ = some (.bool vd) ∧ wx.cell? ⟨w.heap.size, 0, none⟩ = some (.int .i64 x0) ∧ wx.cell? ⟨w.heap.size, 1, none⟩ = some (.int .i64 y0) ∧ wx.cell? ⟨w.heap.size + 1, 0, none⟩ = some (.int .i64 x1) ∧ wx.cell? ⟨w.heap.size + 1, 1, none⟩ = some (.int .i64 y1) ∧ wx.cell? ⟨B1, 0, none⟩ = some (.int .i64 vx) ∧ wx.cell? ⟨B1, 1, none⟩ = some (.int .i64 vy) ∧ wx.cell? ⟨B1, 2, none⟩ = some (.bool vd) ∧ Below w.heap.size w wx ∧ B1 + 1 ≤ wx.heap.size)
    case first =>
      refine hold_start (S := (fun w' => w'.cell? ⟨w.heap.size, 0, none⟩ = some (.int .i64 x0) ∧ w'.cell? ⟨w.heap.size, 1, none⟩ = some (.int .i64 y0) ∧ w'.cell? ⟨w.heap.size + 1, 0, none⟩ = some (.int .i64 x1) ∧ w'.cell? ⟨w.heap.size + 1, 1, none⟩ = some (.int .i64 y1) ∧ w'.cell? ⟨B1, 0, none⟩ = some (.int .i64 vx) ∧ w'.cell? ⟨B1, 1, none⟩ = some (.int .i64 vy) ∧ w'.cell? ⟨B1, 2, none⟩ = some (.bool vd) ∧ Below w.heap.size w w' ∧ B1 + 1 ≤ w'.heap.size)) (by kernel_rfl) (by kernel_rfl) (by intro _ _ d _ _ h; cases d <;> exact h) ?_ (fun hHC hH0 => ?_)
      · exact ⟨c0, c1, c2, c3, e0, e1, e2, hBc.drew, by simp; omega⟩
      obtain ⟨w0, hw0⟩ : ∃ w0, w0 = wc.drew := ⟨_, rfl⟩
      rw [← hw0] at hH0 ⊢
      clear hw0
      refine hold_plain 0 (v := ?_) hHC hH0 (by simp only [List.getElem?_toArray, List.getElem?_cons_succ, List.getElem?_cons_zero]; rfl) rfl (by kernel_rfl) ?_ ?_
      rotate_left 1
      · (intro w hSw; (try dsimp only at hSw); go_simp; try with_reducible rfl)
      (try simp only [Act.put, List.setIfInBounds_toArray, List.set_cons_zero, List.set_cons_succ])
      refine hold_plain 2 (v := ?_) hHC hH0 (by simp only [List.getElem?_toArray, List.getElem?_cons_succ, List.getElem?_cons_zero]; rfl) rfl (by kernel_rfl) ?_ ?_
      rotate_left 1
      · (intro w hSw; (try dsimp only at hSw); go_simp; try with_reducible rfl)
      (try simp only [Act.put, List.setIfInBounds_toArray, List.set_cons_zero, List.set_cons_succ])
      refine hold_two 1 8 (by simp only [List.getElem?_toArray, List.getElem?_cons_succ, List.getElem?_cons_zero]; rfl) rfl (by simp only [List.getElem?_toArray, List.getElem?_cons_succ, List.getElem?_cons_zero]; rfl) rfl (by kernel_rfl) (fun K hK => ?_) (fun K hK => ?_)
      · go_simp
        obtain ⟨a0, a1, a2, a3, a4, a5, a6, hB, hs⟩ := id hH0
        go_at_call 30
        refine (toCell_any _ _ _).mono ?_
        rintro e v1 ⟨rfl, hb⟩
        have hz := hb.size
        have hS1 : (fun w' => w'.cell? ⟨w.heap.size, 0, none⟩ = some (.int .i64 x0) ∧ w'.cell? ⟨w.heap.size, 1, none⟩ = some (.int .i64 y0) ∧ w'.cell? ⟨w.heap.size + 1, 0, none⟩ = some (.int .i64 x1) ∧ w'.cell? ⟨w.heap.size + 1, 1, none⟩ = some (.int .i64 y1) ∧ w'.cell? ⟨B1, 0, none⟩ = some (.int .i64 vx) ∧ w'.cell? ⟨B1, 1, none⟩ = some (.int .i64 vy) ∧ w'.cell? ⟨B1, 2, none⟩ = some (.bool vd) ∧ Below w.heap.size w w' ∧ B1 + 1 ≤ w'.heap.size) v1 := ⟨(hb.cell (p := ⟨w.heap.size, 0, none⟩) (by first | omega | (simp; done) | (simp; omega))).trans a0, (hb.cell (p := ⟨w.heap.size, 1, none⟩) (by first | omega | (simp; done) | (simp; omega))).trans a1, (hb.cell (p := ⟨w.heap.size + 1, 0, none⟩) (by first | omega | (simp; done) | (simp; omega))).trans a2, (hb.cell (p := ⟨w.heap.size + 1, 1, none⟩) (by first | omega | (simp; done) | (simp; omega))).trans a3, (hb.cell (p := ⟨B1, 0, none⟩) (by first | omega | (simp; done) | (simp; omega))).trans a4, (hb.cell (p := ⟨B1, 1, none⟩) (by first | omega | (simp; done) | (simp; omega))).trans a5, (hb.cell (p := ⟨B1, 2, none⟩) (by first | omega | (simp; done) | (simp; omega))).trans a6, below_step hb (by omega) hB, by omega⟩
        clear hb hz a0 a1 a2 a3 a4 a5 a6 hB hs
        refine hK.out _ _ ?_ (fun hH1 => ?_)
        · exact hS1
        clear hK K hH0 hS1
        (try simp only [Act.put, List.setIfInBounds_toArray, List.set_cons_zero, List.set_cons_succ])
        refine hold_two 3 8 (by simp only [List.getElem?_toArray, List.getElem?_cons_succ, List.getElem?_cons_zero]; rfl) rfl (by simp only [List.getElem?_toArray, List.getElem?_cons_succ, List.getElem?_cons_zero]; rfl) rfl (by kernel_rfl) (fun K hK => ?_) (fun K hK => ?_)
        · go_simp
          obtain ⟨a0, a1, a2, a3, a4, a5, a6, hB, hs⟩ := id hH1
          go_at_call 30
          refine (toCell_any _ _ _).mono ?_
          rintro e v3 ⟨rfl, hb⟩
          have hz := hb.size
          have hS1 : (fun w' => w'.cell? ⟨w.heap.size, 0, none⟩ = some (.int .i64 x0) ∧ w'.cell? ⟨w.heap.size, 1, none⟩ = some (.int .i64 y0) ∧ w'.cell? ⟨w.heap.size + 1, 0, none⟩ = some (.int .i64 x1) ∧ w'.cell? ⟨w.heap.size + 1, 1, none⟩ = some (.int .i64 y1) ∧ w'.cell? ⟨B1, 0, none⟩ = some (.int .i64 vx) ∧ w'.cell? ⟨B1, 1, none⟩ = some (.int .i64 vy) ∧ w'.cell? ⟨B1, 2, none⟩ = some (.bool vd) ∧ Below w.heap.size w w' ∧ B1 + 1 ≤ w'.heap.size) v3 := ⟨(hb.cell (p := ⟨w.heap.size, 0, none⟩) (by first | omega | (simp; done) | (simp; omega))).trans a0, (hb.cell (p := ⟨w.heap.size, 1, none⟩) (by first | omega | (simp; done) | (simp; omega))).trans a1, (hb.cell (p := ⟨w.heap.size + 1, 0, none⟩) (by first | omega | (simp; done) | (simp; omega))).trans a2, (hb.cell (p := ⟨w.heap.size + 1, 1, none⟩) (by first | omega | (simp; done) | (simp; omega))).trans a3, (hb.cell (p := ⟨B1, 0, none⟩) (by first | omega | (simp; done) | (simp; omega))).trans a4, (hb.cell (p := ⟨B1, 1, none⟩) (by first | omega | (simp; done) | (simp; omega))).trans a5, (hb.cell (p := ⟨B1, 2, none⟩) (by first | omega | (simp; done) | (simp; omega))).trans a6, below_step hb (by omega) hB, by omega⟩
          clear hb hz a0 a1 a2 a3 a4 a5 a6 hB hs
          refine hK.out _ _ ?_ (fun hH2 => ?_)
          · exact hS1
          clear hK K hH1 hS1
          (try simp only [Act.put, List.setIfInBounds_toArray, List.set_cons_zero, List.set_cons_succ])
          refine hold_two 4 8 (by simp only [List.getElem?_toArray, List.getElem?_cons_succ, List.getElem?_cons_zero]; rfl) rfl (by simp only [List.getElem?_toArray, List.getElem?_cons_succ, List.getElem?_cons_zero]; rfl) rfl (by kernel_rfl) (fun K hK => ?_) (fun K hK => ?_)
          · go_simp
            obtain ⟨a0, a1, a2, a3, a4, a5, a6, hB, hs⟩ := id hH2
            go_at_call 33
            refine (HIm.out _).mono ?_
            rintro e v4 ⟨rfl, hb⟩
            have hz := hb.size
            have hS1 : (fun w' => w'.cell? ⟨w.heap.size, 0, none⟩ = some (.int .i64 x0) ∧ w'.cell? ⟨w.heap.size, 1, none⟩ = some (.int .i64 y0) ∧ w'.cell? ⟨w.heap.size + 1, 0, none⟩ = some (.int .i64 x1) ∧ w'.cell? ⟨w.heap.size + 1, 1, none⟩ = some (.int .i64 y1) ∧ w'.cell? ⟨B1, 0, none⟩ = some (.int .i64 vx) ∧ w'.cell? ⟨B1, 1, none⟩ = some (.int .i64 vy) ∧ w'.cell? ⟨B1, 2, none⟩ = some (.bool vd) ∧ Below w.heap.size w w' ∧ B1 + 1 ≤ w'.heap.size) v4 := ⟨(hb.cell (p := ⟨w.heap.size, 0, none⟩) (by first | omega | (simp; done) | (simp; omega))).trans a0, (hb.cell (p := ⟨w.heap.size, 1, none⟩) (by first | omega | (simp; done) | (simp; omega))).trans a1, (hb.cell (p := ⟨w.heap.size + 1, 0, none⟩) (by first | omega | (simp; done) | (simp; omega))).trans a2, (hb.cell (p := ⟨w.heap.size + 1, 1, none⟩) (by first | omega | (simp; done) | (simp; omega))).trans a3, (hb.cell (p := ⟨B1, 0, none⟩) (by first | omega | (simp; done) | (simp; omega))).trans a4, (hb.cell (p := ⟨B1, 1, none⟩) (by first | omega | (simp; done) | (simp; omega))).trans a5, (hb.cell (p := ⟨B1, 2, none⟩) (by first | omega | (simp; done) | (simp; omega))).trans a6, below_step hb (by omega) hB, by omega⟩
            clear hb hz a0 a1 a2 a3 a4 a5 a6 hB hs
            refine hK.out _ _ ?_ (fun hH3 => ?_)
            · exact hS1
            clear hK K hH2 hS1
            (try simp only [Act.put, List.setIfInBounds_toArray, List.set_cons_zero, List.set_cons_succ])
            refine hold_plain 5 (v := ?_) hHC hH3 (by simp only [List.getElem?_toArray, List.getElem?_cons_succ, List.getElem?_cons_zero]; rfl) rfl (by kernel_rfl) ?_ ?_
            rotate_left 1
            · (intro w hSw; (try dsimp only at hSw); go_simp; try with_reducible rfl)
            (try simp only [Act.put, List.setIfInBounds_toArray, List.set_cons_zero, List.set_cons_succ])
            refine hold_plain 6 (v := ?_) hHC hH3 (by simp only [List.getElem?_toArray, List.getElem?_cons_succ, List.getElem?_cons_zero]; rfl) rfl (by kernel_rfl) ?_ ?_
            rotate_left 1
            · (intro w hSw; (try dsimp only at hSw); go_simp; try with_reducible rfl)
            (try simp only [Act.put, List.setIfInBounds_toArray, List.set_cons_zero, List.set_cons_succ])
            refine hold_plain 7 (v := ?_) hHC hH3 (by simp only [List.getElem?_toArray, List.getElem?_cons_succ, List.getElem?_cons_zero]; rfl) rfl (by kernel_rfl) ?_ ?_
            rotate_left 1
            · (intro w hSw; (try dsimp only at hSw); go_simp; try with_reducible rfl)
            (try simp only [Act.put, List.setIfInBounds_toArray, List.set_cons_zero, List.set_cons_succ])
            refine hold_call0 8 (by simp only [List.getElem?_toArray, List.getElem?_cons_succ, List.getElem?_cons_zero]; rfl) rfl (by kernel_rfl) (fun K hK => ?_)
            go_simp
            obtain ⟨a0, a1, a2, a3, a4, a5, a6, hB, hs⟩ := id hH3
            obtain ⟨B, hBq⟩ : ∃ B, B = v4.heap.size := ⟨_, rfl⟩
            obtain ⟨wA, hA⟩ : ∃ wA, wA = v4.alloc (.cells #[.int .i64 0, .int .i64 0, .bool false] 51) := ⟨_, rfl⟩
            rw [← hA, ← hBq]
            have hl : v4.heap.size < wA.heap.size := by rw [hA]; simp
            have k0 : wA.cell? ⟨B, 0, none⟩ = some (.int .i64 0) := by rw [hA, hBq]; simp
            have k1 : wA.cell? ⟨B, 1, none⟩ = some (.int .i64 0) := by rw [hA, hBq]; simp
            have k2 : wA.cell? ⟨B, 2, none⟩ = some (.bool false) := by rw [hA, hBq]; simp
            have f0 : wA.frozen? ⟨B, 0, none⟩ = false := by rw [hA, hBq]; simp
            have f1 : wA.frozen? ⟨B, 1, none⟩ = false := by rw [hA, hBq]; simp
            have f2 : wA.frozen? ⟨B, 2, none⟩ = false := by rw [hA, hBq]; simp
            have hBl : B < wA.heap.size := by omega
            have hBo : B1 + 1 ≤ B := by omega
            have hS1 : (fun w' => w'.cell? ⟨w.heap.size, 0, none⟩ = some (.int .i64 x0) ∧ w'.cell? ⟨w.heap.size, 1, none⟩ = some (.int .i64 y0) ∧ w'.cell? ⟨w.heap.size + 1, 0, none⟩ = some (.int .i64 x1) ∧ w'.cell? ⟨w.heap.size + 1, 1, none⟩ = some (.int .i64 y1) ∧ w'.cell? ⟨B1, 0, none⟩ = some (.int .i64 vx) ∧ w'.cell? ⟨B1, 1, none⟩ = some (.int .i64 vy) ∧ w'.cell? ⟨B1, 2, none⟩ = some (.bool vd) ∧ Below w.heap.size w w' ∧ B1 + 1 ≤ w'.heap.size) wA := ⟨by rw [hA]; exact (World.cell?_alloc_past _ _ _ (by omega)).trans a0, by rw [hA]; exact (World.cell?_alloc_past _ _ _ (by omega)).trans a1, by rw [hA]; exact (World.cell?_alloc_past _ _ _ (by omega)).trans a2, by rw [hA]; exact (World.cell?_alloc_past _ _ _ (by omega)).trans a3, by rw [hA]; exact (World.cell?_alloc_past _ _ _ (by omega)).trans a4, by rw [hA]; exact (World.cell?_alloc_past _ _ _ (by omega)).trans a5, by rw [hA]; exact (World.cell?_alloc_past _ _ _ (by omega)).trans a6, by rw [hA]; exact hB.alloc (by omega) _, by omega⟩
            clear hA hBq hl a0 a1 a2 a3 a4 a5 a6 hB hs
            refine hK.out _ _ ?_ (fun hH4 => ?_)
            · exact hS1
            clear hK K hH3 hS1
            (try simp only [Act.put, List.setIfInBounds_toArray, List.set_cons_zero, List.set_cons_succ])
            refine hold_call0 9 (by simp only [List.getElem?_toArray, List.getElem?_cons_succ, List.getElem?_cons_zero]; rfl) rfl (by kernel_rfl) (fun K hK => ?_)
            go_simp
            obtain ⟨a0, a1, a2, a3, a4, a5, a6, hB, hs⟩ := id hH4
            obtain ⟨wS, hW⟩ : ∃ wS, wS = (((wA.setCell ⟨B, 0, none⟩ (.int .i64 vx)).setCell ⟨B, 1, none⟩ (.int .i64 vy)).setCell ⟨B, 2, none⟩ (.bool vd)) := ⟨_, rfl⟩
            rw [← hW]
            have q0 : wS.cell? ⟨B, 0, none⟩ = some (.int .i64 vx) := by rw [hW]; go_simp
            have q1 : wS.cell? ⟨B, 1, none⟩ = some (.int .i64 vy) := by rw [hW]; go_simp
            have q2 : wS.cell? ⟨B, 2, none⟩ = some (.bool vd) := by rw [hW]; go_simp
            have hS1 : (fun w' => w'.cell? ⟨w.heap.size, 0, none⟩ = some (.int .i64 x0) ∧ w'.cell? ⟨w.heap.size, 1, none⟩ = some (.int .i64 y0) ∧ w'.cell? ⟨w.heap.size + 1, 0, none⟩ = some (.int .i64 x1) ∧ w'.cell? ⟨w.heap.size + 1, 1, none⟩ = some (.int .i64 y1) ∧ w'.cell? ⟨B1, 0, none⟩ = some (.int .i64 vx) ∧ w'.cell? ⟨B1, 1, none⟩ = some (.int .i64 vy) ∧ w'.cell? ⟨B1, 2, none⟩ = some (.bool vd) ∧ Below w.heap.size w w' ∧ B1 + 1 ≤ w'.heap.size) wS := ⟨by rw [hW]; go_simp, by rw [hW]; go_simp, by rw [hW]; go_simp, by rw [hW]; go_simp, by rw [hW]; go_simp, by rw [hW]; go_simp, by rw [hW]; go_simp, by rw [hW]; exact ((hB.setCell (by simp; omega) _).setCell (by simp; omega) _).setCell (by simp; omega) _, by rw [hW]; simpa using hs⟩
            replace hBl : B < wS.heap.size := by rw [hW]; simpa using hBl
            clear hW a0 a1 a2 a3 a4 a5 a6 hB hs
            refine hK.out _ _ ?_ (fun hH5 => ?_)
            · exact hS1
            clear hK K hH4 hS1
            (try simp only [Act.put, List.setIfInBounds_toArray, List.set_cons_zero, List.set_cons_succ])
            refine hold_plain 10 (v := ?_) hHC hH5 (by simp only [List.getElem?_toArray, List.getElem?_cons_succ, List.getElem?_cons_zero]; rfl) rfl (by kernel_rfl) ?_ ?_
            rotate_left 1
            · (intro w hSw; (try dsimp only at hSw); go_simp; try with_reducible rfl)
            (try simp only [Act.put, List.setIfInBounds_toArray, List.set_cons_zero, List.set_cons_succ])
            refine wpAnyH_done (by kernel_rfl) ?_ _
            obtain ⟨a0, a1, a2, a3, a4, a5, a6, hB, hs⟩ := id hH5
            clear hHC
            go_wp2_with fail
            go_meet
            exact ⟨B, rfl, rfl, hBo, hBl, q0, q1, q2, a0, a1, a2, a3, a4, a5, a6, hB, hs⟩
          · go_simp
            obtain ⟨a0, a1, a2, a3, a4, a5, a6, hB, hs⟩ := id hH2
            obtain ⟨B, hBq⟩ : ∃ B, B = v3.heap.size := ⟨_, rfl⟩
            obtain ⟨wA, hA⟩ : ∃ wA, wA = v3.alloc (.cells #[.int .i64 0, .int .i64 0, .bool false] 51) := ⟨_, rfl⟩
            rw [← hA, ← hBq]
            have hl : v3.heap.size < wA.heap.size := by rw [hA]; simp
            have k0 : wA.cell? ⟨B, 0, none⟩ = some (.int .i64 0) := by rw [hA, hBq]; simp
            have k1 : wA.cell? ⟨B, 1, none⟩ = some (.int .i64 0) := by rw [hA, hBq]; simp
            have k2 : wA.cell? ⟨B, 2, none⟩ = some (.bool false) := by rw [hA, hBq]; simp
            have f0 : wA.frozen? ⟨B, 0, none⟩ = false := by rw [hA, hBq]; simp
            have f1 : wA.frozen? ⟨B, 1, none⟩ = false := by rw [hA, hBq]; simp
            have f2 : wA.frozen? ⟨B, 2, none⟩ = false := by rw [hA, hBq]; simp
            have hBl : B < wA.heap.size := by omega
            have hBo : B1 + 1 ≤ B := by omega
            have hS1 : (fun w' => w'.cell? ⟨w.heap.size, 0, none⟩ = some (.int .i64 x0) ∧ w'.cell? ⟨w.heap.size, 1, none⟩ = some (.int .i64 y0) ∧ w'.cell? ⟨w.heap.size + 1, 0, none⟩ = some (.int .i64 x1) ∧ w'.cell? ⟨w.heap.size + 1, 1, none⟩ = some (.int .i64 y1) ∧ w'.cell? ⟨B1, 0, none⟩ = some (.int .i64 vx) ∧ w'.cell? ⟨B1, 1, none⟩ = some (.int .i64 vy) ∧ w'.cell? ⟨B1, 2, none⟩ = some (.bool vd) ∧ Below w.heap.size w w' ∧ B1 + 1 ≤ w'.heap.size) wA := ⟨by rw [hA]; exact (World.cell?_alloc_past _ _ _ (by omega)).trans a0, by rw [hA]; exact (World.cell?_alloc_past _ _ _ (by omega)).trans a1, by rw [hA]; exact (World.cell?_alloc_past _ _ _ (by omega)).trans a2, by rw [hA]; exact (World.cell?_alloc_past _ _ _ (by omega)).trans a3, by rw [hA]; exact (World.cell?_alloc_past _ _ _ (by omega)).trans a4, by rw [hA]; exact (World.cell?_alloc_past _ _ _ (by omega)).trans a5, by rw [hA]; exact (World.cell?_alloc_past _ _ _ (by omega)).trans a6, by rw [hA]; exact hB.alloc (by omega) _, by omega⟩
            clear hA hBq hl a0 a1 a2 a3 a4 a5 a6 hB hs
            refine hK.out _ _ ?_ (fun hH3 => ?_)
            · exact hS1
            clear hK K hH2 hS1
            (try simp only [Act.put, List.setIfInBounds_toArray, List.set_cons_zero, List.set_cons_succ])
            refine hold_call0 4 (by simp only [List.getElem?_toArray, List.getElem?_cons_succ, List.getElem?_cons_zero]; rfl) rfl (by kernel_rfl) (fun K hK => ?_)
            go_simp
            obtain ⟨a0, a1, a2, a3, a4, a5, a6, hB, hs⟩ := id hH3
            go_at_call 33
            refine (HIm.out _).mono ?_
            rintro e v4 ⟨rfl, hb⟩
            have hz := hb.size
            have hS1 : (fun w' => w'.cell? ⟨w.heap.size, 0, none⟩ = some (.int .i64 x0) ∧ w'.cell? ⟨w.heap.size, 1, none⟩ = some (.int .i64 y0) ∧ w'.cell? ⟨w.heap.size + 1, 0, none⟩ = some (.int .i64 x1) ∧ w'.cell? ⟨w.heap.size + 1, 1, none⟩ = some (.int .i64 y1) ∧ w'.cell? ⟨B1, 0, none⟩ = some (.int .i64 vx) ∧ w'.cell? ⟨B1, 1, none⟩ = some (.int .i64 vy) ∧ w'.cell? ⟨B1, 2, none⟩ = some (.bool vd) ∧ Below w.heap.size w w' ∧ B1 + 1 ≤ w'.heap.size) v4 := ⟨(hb.cell (p := ⟨w.heap.size, 0, none⟩) (by first | omega | (simp; done) | (simp; omega))).trans a0, (hb.cell (p := ⟨w.heap.size, 1, none⟩) (by first | omega | (simp; done) | (simp; omega))).trans a1, (hb.cell (p := ⟨w.heap.size + 1, 0, none⟩) (by first | omega | (simp; done) | (simp; omega))).trans a2, (hb.cell (p := ⟨w.heap.size + 1, 1, none⟩) (by first | omega | (simp; done) | (simp; omega))).trans a3, (hb.cell (p := ⟨B1, 0, none⟩) (by first | omega | (simp; done) | (simp; omega))).trans a4, (hb.cell (p := ⟨B1, 1, none⟩) (by first | omega | (simp; done) | (simp; omega))).trans a5, (hb.cell (p := ⟨B1, 2, none⟩) (by first | omega | (simp; done) | (simp; omega))).trans a6, below_step hb (by omega) hB, by omega⟩
            replace k0 : v4.cell? ⟨B, 0, none⟩ = some (.int .i64 0) := (hb.cell (p := ⟨B, 0, none⟩) (by first | omega | (simp; done) | (simp; omega))).trans k0
            replace k1 : v4.cell? ⟨B, 1, none⟩ = some (.int .i64 0) := (hb.cell (p := ⟨B, 1, none⟩) (by first | omega | (simp; done) | (simp; omega))).trans k1
            replace k2 : v4.cell? ⟨B, 2, none⟩ = some (.bool false) := (hb.cell (p := ⟨B, 2, none⟩) (by first | omega | (simp; done) | (simp; omega))).trans k2
            replace f0 : v4.frozen? ⟨B, 0, none⟩ = false := (hb.frozen (p := ⟨B, 0, none⟩) (by first | omega | (simp; done) | (simp; omega))).trans f0
            replace f1 : v4.frozen? ⟨B, 1, none⟩ = false := (hb.frozen (p := ⟨B, 1, none⟩) (by first | omega | (simp; done) | (simp; omega))).trans f1
            replace f2 : v4.frozen? ⟨B, 2, none⟩ = false := (hb.frozen (p := ⟨B, 2, none⟩) (by first | omega | (simp; done) | (simp; omega))).trans f2
            replace hBl : B < v4.heap.size := by omega
            clear hb hz a0 a1 a2 a3 a4 a5 a6 hB hs
            refine hK.out _ _ ?_ (fun hH4 => ?_)
            · exact hS1
            clear hK K hH3 hS1
            (try simp only [Act.put, List.setIfInBounds_toArray, List.set_cons_zero, List.set_cons_succ])
            refine hold_plain 5 (v := ?_) hHC hH4 (by simp only [List.getElem?_toArray, List.getElem?_cons_succ, List.getElem?_cons_zero]; rfl) rfl (by kernel_rfl) ?_ ?_
            rotate_left 1
            · (intro w hSw; (try dsimp only at hSw); go_simp; try with_reducible rfl)
            (try simp only [Act.put, List.setIfInBounds_toArray, List.set_cons_zero, List.set_cons_succ])
            refine hold_plain 6 (v := ?_) hHC hH4 (by simp only [List.getElem?_toArray, List.getElem?_cons_succ, List.getElem?_cons_zero]; rfl) rfl (by kernel_rfl) ?_ ?_
            rotate_left 1
            · (intro w hSw; (try dsimp only at hSw); go_simp; try with_reducible rfl)
            (try simp only [Act.put, List.setIfInBounds_toArray, List.set_cons_zero, List.set_cons_succ])
            refine hold_plain 7 (v := ?_) hHC hH4 (by simp only [List.getElem?_toArray, List.getElem?_cons_succ, List.getElem?_cons_zero]; rfl) rfl (by kernel_rfl) ?_ ?_
            rotate_left 1
            · (intro w hSw; (try dsimp only at hSw); go_simp; try with_reducible rfl)
            (try simp only [Act.put, List.setIfInBounds_toArray, List.set_cons_zero, List.set_cons_succ])
            refine hold_call0 9 (by simp only [List.getElem?_toArray, List.getElem?_cons_succ, List.getElem?_cons_zero]; rfl) rfl (by kernel_rfl) (fun K hK => ?_)
            go_simp
            obtain ⟨a0, a1, a2, a3, a4, a5, a6, hB, hs⟩ := id hH4
            obtain ⟨wS, hW⟩ : ∃ wS, wS = (((v4.setCell ⟨B, 0, none⟩ (.int .i64 vx)).setCell ⟨B, 1, none⟩ (.int .i64 vy)).setCell ⟨B, 2, none⟩ (.bool vd)) := ⟨_, rfl⟩
            rw [← hW]
            have q0 : wS.cell? ⟨B, 0, none⟩ = some (.int .i64 vx) := by rw [hW]; go_simp
            have q1 : wS.cell? ⟨B, 1, none⟩ = some (.int .i64 vy) := by rw [hW]; go_simp
            have q2 : wS.cell? ⟨B, 2, none⟩ = some (.bool vd) := by rw [hW]; go_simp
            have hS1 : (fun w' => w'.cell? ⟨w.heap.size, 0, none⟩ = some (.int .i64 x0) ∧ w'.cell? ⟨w.heap.size, 1, none⟩ = some (.int .i64 y0) ∧ w'.cell? ⟨w.heap.size + 1, 0, none⟩ = some (.int .i64 x1) ∧ w'.cell? ⟨w.heap.size + 1, 1, none⟩ = some (.int .i64 y1) ∧ w'.cell? ⟨B1, 0, none⟩ = some (.int .i64 vx) ∧ w'.cell? ⟨B1, 1, none⟩ = some (.int .i64 vy) ∧ w'.cell? ⟨B1, 2, none⟩ = some (.bool vd) ∧ Below w.heap.size w w' ∧ B1 + 1 ≤ w'.heap.size) wS := ⟨by rw [hW]; go_simp, by rw [hW]; go_simp, by rw [hW]; go_simp, by rw [hW]; go_simp, by rw [hW]; go_simp, by rw [hW]; go_simp, by rw [hW]; go_simp, by rw [hW]; exact ((hB.setCell (by simp; omega) _).setCell (by simp; omega) _).setCell (by simp; omega) _, by rw [hW]; simpa using hs⟩
            replace hBl : B < wS.heap.size := by rw [hW]; simpa using hBl
            clear hW a0 a1 a2 a3 a4 a5 a6 hB hs
            refine hK.out _ _ ?_ (fun hH5 => ?_)
            · exact hS1
            clear hK K hH4 hS1
            (try simp only [Act.put, List.setIfInBounds_toArray, List.set_cons_zero, List.set_cons_succ])
            refine hold_plain 10 (v := ?_) hHC hH5 (by simp only [List.getElem?_toArray, List.getElem?_cons_succ, List.getElem?_cons_zero]; rfl) rfl (by kernel_rfl) ?_ ?_
            rotate_left 1
            · (intro w hSw; (try dsimp only at hSw); go_simp; try with_reducible rfl)
            (try simp only [Act.put, List.setIfInBounds_toArray, List.set_cons_zero, List.set_cons_succ])
            refine wpAnyH_done (by kernel_rfl) ?_ _
            obtain ⟨a0, a1, a2, a3, a4, a5, a6, hB, hs⟩ := id hH5
            clear hHC
            go_wp2_with fail
            go_meet
            exact ⟨B, rfl, rfl, hBo, hBl, q0, q1, q2, a0, a1, a2, a3, a4, a5, a6, hB, hs⟩
        · go_simp
          obtain ⟨a0, a1, a2, a3, a4, a5, a6, hB, hs⟩ := id hH1
          obtain ⟨B, hBq⟩ : ∃ B, B = v1.heap.size := ⟨_, rfl⟩
          obtain ⟨wA, hA⟩ : ∃ wA, wA = v1.alloc (.cells #[.int .i64 0, .int .i64 0, .bool false] 51) := ⟨_, rfl⟩
          rw [← hA, ← hBq]
          have hl : v1.heap.size < wA.heap.size := by rw [hA]; simp
          have k0 : wA.cell? ⟨B, 0, none⟩ = some (.int .i64 0) := by rw [hA, hBq]; simp
          have k1 : wA.cell? ⟨B, 1, none⟩ = some (.int .i64 0) := by rw [hA, hBq]; simp
          have k2 : wA.cell? ⟨B, 2, none⟩ = some (.bool false) := by rw [hA, hBq]; simp
          have f0 : wA.frozen? ⟨B, 0, none⟩ = false := by rw [hA, hBq]; simp
          have f1 : wA.frozen? ⟨B, 1, none⟩ = false := by rw [hA, hBq]; simp
          have f2 : wA.frozen? ⟨B, 2, none⟩ = false := by rw [hA, hBq]; simp
          have hBl : B < wA.heap.size := by omega
          have hBo : B1 + 1 ≤ B := by omega
          have hS1 : (fun w' => w'.cell? ⟨w.heap.size, 0, none⟩ = some (.int .i64 x0) ∧ w'.cell? ⟨w.heap.size, 1, none⟩ = some (.int .i64 y0) ∧ w'.cell? ⟨w.heap.size + 1, 0, none⟩ = some (.int .i64 x1) ∧ w'.cell? ⟨w.heap.size + 1, 1, none⟩ = some (.int .i64 y1) ∧ w'.cell? ⟨B1, 0, none⟩ = some (.int .i64 vx) ∧ w'.cell? ⟨B1, 1, none⟩ = some (.int .i64 vy) ∧ w'.cell? ⟨B1, 2, none⟩ = some (.bool vd) ∧ Below w.heap.size w w' ∧ B1 + 1 ≤ w'.heap.size) wA := ⟨by rw [hA]; exact (World.cell?_alloc_past _ _ _ (by omega)).trans a0, by rw [hA]; exact (World.cell?_alloc_past _ _ _ (by omega)).trans a1, by rw [hA]; exact (World.cell?_alloc_past _ _ _ (by omega)).trans a2, by rw [hA]; exact (World.cell?_alloc_past _ _ _ (by omega)).trans a3, by rw [hA]; exact (World.cell?_alloc_past _ _ _ (by omega)).trans a4, by rw [hA]; exact (World.cell?_alloc_past _ _ _ (by omega)).trans a5, by rw [hA]; exact (World.cell?_alloc_past _ _ _ (by omega)).trans a6, by rw [hA]; exact hB.alloc (by omega) _, by omega⟩
          clear hA hBq hl a0 a1 a2 a3 a4 a5 a6 hB hs
          refine hK.out _ _ ?_ (fun hH2 => ?_)
          · exact hS1
          clear hK K hH1 hS1
          (try simp only [Act.put, List.setIfInBounds_toArray, List.set_cons_zero, List.set_cons_succ])
          refine hold_call0 3 (by simp only [List.getElem?_toArray, List.getElem?_cons_succ, List.getElem?_cons_zero]; rfl) rfl (by kernel_rfl) (fun K hK => ?_)
          go_simp
          obtain ⟨a0, a1, a2, a3, a4, a5, a6, hB, hs⟩ := id hH2
          go_at_call 30
          refine (toCell_any _ _ _).mono ?_
          rintro e v3 ⟨rfl, hb⟩
          have hz := hb.size
          have hS1 : (fun w' => w'.cell? ⟨w.heap.size, 0, none⟩ = some (.int .i64 x0) ∧ w'.cell? ⟨w.heap.size, 1, none⟩ = some (.int .i64 y0) ∧ w'.cell? ⟨w.heap.size + 1, 0, none⟩ = some (.int .i64 x1) ∧ w'.cell? ⟨w.heap.size + 1, 1, none⟩ = some (.int .i64 y1) ∧ w'.cell? ⟨B1, 0, none⟩ = some (.int .i64 vx) ∧ w'.cell? ⟨B1, 1, none⟩ = some (.int .i64 vy) ∧ w'.cell? ⟨B1, 2, none⟩ = some (.bool vd) ∧ Below w.heap.size w w' ∧ B1 + 1 ≤ w'.heap.size) v3 := ⟨(hb.cell (p := ⟨w.heap.size, 0, none⟩) (by first | omega | (simp; done) | (simp; omega))).trans a0, (hb.cell (p := ⟨w.heap.size, 1, none⟩) (by first | omega | (simp; done) | (simp; omega))).trans a1, (hb.cell (p := ⟨w.heap.size + 1, 0, none⟩) (by first | omega | (simp; done) | (simp; omega))).trans a2, (hb.cell (p := ⟨w.heap.size + 1, 1, none⟩) (by first | omega | (simp; done) | (simp; omega))).trans a3, (hb.cell (p := ⟨B1, 0, none⟩) (by first | omega | (simp; done) | (simp; omega))).trans a4, (hb.cell (p := ⟨B1, 1, none⟩) (by first | omega | (simp; done) | (simp; omega))).trans a5, (hb.cell (p := ⟨B1, 2, none⟩) (by first | omega | (simp; done) | (simp; omega))).trans a6, below_step hb (by omega) hB, by omega⟩
          replace k0 : v3.cell? ⟨B, 0, none⟩ = some (.int .i64 0) := (hb.cell (p := ⟨B, 0, none⟩) (by first | omega | (simp; done) | (simp; omega))).trans k0
          replace k1 : v3.cell? ⟨B, 1, none⟩ = some (.int .i64 0) := (hb.cell (p := ⟨B, 1, none⟩) (by first | omega | (simp; done) | (simp; omega))).trans k1
          replace k2 : v3.cell? ⟨B, 2, none⟩ = some (.bool false) := (hb.cell (p := ⟨B, 2, none⟩) (by first | omega | (simp; done) | (simp; omega))).trans k2
          replace f0 : v3.frozen? ⟨B, 0, none⟩ = false := (hb.frozen (p := ⟨B, 0, none⟩) (by first | omega | (simp; done) | (simp; omega))).trans f0
          replace f1 : v3.frozen? ⟨B, 1, none⟩ = false := (hb.frozen (p := ⟨B, 1, none⟩) (by first | omega | (simp; done) | (simp; omega))).trans f1
          replace f2 : v3.frozen? ⟨B, 2, none⟩ = false := (hb.frozen (p := ⟨B, 2, none⟩) (by first | omega | (simp; done) | (simp; omega))).trans f2
          replace hBl : B < v3.heap.size := by omega
          clear hb hz a0 a1 a2 a3 a4 a5 a6 hB hs
          refine hK.out _ _ ?_ (fun hH3 => ?_)
          · exact hS1
          clear hK K hH2 hS1
          (try simp only [Act.put, List.setIfInBounds_toArray, List.set_cons_zero, List.set_cons_succ])
          refine hold_call0 4 (by simp only [List.getElem?_toArray, List.getElem?_cons_succ, List.getElem?_cons_zero]; rfl) rfl (by kernel_rfl) (fun K hK => ?_)
          go_simp
          obtain ⟨a0, a1, a2, a3, a4, a5, a6, hB, hs⟩ := id hH3
          go_at_call 33
          refine (HIm.out _).mono ?_
          rintro e v4 ⟨rfl, hb⟩
          have hz := hb.size
          have hS1 : (fun w' => w'.cell? ⟨w.heap.size, 0, none⟩ = some (.int .i64 x0) ∧ w'.cell? ⟨w.heap.size, 1, none⟩ = some (.int .i64 y0) ∧ w'.cell? ⟨w.heap.size + 1, 0, none⟩ = some (.int .i64 x1) ∧ w'.cell? ⟨w.heap.size + 1, 1, none⟩ = some (.int .i64 y1) ∧ w'.cell? ⟨B1, 0, none⟩ = some (.int .i64 vx) ∧ w'.cell? ⟨B1, 1, none⟩ = some (.int .i64 vy) ∧ w'.cell? ⟨B1, 2, none⟩ = some (.bool vd) ∧ Below w.heap.size w w' ∧ B1 + 1 ≤ w'.heap.size) v4 := ⟨(hb.cell (p := ⟨w.heap.size, 0, none⟩) (by first | omega | (simp; done) | (simp; omega))).trans a0, (hb.cell (p := ⟨w.heap.size, 1, none⟩) (by first | omega | (simp; done) | (simp; omega))).trans a1, (hb.cell (p := ⟨w.heap.size + 1, 0, none⟩) (by first | omega | (simp; done) | (simp; omega))).trans a2, (hb.cell (p := ⟨w.heap.size + 1, 1, none⟩) (by first | omega | (simp; done) | (simp; omega))).trans a3, (hb.cell (p := ⟨B1, 0, none⟩) (by first | omega | (simp; done) | (simp; omega))).trans a4, (hb.cell (p := ⟨B1, 1, none⟩) (by first | omega | (simp; done) | (simp; omega))).trans a5, (hb.cell (p := ⟨B1, 2, none⟩) (by first | omega | (simp; done) | (simp; omega))).trans a6, below_step hb (by omega) hB, by omega⟩
          replace k0 : v4.cell? ⟨B, 0, none⟩ = some (.int .i64 0) := (hb.cell (p := ⟨B, 0, none⟩) (by first | omega | (simp; done) | (simp; omega))).trans k0
          replace k1 : v4.cell? ⟨B, 1, none⟩ = some (.int .i64 0) := (hb.cell (p := ⟨B, 1, none⟩) (by first | omega | (simp; done) | (simp; omega))).trans k1
          replace k2 : v4.cell? ⟨B, 2, none⟩ = some (.bool false) := (hb.cell (p := ⟨B, 2, none⟩) (by first | omega | (simp; done) | (simp; omega))).trans k2
          replace f0 : v4.frozen? ⟨B, 0, none⟩ = false := (hb.frozen (p := ⟨B, 0, none⟩) (by first | omega | (simp; done) | (simp; omega))).trans f0
          replace f1 : v4.frozen? ⟨B, 1, none⟩ = false := (hb.frozen (p := ⟨B, 1, none⟩) (by first | omega | (simp; done) | (simp; omega))).trans f1
          replace f2 : v4.frozen? ⟨B, 2, none⟩ = false := (hb.frozen (p := ⟨B, 2, none⟩) (by first | omega | (simp; done) | (simp; omega))).trans f2
          replace hBl : B < v4.heap.size := by omega
          clear hb hz a0 a1 a2 a3 a4 a5 a6 hB hs
          refine hK.out _ _ ?_ (fun hH4 => ?_)
          · exact hS1
          clear hK K hH3 hS1
          (try simp only [Act.put, List.setIfInBounds_toArray, List.set_cons_zero, List.set_cons_succ])
          refine hold_plain 5 (v := ?_) hHC hH4 (by simp only [List.getElem?_toArray, List.getElem?_cons_succ, List.getElem?_cons_zero]; rfl) rfl (by kernel_rfl) ?_ ?_
          rotate_left 1
          · (intro w hSw; (try dsimp only at hSw); go_simp; try with_reducible rfl)
          (try simp only [Act.put, List.setIfInBounds_toArray, List.set_cons_zero, List.set_cons_succ])
          refine hold_plain 6 (v := ?_) hHC hH4 (by simp only [List.getElem?_toArray, List.getElem?_cons_succ, List.getElem?_cons_zero]; rfl) rfl (by kernel_rfl) ?_ ?_
          rotate_left 1
          · (intro w hSw; (try dsimp only at hSw); go_simp; try with_reducible rfl)
          (try simp only [Act.put, List.setIfInBounds_toArray, List.set_cons_zero, List.set_cons_succ])
          refine hold_plain 7 (v := ?_) hHC hH4 (by simp only [List.getElem?_toArray, List.getElem?_cons_succ, List.getElem?_cons_zero]; rfl) rfl (by kernel_rfl) ?_ ?_
          rotate_left 1
          · (intro w hSw; (try dsimp only at hSw); go_simp; try with_reducible rfl)
          (try simp only [Act.put, List.setIfInBounds_toArray, List.set_cons_zero, List.set_cons_succ])
          refine hold_call0 9 (by simp only [List.getElem?_toArray, List.getElem?_cons_succ, List.getElem?_cons_zero]; rfl) rfl (by kernel_rfl) (fun K hK => ?_)
          go_simp
          obtain ⟨a0, a1, a2, a3, a4, a5, a6, hB, hs⟩ := id hH4
          obtain ⟨wS, hW⟩ : ∃ wS, wS = (((v4.setCell ⟨B, 0, none⟩ (.int .i64 vx)).setCell ⟨B, 1, none⟩ (.int .i64 vy)).setCell ⟨B, 2, none⟩ (.bool vd)) := ⟨_, rfl⟩
          rw [← hW]
          have q0 : wS.cell? ⟨B, 0, none⟩ = some (.int .i64 vx) := by rw [hW]; go_simp
          have q1 : wS.cell? ⟨B, 1, none⟩ = some (.int .i64 vy) := by rw [hW]; go_simp
          have q2 : wS.cell? ⟨B, 2, none⟩ = some (.bool vd) := by rw [hW]; go_simp
          have hS1 : (fun w' => w'.cell? ⟨w.heap.size, 0, none⟩ = some (.int .i64 x0) ∧ w'.cell? ⟨w.heap.size, 1, none⟩ = some (.int .i64 y0) ∧ w'.cell? ⟨w.heap.size + 1, 0, none⟩ = some (.int .i64 x1) ∧ w'.cell? ⟨w.heap.size + 1, 1, none⟩ = some (.int .i64 y1) ∧ w'.cell? ⟨B1, 0, none⟩ = some (.int .i64 vx) ∧ w'.cell? ⟨B1, 1, none⟩ = some (.int .i64 vy) ∧ w'.cell? ⟨B1, 2, none⟩ = some (.bool vd) ∧ Below w.heap.size w w' ∧ B1 + 1 ≤ w'.heap.size) wS := ⟨by rw [hW]; go_simp, by rw [hW]; go_simp, by rw [hW]; go_simp, by rw [hW]; go_simp, by rw [hW]; go_simp, by rw [hW]; go_simp, by rw [hW]; go_simp, by rw [hW]; exact ((hB.setCell (by simp; omega) _).setCell (by simp; omega) _).setCell (by simp; omega) _, by rw [hW]; simpa using hs⟩
          replace hBl : B < wS.heap.size := by rw [hW]; simpa using hBl
          clear hW a0 a1 a2 a3 a4 a5 a6 hB hs
          refine hK.out _ _ ?_ (fun hH5 => ?_)
          · exact hS1
          clear hK K hH4 hS1
          (try simp only [Act.put, List.setIfInBounds_toArray, List.set_cons_zero, List.set_cons_succ])
          refine hold_plain 10 (v := ?_) hHC hH5 (by simp only [List.getElem?_toArray, List.getElem?_cons_succ, List.getElem?_cons_zero]; rfl) rfl (by kernel_rfl) ?_ ?_
          rotate_left 1
          · (intro w hSw; (try dsimp only at hSw); go_simp; try with_reducible rfl)
          (try simp only [Act.put, List.setIfInBounds_toArray, List.set_cons_zero, List.set_cons_succ])
          refine wpAnyH_done (by kernel_rfl) ?_ _
          obtain ⟨a0, a1, a2, a3, a4, a5, a6, hB, hs⟩ := id hH5
          clear hHC
          go_wp2_with fail
          go_meet
          exact ⟨B, rfl, rfl, hBo, hBl, q0, q1, q2, a0, a1, a2, a3, a4, a5, a6, hB, hs⟩
      · go_simp
        obtain ⟨a0, a1, a2, a3, a4, a5, a6, hB, hs⟩ := id hH0
        obtain ⟨B, hBq⟩ : ∃ B, B = w0.heap.size := ⟨_, rfl⟩
        obtain ⟨wA, hA⟩ : ∃ wA, wA = w0.alloc (.cells #[.int .i64 0, .int .i64 0, .bool false] 51) := ⟨_, rfl⟩
        rw [← hA, ← hBq]
        have hl : w0.heap.size < wA.heap.size := by rw [hA]; simp
        have k0 : wA.cell? ⟨B, 0, none⟩ = some (.int .i64 0) := by rw [hA, hBq]; simp
        have k1 : wA.cell? ⟨B, 1, none⟩ = some (.int .i64 0) := by rw [hA, hBq]; simp
        have k2 : wA.cell? ⟨B, 2, none⟩ = some (.bool false) := by rw [hA, hBq]; simp
        have f0 : wA.frozen? ⟨B, 0, none⟩ = false := by rw [hA, hBq]; simp
        have f1 : wA.frozen? ⟨B, 1, none⟩ = false := by rw [hA, hBq]; simp
        have f2 : wA.frozen? ⟨B, 2, none⟩ = false := by rw [hA, hBq]; simp
        have hBl : B < wA.heap.size := by omega
        have hBo : B1 + 1 ≤ B := by omega
        have hS1 : (fun w' => w'.cell? ⟨w.heap.size, 0, none⟩ = some (.int .i64 x0) ∧ w'.cell? ⟨w.heap.size, 1, none⟩ = some (.int .i64 y0) ∧ w'.cell? ⟨w.heap.size + 1, 0, none⟩ = some (.int .i64 x1) ∧ w'.cell? ⟨w.heap.size + 1, 1, none⟩ = some (.int .i64 y1) ∧ w'.cell? ⟨B1, 0, none⟩ = some (.int .i64 vx) ∧ w'.cell? ⟨B1, 1, none⟩ = some (.int .i64 vy) ∧ w'.cell? ⟨B1, 2, none⟩ = some (.bool vd) ∧ Below w.heap.size w w' ∧ B1 + 1 ≤ w'.heap.size) wA := ⟨by rw [hA]; exact (World.cell?_alloc_past _ _ _ (by omega)).trans a0, by rw [hA]; exact (World.cell?_alloc_past _ _ _ (by omega)).trans a1, by rw [hA]; exact (World.cell?_alloc_past _ _ _ (by omega)).trans a2, by rw [hA]; exact (World.cell?_alloc_past _ _ _ (by omega)).trans a3, by rw [hA]; exact (World.cell?_alloc_past _ _ _ (by omega)).trans a4, by rw [hA]; exact (World.cell?_alloc_past _ _ _ (by omega)).trans a5, by rw [hA]; exact (World.cell?_alloc_past _ _ _ (by omega)).trans a6, by rw [hA]; exact hB.alloc (by omega) _, by omega⟩
        clear hA hBq hl a0 a1 a2 a3 a4 a5 a6 hB hs
        refine hK.out _ _ ?_ (fun hH1 => ?_)
        · exact hS1
        clear hK K hH0 hS1
        (try simp only [Act.put, List.setIfInBounds_toArray, List.set_cons_zero, List.set_cons_succ])
        refine hold_call0 1 (by simp only [List.getElem?_toArray, List.getElem?_cons_succ, List.getElem?_cons_zero]; rfl) rfl (by kernel_rfl) (fun K hK => ?_)
        go_simp
        obtain ⟨a0, a1, a2, a3, a4, a5, a6, hB, hs⟩ := id hH1
        go_at_call 30
        refine (toCell_any _ _ _).mono ?_
        rintro e v1 ⟨rfl, hb⟩
        have hz := hb.size
        have hS1 : (fun w' => w'.cell? ⟨w.heap.size, 0, none⟩ = some (.int .i64 x0) ∧ w'.cell? ⟨w.heap.size, 1, none⟩ = some (.int .i64 y0) ∧ w'.cell? ⟨w.heap.size + 1, 0, none⟩ = some (.int .i64 x1) ∧ w'.cell? ⟨w.heap.size + 1, 1, none⟩ = some (.int .i64 y1) ∧ w'.cell? ⟨B1, 0, none⟩ = some (.int .i64 vx) ∧ w'.cell? ⟨B1, 1, none⟩ = some (.int .i64 vy) ∧ w'.cell? ⟨B1, 2, none⟩ = some (.bool vd) ∧ Below w.heap.size w w' ∧ B1 + 1 ≤ w'.heap.size) v1 := ⟨(hb.cell (p := ⟨w.heap.size, 0, none⟩) (by first | omega | (simp; done) | (simp; omega))).trans a0, (hb.cell (p := ⟨w.heap.size, 1, none⟩) (by first | omega | (simp; done) | (simp; omega))).trans a1, (hb.cell (p := ⟨w.heap.size + 1, 0, none⟩) (by first | omega | (simp; done) | (simp; omega))).trans a2, (hb.cell (p := ⟨w.heap.size + 1, 1, none⟩) (by first | omega | (simp; done) | (simp; omega))).trans a3, (hb.cell (p := ⟨B1, 0, none⟩) (by first | omega | (simp; done) | (simp; omega))).trans a4, (hb.cell (p := ⟨B1, 1, none⟩) (by first | omega | (simp; done) | (simp; omega))).trans a5, (hb.cell (p := ⟨B1, 2, none⟩) (by first | omega | (simp; done) | (simp; omega))).trans a6, below_step hb (by omega) hB, by omega⟩
        replace k0 : v1.cell? ⟨B, 0, none⟩ = some (.int .i64 0) := (hb.cell (p := ⟨B, 0, none⟩) (by first | omega | (simp; done) | (simp; omega))).trans k0
        replace k1 : v1.cell? ⟨B, 1, none⟩ = some (.int .i64 0) := (hb.cell (p := ⟨B, 1, none⟩) (by first | omega | (simp; done) | (simp; omega))).trans k1
        replace k2 : v1.cell? ⟨B, 2, none⟩ = some (.bool false) := (hb.cell (p := ⟨B, 2, none⟩) (by first | omega | (simp; done) | (simp; omega))).trans k2
        replace f0 : v1.frozen? ⟨B, 0, none⟩ = false := (hb.frozen (p := ⟨B, 0, none⟩) (by first | omega | (simp; done) | (simp; omega))).trans f0
        replace f1 : v1.frozen? ⟨B, 1, none⟩ = false := (hb.frozen (p := ⟨B, 1, none⟩) (by first | omega | (simp; done) | (simp; omega))).trans f1
        replace f2 : v1.frozen? ⟨B, 2, none⟩ = false := (hb.frozen (p := ⟨B, 2, none⟩) (by first | omega | (simp; done) | (simp; omega))).trans f2
        replace hBl : B < v1.heap.size := by omega
        clear hb hz a0 a1 a2 a3 a4 a5 a6 hB hs
        refine hK.out _ _ ?_ (fun hH2 => ?_)
        · exact hS1
        clear hK K hH1 hS1
        (try simp only [Act.put, List.setIfInBounds_toArray, List.set_cons_zero, List.set_cons_succ])
        refine hold_call0 3 (by simp only [List.getElem?_toArray, List.getElem?_cons_succ, List.getElem?_cons_zero]; rfl) rfl (by kernel_rfl) (fun K hK => ?_)
        go_simp
        obtain ⟨a0, a1, a2, a3, a4, a5, a6, hB, hs⟩ := id hH2
        go_at_call 30
        refine (toCell_any _ _ _).mono ?_
        rintro e v3 ⟨rfl, hb⟩
        have hz := hb.size
        have hS1 : (fun w' => w'.cell? ⟨w.heap.size, 0, none⟩ = some (.int .i64 x0) ∧ w'.cell? ⟨w.heap.size, 1, none⟩ = some (.int .i64 y0) ∧ w'.cell? ⟨w.heap.size + 1, 0, none⟩ = some (.int .i64 x1) ∧ w'.cell? ⟨w.heap.size + 1, 1, none⟩ = some (.int .i64 y1) ∧ w'.cell? ⟨B1, 0, none⟩ = some (.int .i64 vx) ∧ w'.cell? ⟨B1, 1, none⟩ = some (.int .i64 vy) ∧ w'.cell? ⟨B1, 2, none⟩ = some (.bool vd) ∧ Below w.heap.size w w' ∧ B1 + 1 ≤ w'.heap.size) v3 := ⟨(hb.cell (p := ⟨w.heap.size, 0, none⟩) (by first | omega | (simp; done) | (simp; omega))).trans a0, (hb.cell (p := ⟨w.heap.size, 1, none⟩) (by first | omega | (simp; done) | (simp; omega))).trans a1, (hb.cell (p := ⟨w.heap.size + 1, 0, none⟩) (by first | omega | (simp; done) | (simp; omega))).trans a2, (hb.cell (p := ⟨w.heap.size + 1, 1, none⟩) (by first | omega | (simp; done) | (simp; omega))).trans a3, (hb.cell (p := ⟨B1, 0, none⟩) (by first | omega | (simp; done) | (simp; omega))).trans a4, (hb.cell (p := ⟨B1, 1, none⟩) (by first | omega | (simp; done) | (simp; omega))).trans a5, (hb.cell (p := ⟨B1, 2, none⟩) (by first | omega | (simp; done) | (simp; omega))).trans a6, below_step hb (by omega) hB, by omega⟩
        replace k0 : v3.cell? ⟨B, 0, none⟩ = some (.int .i64 0) := (hb.cell (p := ⟨B, 0, none⟩) (by first | omega | (simp; done) | (simp; omega))).trans k0
        replace k1 : v3.cell? ⟨B, 1, none⟩ = some (.int .i64 0) := (hb.cell (p := ⟨B, 1, none⟩) (by first | omega | (simp; done) | (simp; omega))).trans k1
        replace k2 : v3.cell? ⟨B, 2, none⟩ = some (.bool false) := (hb.cell (p := ⟨B, 2, none⟩) (by first | omega | (simp; done) | (simp; omega))).trans k2
        replace f0 : v3.frozen? ⟨B, 0, none⟩ = false := (hb.frozen (p := ⟨B, 0, none⟩) (by first | omega | (simp; done) | (simp; omega))).trans f0
        replace f1 : v3.frozen? ⟨B, 1, none⟩ = false := (hb.frozen (p := ⟨B, 1, none⟩) (by first | omega | (simp; done) | (simp; omega))).trans f1
        replace f2 : v3.frozen? ⟨B, 2, none⟩ = false := (hb.frozen (p := ⟨B, 2, none⟩) (by first | omega | (simp; done) | (simp; omega))).trans f2
        replace hBl : B < v3.heap.size := by omega
        clear hb hz a0 a1 a2 a3 a4 a5 a6 hB hs
        refine hK.out _ _ ?_ (fun hH3 => ?_)
        · exact hS1
        clear hK K hH2 hS1
        (try simp only [Act.put, List.setIfInBounds_toArray, List.set_cons_zero, List.set_cons_succ])
        refine hold_call0 4 (by simp only [List.getElem?_toArray, List.getElem?_cons_succ, List.getElem?_cons_zero]; rfl) rfl (by kernel_rfl) (fun K hK => ?_)
        go_simp
        obtain ⟨a0, a1, a2, a3, a4, a5, a6, hB, hs⟩ := id hH3
        go_at_call 33
        refine (HIm.out _).mono ?_
        rintro e v4 ⟨rfl, hb⟩
        have hz := hb.size
        have hS1 : (fun w' => w'.cell? ⟨w.heap.size, 0, none⟩ = some (.int .i64 x0) ∧ w'.cell? ⟨w.heap.size, 1, none⟩ = some (.int .i64 y0) ∧ w'.cell? ⟨w.heap.size + 1, 0, none⟩ = some (.int .i64 x1) ∧ w'.cell? ⟨w.heap.size + 1, 1, none⟩ = some (.int .i64 y1) ∧ w'.cell? ⟨B1, 0, none⟩ = some (.int .i64 vx) ∧ w'.cell? ⟨B1, 1, none⟩ = some (.int .i64 vy) ∧ w'.cell? ⟨B1, 2, none⟩ = some (.bool vd) ∧ Below w.heap.size w w' ∧ B1 + 1 ≤ w'.heap.size) v4 := ⟨(hb.cell (p := ⟨w.heap.size, 0, none⟩) (by first | omega | (simp; done) | (simp; omega))).trans a0, (hb.cell (p := ⟨w.heap.size, 1, none⟩) (by first | omega | (simp; done) | (simp; omega))).trans a1, (hb.cell (p := ⟨w.heap.size + 1, 0, none⟩) (by first | omega | (simp; done) | (simp; omega))).trans a2, (hb.cell (p := ⟨w.heap.size + 1, 1, none⟩) (by first | omega | (simp; done) | (simp; omega))).trans a3, (hb.cell (p := ⟨B1, 0, none⟩) (by first | omega | (simp; done) | (simp; omega))).trans a4, (hb.cell (p := ⟨B1, 1, none⟩) (by first | omega | (simp; done) | (simp; omega))).trans a5, (hb.cell (p := ⟨B1, 2, none⟩) (by first | omega | (simp; done) | (simp; omega))).trans a6, below_step hb (by omega) hB, by omega⟩
        replace k0 : v4.cell? ⟨B, 0, none⟩ = some (.int .i64 0) := (hb.cell (p := ⟨B, 0, none⟩) (by first | omega | (simp; done) | (simp; omega))).trans k0
        replace k1 : v4.cell? ⟨B, 1, none⟩ = some (.int .i64 0) := (hb.cell (p := ⟨B, 1, none⟩) (by first | omega | (simp; done) | (simp; omega))).trans k1
        replace k2 : v4.cell? ⟨B, 2, none⟩ = some (.bool false) := (hb.cell (p := ⟨B, 2, none⟩) (by first | omega | (simp; done) | (simp; omega))).trans k2
        replace f0 : v4.frozen? ⟨B, 0, none⟩ = false := (hb.frozen (p := ⟨B, 0, none⟩) (by first | omega | (simp; done) | (simp; omega))).trans f0
        replace f1 : v4.frozen? ⟨B, 1, none⟩ = false := (hb.frozen (p := ⟨B, 1, none⟩) (by first | omega | (simp; done) | (simp; omega))).trans f1
        replace f2 : v4.frozen? ⟨B, 2, none⟩ = false := (hb.frozen (p := ⟨B, 2, none⟩) (by first | omega | (simp; done) | (simp; omega))).trans f2
        replace hBl : B < v4.heap.size := by omega
        clear hb hz a0 a1 a2 a3 a4 a5 a6 hB hs
        refine hK.out _ _ ?_ (fun hH4 => ?_)
        · exact hS1
        clear hK K hH3 hS1
        (try simp only [Act.put, List.setIfInBounds_toArray, List.set_cons_zero, List.set_cons_succ])
        refine hold_plain 5 (v := ?_) hHC hH4 (by simp only [List.getElem?_toArray, List.getElem?_cons_succ, List.getElem?_cons_zero]; rfl) rfl (by kernel_rfl) ?_ ?_
        rotate_left 1
        · (intro w hSw; (try dsimp only at hSw); go_simp; try with_reducible rfl)
        (try simp only [Act.put, List.setIfInBounds_toArray, List.set_cons_zero, List.set_cons_succ])
        refine hold_plain 6 (v := ?_) hHC hH4 (by simp only [List.getElem?_toArray, List.getElem?_cons_succ, List.getElem?_cons_zero]; rfl) rfl (by kernel_rfl) ?_ ?_
        rotate_left 1
        · (intro w hSw; (try dsimp only at hSw); go_simp; try with_reducible rfl)
        (try simp only [Act.put, List.setIfInBounds_toArray, List.set_cons_zero, List.set_cons_succ])
        refine hold_plain 7 (v := ?_) hHC hH4 (by simp only [List.getElem?_toArray, List.getElem?_cons_succ, List.getElem?_cons_zero]; rfl) rfl (by kernel_rfl) ?_ ?_
        rotate_left 1
        · (intro w hSw; (try dsimp only at hSw); go_simp; try with_reducible rfl)
        (try simp only [Act.put, List.setIfInBounds_toArray, List.set_cons_zero, List.set_cons_succ])
        refine hold_call0 9 (by simp only [List.getElem?_toArray, List.getElem?_cons_succ, List.getElem?_cons_zero]; rfl) rfl (by kernel_rfl) (fun K hK => ?_)
        go_simp
        obtain ⟨a0, a1, a2, a3, a4, a5, a6, hB, hs⟩ := id hH4
        obtain ⟨wS, hW⟩ : ∃ wS, wS = (((v4.setCell ⟨B, 0, none⟩ (.int .i64 vx)).setCell ⟨B, 1, none⟩ (.int .i64 vy)).setCell ⟨B, 2, none⟩ (.bool vd)) := ⟨_, rfl⟩
        rw [← hW]
        have q0 : wS.cell? ⟨B, 0, none⟩ = some (.int .i64 vx) := by rw [hW]; go_simp
        have q1 : wS.cell? ⟨B, 1, none⟩ = some (.int .i64 vy) := by rw [hW]; go_simp
        have q2 : wS.cell? ⟨B, 2, none⟩ = some (.bool vd) := by rw [hW]; go_simp
        have hS1 : (fun w' => w'.cell? ⟨w.heap.size, 0, none⟩ = some (.int .i64 x0) ∧ w'.cell? ⟨w.heap.size, 1, none⟩ = some (.int .i64 y0) ∧ w'.cell? ⟨w.heap.size + 1, 0, none⟩ = some (.int .i64 x1) ∧ w'.cell? ⟨w.heap.size + 1, 1, none⟩ = some (.int .i64 y1) ∧ w'.cell? ⟨B1, 0, none⟩ = some (.int .i64 vx) ∧ w'.cell? ⟨B1, 1, none⟩ = some (.int .i64 vy) ∧ w'.cell? ⟨B1, 2, none⟩ = some (.bool vd) ∧ Below w.heap.size w w' ∧ B1 + 1 ≤ w'.heap.size) wS := ⟨by rw [hW]; go_simp, by rw [hW]; go_simp, by rw [hW]; go_simp, by rw [hW]; go_simp, by rw [hW]; go_simp, by rw [hW]; go_simp, by rw [hW]; go_simp, by rw [hW]; exact ((hB.setCell (by simp; omega) _).setCell (by simp; omega) _).setCell (by simp; omega) _, by rw [hW]; simpa using hs⟩
        replace hBl : B < wS.heap.size := by rw [hW]; simpa using hBl
        clear hW a0 a1 a2 a3 a4 a5 a6 hB hs
        refine hK.out _ _ ?_ (fun hH5 => ?_)
        · exact hS1
        clear hK K hH4 hS1
        (try simp only [Act.put, List.setIfInBounds_toArray, List.set_cons_zero, List.set_cons_succ])
        refine hold_plain 10 (v := ?_) hHC hH5 (by simp only [List.getElem?_toArray, List.getElem?_cons_succ, List.getElem?_cons_zero]; rfl) rfl (by kernel_rfl) ?_ ?_
        rotate_left 1
        · (intro w hSw; (try dsimp only at hSw); go_simp; try with_reducible rfl)
        (try simp only [Act.put, List.setIfInBounds_toArray, List.set_cons_zero, List.set_cons_succ])
        refine wpAnyH_done (by kernel_rfl) ?_ _
        obtain ⟨a0, a1, a2, a3, a4, a5, a6, hB, hs⟩ := id hH5
        clear hHC
        go_wp2_with fail
        go_meet
        exact ⟨B, rfl, rfl, hBo, hBl, q0, q1, q2, a0, a1, a2, a3, a4, a5, a6, hB, hs⟩
    case rest =>
      obtain ⟨B2, rfl, rfl, hlo2, hl2, g0, g1, g2, -, -, -, -, e0, e1, e2, hBc, hsc2⟩ := hcut
      clear HIm
      go_wp2_with (go_at_call 34; refine (eqDomino_any _ _ _ _ _ _ _).mono ?_; rintro e wz ⟨rfl, hb⟩; have hB : Below w.heap.size w wz := below_step hb (by first | omega | (simp; done) | (simp; omega)) (by repeat' (first | assumption | (with_reducible exact Below.refl _ _) | (with_reducible refine Below.drew ?_) | (with_reducible refine Below.alloc ?_ ?_ _) | (with_reducible refine Below.setCell ?_ ?_ _) | omega | (simp; done) | (simp; omega))); clear hb)
      go_ret
      exact ⟨ret_b (by simp), by repeat' (first | assumption | (with_reducible exact Below.refl _ _) | (with_reducible refine Below.drew ?_) | (with_reducible refine Below.alloc ?_ ?_ _) | (with_reducible refine Below.setCell ?_ ?_ _) | omega | (simp; done) | (simp; omega))⟩
end Go.Proofs.Ytbkoignjagobaaa.fnExactDominoOver
