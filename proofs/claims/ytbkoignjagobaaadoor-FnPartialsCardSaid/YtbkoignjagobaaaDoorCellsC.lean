/-
  Contracts of the functions on cells: indices and neighbors.
-/
import Derived.Test.YtbkoignjagobaaaDoorCellsB
namespace Go.Proofs.YtbkoignjagobaaaDoor
open Go.RowKit
set_option linter.unusedVariables false
set_option linter.unusedSimpArgs false

theorem cellAt_any (i : Int) (w : World) (h0 : 0 ≤ i) (h1 : i ≤ 63) :
    Calls Tryd.prog 40 #[.int .i64 i] w fun e w' => e = .returned (.agg #[.int .i64 (i % 8), .int .i64 (i / 8)]) ∧ Below w.heap.size w w' := by
  go_enter Tryd.func40, Tryd.ntmps40
  go_wp2
  exact bodyPost_ret (v := .agg #[.int .i64 (i % 8), .int .i64 (i / 8)]) (by simp [results, Tryd.results40, go_sem]) rfl ⟨rfl, by repeat' (first | assumption | (with_reducible exact Below.refl _ _) | (with_reducible refine Below.drew ?_) | (with_reducible refine Below.alloc ?_ ?_ _) | (with_reducible refine Below.setCell ?_ ?_ _) | omega | (simp; done) | (simp; omega))⟩

/-- The cell that an index tells; the first one where it tells none. -/
def atX (i : Int) : Int := if inB i 0 63 then i % 8 else 0
def atY (i : Int) : Int := if inB i 0 63 then i / 8 else 0
theorem atX_yes {i : Int} (h : inB i 0 63 = true) : atX i = i % 8 := by simp [atX, h]
theorem atY_yes {i : Int} (h : inB i 0 63 = true) : atY i = i / 8 := by simp [atY, h]
theorem atX_no {i : Int} (h : inB i 0 63 = false) : atX i = 0 := by simp [atX, h]
theorem atY_no {i : Int} (h : inB i 0 63 = false) : atY i = 0 := by simp [atY, h]
theorem ret_cb {x x' y y' : Int} {b b' : Bool} (h1 : x = x') (h2 : y = y') (h3 : b = b') : Ending.returned (.tuple #[.agg #[.int .i64 x, .int .i64 y], .bool b]) = .returned (.tuple #[.agg #[.int .i64 x', .int .i64 y'], .bool b']) := by rw [h1, h2, h3]

theorem specAt_any (i : Int) (w : World) :
    Calls Tryd.prog 44 #[.int .i64 i] w fun e w' => e = .returned (.tuple #[.agg #[.int .i64 (atX i), .int .i64 (atY i)], .bool (inB i 0 63)]) ∧ Below w.heap.size w w' := by
  by_cases h1 : inB i 0 63 = true
  · obtain ⟨h2, h3⟩ := inB_iff.1 h1
    have HX := Lib.hid (atX_yes h1)
    have HY := Lib.hid (atY_yes h1)
    have HB := Lib.hid h1
    go_enter Tryd.func44, Tryd.ntmps44
    go_wp2_with (go_at_call 51; refine (specIn_any _ _ _ _).mono ?_; rintro e w' ⟨rfl, rfl⟩)
    exact bodyPost_ret (v := .tuple #[.agg #[.int .i64 (i % 8), .int .i64 (i / 8)], .bool true]) (by simp [results, Tryd.results44, go_sem]) rfl ⟨ret_cb HX.out.symm HY.out.symm HB.out.symm, by repeat' (first | assumption | (with_reducible exact Below.refl _ _) | (with_reducible refine Below.drew ?_) | (with_reducible refine Below.alloc ?_ ?_ _) | (with_reducible refine Below.setCell ?_ ?_ _) | omega | (simp; done) | (simp; omega))⟩
  · have h1' : inB i 0 63 = false := by simpa using h1
    have HX := Lib.hid (atX_no h1')
    have HY := Lib.hid (atY_no h1')
    go_enter Tryd.func44, Tryd.ntmps44
    go_wp2_with (go_at_call 51; refine (specIn_any _ _ _ _).mono ?_; rintro e w' ⟨rfl, rfl⟩)
    exact bodyPost_ret (v := .tuple #[.agg #[.int .i64 0, .int .i64 0], .bool false]) (by simp [results, Tryd.results44, go_sem]) rfl ⟨ret_cb HX.out.symm HY.out.symm h1'.symm, by repeat' (first | assumption | (with_reducible exact Below.refl _ _) | (with_reducible refine Below.drew ?_) | (with_reducible refine Below.alloc ?_ ?_ _) | (with_reducible refine Below.setCell ?_ ?_ _) | omega | (simp; done) | (simp; omega))⟩

/-- The index of a cell; -1 where it is not valid. -/
def idxI (x y : Int) : Int := if okB x y then y * 8 + x else -1
theorem idxI_yes {x y : Int} (h : okB x y = true) : idxI x y = y * 8 + x := by simp [idxI, h]
theorem idxI_no {x y : Int} (h : okB x y = false) : idxI x y = -1 := by simp [idxI, h]

theorem implIdx_any (x y : Int) (w : World) :
    Calls Tryd.prog 38 #[.agg #[.int .i64 x, .int .i64 y]] w fun e w' => e = .returned (.int .i64 (idxI x y)) ∧ Below w.heap.size w w' := by
  by_cases h1 : okB x y = true
  · obtain ⟨⟨hx0, hx7⟩, hy0, hy7⟩ := okB_iff.1 h1
    have HI := Lib.hid (idxI_yes h1)
    go_enter Tryd.func38, Tryd.ntmps38
    go_wp2_with (go_at_call 37; refine (implOk_any _ _ _).mono ?_; rintro e w1 ⟨rfl, hb1⟩; have hz := hb1.size; (try simp at hz); (first | (have hc1 : ∀ b o, b ≤ w.heap.size + 5 → w1.cell? ⟨b, o, none⟩ = _ := fun b o h => hb1.cell (p := ⟨b, o, none⟩) (by first | omega | (simp; omega)); have hf1 : ∀ b o, b ≤ w.heap.size + 5 → w1.frozen? ⟨b, o, none⟩ = _ := fun b o h => hb1.frozen (p := ⟨b, o, none⟩) (by first | omega | (simp; omega))) | (have hc1 : ∀ b o, b ≤ w.heap.size + 4 → w1.cell? ⟨b, o, none⟩ = _ := fun b o h => hb1.cell (p := ⟨b, o, none⟩) (by first | omega | (simp; omega)); have hf1 : ∀ b o, b ≤ w.heap.size + 4 → w1.frozen? ⟨b, o, none⟩ = _ := fun b o h => hb1.frozen (p := ⟨b, o, none⟩) (by first | omega | (simp; omega))) | (have hc1 : ∀ b o, b ≤ w.heap.size + 3 → w1.cell? ⟨b, o, none⟩ = _ := fun b o h => hb1.cell (p := ⟨b, o, none⟩) (by first | omega | (simp; omega)); have hf1 : ∀ b o, b ≤ w.heap.size + 3 → w1.frozen? ⟨b, o, none⟩ = _ := fun b o h => hb1.frozen (p := ⟨b, o, none⟩) (by first | omega | (simp; omega))) | (have hc1 : ∀ b o, b ≤ w.heap.size + 2 → w1.cell? ⟨b, o, none⟩ = _ := fun b o h => hb1.cell (p := ⟨b, o, none⟩) (by first | omega | (simp; omega)); have hf1 : ∀ b o, b ≤ w.heap.size + 2 → w1.frozen? ⟨b, o, none⟩ = _ := fun b o h => hb1.frozen (p := ⟨b, o, none⟩) (by first | omega | (simp; omega))) | (have hc1 : ∀ b o, b ≤ w.heap.size + 1 → w1.cell? ⟨b, o, none⟩ = _ := fun b o h => hb1.cell (p := ⟨b, o, none⟩) (by first | omega | (simp; omega)); have hf1 : ∀ b o, b ≤ w.heap.size + 1 → w1.frozen? ⟨b, o, none⟩ = _ := fun b o h => hb1.frozen (p := ⟨b, o, none⟩) (by first | omega | (simp; omega))) | (have hc1 : ∀ b o, b ≤ w.heap.size + 0 → w1.cell? ⟨b, o, none⟩ = _ := fun b o h => hb1.cell (p := ⟨b, o, none⟩) (by first | omega | (simp; omega)); have hf1 : ∀ b o, b ≤ w.heap.size + 0 → w1.frozen? ⟨b, o, none⟩ = _ := fun b o h => hb1.frozen (p := ⟨b, o, none⟩) (by first | omega | (simp; omega))) | skip); have hB : Below w.heap.size w w1 := below_step hb1 (by first | omega | (simp; done) | (simp; omega)) (by repeat' (first | assumption | (with_reducible exact Below.refl _ _) | (with_reducible refine Below.drew ?_) | (with_reducible refine Below.alloc ?_ ?_ _) | (with_reducible refine Below.setCell ?_ ?_ _) | omega | (simp; done) | (simp; omega))); clear hb1)
    go_ret
    exact ⟨ret_i HI.out.symm, by repeat' (first | assumption | (with_reducible exact Below.refl _ _) | (with_reducible refine Below.drew ?_) | (with_reducible refine Below.alloc ?_ ?_ _) | (with_reducible refine Below.setCell ?_ ?_ _) | omega | (simp; done) | (simp; omega))⟩
  · have h1' : okB x y = false := by simpa using h1
    have HI := Lib.hid (idxI_no h1')
    go_enter Tryd.func38, Tryd.ntmps38
    go_wp2_with (go_at_call 37; refine (implOk_any _ _ _).mono ?_; rintro e w1 ⟨rfl, hb1⟩; have hz := hb1.size; (try simp at hz); (first | (have hc1 : ∀ b o, b ≤ w.heap.size + 5 → w1.cell? ⟨b, o, none⟩ = _ := fun b o h => hb1.cell (p := ⟨b, o, none⟩) (by first | omega | (simp; omega)); have hf1 : ∀ b o, b ≤ w.heap.size + 5 → w1.frozen? ⟨b, o, none⟩ = _ := fun b o h => hb1.frozen (p := ⟨b, o, none⟩) (by first | omega | (simp; omega))) | (have hc1 : ∀ b o, b ≤ w.heap.size + 4 → w1.cell? ⟨b, o, none⟩ = _ := fun b o h => hb1.cell (p := ⟨b, o, none⟩) (by first | omega | (simp; omega)); have hf1 : ∀ b o, b ≤ w.heap.size + 4 → w1.frozen? ⟨b, o, none⟩ = _ := fun b o h => hb1.frozen (p := ⟨b, o, none⟩) (by first | omega | (simp; omega))) | (have hc1 : ∀ b o, b ≤ w.heap.size + 3 → w1.cell? ⟨b, o, none⟩ = _ := fun b o h => hb1.cell (p := ⟨b, o, none⟩) (by first | omega | (simp; omega)); have hf1 : ∀ b o, b ≤ w.heap.size + 3 → w1.frozen? ⟨b, o, none⟩ = _ := fun b o h => hb1.frozen (p := ⟨b, o, none⟩) (by first | omega | (simp; omega))) | (have hc1 : ∀ b o, b ≤ w.heap.size + 2 → w1.cell? ⟨b, o, none⟩ = _ := fun b o h => hb1.cell (p := ⟨b, o, none⟩) (by first | omega | (simp; omega)); have hf1 : ∀ b o, b ≤ w.heap.size + 2 → w1.frozen? ⟨b, o, none⟩ = _ := fun b o h => hb1.frozen (p := ⟨b, o, none⟩) (by first | omega | (simp; omega))) | (have hc1 : ∀ b o, b ≤ w.heap.size + 1 → w1.cell? ⟨b, o, none⟩ = _ := fun b o h => hb1.cell (p := ⟨b, o, none⟩) (by first | omega | (simp; omega)); have hf1 : ∀ b o, b ≤ w.heap.size + 1 → w1.frozen? ⟨b, o, none⟩ = _ := fun b o h => hb1.frozen (p := ⟨b, o, none⟩) (by first | omega | (simp; omega))) | (have hc1 : ∀ b o, b ≤ w.heap.size + 0 → w1.cell? ⟨b, o, none⟩ = _ := fun b o h => hb1.cell (p := ⟨b, o, none⟩) (by first | omega | (simp; omega)); have hf1 : ∀ b o, b ≤ w.heap.size + 0 → w1.frozen? ⟨b, o, none⟩ = _ := fun b o h => hb1.frozen (p := ⟨b, o, none⟩) (by first | omega | (simp; omega))) | skip); have hB : Below w.heap.size w w1 := below_step hb1 (by first | omega | (simp; done) | (simp; omega)) (by repeat' (first | assumption | (with_reducible exact Below.refl _ _) | (with_reducible refine Below.drew ?_) | (with_reducible refine Below.alloc ?_ ?_ _) | (with_reducible refine Below.setCell ?_ ?_ _) | omega | (simp; done) | (simp; omega))); clear hb1)
    go_ret
    exact ⟨ret_i HI.out.symm, by repeat' (first | assumption | (with_reducible exact Below.refl _ _) | (with_reducible refine Below.drew ?_) | (with_reducible refine Below.alloc ?_ ?_ _) | (with_reducible refine Below.setCell ?_ ?_ _) | omega | (simp; done) | (simp; omega))⟩

theorem wrap_small {n : Int} (h0 : -1000 ≤ n) (h1 : n ≤ 1000) : IntKind.i64.wrap n = n := by rw [IntKind.wrap_i64]; omega

/-- Whether two cells have a side in common. -/
def nbB (x y x' y' : Int) : Bool := okB x y && (okB x' y' && decide ((x - x').natAbs + (y - y').natAbs = 1))
theorem nbB_no1 {x y x' y' : Int} (h : okB x y = false) : nbB x y x' y' = false := by simp [nbB, h]
theorem nbB_no2 {x y x' y' : Int} (h : okB x' y' = false) : nbB x y x' y' = false := by simp [nbB, h]
theorem nbB_yes {x y x' y' : Int} (h : okB x y = true) (h' : okB x' y' = true) : nbB x y x' y' = decide ((x - x').natAbs + (y - y').natAbs = 1) := by simp [nbB, h, h']
theorem sq_sum {a b : Int} (ha : -7 ≤ a) (ha' : a ≤ 7) (hb : -7 ≤ b) (hb' : b ≤ 7) : (a * a + b * b = 1) ↔ a.natAbs + b.natAbs = 1 := by
  have h1 : a = -7 ∨ a = -6 ∨ a = -5 ∨ a = -4 ∨ a = -3 ∨ a = -2 ∨ a = -1 ∨ a = 0 ∨ a = 1 ∨ a = 2 ∨ a = 3 ∨ a = 4 ∨ a = 5 ∨ a = 6 ∨ a = 7 := by omega
  have h2 : b = -7 ∨ b = -6 ∨ b = -5 ∨ b = -4 ∨ b = -3 ∨ b = -2 ∨ b = -1 ∨ b = 0 ∨ b = 1 ∨ b = 2 ∨ b = 3 ∨ b = 4 ∨ b = 5 ∨ b = 6 ∨ b = 7 := by omega
  rcases h1 with rfl | rfl | rfl | rfl | rfl | rfl | rfl | rfl | rfl | rfl | rfl | rfl | rfl | rfl | rfl <;>
    rcases h2 with rfl | rfl | rfl | rfl | rfl | rfl | rfl | rfl | rfl | rfl | rfl | rfl | rfl | rfl | rfl <;> decide
theorem sq_bd {a : Int} (ha : -7 ≤ a) (ha' : a ≤ 7) : 0 ≤ a * a ∧ a * a ≤ 49 := by
  have h1 : a = -7 ∨ a = -6 ∨ a = -5 ∨ a = -4 ∨ a = -3 ∨ a = -2 ∨ a = -1 ∨ a = 0 ∨ a = 1 ∨ a = 2 ∨ a = 3 ∨ a = 4 ∨ a = 5 ∨ a = 6 ∨ a = 7 := by omega
  rcases h1 with rfl | rfl | rfl | rfl | rfl | rfl | rfl | rfl | rfl | rfl | rfl | rfl | rfl | rfl | rfl <;> decide

end Go.Proofs.YtbkoignjagobaaaDoor
