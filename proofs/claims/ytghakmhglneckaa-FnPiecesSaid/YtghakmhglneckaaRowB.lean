/-
  A row of truth values in memory.
-/
import Derived.Test.YtghakmhglneckaaList
import Derived.Laws.OwnMore
namespace Go.Proofs.Ytghakmhglneckaa
open Go.RowKit
set_option linter.unusedVariables false
set_option linter.unusedSimpArgs false

def upd (U : Nat → Bool) (k : Nat) : Nat → Bool := fun i => if i = k then true else U i
/-- A row of truth values in memory. -/
def RowB (w : World) (g n : Nat) (U : Nat → Bool) : Prop := ∃ cur, w.heap[g]? = some (.cells cur 4 (0, 0)) ∧ cur.size = n ∧ ∀ i, i < n → cur[i]? = some (.bool (U i))
theorem RowB.lt {w : World} {g n : Nat} {U : Nat → Bool} (h : RowB w g n U) : g < w.heap.size := by obtain ⟨cur, h1, -⟩ := h; exact (Array.getElem?_eq_some_iff.1 h1).1
theorem RowB.cell {w : World} {g n : Nat} {U : Nat → Bool} (h : RowB w g n U) {i : Nat} (hi : i < n) : w.cell? ⟨g, i, none⟩ = some (.bool (U i)) := by
  obtain ⟨cur, h1, h2, h3⟩ := h
  simp only [World.cell?, h1]
  exact h3 i hi
theorem RowB.frozen {w : World} {g n : Nat} {U : Nat → Bool} (h : RowB w g n U) (i : Nat) : w.frozen? ⟨g, i, none⟩ = false := by
  obtain ⟨cur, h1, h2, h3⟩ := h
  simp [World.frozen?, h1]
theorem RowB.below {w w' : World} {g n B : Nat} {U : Nat → Bool} (h : RowB w g n U) (hb : Below B w w') (hg : g < B) : RowB w' g n U := by
  obtain ⟨cur, h1, h2, h3⟩ := h
  exact ⟨cur, (hb.block g hg).trans h1, h2, h3⟩
theorem RowB.set_ {w : World} {g n k : Nat} {U : Nat → Bool} (h : RowB w g n U) (hk : k < n) : RowB (w.setCell ⟨g, k, none⟩ (.bool true)) g n (upd U k) := by
  obtain ⟨cur, h1, h2, h3⟩ := h
  refine ⟨cur.setIfInBounds k (.bool true), heap_setCell_same w g k cur _ _ h1, by simpa using h2, fun i hi => ?_⟩
  unfold upd
  rw [Array.getElem?_setIfInBounds]
  by_cases e : k = i
  · subst e; simp [h2, hk]
  · have : ¬ i = k := fun h => e h.symm
    simp [e, this, h3 i hi]
theorem boolInfo : (Try.prog.info? 4).map (fun i => (i.zero, i.size, i.bytes)) = some (some (.bool false), 1, 1) := by kernel_rfl
theorem rowB_new {w : World} {B g n : Nat} (h : w.ownsRow B 4 1 (.slice (some ⟨g, 0, none⟩) n n) n (madeCells (Value.bool false).cells (n * 1)).toList) : RowB w g n (fun _ => false) := by
  rcases h.2 with ⟨hv, -⟩ | ⟨g', cap, cur, hv, hb, hg, hnc, hcm, hcs, ht⟩
  · cases hv
  · have e : g' = g ∧ n = cap := by injection hv with e1 _ e3; injection e1 with e1; injection e1 with e1; exact ⟨e1.symm, e3⟩
    obtain ⟨rfl, rfl⟩ := e
    refine ⟨cur, hg, by omega, fun i hi => ?_⟩
    have e2 : (madeCells (Value.bool false).cells (n * 1)).toList = List.replicate (n * 1) (.bool false) := toList_madeCells_one _ _
    rw [e2, List.take_of_length_le (by simp; omega)] at ht
    rw [← Array.getElem?_toList, ht, List.getElem?_replicate]
    rw [if_pos (by omega)]
theorem RowB.alloc_ {w : World} {g n : Nat} {U : Nat → Bool} (h : RowB w g n U) (o : Obj) : RowB (w.alloc o) g n U := h.below (B := w.heap.size) ((Below.refl _ _).alloc (Nat.le_refl _) o) h.lt
theorem RowB.next {w w' : World} {g n : Nat} {U : Nat → Bool} (h : RowB w g n U) (hb : Below w.heap.size w w') : RowB w' g n U := h.below hb h.lt
theorem RowB.kept {w w' : World} {g n : Nat} {U : Nat → Bool} (h : RowB w g n U) (hh : w'.heap[g]? = w.heap[g]?) : RowB w' g n U := by obtain ⟨cur, h1, h2⟩ := h; exact ⟨cur, hh.trans h1, h2⟩
end Go.Proofs.Ytghakmhglneckaa
