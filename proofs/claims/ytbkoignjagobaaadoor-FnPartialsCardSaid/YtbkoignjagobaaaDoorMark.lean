/-
  Contracts of the law's helpers that write into a result and look at it again.
-/
import Derived.Test.YtbkoignjagobaaaDoorRegI
namespace Go.Proofs.YtbkoignjagobaaaDoor
open Go.RowKit
set_option linter.unusedVariables false
set_option linter.unusedSimpArgs false

/-- The numbers from 1 on, as cells. -/
def MK (m : Nat) : List Value := (List.range m).map fun i : Nat => Value.int .i64 (1 + (i : Int))
theorem MK_len (m : Nat) : (MK m).length = m := by simp [MK]
theorem MK_at {m i : Nat} (h : i < m) : (MK m)[i]? = some (.int .i64 (1 + (i : Int))) := by simp [MK, h]
theorem MK_succ (m : Nat) : MK (m + 1) = MK m ++ [.int .i64 (1 + (m : Int))] := by simp [MK, List.range_succ]
theorem mk_set {xs : List Value} {j : Nat} (hj : j < xs.length) (h : xs.take j = MK j) : (xs.set j (.int .i64 (1 + (j : Int)))).take (j + 1) = MK (j + 1) := by
  rw [MK_succ, ← h, List.take_add_one, List.take_set]
  simp [List.getElem?_set, hj]
  rw [List.set_eq_of_length_le (by rw [List.length_take]; omega)]
theorem gb_set {a w : World} {g : Nat} (h : a.grownBy w (some g)) (o : Nat) (u : Value) : a.grownBy (w.setCell ⟨g, o, none⟩ u) (some g) :=
  ⟨h.os, h.tape, h.output, by simpa [World.setCell] using h.size, fun i hi hne => (Below.heap_setCell w ⟨g, o, none⟩ u i (by rintro rfl; exact hne rfl)).trans (h.block i hi hne)⟩
theorem gb_alloc {a w : World} {r : Option Nat} (h : a.grownBy w r) (o : Obj) : a.grownBy (w.alloc o) r :=
  ⟨h.os, h.tape, h.output, Nat.le_trans h.size (by simp), fun i hi hne => (Below.heap_alloc w o i (Nat.lt_of_lt_of_le hi h.size)).trans (h.block i hi hne)⟩
theorem gb_step {a w w' : World} {r : Option Nat} (h : a.grownBy w r) (hg : w.grownBy w' r) : a.grownBy w' r :=
  ⟨hg.os.trans h.os, hg.tape.trans h.tape, hg.output.trans h.output, Nat.le_trans h.size hg.size, fun i hi hne => (hg.block i (Nat.lt_of_lt_of_le hi h.size) hne).trans (h.block i hi hne)⟩
theorem gb_below {a w : World} {g B : Nat} (h : a.grownBy w (some g)) (hB : B ≤ g) (hs : B ≤ a.heap.size) : Below B a w := (Below.refl _ _).grown h hs (fun k hk => by cases hk; exact hB)


end Go.Proofs.YtbkoignjagobaaaDoor
