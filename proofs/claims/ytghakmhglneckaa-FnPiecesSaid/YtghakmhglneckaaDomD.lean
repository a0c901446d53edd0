/-
  Contracts of the sets of cells of a domino, and of the overlap of two dominoes.
-/
import Derived.Test.YtghakmhglneckaaDomC
import Derived.Test.YtghakmhglneckaaDomU
namespace Go.Proofs.Ytghakmhglneckaa
open Go.RowKit
set_option linter.unusedVariables false
set_option linter.unusedSimpArgs false

/-- A cell's bit. -/
def bitOf (x y : Int) : Nat := 2 ^ (y * 8 + x).toNat
theorem with_any (S : Nat) (x y : Int) (w : World) (hS : Hid (S < 2 ^ 64)) (h : okB x y = true) :
    Calls Try.prog 66 #[.int .u64 (S : Int), .agg #[.int .i64 x, .int .i64 y]] w fun e w' => e = .returned (.int .u64 ((S ||| bitOf x y : Nat) : Int)) ∧ Below w.heap.size w w' := by
  obtain ⟨⟨hx0, hx7⟩, hy0, hy7⟩ := okB_iff.1 h
  have hi2 := idxI_yes h
  have hb : 0 ≤ idxI x y ∧ idxI x y ≤ 63 := by omega
  obtain ⟨hb0, hb1⟩ := hb
  have HI := Lib.hid hi2
  clear hi2
  go_enter Try.func66, Try.ntmps66
  go_wp2_with (go_at_call 65; refine (implIdx_any _ _ _).mono ?_; rintro e w1 ⟨rfl, hb1⟩; have hz := hb1.size; (try simp at hz); (first | (have hc1 : ∀ b o, b ≤ w.heap.size + 5 → w1.cell? ⟨b, o, none⟩ = _ := fun b o h => hb1.cell (p := ⟨b, o, none⟩) (by first | omega | (simp; omega)); have hf1 : ∀ b o, b ≤ w.heap.size + 5 → w1.frozen? ⟨b, o, none⟩ = _ := fun b o h => hb1.frozen (p := ⟨b, o, none⟩) (by first | omega | (simp; omega))) | (have hc1 : ∀ b o, b ≤ w.heap.size + 4 → w1.cell? ⟨b, o, none⟩ = _ := fun b o h => hb1.cell (p := ⟨b, o, none⟩) (by first | omega | (simp; omega)); have hf1 : ∀ b o, b ≤ w.heap.size + 4 → w1.frozen? ⟨b, o, none⟩ = _ := fun b o h => hb1.frozen (p := ⟨b, o, none⟩) (by first | omega | (simp; omega))) | (have hc1 : ∀ b o, b ≤ w.heap.size + 3 → w1.cell? ⟨b, o, none⟩ = _ := fun b o h => hb1.cell (p := ⟨b, o, none⟩) (by first | omega | (simp; omega)); have hf1 : ∀ b o, b ≤ w.heap.size + 3 → w1.frozen? ⟨b, o, none⟩ = _ := fun b o h => hb1.frozen (p := ⟨b, o, none⟩) (by first | omega | (simp; omega))) | (have hc1 : ∀ b o, b ≤ w.heap.size + 2 → w1.cell? ⟨b, o, none⟩ = _ := fun b o h => hb1.cell (p := ⟨b, o, none⟩) (by first | omega | (simp; omega)); have hf1 : ∀ b o, b ≤ w.heap.size + 2 → w1.frozen? ⟨b, o, none⟩ = _ := fun b o h => hb1.frozen (p := ⟨b, o, none⟩) (by first | omega | (simp; omega))) | (have hc1 : ∀ b o, b ≤ w.heap.size + 1 → w1.cell? ⟨b, o, none⟩ = _ := fun b o h => hb1.cell (p := ⟨b, o, none⟩) (by first | omega | (simp; omega)); have hf1 : ∀ b o, b ≤ w.heap.size + 1 → w1.frozen? ⟨b, o, none⟩ = _ := fun b o h => hb1.frozen (p := ⟨b, o, none⟩) (by first | omega | (simp; omega))) | (have hc1 : ∀ b o, b ≤ w.heap.size + 0 → w1.cell? ⟨b, o, none⟩ = _ := fun b o h => hb1.cell (p := ⟨b, o, none⟩) (by first | omega | (simp; omega)); have hf1 : ∀ b o, b ≤ w.heap.size + 0 → w1.frozen? ⟨b, o, none⟩ = _ := fun b o h => hb1.frozen (p := ⟨b, o, none⟩) (by first | omega | (simp; omega))) | skip); have hB : Below w.heap.size w w1 := below_step hb1 (by first | omega | (simp; done) | (simp; omega)) (by repeat' (first | assumption | (with_reducible exact Below.refl _ _) | (with_reducible refine Below.drew ?_) | (with_reducible refine Below.alloc ?_ ?_ _) | (with_reducible refine Below.setCell ?_ ?_ _) | omega | (simp; done) | (simp; omega))); clear hb1)
  go_ret
  exact ⟨ret_u (by show bits .or .u64 (S : Int) (IntKind.u64.wrap (2 ^ (idxI x y).toNat)) = _; rw [u64_or_bit hS.out (by omega), HI.out]; rfl), by repeat' (first | assumption | (with_reducible exact Below.refl _ _) | (with_reducible refine Below.drew ?_) | (with_reducible refine Below.alloc ?_ ?_ _) | (with_reducible refine Below.setCell ?_ ?_ _) | omega | (simp; done) | (simp; omega))⟩
theorem bitOf_lt {x y : Int} (h : okB x y = true) : bitOf x y < 2 ^ 64 := by
  obtain ⟨⟨hx0, hx7⟩, hy0, hy7⟩ := okB_iff.1 h
  exact Nat.pow_lt_pow_right (by omega) (by omega)
theorem or_lt64 {a b : Nat} (ha : a < 2 ^ 64) (hb : b < 2 ^ 64) : a ||| b < 2 ^ 64 := Nat.or_lt_two_pow ha hb

/-- The bits of the cells under a domino. -/
def domS (x y : Int) (d : Bool) : Nat := bitOf x y ||| bitOf (secX x d) (secY y d)
theorem domS_lt {x y : Int} {d : Bool} (h : domB x y d = true) : domS x y d < 2 ^ 64 :=
  or_lt64 (bitOf_lt (domB_ok h).1) (bitOf_lt (domB_ok h).2)

/-- Whether two dominoes have a cell in common. -/
def lapB (x y : Int) (d : Bool) (x' y' : Int) (d' : Bool) : Bool := domB x y d && (domB x' y' d' && !decide (domS x y d &&& domS x' y' d' = 0))
theorem lapB_no1 {x y x' y' : Int} {d d' : Bool} (h : domB x y d = false) : lapB x y d x' y' d' = false := by simp [lapB, h]
theorem lapB_no2 {x y x' y' : Int} {d d' : Bool} (h : domB x' y' d' = false) : lapB x y d x' y' d' = false := by simp [lapB, h]
theorem lapB_yes {x y x' y' : Int} {d d' : Bool} (h : domB x y d = true) (h' : domB x' y' d' = true) : lapB x y d x' y' d' = !decide (domS x y d &&& domS x' y' d' = 0) := by simp [lapB, h, h']
end Go.Proofs.Ytghakmhglneckaa
