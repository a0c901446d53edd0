/-
  What a law over two regions wants at its beginning.
-/
import Derived.Test.YtbkoignjagobaaaRegL
namespace Go.Proofs.Ytbkoignjagobaaa
open Go.RowKit
set_option linter.unusedVariables false
set_option linter.unusedSimpArgs false
theorem szIntS2_yes (a : Option Addr) (n c : Nat) (l : Int) (w : World) (hl : l ≤ 1048576) (h : (n : Int) ≤ l) :
    Calls Try.prog 40 #[.slice a n c, .int .i64 l] w fun e w' => e = .returned (.int .i64 (l - n)) ∧ w = w' := by
  go_enter Try.func40, Try.ntmps40
  go_wp2
  go_ret
  exact ⟨rfl, rfl⟩
theorem szIntS2_no (a : Option Addr) (n c : Nat) (l : Int) (w : World) (hn : n ≤ maxLen) (h0 : 0 ≤ l) (hl : l ≤ 1048576) (h : l < (n : Int)) :
    Calls Try.prog 40 #[.slice a n c, .int .i64 l] w fun e w' => e = .returned (.int .i64 (-1)) ∧ w = w' := by
  unfold maxLen at hn
  go_enter Try.func40, Try.ntmps40
  go_wp2
  go_ret
  exact ⟨rfl, rfl⟩
theorem szR2_yes (a : Option Addr) (n c : Nat) (l : Int) (w : World) (hl : l ≤ 1048576) (h : (n : Int) ≤ l) :
    Calls Try.prog 16 #[.agg #[.slice a n c], .int .i64 l] w fun e w' => e = .returned (.int .i64 (l - n)) ∧ Below w.heap.size w w' := by
  have H := Lib.hid (fun W : World => szIntS2_yes a n c l W hl h)
  go_enter Try.func16, Try.ntmps16
  go_wp2_with (go_at_call 40; refine (H.out _).mono ?_; rintro e w' ⟨rfl, rfl⟩)
  go_ret
  exact ⟨rfl, by repeat' (first | assumption | (with_reducible exact Below.refl _ _) | (with_reducible refine Below.drew ?_) | (with_reducible refine Below.alloc ?_ ?_ _) | (with_reducible refine Below.setCell ?_ ?_ _) | omega | (simp; done) | (simp; omega))⟩
theorem szR2_no (a : Option Addr) (n c : Nat) (l : Int) (w : World) (hn : n ≤ maxLen) (h0 : 0 ≤ l) (hl : l ≤ 1048576) (h : l < (n : Int)) :
    Calls Try.prog 16 #[.agg #[.slice a n c], .int .i64 l] w fun e w' => e = .returned (.int .i64 (-1)) ∧ Below w.heap.size w w' := by
  have H := Lib.hid (fun W : World => szIntS2_no a n c l W hn h0 hl h)
  go_enter Try.func16, Try.ntmps16
  go_wp2_with (go_at_call 40; refine (H.out _).mono ?_; rintro e w' ⟨rfl, rfl⟩)
  go_ret
  exact ⟨rfl, by repeat' (first | assumption | (with_reducible exact Below.refl _ _) | (with_reducible refine Below.drew ?_) | (with_reducible refine Below.alloc ?_ ?_ _) | (with_reducible refine Below.setCell ?_ ?_ _) | omega | (simp; done) | (simp; omega))⟩
end Go.Proofs.Ytbkoignjagobaaa
