/-
  Clamp; the draw of its arguments.
-/
import Derived.Test.YtajclggefedocaaDrawN
namespace Go.Proofs.Ytajclggefedocaa
open Go.RowKit
set_option linter.unusedVariables false
set_option linter.unusedSimpArgs false

def clI (n l h : Int) : Int := max l (min n h)
theorem implClamp_any (n l h : Int) (w : World) : Calls Try.prog 16 #[.int .i64 n, .int .i64 l, .int .i64 h] w fun e w' => e = .returned (.int .i64 (clI n l h)) ∧ Below w.heap.size w w' := by
  have HC : Hid (clI n l h = max l (min n h)) := Lib.hid rfl
  by_cases c1 : h < l
  · by_cases c2 : n < h
    · go_enter Try.func16, Try.ntmps16
      go_wp2
      all_goals go_ret
      all_goals exact ⟨ret_i (by rw [HC.out]; omega), Below.refl _ _⟩
    · go_enter Try.func16, Try.ntmps16
      go_wp2
      all_goals go_ret
      all_goals exact ⟨ret_i (by rw [HC.out]; omega), Below.refl _ _⟩
  · by_cases c2 : n < l
    · go_enter Try.func16, Try.ntmps16
      go_wp2
      all_goals go_ret
      all_goals exact ⟨ret_i (by rw [HC.out]; omega), Below.refl _ _⟩
    · by_cases c3 : h < n
      · go_enter Try.func16, Try.ntmps16
        go_wp2
        all_goals go_ret
        all_goals exact ⟨ret_i (by rw [HC.out]; omega), Below.refl _ _⟩
      · go_enter Try.func16, Try.ntmps16
        go_wp2
        all_goals go_ret
        all_goals exact ⟨ret_i (by rw [HC.out]; omega), Below.refl _ _⟩
theorem big_any (a : Option Addr) (n c : Nat) (w : World) (hn : n ≤ maxLen) : Calls Try.prog 35 #[.slice a n c] w fun e w' => e = .returned (.bool (decide (1048576 < n))) ∧ Below w.heap.size w w' := by
  unfold maxLen at hn
  go_enter Try.func35, Try.ntmps35
  go_wp2
  all_goals go_ret
  all_goals exact ⟨ret_b (by simp; omega), Below.refl _ _⟩

set_option maxHeartbeats 800000 in
set_option maxRecDepth 100000 in
theorem drawClamp_any (a : Option Addr) (n c : Nat) (zs : List Int) (w : World) (K : CodeOk w a n zs) :
    Calls Try.prog 36 #[.slice a n c] w fun e w' => ∃ x y z : Int, e = .returned (.tuple #[.int .i64 x, .int .i64 y, .int .i64 z]) ∧ ((Lit.int .i64 x).wf = true ∧ (Lit.int .i64 y).wf = true ∧ (Lit.int .i64 z).wf = true) ∧ Below w.heap.size w w' := by
  have HK := Lib.hid K
  clear K
  go_enter Try.func36, Try.ntmps36
  go_wp2_with (first | (go_at_call 51; refine (number_at HK.out (by assumption)).mono ?_; rintro e w2 ⟨v, rfl, hvw, hat⟩) | (first | (go_at_call 52; refine (below_at HK.out (by assumption) _ (WalkArith.wf_i64 (by omega))).mono ?_; rintro e w2 ⟨v, rfl, ⟨hv0, hv1, -⟩, hat⟩; have hv2 := hv1 (by omega); clear hv1) | (go_at_call 50; refine (once_at HK.out (by assumption) _ (WalkArith.wf_i64 (by omega))).mono ?_; rintro e w2 ⟨b, rfl, hat⟩) | (go_at_call 56; refine (byte_at HK.out (by assumption)).mono ?_; rintro e w2 ⟨v, rfl, ⟨hv0, hv1⟩, hat⟩) | (go_at_call 49; refine (new_at HK.out _ (Below.refl _ _)).mono ?_; rintro e w2 ⟨g, rfl, hat⟩)))
  · rename_i _ x hx _ _ y hy _
    exact bodyPost_ret (v := .tuple #[.int .i64 x, .int .i64 y, .int .i64 v]) (by simp [results, Try.results36, go_sem]) rfl ⟨_, _, _, rfl, ⟨hx, hy, hvw⟩, hat.1⟩
  · rename_i _ x _ hx0 hx2 _ y _ hy0 hy2
    exact bodyPost_ret (v := .tuple #[.int .i64 (y - 40), .int .i64 (x - 20), .int .i64 (x - 20 + v - 3)]) (by simp [results, Try.results36, go_sem]) rfl ⟨_, _, _, rfl, ⟨WalkArith.wf_i64 (by omega), WalkArith.wf_i64 (by omega), WalkArith.wf_i64 (by omega)⟩, hat.1⟩
end Go.Proofs.Ytajclggefedocaa
