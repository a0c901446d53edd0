/-
  The walk of the law FnClamped: it returns true, and nothing that was there is written.
-/
import Derived.Test.YtajclggefedocaaDrawClamp
namespace Go.Proofs.Ytajclggefedocaa.fnClamped
open Go.RowKit
set_option linter.unusedVariables false
set_option linter.unusedSimpArgs false

theorem cl1 {x y z : Int} (h : z < y) : clI x y z = y := by unfold clI; omega
theorem cl2 {x y z : Int} (h : ¬ z < y) (h1 : x < y) : clI x y z = y := by unfold clI; omega
theorem cl3 {x y z : Int} (h : ¬ z < y) (h1 : z < x) : clI x y z = z := by unfold clI; omega
theorem cl4 {x y z : Int} (h : ¬ x < y) (h1 : ¬ z < x) : clI x y z = x := by unfold clI; omega
theorem cl5 : clI 7 3 5 = 5 := by decide

set_option maxHeartbeats 800000 in
set_option maxRecDepth 100000 in
theorem walk (a0 : Option Addr) (len0 cap0 : Nat) (z0 : List Int) (w : World) (w0 : IsRow .u8 w a0 len0 cap0 z0) :
    Calls Try.prog 11 #[.slice a0 len0 cap0] w fun e w' => e = .returned (.bool true) ∧ Below w.heap.size w w' := by
  have HB := Lib.hid (big_any a0 len0 cap0 w w0.max_)
  have HC := Lib.hid (fun (n l h : Int) (w1 : World) (hb : Below w.heap.size w w1) => (implClamp_any n l h w1).mono (fun e w2 (hd : e = .returned (.int .i64 (clI n l h)) ∧ Below w1.heap.size w1 w2) => (⟨hd.1, hb.trans (hd.2.mono hb.size)⟩ : e = .returned (.int .i64 (clI n l h)) ∧ Below w.heap.size w w2)))
  by_cases hbig : 1048576 < len0
  · clear HC w0
    go_enter Try.func11, Try.ntmps11
    go_wp2_with (go_at_call 35; refine (HB.out).mono ?_; rintro e w1 ⟨rfl, hb⟩; simp only [hbig, decide_true])
    go_ret
    exact ⟨rfl, hb⟩
  · have HK := Lib.hid (w0.code hbig)
    have HD := Lib.hid (fun (w1 : World) (hb : Below w.heap.size w w1) => (drawClamp_any a0 len0 cap0 _ w1 (HK.out.below hb)).mono (fun e w2 hd => (⟨_, _, _, hd.choose_spec.choose_spec.choose_spec.1, hb.trans (hd.choose_spec.choose_spec.choose_spec.2.2.mono hb.size)⟩ : ∃ x y z : Int, e = .returned (.tuple #[.int .i64 x, .int .i64 y, .int .i64 z]) ∧ Below w.heap.size w w2)))
    clear w0
    go_enter Try.func11, Try.ntmps11
    go_wp2_with (first | (go_at_call 35; refine (HB.out).mono ?_; rintro e w1 ⟨rfl, hb⟩; simp only [hbig, decide_false]) | (go_at_call 36; refine (HD.out _ (by assumption)).mono ?_; rintro e w2 ⟨x, y, z, rfl, hb2⟩) | (go_at_call 16; fail))
    clear HB HD HK
    by_cases c1 : z < y
    · refine (HC.out x y z _ (by assumption)).mono ?_
      rintro e w3 ⟨rfl, hb3⟩
      simp only [cl1 c1]
      go_wp2_with (go_at_call 16; refine (HC.out _ _ _ _ (by assumption)).mono ?_; rintro e w4 ⟨rfl, hb4⟩; simp only [cl5])
      go_ret
      exact ⟨rfl, by assumption⟩
    · by_cases c2 : x < y
      · refine (HC.out x y z _ (by assumption)).mono ?_
        rintro e w3 ⟨rfl, hb3⟩
        simp only [cl2 c1 c2]
        have c3 : clI y y z = y := cl4 (by omega) (by omega)
        go_wp2_with (go_at_call 16; refine (HC.out _ _ _ _ (by assumption)).mono ?_; rintro e w4 ⟨rfl, hb4⟩; simp only [cl5, c3])
        go_ret
        exact ⟨rfl, by assumption⟩
      · by_cases c4 : z < x
        · refine (HC.out x y z _ (by assumption)).mono ?_
          rintro e w3 ⟨rfl, hb3⟩
          simp only [cl3 c1 c4]
          have c3 : clI z y z = z := cl4 (by omega) (by omega)
          go_wp2_with (go_at_call 16; refine (HC.out _ _ _ _ (by assumption)).mono ?_; rintro e w4 ⟨rfl, hb4⟩; simp only [cl5, c3])
          go_ret
          exact ⟨rfl, by assumption⟩
        · refine (HC.out x y z _ (by assumption)).mono ?_
          rintro e w3 ⟨rfl, hb3⟩
          have c3 : clI x y z = x := cl4 (by omega) (by omega)
          simp only [c3]
          go_wp2_with (go_at_call 16; refine (HC.out _ _ _ _ (by assumption)).mono ?_; rintro e w4 ⟨rfl, hb4⟩; simp only [cl5, c3])
          go_ret
          exact ⟨rfl, by assumption⟩
end Go.Proofs.Ytajclggefedocaa.fnClamped
