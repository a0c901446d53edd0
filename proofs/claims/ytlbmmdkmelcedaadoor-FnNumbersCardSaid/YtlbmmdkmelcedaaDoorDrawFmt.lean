/-
  The draw of a number.
-/
import Derived.Test.YtlbmmdkmelcedaaDoorDrawN
namespace Go.Proofs.YtlbmmdkmelcedaaDoor
open Go.RowKit
set_option linter.unusedVariables false
set_option linter.unusedSimpArgs false

theorem mul_bd {a b : Int} (a0 : 0 ≤ a) (a1 : a ≤ 1000000) (b0 : -1000000 ≤ b) (b1 : b ≤ 1000000) : -1000000000000 ≤ a * b ∧ a * b ≤ 1000000000000 := by
  have h1 : a * b ≤ a * 1000000 := Int.mul_le_mul_of_nonneg_left b1 a0
  have h2 : a * (-1000000) ≤ a * b := Int.mul_le_mul_of_nonneg_left b0 a0
  omega
set_option maxHeartbeats 1600000 in
set_option maxRecDepth 100000 in
theorem drawFmt_any (a : Option Addr) (n c : Nat) (zs : List Int) (w : World) (K : CodeOk w a n zs) :
    Calls Tryd.prog 14 #[.slice a n c] w fun e w' => ∃ v : Int, e = .returned (.int .i64 v) ∧ (Lit.int .i64 v).wf = true ∧ Below w.heap.size w w' := by
  have HK := Lib.hid K
  clear K
  go_enter Tryd.func14, Tryd.ntmps14
  go_wp2_with (go_at_call 41; fail)
  refine (new_at HK.out c (Below.refl _ _)).mono ?_
  rintro e w2 ⟨g, rfl, hat⟩
  have H2 := Lib.hid hat
  clear hat
  go_wp2_with (go_at_call 42; fail)
  refine (once_at HK.out H2.out 3 (WalkArith.wf_i64 (by omega))).mono ?_
  rintro e w3 ⟨b, rfl, hat, -⟩
  have H3 := Lib.hid hat
  clear hat H2
  cases b
  · go_wp2_with (go_at_call 44; fail)
    refine (number_at HK.out H3.out).mono ?_
    rintro e w4 ⟨v, rfl, hw, hat, -⟩
    have H4 := Lib.hid hat
    have HW := Lib.hid hw
    clear hat hw
    go_wp2_with fail
    go_ret
    exact ⟨_, rfl, HW.out, H4.out.1⟩
  · go_wp2_with (go_at_call 43; fail)
    refine (below_at HK.out H3.out 1000000 (WalkArith.wf_i64 (by omega))).mono ?_
    rintro e w4 ⟨v, rfl, ⟨hv0, hv1, -⟩, hat, -⟩
    have hv2 := hv1 (by omega)
    have H4 := Lib.hid hat
    clear hat hv1
    go_wp2_with (go_at_call 43; fail)
    refine (below_at HK.out H4.out 2000000 (WalkArith.wf_i64 (by omega))).mono ?_
    rintro e w5 ⟨u, rfl, ⟨hu0, hu1, -⟩, hat, -⟩
    have hu2 := hu1 (by omega)
    have H5 := Lib.hid hat
    clear hat hu1
    have hm := mul_bd (a := v) (b := u - 1000000) hv0 (by omega) (by omega) (by omega)
    obtain ⟨hm0, hm1⟩ := hm
    go_wp2_with fail
    go_ret
    exact ⟨_, rfl, WalkArith.wf_i64 (by omega), H5.out.1⟩
end Go.Proofs.YtlbmmdkmelcedaaDoor
