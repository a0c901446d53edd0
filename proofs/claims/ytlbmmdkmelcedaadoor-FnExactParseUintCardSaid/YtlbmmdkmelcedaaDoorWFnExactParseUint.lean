/-
  The walk of the law FnExactParseUint.
-/
import Derived.Test.YtlbmmdkmelcedaaDoorPun
namespace Go.Proofs.YtlbmmdkmelcedaaDoor.fnExactParseUint
open Go.RowKit
set_option linter.unusedVariables false
set_option linter.unusedSimpArgs false

theorem walk (s0 : ByteArray) (w : World) (w0 : s0.size ≤ maxLen) (hT : Tab5 w) :
    Calls Tryd.prog 3 #[.string s0] w fun e w' => e = .returned (.bool true) ∧ Below w.heap.size w w' := by
  by_cases hn : s0.size ≤ 1048576
  · clear w0
    have hnI : ¬ (1048576 : Int) < (s0.size : Int) := by omega
    have HS := Lib.hid (fun W : World => specPun_any s0 W hn)
    have HI := Lib.hid (fun (W : World) (h : Tab5 W) => implPun_any s0 W hn h)
    have HT := Lib.hid hT
    obtain ⟨b, hb⟩ : ∃ b, b = pokB s0 := ⟨_, rfl⟩
    obtain ⟨v, hv⟩ : ∃ v, v = puV s0 := ⟨_, rfl⟩
    rw [← hb, ← hv] at HS HI
    clear hT hb hv
    go_enter Tryd.func3, Tryd.ntmps3
    go_wp2_with (go_at_call 11; fail)
    refine (HS.out _).mono ?_
    rintro e w1 ⟨rfl, hb⟩
    have HT1 := Lib.hid (HT.out.next hb)
    have hB1 : Below w.heap.size w w1 := hb
    clear hb
    go_wp2_with (go_at_call 12; fail)
    refine (HI.out _ HT1.out).mono ?_
    rintro e w2 ⟨rfl, hb⟩
    have hB2 : Below w.heap.size w w2 := below_step hb hB1.size hB1
    clear hb
    go_wp2_with fail
    go_ret
    exact ⟨rfl, hB2⟩
  · unfold maxLen at w0
    have hnI : (1048576 : Int) < (s0.size : Int) := by omega
    go_enter Tryd.func3, Tryd.ntmps3
    go_wp2
    go_ret
    exact ⟨rfl, by repeat' (first | assumption | (with_reducible exact Below.refl _ _) | (with_reducible refine Below.drew ?_) | (with_reducible refine Below.alloc ?_ ?_ _) | (with_reducible refine Below.setCell ?_ ?_ _) | omega | (simp; done) | (simp; omega))⟩
end Go.Proofs.YtlbmmdkmelcedaaDoor.fnExactParseUint
