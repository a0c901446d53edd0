/-
  The walk of the law FnExactFormatInt.
-/
import Derived.Test.YtlbmmdkmelcedaaDoorDoorB
namespace Go.Proofs.YtlbmmdkmelcedaaDoor.fnExactFormatInt
open Go.RowKit
set_option linter.unusedVariables false
set_option linter.unusedSimpArgs false

theorem walk (a0 : Int) (w : World) (w0 : (Lit.int .i64 a0).wf = true) (hT : TabB w) :
    Calls Tryd.prog 5 #[.int .i64 a0] w fun e w' => e = .returned (.bool true) ∧ Below w.heap.size w w' := by
  obtain ⟨h0, h1⟩ := wf_bd w0
  have HS := Lib.hid (fun W : World => specFmt_any a0 W h0 h1)
  have HI := Lib.hid (fun (W : World) (h : TabB W) => implFmt_any a0 W h0 h1 h)
  have HT := Lib.hid hT
  obtain ⟨s, hs⟩ : ∃ s, s = strD (Lib.itoa a0) := ⟨_, rfl⟩
  rw [← hs] at HS HI
  clear hT hs
  go_enter Tryd.func5, Tryd.ntmps5
  go_wp2_with (go_at_call 16; fail)
  refine (HS.out _).mono ?_
  rintro e w1 ⟨rfl, hb⟩
  have HT1 := Lib.hid (HT.out.next hb)
  have hB1 : Below w.heap.size w w1 := hb
  clear hb
  go_wp2_with (go_at_call 15; fail)
  refine (HI.out _ HT1.out).mono ?_
  rintro e w2 ⟨rfl, hb⟩
  have hB2 : Below w.heap.size w w2 := below_step hb hB1.size hB1
  clear hb
  go_wp2_with fail
  go_ret
  exact ⟨rfl, hB2⟩
end Go.Proofs.YtlbmmdkmelcedaaDoor.fnExactFormatInt
