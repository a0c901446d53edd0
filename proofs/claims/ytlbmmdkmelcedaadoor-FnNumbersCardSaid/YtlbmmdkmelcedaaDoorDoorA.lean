/-
  The door: the two listed errors as the walks need them.
-/
import Derived.Test.YtlbmmdkmelcedaaDoorDoorB
import Derived.WalkSmall
namespace Go.Proofs.YtlbmmdkmelcedaaDoor
open Go.RowKit
set_option linter.unusedVariables false
set_option linter.unusedSimpArgs false

/-- The five variables, as the rows list them. -/
def laid5 : List (String × DataW Unit) := Rows.fnExactParseUintRow.laid
/-- The tables and the two errors read as they were laid. -/
def Tab5 (w : World) : Prop := TabB w ∧ (∃ t p, w.var? Tryd.prog "strconv.ErrSyntax" = some #[.iface t p]) ∧ (∃ t p, w.var? Tryd.prog "strconv.ErrRange" = some #[.iface t p])
theorem var_below {w w' : World} {n : String} {cs : Array Value} (hv : w.var? Tryd.prog n = some cs) (hb : Below w.heap.size w w') : w'.var? Tryd.prog n = some cs := by
  unfold World.var? at *
  cases hg : Tryd.prog.globalNamed n with
  | none => simp [hg] at hv
  | some g =>
    simp only [hg, Option.bind_some] at hv ⊢
    have hlt : g < w.heap.size := by
      rcases Nat.lt_or_ge g w.heap.size with h' | h'
      · exact h'
      · simp [Array.getElem?_eq_none h'] at hv
    rw [hb.block g hlt]
    exact hv
theorem Tab5.next {w w' : World} (h : Tab5 w) (hb : Below w.heap.size w w') : Tab5 w' := by
  obtain ⟨h1, ⟨t2, p2, h2⟩, t3, p3, h3⟩ := h
  exact ⟨h1.next hb, ⟨t2, p2, var_below h2 hb⟩, t3, p3, var_below h3 hb⟩
theorem star_eq : "*" ++ "errors.errorString" = "*errors.errorString" := by decide
theorem row_err (u : TypeId) (h : Tryd.prog.typeName? 3 u = some "*errors.errorString") : u = 122 :=
  typeName_ptr_named (nm := "errors.errorString") (by rw [star_eq]; kernel_rfl) (by kernel_rfl) (by decide) u (by rw [star_eq]; exact h)
theorem tab5_of {W : World} (h : laidMetH Tryd.prog laid5 W) : Tab5 W := by
  rw [MakeChecks.laidMetH_plain _ _ _ (by kernel_rfl)] at h
  have h2 := (show laidMet Tryd.prog (_ :: _ :: _ :: _ :: _ :: []) W from h).tail.tail
  have h3 := h2.tail
  obtain ⟨a1, s1, hv1, -⟩ := laid_sentinel h3 (g := 1) (ti := 62) (tp := 122) (te := 124) (ts := 9) (by kernel_rfl) (by kernel_rfl) Tryd.underlying62 row_err Tryd.underlying122 Tryd.underlying124 rfl rfl Tryd.underlying9 (by kernel_rfl) (by kernel_rfl)
  obtain ⟨a2, s2, hv2, -⟩ := laid_sentinel h3.tail (g := 0) (ti := 62) (tp := 122) (te := 124) (ts := 9) (by kernel_rfl) (by kernel_rfl) Tryd.underlying62 row_err Tryd.underlying122 Tryd.underlying124 rfl rfl Tryd.underlying9 (by kernel_rfl) (by kernel_rfl)
  refine ⟨?_, ⟨_, _, hv2⟩, _, _, hv1⟩
  exact Lib.tabIs_of_head (g := 3) (t := 126) (e := 81) (n := 20) (by kernel_rfl) (by kernel_rfl) (by kernel_rfl) (by kernel_rfl) (by kernel_rfl) (by kernel_rfl) (show laidMet Tryd.prog ((tabName, Lib.tabData .u64 Lib.pow10Tab) :: _) W from h2)
end Go.Proofs.YtlbmmdkmelcedaaDoor
