/-
  No cell of these rows narrows 'for every input' (looked for: loops, veiled, ifaces, maps, wideKeys, modest, calm, conditions, laid).
  DERIVED. THE GIVEN ROWS OF THIS SEAT. 6 by the template 'for every input the law returns true; each argument reads behind the call as it read before'; 0 by the template 'total and deterministic' (their statements: YtbkoignjagobaaaTotals.lean).
  GIVEN WITH THE SEED: the statements are not yours to turn. If you find one false, say at which input.
  Laid BY PROGRAM, IN A SANDBOX (cutbox-rows.mjs): the forced cells as the released guide's own fill.sh prints them over the translation c8372f25e40f7f43… (all of the seat's roots in one cut). By AI agents, Wed Nov 11 2026. No macro, syntax, notation, axiom, sorry.
-/
import Derived.Test.YtbkoignjagobaaaChecked
import GoSem.Claim
import GoSem.ClaimJoined
import GoSem.ClaimMapViews
import Derived.JoinedTies
import Derived.KernelRfl
namespace Go.Proofs.Ytbkoignjagobaaa
/- THE CELL 'sum', in the pinned program and in every row, IS THE sha256 OF THE DUMP (.gsa) THAT YtbkoignjagobaaaProg.lean LOADS. Nothing in Lean hashes anything: it is a label: what it is worth is what the hold of that sum in a sandbox is worth. -/
noncomputable def Try.pinned : Pinned := { name := "ytbkoignjagobaaa", sum := "c8372f25e40f7f435452e577f8bc81f099361d5bc5dc7b35c678713e18c73066", checked := Try.checked }
namespace Rows
def none {H : Type} : Left H := { results := [], args := [] }

/-- 'laws.FnExactSortDominoes': WHATEVER THE INPUT: true; the input reads as it did. -/
def fnExactSortDominoesSpec : ChangeSpec := { name := "fnExactSortDominoes", fn := fun _ => fun
  | [d] => { results := [.lit (.bool true)], args := [d] }
  | _ => none }
def fnExactSortDominoesRow : OpenClaim := { program := "ytbkoignjagobaaa", sum := "c8372f25e40f7f435452e577f8bc81f099361d5bc5dc7b35c678713e18c73066", func := "loop.example/g03300/laws.FnExactSortDominoes", spec := "fnExactSortDominoes", apart := false }
def FnExactSortDominoesSaid : Prop := fnExactSortDominoesRow.holds Try.pinned (OpenSpec.ofChange fnExactSortDominoesSpec)

/-- ITS FALSE NEIGHBOUR: 'it returns false'. Refute it at one input. -/
def fnExactSortDominoesWrong : ChangeSpec := { name := "fnExactSortDominoes", fn := fun _ => fun
  | [d] => { results := [.lit (.bool false)], args := [d] }
  | _ => none }
def FnExactSortDominoesWrongFalsely : Prop := fnExactSortDominoesRow.holds Try.pinned (OpenSpec.ofChange fnExactSortDominoesWrong)

/-- 'laws.FnExactIsPartial': WHATEVER THE INPUT: true; the input reads as it did. -/
def fnExactIsPartialSpec : ChangeSpec := { name := "fnExactIsPartial", fn := fun _ => fun
  | [d1, d2] => { results := [.lit (.bool true)], args := [d1, d2] }
  | _ => none }
def fnExactIsPartialRow : OpenClaim := { program := "ytbkoignjagobaaa", sum := "c8372f25e40f7f435452e577f8bc81f099361d5bc5dc7b35c678713e18c73066", func := "loop.example/g03300/laws.FnExactIsPartial", spec := "fnExactIsPartial", apart := false }
def FnExactIsPartialSaid : Prop := fnExactIsPartialRow.holds Try.pinned (OpenSpec.ofChange fnExactIsPartialSpec)

/-- ITS FALSE NEIGHBOUR: 'it returns false'. Refute it at one input. -/
def fnExactIsPartialWrong : ChangeSpec := { name := "fnExactIsPartial", fn := fun _ => fun
  | [d1, d2] => { results := [.lit (.bool false)], args := [d1, d2] }
  | _ => none }
def FnExactIsPartialWrongFalsely : Prop := fnExactIsPartialRow.holds Try.pinned (OpenSpec.ofChange fnExactIsPartialWrong)

/-- 'laws.FnExactIsTiling': WHATEVER THE INPUT: true; the input reads as it did. -/
def fnExactIsTilingSpec : ChangeSpec := { name := "fnExactIsTiling", fn := fun _ => fun
  | [d1, d2] => { results := [.lit (.bool true)], args := [d1, d2] }
  | _ => none }
def fnExactIsTilingRow : OpenClaim := { program := "ytbkoignjagobaaa", sum := "c8372f25e40f7f435452e577f8bc81f099361d5bc5dc7b35c678713e18c73066", func := "loop.example/g03300/laws.FnExactIsTiling", spec := "fnExactIsTiling", apart := false }
def FnExactIsTilingSaid : Prop := fnExactIsTilingRow.holds Try.pinned (OpenSpec.ofChange fnExactIsTilingSpec)

/-- ITS FALSE NEIGHBOUR: 'it returns false'. Refute it at one input. -/
def fnExactIsTilingWrong : ChangeSpec := { name := "fnExactIsTiling", fn := fun _ => fun
  | [d1, d2] => { results := [.lit (.bool false)], args := [d1, d2] }
  | _ => none }
def FnExactIsTilingWrongFalsely : Prop := fnExactIsTilingRow.holds Try.pinned (OpenSpec.ofChange fnExactIsTilingWrong)

/-- 'laws.FnExactUncoveredOf': WHATEVER THE INPUT: true; the input reads as it did. -/
def fnExactUncoveredOfSpec : ChangeSpec := { name := "fnExactUncoveredOf", fn := fun _ => fun
  | [d1, d2] => { results := [.lit (.bool true)], args := [d1, d2] }
  | _ => none }
def fnExactUncoveredOfRow : OpenClaim := { program := "ytbkoignjagobaaa", sum := "c8372f25e40f7f435452e577f8bc81f099361d5bc5dc7b35c678713e18c73066", func := "loop.example/g03300/laws.FnExactUncoveredOf", spec := "fnExactUncoveredOf", apart := false }
def FnExactUncoveredOfSaid : Prop := fnExactUncoveredOfRow.holds Try.pinned (OpenSpec.ofChange fnExactUncoveredOfSpec)

/-- ITS FALSE NEIGHBOUR: 'it returns false'. Refute it at one input. -/
def fnExactUncoveredOfWrong : ChangeSpec := { name := "fnExactUncoveredOf", fn := fun _ => fun
  | [d1, d2] => { results := [.lit (.bool false)], args := [d1, d2] }
  | _ => none }
def FnExactUncoveredOfWrongFalsely : Prop := fnExactUncoveredOfRow.holds Try.pinned (OpenSpec.ofChange fnExactUncoveredOfWrong)

/-- 'laws.FnExactDominoAt': WHATEVER THE INPUT: true; the input reads as it did. -/
def fnExactDominoAtSpec : ChangeSpec := { name := "fnExactDominoAt", fn := fun _ => fun
  | [d1, d2] => { results := [.lit (.bool true)], args := [d1, d2] }
  | _ => none }
def fnExactDominoAtRow : OpenClaim := { program := "ytbkoignjagobaaa", sum := "c8372f25e40f7f435452e577f8bc81f099361d5bc5dc7b35c678713e18c73066", func := "loop.example/g03300/laws.FnExactDominoAt", spec := "fnExactDominoAt", apart := false }
def FnExactDominoAtSaid : Prop := fnExactDominoAtRow.holds Try.pinned (OpenSpec.ofChange fnExactDominoAtSpec)

/-- ITS FALSE NEIGHBOUR: 'it returns false'. Refute it at one input. -/
def fnExactDominoAtWrong : ChangeSpec := { name := "fnExactDominoAt", fn := fun _ => fun
  | [d1, d2] => { results := [.lit (.bool false)], args := [d1, d2] }
  | _ => none }
def FnExactDominoAtWrongFalsely : Prop := fnExactDominoAtRow.holds Try.pinned (OpenSpec.ofChange fnExactDominoAtWrong)

/-- 'laws.FnExactDominoOver': WHATEVER THE INPUT: true; the input reads as it did. -/
def fnExactDominoOverSpec : ChangeSpec := { name := "fnExactDominoOver", fn := fun _ => fun
  | [d1, d2] => { results := [.lit (.bool true)], args := [d1, d2] }
  | _ => none }
def fnExactDominoOverRow : OpenClaim := { program := "ytbkoignjagobaaa", sum := "c8372f25e40f7f435452e577f8bc81f099361d5bc5dc7b35c678713e18c73066", func := "loop.example/g03300/laws.FnExactDominoOver", spec := "fnExactDominoOver", apart := false }
def FnExactDominoOverSaid : Prop := fnExactDominoOverRow.holds Try.pinned (OpenSpec.ofChange fnExactDominoOverSpec)

/-- ITS FALSE NEIGHBOUR: 'it returns false'. Refute it at one input. -/
def fnExactDominoOverWrong : ChangeSpec := { name := "fnExactDominoOver", fn := fun _ => fun
  | [d1, d2] => { results := [.lit (.bool false)], args := [d1, d2] }
  | _ => none }
def FnExactDominoOverWrongFalsely : Prop := fnExactDominoOverRow.holds Try.pinned (OpenSpec.ofChange fnExactDominoOverWrong)

/- THE SECOND FORM. 'bulk': how many values and letters a reading holds, each counted each time it is reached (what is shared counts as often as it is met; a slice's spare places count too). A statement '..UptoSaid' is the law's where the arguments, and the package variables that the reading takes, are together of bulk at most 1048576: NARROWER than '..Said'. Prove '..Said' where nothing that the law and all that it calls make is longer than what came in: it says more and counts as full. Else prove '..UptoSaid'. A law counts once. -/
mutual
def uptoBulk {H : Type} : DataW H → Nat
  | .lit (.string bytes) => bytes.length + 1
  | .lit _ => 1
  | .nil => 1
  | .ptr d => uptoBulk d + 1
  | .slice elems spare => uptoBulkAll elems + uptoBulkAll spare + 1
  | .agg parts => uptoBulkAll parts + 1
  | .iface _ d => uptoBulk d + 1
  | .map entries => uptoBulkEntries entries + 1
  | .held _ => 1
def uptoBulkAll {H : Type} : List (DataW H) → Nat
  | [] => 0
  | d :: r => uptoBulk d + uptoBulkAll r
def uptoBulkEntries {H : Type} : List (Lit × DataW H) → Nat
  | [] => 0
  | x :: r => uptoBulkEntry x + uptoBulkEntries r
def uptoBulkEntry {H : Type} : Lit × DataW H → Nat
  | (.string bytes, d) => bytes.length + uptoBulk d + 1
  | (_, d) => uptoBulk d + 1
 end
def uptoSmall : (H : Type) → List (DataW H) → Bool := fun _ ds => decide (uptoBulkAll ds ≤ 1048576)
def OpenSpec.upto (s : _root_.Go.ChangeSpec) : _root_.Go.OpenSpec := { _root_.Go.OpenSpec.ofChange s with cond := some uptoSmall }

/-- 'laws.FnExactSortDominoes', WHERE WHAT IT READS IS OF BULK AT MOST 1048576: true; the input reads as it did. -/
def fnExactSortDominoesUptoRow : OpenClaim := { program := "ytbkoignjagobaaa", sum := "c8372f25e40f7f435452e577f8bc81f099361d5bc5dc7b35c678713e18c73066", func := "loop.example/g03300/laws.FnExactSortDominoes", spec := "fnExactSortDominoes", apart := false, narrowed := true }
def FnExactSortDominoesUptoSaid : Prop := fnExactSortDominoesUptoRow.holds Try.pinned (OpenSpec.upto fnExactSortDominoesSpec)

/-- 'laws.FnExactIsPartial', WHERE WHAT IT READS IS OF BULK AT MOST 1048576: true; the input reads as it did. -/
def fnExactIsPartialUptoRow : OpenClaim := { program := "ytbkoignjagobaaa", sum := "c8372f25e40f7f435452e577f8bc81f099361d5bc5dc7b35c678713e18c73066", func := "loop.example/g03300/laws.FnExactIsPartial", spec := "fnExactIsPartial", apart := false, narrowed := true }
def FnExactIsPartialUptoSaid : Prop := fnExactIsPartialUptoRow.holds Try.pinned (OpenSpec.upto fnExactIsPartialSpec)

/-- 'laws.FnExactIsTiling', WHERE WHAT IT READS IS OF BULK AT MOST 1048576: true; the input reads as it did. -/
def fnExactIsTilingUptoRow : OpenClaim := { program := "ytbkoignjagobaaa", sum := "c8372f25e40f7f435452e577f8bc81f099361d5bc5dc7b35c678713e18c73066", func := "loop.example/g03300/laws.FnExactIsTiling", spec := "fnExactIsTiling", apart := false, narrowed := true }
def FnExactIsTilingUptoSaid : Prop := fnExactIsTilingUptoRow.holds Try.pinned (OpenSpec.upto fnExactIsTilingSpec)

/-- 'laws.FnExactUncoveredOf', WHERE WHAT IT READS IS OF BULK AT MOST 1048576: true; the input reads as it did. -/
def fnExactUncoveredOfUptoRow : OpenClaim := { program := "ytbkoignjagobaaa", sum := "c8372f25e40f7f435452e577f8bc81f099361d5bc5dc7b35c678713e18c73066", func := "loop.example/g03300/laws.FnExactUncoveredOf", spec := "fnExactUncoveredOf", apart := false, narrowed := true }
def FnExactUncoveredOfUptoSaid : Prop := fnExactUncoveredOfUptoRow.holds Try.pinned (OpenSpec.upto fnExactUncoveredOfSpec)

/-- 'laws.FnExactDominoAt', WHERE WHAT IT READS IS OF BULK AT MOST 1048576: true; the input reads as it did. -/
def fnExactDominoAtUptoRow : OpenClaim := { program := "ytbkoignjagobaaa", sum := "c8372f25e40f7f435452e577f8bc81f099361d5bc5dc7b35c678713e18c73066", func := "loop.example/g03300/laws.FnExactDominoAt", spec := "fnExactDominoAt", apart := false, narrowed := true }
def FnExactDominoAtUptoSaid : Prop := fnExactDominoAtUptoRow.holds Try.pinned (OpenSpec.upto fnExactDominoAtSpec)

/-- 'laws.FnExactDominoOver', WHERE WHAT IT READS IS OF BULK AT MOST 1048576: true; the input reads as it did. -/
def fnExactDominoOverUptoRow : OpenClaim := { program := "ytbkoignjagobaaa", sum := "c8372f25e40f7f435452e577f8bc81f099361d5bc5dc7b35c678713e18c73066", func := "loop.example/g03300/laws.FnExactDominoOver", spec := "fnExactDominoOver", apart := false, narrowed := true }
def FnExactDominoOverUptoSaid : Prop := fnExactDominoOverUptoRow.holds Try.pinned (OpenSpec.upto fnExactDominoOverSpec)

end Rows
end Go.Proofs.Ytbkoignjagobaaa
