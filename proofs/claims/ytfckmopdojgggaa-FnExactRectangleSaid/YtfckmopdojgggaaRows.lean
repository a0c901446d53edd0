/-
  No cell of these rows narrows 'for every input' (looked for: loops, veiled, ifaces, maps, wideKeys, modest, calm, conditions, laid).
  DERIVED. THE GIVEN ROWS OF THIS SEAT. 12 by the template 'for every input the law returns true; each argument reads behind the call as it read before'; 0 by the template 'total and deterministic' (their statements: YtfckmopdojgggaaTotals.lean).
  GIVEN WITH THE SEED: the statements are not yours to turn. If you find one false, say at which input.
  Laid BY PROGRAM, IN A SANDBOX (cutbox-rows.mjs): the forced cells as the released guide's own fill.sh prints them over the translation e7ecae1aaf1c3e23… (all of the seat's roots in one cut). By AI agents, Wed Nov 11 2026. No macro, syntax, notation, axiom, sorry.
-/
import Derived.Test.YtfckmopdojgggaaChecked
import GoSem.Claim
import GoSem.ClaimJoined
import GoSem.ClaimMapViews
import Derived.JoinedTies
import Derived.KernelRfl
namespace Go.Proofs.Ytfckmopdojgggaa
/- THE CELL 'sum', in the pinned program and in every row, IS THE sha256 OF THE DUMP (.gsa) THAT YtfckmopdojgggaaProg.lean LOADS. Nothing in Lean hashes anything: it is a label: what it is worth is what the hold of that sum in a sandbox is worth. -/
noncomputable def Try.pinned : Pinned := { name := "ytfckmopdojgggaa", sum := "e7ecae1aaf1c3e23b38e6937762602fcca7ae87957ac42dc00ae9455bf259759", checked := Try.checked }
namespace Rows
def none {H : Type} : Left H := { results := [], args := [] }

/-- 'laws.FnExactRegionOk': WHATEVER THE INPUT: true; the input reads as it did. -/
def fnExactRegionOkSpec : ChangeSpec := { name := "fnExactRegionOk", fn := fun _ => fun
  | [d] => { results := [.lit (.bool true)], args := [d] }
  | _ => none }
def fnExactRegionOkRow : OpenClaim := { program := "ytfckmopdojgggaa", sum := "e7ecae1aaf1c3e23b38e6937762602fcca7ae87957ac42dc00ae9455bf259759", func := "loop.example/g03300/laws.FnExactRegionOk", spec := "fnExactRegionOk", apart := false }
def FnExactRegionOkSaid : Prop := fnExactRegionOkRow.holds Try.pinned (OpenSpec.ofChange fnExactRegionOkSpec)

/-- ITS FALSE NEIGHBOUR: 'it returns false'. Refute it at one input. -/
def fnExactRegionOkWrong : ChangeSpec := { name := "fnExactRegionOk", fn := fun _ => fun
  | [d] => { results := [.lit (.bool false)], args := [d] }
  | _ => none }
def FnExactRegionOkWrongFalsely : Prop := fnExactRegionOkRow.holds Try.pinned (OpenSpec.ofChange fnExactRegionOkWrong)

/-- 'laws.FnExactRectangle': WHATEVER THE INPUT: true; the input reads as it did. -/
def fnExactRectangleSpec : ChangeSpec := { name := "fnExactRectangle", fn := fun _ => fun
  | [d1, d2] => { results := [.lit (.bool true)], args := [d1, d2] }
  | _ => none }
def fnExactRectangleRow : OpenClaim := { program := "ytfckmopdojgggaa", sum := "e7ecae1aaf1c3e23b38e6937762602fcca7ae87957ac42dc00ae9455bf259759", func := "loop.example/g03300/laws.FnExactRectangle", spec := "fnExactRectangle", apart := false }
def FnExactRectangleSaid : Prop := fnExactRectangleRow.holds Try.pinned (OpenSpec.ofChange fnExactRectangleSpec)

/-- ITS FALSE NEIGHBOUR: 'it returns false'. Refute it at one input. -/
def fnExactRectangleWrong : ChangeSpec := { name := "fnExactRectangle", fn := fun _ => fun
  | [d1, d2] => { results := [.lit (.bool false)], args := [d1, d2] }
  | _ => none }
def FnExactRectangleWrongFalsely : Prop := fnExactRectangleRow.holds Try.pinned (OpenSpec.ofChange fnExactRectangleWrong)

/-- 'laws.FnCells': WHATEVER THE INPUT: true; the input reads as it did. -/
def fnCellsSpec : ChangeSpec := { name := "fnCells", fn := fun _ => fun
  | [d] => { results := [.lit (.bool true)], args := [d] }
  | _ => none }
def fnCellsRow : OpenClaim := { program := "ytfckmopdojgggaa", sum := "e7ecae1aaf1c3e23b38e6937762602fcca7ae87957ac42dc00ae9455bf259759", func := "loop.example/g03300/laws.FnCells", spec := "fnCells", apart := false }
def FnCellsSaid : Prop := fnCellsRow.holds Try.pinned (OpenSpec.ofChange fnCellsSpec)

/-- ITS FALSE NEIGHBOUR: 'it returns false'. Refute it at one input. -/
def fnCellsWrong : ChangeSpec := { name := "fnCells", fn := fun _ => fun
  | [d] => { results := [.lit (.bool false)], args := [d] }
  | _ => none }
def FnCellsWrongFalsely : Prop := fnCellsRow.holds Try.pinned (OpenSpec.ofChange fnCellsWrong)

/-- 'laws.FnExactNeighborsOf': WHATEVER THE INPUT: true; the input reads as it did. -/
def fnExactNeighborsOfSpec : ChangeSpec := { name := "fnExactNeighborsOf", fn := fun _ => fun
  | [d] => { results := [.lit (.bool true)], args := [d] }
  | _ => none }
def fnExactNeighborsOfRow : OpenClaim := { program := "ytfckmopdojgggaa", sum := "e7ecae1aaf1c3e23b38e6937762602fcca7ae87957ac42dc00ae9455bf259759", func := "loop.example/g03300/laws.FnExactNeighborsOf", spec := "fnExactNeighborsOf", apart := false }
def FnExactNeighborsOfSaid : Prop := fnExactNeighborsOfRow.holds Try.pinned (OpenSpec.ofChange fnExactNeighborsOfSpec)

/-- ITS FALSE NEIGHBOUR: 'it returns false'. Refute it at one input. -/
def fnExactNeighborsOfWrong : ChangeSpec := { name := "fnExactNeighborsOf", fn := fun _ => fun
  | [d] => { results := [.lit (.bool false)], args := [d] }
  | _ => none }
def FnExactNeighborsOfWrongFalsely : Prop := fnExactNeighborsOfRow.holds Try.pinned (OpenSpec.ofChange fnExactNeighborsOfWrong)

/-- 'laws.FnExactSameCells': WHATEVER THE INPUT: true; the input reads as it did. -/
def fnExactSameCellsSpec : ChangeSpec := { name := "fnExactSameCells", fn := fun _ => fun
  | [d1, d2] => { results := [.lit (.bool true)], args := [d1, d2] }
  | _ => none }
def fnExactSameCellsRow : OpenClaim := { program := "ytfckmopdojgggaa", sum := "e7ecae1aaf1c3e23b38e6937762602fcca7ae87957ac42dc00ae9455bf259759", func := "loop.example/g03300/laws.FnExactSameCells", spec := "fnExactSameCells", apart := false }
def FnExactSameCellsSaid : Prop := fnExactSameCellsRow.holds Try.pinned (OpenSpec.ofChange fnExactSameCellsSpec)

/-- ITS FALSE NEIGHBOUR: 'it returns false'. Refute it at one input. -/
def fnExactSameCellsWrong : ChangeSpec := { name := "fnExactSameCells", fn := fun _ => fun
  | [d1, d2] => { results := [.lit (.bool false)], args := [d1, d2] }
  | _ => none }
def FnExactSameCellsWrongFalsely : Prop := fnExactSameCellsRow.holds Try.pinned (OpenSpec.ofChange fnExactSameCellsWrong)

/-- 'laws.FnExactHasCell': WHATEVER THE INPUT: true; the input reads as it did. -/
def fnExactHasCellSpec : ChangeSpec := { name := "fnExactHasCell", fn := fun _ => fun
  | [d1, d2] => { results := [.lit (.bool true)], args := [d1, d2] }
  | _ => none }
def fnExactHasCellRow : OpenClaim := { program := "ytfckmopdojgggaa", sum := "e7ecae1aaf1c3e23b38e6937762602fcca7ae87957ac42dc00ae9455bf259759", func := "loop.example/g03300/laws.FnExactHasCell", spec := "fnExactHasCell", apart := false }
def FnExactHasCellSaid : Prop := fnExactHasCellRow.holds Try.pinned (OpenSpec.ofChange fnExactHasCellSpec)

/-- ITS FALSE NEIGHBOUR: 'it returns false'. Refute it at one input. -/
def fnExactHasCellWrong : ChangeSpec := { name := "fnExactHasCell", fn := fun _ => fun
  | [d1, d2] => { results := [.lit (.bool false)], args := [d1, d2] }
  | _ => none }
def FnExactHasCellWrongFalsely : Prop := fnExactHasCellRow.holds Try.pinned (OpenSpec.ofChange fnExactHasCellWrong)

/-- 'laws.FnExactCountCells': WHATEVER THE INPUT: true; the input reads as it did. -/
def fnExactCountCellsSpec : ChangeSpec := { name := "fnExactCountCells", fn := fun _ => fun
  | [d] => { results := [.lit (.bool true)], args := [d] }
  | _ => none }
def fnExactCountCellsRow : OpenClaim := { program := "ytfckmopdojgggaa", sum := "e7ecae1aaf1c3e23b38e6937762602fcca7ae87957ac42dc00ae9455bf259759", func := "loop.example/g03300/laws.FnExactCountCells", spec := "fnExactCountCells", apart := false }
def FnExactCountCellsSaid : Prop := fnExactCountCellsRow.holds Try.pinned (OpenSpec.ofChange fnExactCountCellsSpec)

/-- ITS FALSE NEIGHBOUR: 'it returns false'. Refute it at one input. -/
def fnExactCountCellsWrong : ChangeSpec := { name := "fnExactCountCells", fn := fun _ => fun
  | [d] => { results := [.lit (.bool false)], args := [d] }
  | _ => none }
def FnExactCountCellsWrongFalsely : Prop := fnExactCountCellsRow.holds Try.pinned (OpenSpec.ofChange fnExactCountCellsWrong)

/-- 'laws.FnExactDominoAt': WHATEVER THE INPUT: true; the input reads as it did. -/
def fnExactDominoAtSpec : ChangeSpec := { name := "fnExactDominoAt", fn := fun _ => fun
  | [d1, d2] => { results := [.lit (.bool true)], args := [d1, d2] }
  | _ => none }
def fnExactDominoAtRow : OpenClaim := { program := "ytfckmopdojgggaa", sum := "e7ecae1aaf1c3e23b38e6937762602fcca7ae87957ac42dc00ae9455bf259759", func := "loop.example/g03300/laws.FnExactDominoAt", spec := "fnExactDominoAt", apart := false }
def FnExactDominoAtSaid : Prop := fnExactDominoAtRow.holds Try.pinned (OpenSpec.ofChange fnExactDominoAtSpec)

/-- ITS FALSE NEIGHBOUR: 'it returns false'. Refute it at one input. -/
def fnExactDominoAtWrong : ChangeSpec := { name := "fnExactDominoAt", fn := fun _ => fun
  | [d1, d2] => { results := [.lit (.bool false)], args := [d1, d2] }
  | _ => none }
def FnExactDominoAtWrongFalsely : Prop := fnExactDominoAtRow.holds Try.pinned (OpenSpec.ofChange fnExactDominoAtWrong)

/-- 'laws.FnExactBlackExcess': WHATEVER THE INPUT: true; the input reads as it did. -/
def fnExactBlackExcessSpec : ChangeSpec := { name := "fnExactBlackExcess", fn := fun _ => fun
  | [d] => { results := [.lit (.bool true)], args := [d] }
  | _ => none }
def fnExactBlackExcessRow : OpenClaim := { program := "ytfckmopdojgggaa", sum := "e7ecae1aaf1c3e23b38e6937762602fcca7ae87957ac42dc00ae9455bf259759", func := "loop.example/g03300/laws.FnExactBlackExcess", spec := "fnExactBlackExcess", apart := false }
def FnExactBlackExcessSaid : Prop := fnExactBlackExcessRow.holds Try.pinned (OpenSpec.ofChange fnExactBlackExcessSpec)

/-- ITS FALSE NEIGHBOUR: 'it returns false'. Refute it at one input. -/
def fnExactBlackExcessWrong : ChangeSpec := { name := "fnExactBlackExcess", fn := fun _ => fun
  | [d] => { results := [.lit (.bool false)], args := [d] }
  | _ => none }
def FnExactBlackExcessWrongFalsely : Prop := fnExactBlackExcessRow.holds Try.pinned (OpenSpec.ofChange fnExactBlackExcessWrong)

/-- 'laws.FnExactIsBalanced': WHATEVER THE INPUT: true; the input reads as it did. -/
def fnExactIsBalancedSpec : ChangeSpec := { name := "fnExactIsBalanced", fn := fun _ => fun
  | [d] => { results := [.lit (.bool true)], args := [d] }
  | _ => none }
def fnExactIsBalancedRow : OpenClaim := { program := "ytfckmopdojgggaa", sum := "e7ecae1aaf1c3e23b38e6937762602fcca7ae87957ac42dc00ae9455bf259759", func := "loop.example/g03300/laws.FnExactIsBalanced", spec := "fnExactIsBalanced", apart := false }
def FnExactIsBalancedSaid : Prop := fnExactIsBalancedRow.holds Try.pinned (OpenSpec.ofChange fnExactIsBalancedSpec)

/-- ITS FALSE NEIGHBOUR: 'it returns false'. Refute it at one input. -/
def fnExactIsBalancedWrong : ChangeSpec := { name := "fnExactIsBalanced", fn := fun _ => fun
  | [d] => { results := [.lit (.bool false)], args := [d] }
  | _ => none }
def FnExactIsBalancedWrongFalsely : Prop := fnExactIsBalancedRow.holds Try.pinned (OpenSpec.ofChange fnExactIsBalancedWrong)

/-- 'laws.FnExactCellsOf': WHATEVER THE INPUT: true; the input reads as it did. -/
def fnExactCellsOfSpec : ChangeSpec := { name := "fnExactCellsOf", fn := fun _ => fun
  | [d] => { results := [.lit (.bool true)], args := [d] }
  | _ => none }
def fnExactCellsOfRow : OpenClaim := { program := "ytfckmopdojgggaa", sum := "e7ecae1aaf1c3e23b38e6937762602fcca7ae87957ac42dc00ae9455bf259759", func := "loop.example/g03300/laws.FnExactCellsOf", spec := "fnExactCellsOf", apart := false }
def FnExactCellsOfSaid : Prop := fnExactCellsOfRow.holds Try.pinned (OpenSpec.ofChange fnExactCellsOfSpec)

/-- ITS FALSE NEIGHBOUR: 'it returns false'. Refute it at one input. -/
def fnExactCellsOfWrong : ChangeSpec := { name := "fnExactCellsOf", fn := fun _ => fun
  | [d] => { results := [.lit (.bool false)], args := [d] }
  | _ => none }
def FnExactCellsOfWrongFalsely : Prop := fnExactCellsOfRow.holds Try.pinned (OpenSpec.ofChange fnExactCellsOfWrong)

/-- 'laws.FnExactRegionText': WHATEVER THE INPUT: true; the input reads as it did. -/
def fnExactRegionTextSpec : ChangeSpec := { name := "fnExactRegionText", fn := fun _ => fun
  | [d] => { results := [.lit (.bool true)], args := [d] }
  | _ => none }
def fnExactRegionTextRow : OpenClaim := { program := "ytfckmopdojgggaa", sum := "e7ecae1aaf1c3e23b38e6937762602fcca7ae87957ac42dc00ae9455bf259759", func := "loop.example/g03300/laws.FnExactRegionText", spec := "fnExactRegionText", apart := false }
def FnExactRegionTextSaid : Prop := fnExactRegionTextRow.holds Try.pinned (OpenSpec.ofChange fnExactRegionTextSpec)

/-- ITS FALSE NEIGHBOUR: 'it returns false'. Refute it at one input. -/
def fnExactRegionTextWrong : ChangeSpec := { name := "fnExactRegionText", fn := fun _ => fun
  | [d] => { results := [.lit (.bool false)], args := [d] }
  | _ => none }
def FnExactRegionTextWrongFalsely : Prop := fnExactRegionTextRow.holds Try.pinned (OpenSpec.ofChange fnExactRegionTextWrong)

/- THE SECOND FORM. 'bulk': how many values and letters a reading holds, each counted each time it is reached (what is shared counts as often as it is met; a slice's spare places count too). A statement '..UptoSaid' is the law's where the arguments, and the package variables that the reading takes, are together of bulk at most 1048576: NARROWER than '..Said'. Prove '..Said' where nothing that the law and all that it calls make is longer than what came in: it says more and counts as full. Else prove '..UptoSaid'. A law counts once. -/
mutual
def uptoBulk {H : Type} : DataW H → Nat
  | .lit (.string bytes) => bytes.length + 1
  | .lit _ => 1
  | .nil => 1
  | .ptr d => uptoBulk d + 1
  | .slice elems spare => uptoBulkAll elems + uptoBulkAll spare + 1
  | .agg parts => uptoBulkAll parts + 1
  | .iface _ d => uptoBulk d + 1
  | .map entries => uptoBulkEntries entries + 1
  | .held _ => 1
def uptoBulkAll {H : Type} : List (DataW H) → Nat
  | [] => 0
  | d :: r => uptoBulk d + uptoBulkAll r
def uptoBulkEntries {H : Type} : List (Lit × DataW H) → Nat
  | [] => 0
  | x :: r => uptoBulkEntry x + uptoBulkEntries r
def uptoBulkEntry {H : Type} : Lit × DataW H → Nat
  | (.string bytes, d) => bytes.length + uptoBulk d + 1
  | (_, d) => uptoBulk d + 1
 end
def uptoSmall : (H : Type) → List (DataW H) → Bool := fun _ ds => decide (uptoBulkAll ds ≤ 1048576)
def OpenSpec.upto (s : _root_.Go.ChangeSpec) : _root_.Go.OpenSpec := { _root_.Go.OpenSpec.ofChange s with cond := some uptoSmall }

/-- 'laws.FnExactRegionOk', WHERE WHAT IT READS IS OF BULK AT MOST 1048576: true; the input reads as it did. -/
def fnExactRegionOkUptoRow : OpenClaim := { program := "ytfckmopdojgggaa", sum := "e7ecae1aaf1c3e23b38e6937762602fcca7ae87957ac42dc00ae9455bf259759", func := "loop.example/g03300/laws.FnExactRegionOk", spec := "fnExactRegionOk", apart := false, narrowed := true }
def FnExactRegionOkUptoSaid : Prop := fnExactRegionOkUptoRow.holds Try.pinned (OpenSpec.upto fnExactRegionOkSpec)

/-- 'laws.FnExactRectangle', WHERE WHAT IT READS IS OF BULK AT MOST 1048576: true; the input reads as it did. -/
def fnExactRectangleUptoRow : OpenClaim := { program := "ytfckmopdojgggaa", sum := "e7ecae1aaf1c3e23b38e6937762602fcca7ae87957ac42dc00ae9455bf259759", func := "loop.example/g03300/laws.FnExactRectangle", spec := "fnExactRectangle", apart := false, narrowed := true }
def FnExactRectangleUptoSaid : Prop := fnExactRectangleUptoRow.holds Try.pinned (OpenSpec.upto fnExactRectangleSpec)

/-- 'laws.FnCells', WHERE WHAT IT READS IS OF BULK AT MOST 1048576: true; the input reads as it did. -/
def fnCellsUptoRow : OpenClaim := { program := "ytfckmopdojgggaa", sum := "e7ecae1aaf1c3e23b38e6937762602fcca7ae87957ac42dc00ae9455bf259759", func := "loop.example/g03300/laws.FnCells", spec := "fnCells", apart := false, narrowed := true }
def FnCellsUptoSaid : Prop := fnCellsUptoRow.holds Try.pinned (OpenSpec.upto fnCellsSpec)

/-- 'laws.FnExactNeighborsOf', WHERE WHAT IT READS IS OF BULK AT MOST 1048576: true; the input reads as it did. -/
def fnExactNeighborsOfUptoRow : OpenClaim := { program := "ytfckmopdojgggaa", sum := "e7ecae1aaf1c3e23b38e6937762602fcca7ae87957ac42dc00ae9455bf259759", func := "loop.example/g03300/laws.FnExactNeighborsOf", spec := "fnExactNeighborsOf", apart := false, narrowed := true }
def FnExactNeighborsOfUptoSaid : Prop := fnExactNeighborsOfUptoRow.holds Try.pinned (OpenSpec.upto fnExactNeighborsOfSpec)

/-- 'laws.FnExactSameCells', WHERE WHAT IT READS IS OF BULK AT MOST 1048576: true; the input reads as it did. -/
def fnExactSameCellsUptoRow : OpenClaim := { program := "ytfckmopdojgggaa", sum := "e7ecae1aaf1c3e23b38e6937762602fcca7ae87957ac42dc00ae9455bf259759", func := "loop.example/g03300/laws.FnExactSameCells", spec := "fnExactSameCells", apart := false, narrowed := true }
def FnExactSameCellsUptoSaid : Prop := fnExactSameCellsUptoRow.holds Try.pinned (OpenSpec.upto fnExactSameCellsSpec)

/-- 'laws.FnExactHasCell', WHERE WHAT IT READS IS OF BULK AT MOST 1048576: true; the input reads as it did. -/
def fnExactHasCellUptoRow : OpenClaim := { program := "ytfckmopdojgggaa", sum := "e7ecae1aaf1c3e23b38e6937762602fcca7ae87957ac42dc00ae9455bf259759", func := "loop.example/g03300/laws.FnExactHasCell", spec := "fnExactHasCell", apart := false, narrowed := true }
def FnExactHasCellUptoSaid : Prop := fnExactHasCellUptoRow.holds Try.pinned (OpenSpec.upto fnExactHasCellSpec)

/-- 'laws.FnExactCountCells', WHERE WHAT IT READS IS OF BULK AT MOST 1048576: true; the input reads as it did. -/
def fnExactCountCellsUptoRow : OpenClaim := { program := "ytfckmopdojgggaa", sum := "e7ecae1aaf1c3e23b38e6937762602fcca7ae87957ac42dc00ae9455bf259759", func := "loop.example/g03300/laws.FnExactCountCells", spec := "fnExactCountCells", apart := false, narrowed := true }
def FnExactCountCellsUptoSaid : Prop := fnExactCountCellsUptoRow.holds Try.pinned (OpenSpec.upto fnExactCountCellsSpec)

/-- 'laws.FnExactDominoAt', WHERE WHAT IT READS IS OF BULK AT MOST 1048576: true; the input reads as it did. -/
def fnExactDominoAtUptoRow : OpenClaim := { program := "ytfckmopdojgggaa", sum := "e7ecae1aaf1c3e23b38e6937762602fcca7ae87957ac42dc00ae9455bf259759", func := "loop.example/g03300/laws.FnExactDominoAt", spec := "fnExactDominoAt", apart := false, narrowed := true }
def FnExactDominoAtUptoSaid : Prop := fnExactDominoAtUptoRow.holds Try.pinned (OpenSpec.upto fnExactDominoAtSpec)

/-- 'laws.FnExactBlackExcess', WHERE WHAT IT READS IS OF BULK AT MOST 1048576: true; the input reads as it did. -/
def fnExactBlackExcessUptoRow : OpenClaim := { program := "ytfckmopdojgggaa", sum := "e7ecae1aaf1c3e23b38e6937762602fcca7ae87957ac42dc00ae9455bf259759", func := "loop.example/g03300/laws.FnExactBlackExcess", spec := "fnExactBlackExcess", apart := false, narrowed := true }
def FnExactBlackExcessUptoSaid : Prop := fnExactBlackExcessUptoRow.holds Try.pinned (OpenSpec.upto fnExactBlackExcessSpec)

/-- 'laws.FnExactIsBalanced', WHERE WHAT IT READS IS OF BULK AT MOST 1048576: true; the input reads as it did. -/
def fnExactIsBalancedUptoRow : OpenClaim := { program := "ytfckmopdojgggaa", sum := "e7ecae1aaf1c3e23b38e6937762602fcca7ae87957ac42dc00ae9455bf259759", func := "loop.example/g03300/laws.FnExactIsBalanced", spec := "fnExactIsBalanced", apart := false, narrowed := true }
def FnExactIsBalancedUptoSaid : Prop := fnExactIsBalancedUptoRow.holds Try.pinned (OpenSpec.upto fnExactIsBalancedSpec)

/-- 'laws.FnExactCellsOf', WHERE WHAT IT READS IS OF BULK AT MOST 1048576: true; the input reads as it did. -/
def fnExactCellsOfUptoRow : OpenClaim := { program := "ytfckmopdojgggaa", sum := "e7ecae1aaf1c3e23b38e6937762602fcca7ae87957ac42dc00ae9455bf259759", func := "loop.example/g03300/laws.FnExactCellsOf", spec := "fnExactCellsOf", apart := false, narrowed := true }
def FnExactCellsOfUptoSaid : Prop := fnExactCellsOfUptoRow.holds Try.pinned (OpenSpec.upto fnExactCellsOfSpec)

/-- 'laws.FnExactRegionText', WHERE WHAT IT READS IS OF BULK AT MOST 1048576: true; the input reads as it did. -/
def fnExactRegionTextUptoRow : OpenClaim := { program := "ytfckmopdojgggaa", sum := "e7ecae1aaf1c3e23b38e6937762602fcca7ae87957ac42dc00ae9455bf259759", func := "loop.example/g03300/laws.FnExactRegionText", spec := "fnExactRegionText", apart := false, narrowed := true }
def FnExactRegionTextUptoSaid : Prop := fnExactRegionTextUptoRow.holds Try.pinned (OpenSpec.upto fnExactRegionTextSpec)

end Rows
end Go.Proofs.Ytfckmopdojgggaa
