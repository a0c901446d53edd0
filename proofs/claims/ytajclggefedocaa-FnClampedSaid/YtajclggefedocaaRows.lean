/-
  No cell of these rows narrows 'for every input' (looked for: loops, veiled, ifaces, maps, wideKeys, modest, calm, conditions, laid).
  DERIVED. THE GIVEN ROWS OF THIS SEAT. 12 by the template 'for every input the law returns true; each argument reads behind the call as it read before'; 0 by the template 'total and deterministic' (their statements: YtajclggefedocaaTotals.lean).
  GIVEN WITH THE SEED: the statements are not yours to turn. If you find one false, say at which input.
  Laid BY PROGRAM, IN A SANDBOX (cutbox-rows.mjs): the forced cells as the released guide's own fill.sh prints them over the translation aead161b6d55dcf5… (all of the seat's roots in one cut). By AI agents, Wed Nov 11 2026. No macro, syntax, notation, axiom, sorry.
-/
import Derived.Test.YtajclggefedocaaChecked
import GoSem.Claim
import GoSem.ClaimJoined
import GoSem.ClaimMapViews
import Derived.JoinedTies
import Derived.KernelRfl
namespace Go.Proofs.Ytajclggefedocaa
/- THE CELL 'sum', in the pinned program and in every row, IS THE sha256 OF THE DUMP (.gsa) THAT YtajclggefedocaaProg.lean LOADS. Nothing in Lean hashes anything: it is a label: what it is worth is what the hold of that sum in a sandbox is worth. -/
noncomputable def Try.pinned : Pinned := { name := "ytajclggefedocaa", sum := "aead161b6d55dcf5c27c8851c10b253cc321bf8675c6c156d63de1f51e7489ad", checked := Try.checked }
namespace Rows
def none {H : Type} : Left H := { results := [], args := [] }

/-- 'laws.FnExactClamp': WHATEVER THE INPUT: true; the input reads as it did. -/
def fnExactClampSpec : ChangeSpec := { name := "fnExactClamp", fn := fun _ => fun
  | [d1, d2, d3] => { results := [.lit (.bool true)], args := [d1, d2, d3] }
  | _ => none }
def fnExactClampRow : OpenClaim := { program := "ytajclggefedocaa", sum := "aead161b6d55dcf5c27c8851c10b253cc321bf8675c6c156d63de1f51e7489ad", func := "loop.example/g03300/laws.FnExactClamp", spec := "fnExactClamp", apart := false }
def FnExactClampSaid : Prop := fnExactClampRow.holds Try.pinned (OpenSpec.ofChange fnExactClampSpec)

/-- ITS FALSE NEIGHBOUR: 'it returns false'. Refute it at one input. -/
def fnExactClampWrong : ChangeSpec := { name := "fnExactClamp", fn := fun _ => fun
  | [d1, d2, d3] => { results := [.lit (.bool false)], args := [d1, d2, d3] }
  | _ => none }
def FnExactClampWrongFalsely : Prop := fnExactClampRow.holds Try.pinned (OpenSpec.ofChange fnExactClampWrong)

/-- 'laws.FnExactCellOk': WHATEVER THE INPUT: true; the input reads as it did. -/
def fnExactCellOkSpec : ChangeSpec := { name := "fnExactCellOk", fn := fun _ => fun
  | [d] => { results := [.lit (.bool true)], args := [d] }
  | _ => none }
def fnExactCellOkRow : OpenClaim := { program := "ytajclggefedocaa", sum := "aead161b6d55dcf5c27c8851c10b253cc321bf8675c6c156d63de1f51e7489ad", func := "loop.example/g03300/laws.FnExactCellOk", spec := "fnExactCellOk", apart := false }
def FnExactCellOkSaid : Prop := fnExactCellOkRow.holds Try.pinned (OpenSpec.ofChange fnExactCellOkSpec)

/-- ITS FALSE NEIGHBOUR: 'it returns false'. Refute it at one input. -/
def fnExactCellOkWrong : ChangeSpec := { name := "fnExactCellOk", fn := fun _ => fun
  | [d] => { results := [.lit (.bool false)], args := [d] }
  | _ => none }
def FnExactCellOkWrongFalsely : Prop := fnExactCellOkRow.holds Try.pinned (OpenSpec.ofChange fnExactCellOkWrong)

/-- 'laws.FnExactIsBlack': WHATEVER THE INPUT: true; the input reads as it did. -/
def fnExactIsBlackSpec : ChangeSpec := { name := "fnExactIsBlack", fn := fun _ => fun
  | [d] => { results := [.lit (.bool true)], args := [d] }
  | _ => none }
def fnExactIsBlackRow : OpenClaim := { program := "ytajclggefedocaa", sum := "aead161b6d55dcf5c27c8851c10b253cc321bf8675c6c156d63de1f51e7489ad", func := "loop.example/g03300/laws.FnExactIsBlack", spec := "fnExactIsBlack", apart := false }
def FnExactIsBlackSaid : Prop := fnExactIsBlackRow.holds Try.pinned (OpenSpec.ofChange fnExactIsBlackSpec)

/-- ITS FALSE NEIGHBOUR: 'it returns false'. Refute it at one input. -/
def fnExactIsBlackWrong : ChangeSpec := { name := "fnExactIsBlack", fn := fun _ => fun
  | [d] => { results := [.lit (.bool false)], args := [d] }
  | _ => none }
def FnExactIsBlackWrongFalsely : Prop := fnExactIsBlackRow.holds Try.pinned (OpenSpec.ofChange fnExactIsBlackWrong)

/-- 'laws.FnExactCellAt': WHATEVER THE INPUT: true; the input reads as it did. -/
def fnExactCellAtSpec : ChangeSpec := { name := "fnExactCellAt", fn := fun _ => fun
  | [d] => { results := [.lit (.bool true)], args := [d] }
  | _ => none }
def fnExactCellAtRow : OpenClaim := { program := "ytajclggefedocaa", sum := "aead161b6d55dcf5c27c8851c10b253cc321bf8675c6c156d63de1f51e7489ad", func := "loop.example/g03300/laws.FnExactCellAt", spec := "fnExactCellAt", apart := false }
def FnExactCellAtSaid : Prop := fnExactCellAtRow.holds Try.pinned (OpenSpec.ofChange fnExactCellAtSpec)

/-- ITS FALSE NEIGHBOUR: 'it returns false'. Refute it at one input. -/
def fnExactCellAtWrong : ChangeSpec := { name := "fnExactCellAt", fn := fun _ => fun
  | [d] => { results := [.lit (.bool false)], args := [d] }
  | _ => none }
def FnExactCellAtWrongFalsely : Prop := fnExactCellAtRow.holds Try.pinned (OpenSpec.ofChange fnExactCellAtWrong)

/-- 'laws.FnExactCellIndex': WHATEVER THE INPUT: true; the input reads as it did. -/
def fnExactCellIndexSpec : ChangeSpec := { name := "fnExactCellIndex", fn := fun _ => fun
  | [d] => { results := [.lit (.bool true)], args := [d] }
  | _ => none }
def fnExactCellIndexRow : OpenClaim := { program := "ytajclggefedocaa", sum := "aead161b6d55dcf5c27c8851c10b253cc321bf8675c6c156d63de1f51e7489ad", func := "loop.example/g03300/laws.FnExactCellIndex", spec := "fnExactCellIndex", apart := false }
def FnExactCellIndexSaid : Prop := fnExactCellIndexRow.holds Try.pinned (OpenSpec.ofChange fnExactCellIndexSpec)

/-- ITS FALSE NEIGHBOUR: 'it returns false'. Refute it at one input. -/
def fnExactCellIndexWrong : ChangeSpec := { name := "fnExactCellIndex", fn := fun _ => fun
  | [d] => { results := [.lit (.bool false)], args := [d] }
  | _ => none }
def FnExactCellIndexWrongFalsely : Prop := fnExactCellIndexRow.holds Try.pinned (OpenSpec.ofChange fnExactCellIndexWrong)

/-- 'laws.FnExactAreNeighbors': WHATEVER THE INPUT: true; the input reads as it did. -/
def fnExactAreNeighborsSpec : ChangeSpec := { name := "fnExactAreNeighbors", fn := fun _ => fun
  | [d1, d2] => { results := [.lit (.bool true)], args := [d1, d2] }
  | _ => none }
def fnExactAreNeighborsRow : OpenClaim := { program := "ytajclggefedocaa", sum := "aead161b6d55dcf5c27c8851c10b253cc321bf8675c6c156d63de1f51e7489ad", func := "loop.example/g03300/laws.FnExactAreNeighbors", spec := "fnExactAreNeighbors", apart := false }
def FnExactAreNeighborsSaid : Prop := fnExactAreNeighborsRow.holds Try.pinned (OpenSpec.ofChange fnExactAreNeighborsSpec)

/-- ITS FALSE NEIGHBOUR: 'it returns false'. Refute it at one input. -/
def fnExactAreNeighborsWrong : ChangeSpec := { name := "fnExactAreNeighbors", fn := fun _ => fun
  | [d1, d2] => { results := [.lit (.bool false)], args := [d1, d2] }
  | _ => none }
def FnExactAreNeighborsWrongFalsely : Prop := fnExactAreNeighborsRow.holds Try.pinned (OpenSpec.ofChange fnExactAreNeighborsWrong)

/-- 'laws.FnExactDominoOk': WHATEVER THE INPUT: true; the input reads as it did. -/
def fnExactDominoOkSpec : ChangeSpec := { name := "fnExactDominoOk", fn := fun _ => fun
  | [d] => { results := [.lit (.bool true)], args := [d] }
  | _ => none }
def fnExactDominoOkRow : OpenClaim := { program := "ytajclggefedocaa", sum := "aead161b6d55dcf5c27c8851c10b253cc321bf8675c6c156d63de1f51e7489ad", func := "loop.example/g03300/laws.FnExactDominoOk", spec := "fnExactDominoOk", apart := false }
def FnExactDominoOkSaid : Prop := fnExactDominoOkRow.holds Try.pinned (OpenSpec.ofChange fnExactDominoOkSpec)

/-- ITS FALSE NEIGHBOUR: 'it returns false'. Refute it at one input. -/
def fnExactDominoOkWrong : ChangeSpec := { name := "fnExactDominoOk", fn := fun _ => fun
  | [d] => { results := [.lit (.bool false)], args := [d] }
  | _ => none }
def FnExactDominoOkWrongFalsely : Prop := fnExactDominoOkRow.holds Try.pinned (OpenSpec.ofChange fnExactDominoOkWrong)

/-- 'laws.FnExactDominoOver': WHATEVER THE INPUT: true; the input reads as it did. -/
def fnExactDominoOverSpec : ChangeSpec := { name := "fnExactDominoOver", fn := fun _ => fun
  | [d1, d2] => { results := [.lit (.bool true)], args := [d1, d2] }
  | _ => none }
def fnExactDominoOverRow : OpenClaim := { program := "ytajclggefedocaa", sum := "aead161b6d55dcf5c27c8851c10b253cc321bf8675c6c156d63de1f51e7489ad", func := "loop.example/g03300/laws.FnExactDominoOver", spec := "fnExactDominoOver", apart := false }
def FnExactDominoOverSaid : Prop := fnExactDominoOverRow.holds Try.pinned (OpenSpec.ofChange fnExactDominoOverSpec)

/-- ITS FALSE NEIGHBOUR: 'it returns false'. Refute it at one input. -/
def fnExactDominoOverWrong : ChangeSpec := { name := "fnExactDominoOver", fn := fun _ => fun
  | [d1, d2] => { results := [.lit (.bool false)], args := [d1, d2] }
  | _ => none }
def FnExactDominoOverWrongFalsely : Prop := fnExactDominoOverRow.holds Try.pinned (OpenSpec.ofChange fnExactDominoOverWrong)

/-- 'laws.FnClamped': WHATEVER THE INPUT: true; the input reads as it did. -/
def fnClampedSpec : ChangeSpec := { name := "fnClamped", fn := fun _ => fun
  | [d] => { results := [.lit (.bool true)], args := [d] }
  | _ => none }
def fnClampedRow : OpenClaim := { program := "ytajclggefedocaa", sum := "aead161b6d55dcf5c27c8851c10b253cc321bf8675c6c156d63de1f51e7489ad", func := "loop.example/g03300/laws.FnClamped", spec := "fnClamped", apart := false }
def FnClampedSaid : Prop := fnClampedRow.holds Try.pinned (OpenSpec.ofChange fnClampedSpec)

/-- ITS FALSE NEIGHBOUR: 'it returns false'. Refute it at one input. -/
def fnClampedWrong : ChangeSpec := { name := "fnClamped", fn := fun _ => fun
  | [d] => { results := [.lit (.bool false)], args := [d] }
  | _ => none }
def FnClampedWrongFalsely : Prop := fnClampedRow.holds Try.pinned (OpenSpec.ofChange fnClampedWrong)

/-- 'laws.FnExactCellsUnder': WHATEVER THE INPUT: true; the input reads as it did. -/
def fnExactCellsUnderSpec : ChangeSpec := { name := "fnExactCellsUnder", fn := fun _ => fun
  | [d] => { results := [.lit (.bool true)], args := [d] }
  | _ => none }
def fnExactCellsUnderRow : OpenClaim := { program := "ytajclggefedocaa", sum := "aead161b6d55dcf5c27c8851c10b253cc321bf8675c6c156d63de1f51e7489ad", func := "loop.example/g03300/laws.FnExactCellsUnder", spec := "fnExactCellsUnder", apart := false }
def FnExactCellsUnderSaid : Prop := fnExactCellsUnderRow.holds Try.pinned (OpenSpec.ofChange fnExactCellsUnderSpec)

/-- ITS FALSE NEIGHBOUR: 'it returns false'. Refute it at one input. -/
def fnExactCellsUnderWrong : ChangeSpec := { name := "fnExactCellsUnder", fn := fun _ => fun
  | [d] => { results := [.lit (.bool false)], args := [d] }
  | _ => none }
def FnExactCellsUnderWrongFalsely : Prop := fnExactCellsUnderRow.holds Try.pinned (OpenSpec.ofChange fnExactCellsUnderWrong)

/-- 'laws.FnExactIsDominoBefore': WHATEVER THE INPUT: true; the input reads as it did. -/
def fnExactIsDominoBeforeSpec : ChangeSpec := { name := "fnExactIsDominoBefore", fn := fun _ => fun
  | [d1, d2] => { results := [.lit (.bool true)], args := [d1, d2] }
  | _ => none }
def fnExactIsDominoBeforeRow : OpenClaim := { program := "ytajclggefedocaa", sum := "aead161b6d55dcf5c27c8851c10b253cc321bf8675c6c156d63de1f51e7489ad", func := "loop.example/g03300/laws.FnExactIsDominoBefore", spec := "fnExactIsDominoBefore", apart := false }
def FnExactIsDominoBeforeSaid : Prop := fnExactIsDominoBeforeRow.holds Try.pinned (OpenSpec.ofChange fnExactIsDominoBeforeSpec)

/-- ITS FALSE NEIGHBOUR: 'it returns false'. Refute it at one input. -/
def fnExactIsDominoBeforeWrong : ChangeSpec := { name := "fnExactIsDominoBefore", fn := fun _ => fun
  | [d1, d2] => { results := [.lit (.bool false)], args := [d1, d2] }
  | _ => none }
def FnExactIsDominoBeforeWrongFalsely : Prop := fnExactIsDominoBeforeRow.holds Try.pinned (OpenSpec.ofChange fnExactIsDominoBeforeWrong)

/-- 'laws.FnExactDoOverlap': WHATEVER THE INPUT: true; the input reads as it did. -/
def fnExactDoOverlapSpec : ChangeSpec := { name := "fnExactDoOverlap", fn := fun _ => fun
  | [d1, d2] => { results := [.lit (.bool true)], args := [d1, d2] }
  | _ => none }
def fnExactDoOverlapRow : OpenClaim := { program := "ytajclggefedocaa", sum := "aead161b6d55dcf5c27c8851c10b253cc321bf8675c6c156d63de1f51e7489ad", func := "loop.example/g03300/laws.FnExactDoOverlap", spec := "fnExactDoOverlap", apart := false }
def FnExactDoOverlapSaid : Prop := fnExactDoOverlapRow.holds Try.pinned (OpenSpec.ofChange fnExactDoOverlapSpec)

/-- ITS FALSE NEIGHBOUR: 'it returns false'. Refute it at one input. -/
def fnExactDoOverlapWrong : ChangeSpec := { name := "fnExactDoOverlap", fn := fun _ => fun
  | [d1, d2] => { results := [.lit (.bool false)], args := [d1, d2] }
  | _ => none }
def FnExactDoOverlapWrongFalsely : Prop := fnExactDoOverlapRow.holds Try.pinned (OpenSpec.ofChange fnExactDoOverlapWrong)

/- THE SECOND FORM. 'bulk': how many values and letters a reading holds, each counted each time it is reached (what is shared counts as often as it is met; a slice's spare places count too). A statement '..UptoSaid' is the law's where the arguments, and the package variables that the reading takes, are together of bulk at most 1048576: NARROWER than '..Said'. Prove '..Said' where nothing that the law and all that it calls make is longer than what came in: it says more and counts as full. Else prove '..UptoSaid'. A law counts once. -/
mutual
def uptoBulk {H : Type} : DataW H → Nat
  | .lit (.string bytes) => bytes.length + 1
  | .lit _ => 1
  | .nil => 1
  | .ptr d => uptoBulk d + 1
  | .slice elems spare => uptoBulkAll elems + uptoBulkAll spare + 1
  | .agg parts => uptoBulkAll parts + 1
  | .iface _ d => uptoBulk d + 1
  | .map entries => uptoBulkEntries entries + 1
  | .held _ => 1
def uptoBulkAll {H : Type} : List (DataW H) → Nat
  | [] => 0
  | d :: r => uptoBulk d + uptoBulkAll r
def uptoBulkEntries {H : Type} : List (Lit × DataW H) → Nat
  | [] => 0
  | x :: r => uptoBulkEntry x + uptoBulkEntries r
def uptoBulkEntry {H : Type} : Lit × DataW H → Nat
  | (.string bytes, d) => bytes.length + uptoBulk d + 1
  | (_, d) => uptoBulk d + 1
 end
def uptoSmall : (H : Type) → List (DataW H) → Bool := fun _ ds => decide (uptoBulkAll ds ≤ 1048576)
def OpenSpec.upto (s : _root_.Go.ChangeSpec) : _root_.Go.OpenSpec := { _root_.Go.OpenSpec.ofChange s with cond := some uptoSmall }

/-- 'laws.FnExactClamp', WHERE WHAT IT READS IS OF BULK AT MOST 1048576: true; the input reads as it did. -/
def fnExactClampUptoRow : OpenClaim := { program := "ytajclggefedocaa", sum := "aead161b6d55dcf5c27c8851c10b253cc321bf8675c6c156d63de1f51e7489ad", func := "loop.example/g03300/laws.FnExactClamp", spec := "fnExactClamp", apart := false, narrowed := true }
def FnExactClampUptoSaid : Prop := fnExactClampUptoRow.holds Try.pinned (OpenSpec.upto fnExactClampSpec)

/-- 'laws.FnExactCellOk', WHERE WHAT IT READS IS OF BULK AT MOST 1048576: true; the input reads as it did. -/
def fnExactCellOkUptoRow : OpenClaim := { program := "ytajclggefedocaa", sum := "aead161b6d55dcf5c27c8851c10b253cc321bf8675c6c156d63de1f51e7489ad", func := "loop.example/g03300/laws.FnExactCellOk", spec := "fnExactCellOk", apart := false, narrowed := true }
def FnExactCellOkUptoSaid : Prop := fnExactCellOkUptoRow.holds Try.pinned (OpenSpec.upto fnExactCellOkSpec)

/-- 'laws.FnExactIsBlack', WHERE WHAT IT READS IS OF BULK AT MOST 1048576: true; the input reads as it did. -/
def fnExactIsBlackUptoRow : OpenClaim := { program := "ytajclggefedocaa", sum := "aead161b6d55dcf5c27c8851c10b253cc321bf8675c6c156d63de1f51e7489ad", func := "loop.example/g03300/laws.FnExactIsBlack", spec := "fnExactIsBlack", apart := false, narrowed := true }
def FnExactIsBlackUptoSaid : Prop := fnExactIsBlackUptoRow.holds Try.pinned (OpenSpec.upto fnExactIsBlackSpec)

/-- 'laws.FnExactCellAt', WHERE WHAT IT READS IS OF BULK AT MOST 1048576: true; the input reads as it did. -/
def fnExactCellAtUptoRow : OpenClaim := { program := "ytajclggefedocaa", sum := "aead161b6d55dcf5c27c8851c10b253cc321bf8675c6c156d63de1f51e7489ad", func := "loop.example/g03300/laws.FnExactCellAt", spec := "fnExactCellAt", apart := false, narrowed := true }
def FnExactCellAtUptoSaid : Prop := fnExactCellAtUptoRow.holds Try.pinned (OpenSpec.upto fnExactCellAtSpec)

/-- 'laws.FnExactCellIndex', WHERE WHAT IT READS IS OF BULK AT MOST 1048576: true; the input reads as it did. -/
def fnExactCellIndexUptoRow : OpenClaim := { program := "ytajclggefedocaa", sum := "aead161b6d55dcf5c27c8851c10b253cc321bf8675c6c156d63de1f51e7489ad", func := "loop.example/g03300/laws.FnExactCellIndex", spec := "fnExactCellIndex", apart := false, narrowed := true }
def FnExactCellIndexUptoSaid : Prop := fnExactCellIndexUptoRow.holds Try.pinned (OpenSpec.upto fnExactCellIndexSpec)

/-- 'laws.FnExactAreNeighbors', WHERE WHAT IT READS IS OF BULK AT MOST 1048576: true; the input reads as it did. -/
def fnExactAreNeighborsUptoRow : OpenClaim := { program := "ytajclggefedocaa", sum := "aead161b6d55dcf5c27c8851c10b253cc321bf8675c6c156d63de1f51e7489ad", func := "loop.example/g03300/laws.FnExactAreNeighbors", spec := "fnExactAreNeighbors", apart := false, narrowed := true }
def FnExactAreNeighborsUptoSaid : Prop := fnExactAreNeighborsUptoRow.holds Try.pinned (OpenSpec.upto fnExactAreNeighborsSpec)

/-- 'laws.FnExactDominoOk', WHERE WHAT IT READS IS OF BULK AT MOST 1048576: true; the input reads as it did. -/
def fnExactDominoOkUptoRow : OpenClaim := { program := "ytajclggefedocaa", sum := "aead161b6d55dcf5c27c8851c10b253cc321bf8675c6c156d63de1f51e7489ad", func := "loop.example/g03300/laws.FnExactDominoOk", spec := "fnExactDominoOk", apart := false, narrowed := true }
def FnExactDominoOkUptoSaid : Prop := fnExactDominoOkUptoRow.holds Try.pinned (OpenSpec.upto fnExactDominoOkSpec)

/-- 'laws.FnExactDominoOver', WHERE WHAT IT READS IS OF BULK AT MOST 1048576: true; the input reads as it did. -/
def fnExactDominoOverUptoRow : OpenClaim := { program := "ytajclggefedocaa", sum := "aead161b6d55dcf5c27c8851c10b253cc321bf8675c6c156d63de1f51e7489ad", func := "loop.example/g03300/laws.FnExactDominoOver", spec := "fnExactDominoOver", apart := false, narrowed := true }
def FnExactDominoOverUptoSaid : Prop := fnExactDominoOverUptoRow.holds Try.pinned (OpenSpec.upto fnExactDominoOverSpec)

/-- 'laws.FnClamped', WHERE WHAT IT READS IS OF BULK AT MOST 1048576: true; the input reads as it did. -/
def fnClampedUptoRow : OpenClaim := { program := "ytajclggefedocaa", sum := "aead161b6d55dcf5c27c8851c10b253cc321bf8675c6c156d63de1f51e7489ad", func := "loop.example/g03300/laws.FnClamped", spec := "fnClamped", apart := false, narrowed := true }
def FnClampedUptoSaid : Prop := fnClampedUptoRow.holds Try.pinned (OpenSpec.upto fnClampedSpec)

/-- 'laws.FnExactCellsUnder', WHERE WHAT IT READS IS OF BULK AT MOST 1048576: true; the input reads as it did. -/
def fnExactCellsUnderUptoRow : OpenClaim := { program := "ytajclggefedocaa", sum := "aead161b6d55dcf5c27c8851c10b253cc321bf8675c6c156d63de1f51e7489ad", func := "loop.example/g03300/laws.FnExactCellsUnder", spec := "fnExactCellsUnder", apart := false, narrowed := true }
def FnExactCellsUnderUptoSaid : Prop := fnExactCellsUnderUptoRow.holds Try.pinned (OpenSpec.upto fnExactCellsUnderSpec)

/-- 'laws.FnExactIsDominoBefore', WHERE WHAT IT READS IS OF BULK AT MOST 1048576: true; the input reads as it did. -/
def fnExactIsDominoBeforeUptoRow : OpenClaim := { program := "ytajclggefedocaa", sum := "aead161b6d55dcf5c27c8851c10b253cc321bf8675c6c156d63de1f51e7489ad", func := "loop.example/g03300/laws.FnExactIsDominoBefore", spec := "fnExactIsDominoBefore", apart := false, narrowed := true }
def FnExactIsDominoBeforeUptoSaid : Prop := fnExactIsDominoBeforeUptoRow.holds Try.pinned (OpenSpec.upto fnExactIsDominoBeforeSpec)

/-- 'laws.FnExactDoOverlap', WHERE WHAT IT READS IS OF BULK AT MOST 1048576: true; the input reads as it did. -/
def fnExactDoOverlapUptoRow : OpenClaim := { program := "ytajclggefedocaa", sum := "aead161b6d55dcf5c27c8851c10b253cc321bf8675c6c156d63de1f51e7489ad", func := "loop.example/g03300/laws.FnExactDoOverlap", spec := "fnExactDoOverlap", apart := false, narrowed := true }
def FnExactDoOverlapUptoSaid : Prop := fnExactDoOverlapUptoRow.holds Try.pinned (OpenSpec.upto fnExactDoOverlapSpec)

end Rows
end Go.Proofs.Ytajclggefedocaa
