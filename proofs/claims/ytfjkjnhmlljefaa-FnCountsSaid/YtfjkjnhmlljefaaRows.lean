/-
  No cell of these rows narrows 'for every input' (looked for: loops, veiled, ifaces, maps, wideKeys, modest, calm, conditions, laid).
  DERIVED. THE GIVEN ROWS OF THIS SEAT. 6 by the template 'for every input the law returns true; each argument reads behind the call as it read before'; 0 by the template 'total and deterministic' (their statements: YtfjkjnhmlljefaaTotals.lean).
  GIVEN WITH THE SEED: the statements are not yours to turn. If you find one false, say at which input.
  Laid BY PROGRAM, IN A SANDBOX (cutbox-rows.mjs): the forced cells as the released guide's own fill.sh prints them over the translation cb3696200c420b36… (all of the seat's roots in one cut). By AI agents, Wed Nov 11 2026. No macro, syntax, notation, axiom, sorry.
-/
import Derived.Test.YtfjkjnhmlljefaaChecked
import GoSem.Claim
import GoSem.ClaimJoined
import GoSem.ClaimMapViews
import Derived.JoinedTies
import Derived.KernelRfl
namespace Go.Proofs.Ytfjkjnhmlljefaa
/- THE CELL 'sum', in the pinned program and in every row, IS THE sha256 OF THE DUMP (.gsa) THAT YtfjkjnhmlljefaaProg.lean LOADS. Nothing in Lean hashes anything: it is a label: what it is worth is what the hold of that sum in a sandbox is worth. -/
noncomputable def Try.pinned : Pinned := { name := "ytfjkjnhmlljefaa", sum := "cb3696200c420b36c7a3dc0c5544fece04a0c71e1c431f7c2faf070e2c377363", checked := Try.checked }
namespace Rows
def none {H : Type} : Left H := { results := [], args := [] }

/-- 'laws.FnExactRectangleCount': WHATEVER THE INPUT: true; the input reads as it did. -/
def fnExactRectangleCountSpec : ChangeSpec := { name := "fnExactRectangleCount", fn := fun _ => fun
  | [d1, d2] => { results := [.lit (.bool true)], args := [d1, d2] }
  | _ => none }
def fnExactRectangleCountRow : OpenClaim := { program := "ytfjkjnhmlljefaa", sum := "cb3696200c420b36c7a3dc0c5544fece04a0c71e1c431f7c2faf070e2c377363", func := "loop.example/g03300/laws.FnExactRectangleCount", spec := "fnExactRectangleCount", unfollowed := true, recurses := true, apart := false }
def FnExactRectangleCountSaid : Prop := fnExactRectangleCountRow.holds Try.pinned (OpenSpec.ofChange fnExactRectangleCountSpec)

/-- ITS FALSE NEIGHBOUR: 'it returns false'. Refute it at one input. -/
def fnExactRectangleCountWrong : ChangeSpec := { name := "fnExactRectangleCount", fn := fun _ => fun
  | [d1, d2] => { results := [.lit (.bool false)], args := [d1, d2] }
  | _ => none }
def FnExactRectangleCountWrongFalsely : Prop := fnExactRectangleCountRow.holds Try.pinned (OpenSpec.ofChange fnExactRectangleCountWrong)

/-- 'laws.FnExactCountPartials': WHATEVER THE INPUT: true; the input reads as it did. -/
def fnExactCountPartialsSpec : ChangeSpec := { name := "fnExactCountPartials", fn := fun _ => fun
  | [d1, d2] => { results := [.lit (.bool true)], args := [d1, d2] }
  | _ => none }
def fnExactCountPartialsRow : OpenClaim := { program := "ytfjkjnhmlljefaa", sum := "cb3696200c420b36c7a3dc0c5544fece04a0c71e1c431f7c2faf070e2c377363", func := "loop.example/g03300/laws.FnExactCountPartials", spec := "fnExactCountPartials", recurses := true, apart := false }
def FnExactCountPartialsSaid : Prop := fnExactCountPartialsRow.holds Try.pinned (OpenSpec.ofChange fnExactCountPartialsSpec)

/-- ITS FALSE NEIGHBOUR: 'it returns false'. Refute it at one input. -/
def fnExactCountPartialsWrong : ChangeSpec := { name := "fnExactCountPartials", fn := fun _ => fun
  | [d1, d2] => { results := [.lit (.bool false)], args := [d1, d2] }
  | _ => none }
def FnExactCountPartialsWrongFalsely : Prop := fnExactCountPartialsRow.holds Try.pinned (OpenSpec.ofChange fnExactCountPartialsWrong)

/-- 'laws.FnExactCountTilings': WHATEVER THE INPUT: true; the input reads as it did. -/
def fnExactCountTilingsSpec : ChangeSpec := { name := "fnExactCountTilings", fn := fun _ => fun
  | [d] => { results := [.lit (.bool true)], args := [d] }
  | _ => none }
def fnExactCountTilingsRow : OpenClaim := { program := "ytfjkjnhmlljefaa", sum := "cb3696200c420b36c7a3dc0c5544fece04a0c71e1c431f7c2faf070e2c377363", func := "loop.example/g03300/laws.FnExactCountTilings", spec := "fnExactCountTilings", unfollowed := true, recurses := true, apart := false }
def FnExactCountTilingsSaid : Prop := fnExactCountTilingsRow.holds Try.pinned (OpenSpec.ofChange fnExactCountTilingsSpec)

/-- ITS FALSE NEIGHBOUR: 'it returns false'. Refute it at one input. -/
def fnExactCountTilingsWrong : ChangeSpec := { name := "fnExactCountTilings", fn := fun _ => fun
  | [d] => { results := [.lit (.bool false)], args := [d] }
  | _ => none }
def FnExactCountTilingsWrongFalsely : Prop := fnExactCountTilingsRow.holds Try.pinned (OpenSpec.ofChange fnExactCountTilingsWrong)

/-- 'laws.FnExactIsTileable': WHATEVER THE INPUT: true; the input reads as it did. -/
def fnExactIsTileableSpec : ChangeSpec := { name := "fnExactIsTileable", fn := fun _ => fun
  | [d] => { results := [.lit (.bool true)], args := [d] }
  | _ => none }
def fnExactIsTileableRow : OpenClaim := { program := "ytfjkjnhmlljefaa", sum := "cb3696200c420b36c7a3dc0c5544fece04a0c71e1c431f7c2faf070e2c377363", func := "loop.example/g03300/laws.FnExactIsTileable", spec := "fnExactIsTileable", unfollowed := true, recurses := true, apart := false }
def FnExactIsTileableSaid : Prop := fnExactIsTileableRow.holds Try.pinned (OpenSpec.ofChange fnExactIsTileableSpec)

/-- ITS FALSE NEIGHBOUR: 'it returns false'. Refute it at one input. -/
def fnExactIsTileableWrong : ChangeSpec := { name := "fnExactIsTileable", fn := fun _ => fun
  | [d] => { results := [.lit (.bool false)], args := [d] }
  | _ => none }
def FnExactIsTileableWrongFalsely : Prop := fnExactIsTileableRow.holds Try.pinned (OpenSpec.ofChange fnExactIsTileableWrong)

/-- 'laws.FnExactCountWith': WHATEVER THE INPUT: true; the input reads as it did. -/
def fnExactCountWithSpec : ChangeSpec := { name := "fnExactCountWith", fn := fun _ => fun
  | [d1, d2] => { results := [.lit (.bool true)], args := [d1, d2] }
  | _ => none }
def fnExactCountWithRow : OpenClaim := { program := "ytfjkjnhmlljefaa", sum := "cb3696200c420b36c7a3dc0c5544fece04a0c71e1c431f7c2faf070e2c377363", func := "loop.example/g03300/laws.FnExactCountWith", spec := "fnExactCountWith", unfollowed := true, recurses := true, apart := false }
def FnExactCountWithSaid : Prop := fnExactCountWithRow.holds Try.pinned (OpenSpec.ofChange fnExactCountWithSpec)

/-- ITS FALSE NEIGHBOUR: 'it returns false'. Refute it at one input. -/
def fnExactCountWithWrong : ChangeSpec := { name := "fnExactCountWith", fn := fun _ => fun
  | [d1, d2] => { results := [.lit (.bool false)], args := [d1, d2] }
  | _ => none }
def FnExactCountWithWrongFalsely : Prop := fnExactCountWithRow.holds Try.pinned (OpenSpec.ofChange fnExactCountWithWrong)

/-- 'laws.FnCounts': WHATEVER THE INPUT: true; the input reads as it did. -/
def fnCountsSpec : ChangeSpec := { name := "fnCounts", fn := fun _ => fun
  | [d] => { results := [.lit (.bool true)], args := [d] }
  | _ => none }
def fnCountsRow : OpenClaim := { program := "ytfjkjnhmlljefaa", sum := "cb3696200c420b36c7a3dc0c5544fece04a0c71e1c431f7c2faf070e2c377363", func := "loop.example/g03300/laws.FnCounts", spec := "fnCounts", unfollowed := true, recurses := true, apart := false }
def FnCountsSaid : Prop := fnCountsRow.holds Try.pinned (OpenSpec.ofChange fnCountsSpec)

/-- ITS FALSE NEIGHBOUR: 'it returns false'. Refute it at one input. -/
def fnCountsWrong : ChangeSpec := { name := "fnCounts", fn := fun _ => fun
  | [d] => { results := [.lit (.bool false)], args := [d] }
  | _ => none }
def FnCountsWrongFalsely : Prop := fnCountsRow.holds Try.pinned (OpenSpec.ofChange fnCountsWrong)

/- THE SECOND FORM. 'bulk': how many values and letters a reading holds, each counted each time it is reached (what is shared counts as often as it is met; a slice's spare places count too). A statement '..UptoSaid' is the law's where the arguments, and the package variables that the reading takes, are together of bulk at most 1048576: NARROWER than '..Said'. Prove '..Said' where nothing that the law and all that it calls make is longer than what came in: it says more and counts as full. Else prove '..UptoSaid'. A law counts once. -/
mutual
def uptoBulk {H : Type} : DataW H → Nat
  | .lit (.string bytes) => bytes.length + 1
  | .lit _ => 1
  | .nil => 1
  | .ptr d => uptoBulk d + 1
  | .slice elems spare => uptoBulkAll elems + uptoBulkAll spare + 1
  | .agg parts => uptoBulkAll parts + 1
  | .iface _ d => uptoBulk d + 1
  | .map entries => uptoBulkEntries entries + 1
  | .held _ => 1
def uptoBulkAll {H : Type} : List (DataW H) → Nat
  | [] => 0
  | d :: r => uptoBulk d + uptoBulkAll r
def uptoBulkEntries {H : Type} : List (Lit × DataW H) → Nat
  | [] => 0
  | x :: r => uptoBulkEntry x + uptoBulkEntries r
def uptoBulkEntry {H : Type} : Lit × DataW H → Nat
  | (.string bytes, d) => bytes.length + uptoBulk d + 1
  | (_, d) => uptoBulk d + 1
 end
def uptoSmall : (H : Type) → List (DataW H) → Bool := fun _ ds => decide (uptoBulkAll ds ≤ 1048576)
def OpenSpec.upto (s : _root_.Go.ChangeSpec) : _root_.Go.OpenSpec := { _root_.Go.OpenSpec.ofChange s with cond := some uptoSmall }

/-- 'laws.FnExactRectangleCount', WHERE WHAT IT READS IS OF BULK AT MOST 1048576: true; the input reads as it did. -/
def fnExactRectangleCountUptoRow : OpenClaim := { program := "ytfjkjnhmlljefaa", sum := "cb3696200c420b36c7a3dc0c5544fece04a0c71e1c431f7c2faf070e2c377363", func := "loop.example/g03300/laws.FnExactRectangleCount", spec := "fnExactRectangleCount", unfollowed := true, recurses := true, apart := false, narrowed := true }
def FnExactRectangleCountUptoSaid : Prop := fnExactRectangleCountUptoRow.holds Try.pinned (OpenSpec.upto fnExactRectangleCountSpec)

/-- 'laws.FnExactCountPartials', WHERE WHAT IT READS IS OF BULK AT MOST 1048576: true; the input reads as it did. -/
def fnExactCountPartialsUptoRow : OpenClaim := { program := "ytfjkjnhmlljefaa", sum := "cb3696200c420b36c7a3dc0c5544fece04a0c71e1c431f7c2faf070e2c377363", func := "loop.example/g03300/laws.FnExactCountPartials", spec := "fnExactCountPartials", recurses := true, apart := false, narrowed := true }
def FnExactCountPartialsUptoSaid : Prop := fnExactCountPartialsUptoRow.holds Try.pinned (OpenSpec.upto fnExactCountPartialsSpec)

/-- 'laws.FnExactCountTilings', WHERE WHAT IT READS IS OF BULK AT MOST 1048576: true; the input reads as it did. -/
def fnExactCountTilingsUptoRow : OpenClaim := { program := "ytfjkjnhmlljefaa", sum := "cb3696200c420b36c7a3dc0c5544fece04a0c71e1c431f7c2faf070e2c377363", func := "loop.example/g03300/laws.FnExactCountTilings", spec := "fnExactCountTilings", unfollowed := true, recurses := true, apart := false, narrowed := true }
def FnExactCountTilingsUptoSaid : Prop := fnExactCountTilingsUptoRow.holds Try.pinned (OpenSpec.upto fnExactCountTilingsSpec)

/-- 'laws.FnExactIsTileable', WHERE WHAT IT READS IS OF BULK AT MOST 1048576: true; the input reads as it did. -/
def fnExactIsTileableUptoRow : OpenClaim := { program := "ytfjkjnhmlljefaa", sum := "cb3696200c420b36c7a3dc0c5544fece04a0c71e1c431f7c2faf070e2c377363", func := "loop.example/g03300/laws.FnExactIsTileable", spec := "fnExactIsTileable", unfollowed := true, recurses := true, apart := false, narrowed := true }
def FnExactIsTileableUptoSaid : Prop := fnExactIsTileableUptoRow.holds Try.pinned (OpenSpec.upto fnExactIsTileableSpec)

/-- 'laws.FnExactCountWith', WHERE WHAT IT READS IS OF BULK AT MOST 1048576: true; the input reads as it did. -/
def fnExactCountWithUptoRow : OpenClaim := { program := "ytfjkjnhmlljefaa", sum := "cb3696200c420b36c7a3dc0c5544fece04a0c71e1c431f7c2faf070e2c377363", func := "loop.example/g03300/laws.FnExactCountWith", spec := "fnExactCountWith", unfollowed := true, recurses := true, apart := false, narrowed := true }
def FnExactCountWithUptoSaid : Prop := fnExactCountWithUptoRow.holds Try.pinned (OpenSpec.upto fnExactCountWithSpec)

/-- 'laws.FnCounts', WHERE WHAT IT READS IS OF BULK AT MOST 1048576: true; the input reads as it did. -/
def fnCountsUptoRow : OpenClaim := { program := "ytfjkjnhmlljefaa", sum := "cb3696200c420b36c7a3dc0c5544fece04a0c71e1c431f7c2faf070e2c377363", func := "loop.example/g03300/laws.FnCounts", spec := "fnCounts", unfollowed := true, recurses := true, apart := false, narrowed := true }
def FnCountsUptoSaid : Prop := fnCountsUptoRow.holds Try.pinned (OpenSpec.upto fnCountsSpec)

end Rows
end Go.Proofs.Ytfjkjnhmlljefaa
