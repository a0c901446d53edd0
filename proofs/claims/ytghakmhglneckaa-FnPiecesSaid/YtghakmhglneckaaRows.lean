/-
  No cell of these rows narrows 'for every input' (looked for: loops, veiled, ifaces, maps, wideKeys, modest, calm, conditions, laid).
  DERIVED. THE GIVEN ROWS OF THIS SEAT. 5 by the template 'for every input the law returns true; each argument reads behind the call as it read before'; 0 by the template 'total and deterministic' (their statements: YtghakmhglneckaaTotals.lean).
  GIVEN WITH THE SEED: the statements are not yours to turn. If you find one false, say at which input.
  Laid BY PROGRAM, IN A SANDBOX (cutbox-rows.mjs): the forced cells as the released guide's own fill.sh prints them over the translation 2bb78e410cd1afec… (all of the seat's roots in one cut). By AI agents, Wed Nov 11 2026. No macro, syntax, notation, axiom, sorry.
-/
import Derived.Test.YtghakmhglneckaaChecked
import GoSem.Claim
import GoSem.ClaimJoined
import GoSem.ClaimMapViews
import Derived.JoinedTies
import Derived.KernelRfl
namespace Go.Proofs.Ytghakmhglneckaa
/- THE CELL 'sum', in the pinned program and in every row, IS THE sha256 OF THE DUMP (.gsa) THAT YtghakmhglneckaaProg.lean LOADS. Nothing in Lean hashes anything: it is a label: what it is worth is what the hold of that sum in a sandbox is worth. -/
noncomputable def Try.pinned : Pinned := { name := "ytghakmhglneckaa", sum := "2bb78e410cd1afec93116ba884a800223c96205a7c8523cd6a8528059d73b613", checked := Try.checked }
namespace Rows
def none {H : Type} : Left H := { results := [], args := [] }

/-- 'laws.FnExactCountHoles': WHATEVER THE INPUT: true; the input reads as it did. -/
def fnExactCountHolesSpec : ChangeSpec := { name := "fnExactCountHoles", fn := fun _ => fun
  | [d] => { results := [.lit (.bool true)], args := [d] }
  | _ => none }
def fnExactCountHolesRow : OpenClaim := { program := "ytghakmhglneckaa", sum := "2bb78e410cd1afec93116ba884a800223c96205a7c8523cd6a8528059d73b613", func := "loop.example/g03300/laws.FnExactCountHoles", spec := "fnExactCountHoles", unfollowed := true, recurses := true, apart := false }
def FnExactCountHolesSaid : Prop := fnExactCountHolesRow.holds Try.pinned (OpenSpec.ofChange fnExactCountHolesSpec)

/-- ITS FALSE NEIGHBOUR: 'it returns false'. Refute it at one input. -/
def fnExactCountHolesWrong : ChangeSpec := { name := "fnExactCountHoles", fn := fun _ => fun
  | [d] => { results := [.lit (.bool false)], args := [d] }
  | _ => none }
def FnExactCountHolesWrongFalsely : Prop := fnExactCountHolesRow.holds Try.pinned (OpenSpec.ofChange fnExactCountHolesWrong)

/-- 'laws.FnExactCountPieces': WHATEVER THE INPUT: true; the input reads as it did. -/
def fnExactCountPiecesSpec : ChangeSpec := { name := "fnExactCountPieces", fn := fun _ => fun
  | [d] => { results := [.lit (.bool true)], args := [d] }
  | _ => none }
def fnExactCountPiecesRow : OpenClaim := { program := "ytghakmhglneckaa", sum := "2bb78e410cd1afec93116ba884a800223c96205a7c8523cd6a8528059d73b613", func := "loop.example/g03300/laws.FnExactCountPieces", spec := "fnExactCountPieces", apart := false }
def FnExactCountPiecesSaid : Prop := fnExactCountPiecesRow.holds Try.pinned (OpenSpec.ofChange fnExactCountPiecesSpec)

/-- ITS FALSE NEIGHBOUR: 'it returns false'. Refute it at one input. -/
def fnExactCountPiecesWrong : ChangeSpec := { name := "fnExactCountPieces", fn := fun _ => fun
  | [d] => { results := [.lit (.bool false)], args := [d] }
  | _ => none }
def FnExactCountPiecesWrongFalsely : Prop := fnExactCountPiecesRow.holds Try.pinned (OpenSpec.ofChange fnExactCountPiecesWrong)

/-- 'laws.FnExactPieceOf': WHATEVER THE INPUT: true; the input reads as it did. -/
def fnExactPieceOfSpec : ChangeSpec := { name := "fnExactPieceOf", fn := fun _ => fun
  | [d1, d2] => { results := [.lit (.bool true)], args := [d1, d2] }
  | _ => none }
def fnExactPieceOfRow : OpenClaim := { program := "ytghakmhglneckaa", sum := "2bb78e410cd1afec93116ba884a800223c96205a7c8523cd6a8528059d73b613", func := "loop.example/g03300/laws.FnExactPieceOf", spec := "fnExactPieceOf", apart := false }
def FnExactPieceOfSaid : Prop := fnExactPieceOfRow.holds Try.pinned (OpenSpec.ofChange fnExactPieceOfSpec)

/-- ITS FALSE NEIGHBOUR: 'it returns false'. Refute it at one input. -/
def fnExactPieceOfWrong : ChangeSpec := { name := "fnExactPieceOf", fn := fun _ => fun
  | [d1, d2] => { results := [.lit (.bool false)], args := [d1, d2] }
  | _ => none }
def FnExactPieceOfWrongFalsely : Prop := fnExactPieceOfRow.holds Try.pinned (OpenSpec.ofChange fnExactPieceOfWrong)

/-- 'laws.FnExactIsSimple': WHATEVER THE INPUT: true; the input reads as it did. -/
def fnExactIsSimpleSpec : ChangeSpec := { name := "fnExactIsSimple", fn := fun _ => fun
  | [d] => { results := [.lit (.bool true)], args := [d] }
  | _ => none }
def fnExactIsSimpleRow : OpenClaim := { program := "ytghakmhglneckaa", sum := "2bb78e410cd1afec93116ba884a800223c96205a7c8523cd6a8528059d73b613", func := "loop.example/g03300/laws.FnExactIsSimple", spec := "fnExactIsSimple", unfollowed := true, recurses := true, apart := false }
def FnExactIsSimpleSaid : Prop := fnExactIsSimpleRow.holds Try.pinned (OpenSpec.ofChange fnExactIsSimpleSpec)

/-- ITS FALSE NEIGHBOUR: 'it returns false'. Refute it at one input. -/
def fnExactIsSimpleWrong : ChangeSpec := { name := "fnExactIsSimple", fn := fun _ => fun
  | [d] => { results := [.lit (.bool false)], args := [d] }
  | _ => none }
def FnExactIsSimpleWrongFalsely : Prop := fnExactIsSimpleRow.holds Try.pinned (OpenSpec.ofChange fnExactIsSimpleWrong)

/-- 'laws.FnPieces': WHATEVER THE INPUT: true; the input reads as it did. -/
def fnPiecesSpec : ChangeSpec := { name := "fnPieces", fn := fun _ => fun
  | [d] => { results := [.lit (.bool true)], args := [d] }
  | _ => none }
def fnPiecesRow : OpenClaim := { program := "ytghakmhglneckaa", sum := "2bb78e410cd1afec93116ba884a800223c96205a7c8523cd6a8528059d73b613", func := "loop.example/g03300/laws.FnPieces", spec := "fnPieces", unfollowed := true, recurses := true, apart := false }
def FnPiecesSaid : Prop := fnPiecesRow.holds Try.pinned (OpenSpec.ofChange fnPiecesSpec)

/-- ITS FALSE NEIGHBOUR: 'it returns false'. Refute it at one input. -/
def fnPiecesWrong : ChangeSpec := { name := "fnPieces", fn := fun _ => fun
  | [d] => { results := [.lit (.bool false)], args := [d] }
  | _ => none }
def FnPiecesWrongFalsely : Prop := fnPiecesRow.holds Try.pinned (OpenSpec.ofChange fnPiecesWrong)

/- THE SECOND FORM. 'bulk': how many values and letters a reading holds, each counted each time it is reached (what is shared counts as often as it is met; a slice's spare places count too). A statement '..UptoSaid' is the law's where the arguments, and the package variables that the reading takes, are together of bulk at most 1048576: NARROWER than '..Said'. Prove '..Said' where nothing that the law and all that it calls make is longer than what came in: it says more and counts as full. Else prove '..UptoSaid'. A law counts once. -/
mutual
def uptoBulk {H : Type} : DataW H → Nat
  | .lit (.string bytes) => bytes.length + 1
  | .lit _ => 1
  | .nil => 1
  | .ptr d => uptoBulk d + 1
  | .slice elems spare => uptoBulkAll elems + uptoBulkAll spare + 1
  | .agg parts => uptoBulkAll parts + 1
  | .iface _ d => uptoBulk d + 1
  | .map entries => uptoBulkEntries entries + 1
  | .held _ => 1
def uptoBulkAll {H : Type} : List (DataW H) → Nat
  | [] => 0
  | d :: r => uptoBulk d + uptoBulkAll r
def uptoBulkEntries {H : Type} : List (Lit × DataW H) → Nat
  | [] => 0
  | x :: r => uptoBulkEntry x + uptoBulkEntries r
def uptoBulkEntry {H : Type} : Lit × DataW H → Nat
  | (.string bytes, d) => bytes.length + uptoBulk d + 1
  | (_, d) => uptoBulk d + 1
 end
def uptoSmall : (H : Type) → List (DataW H) → Bool := fun _ ds => decide (uptoBulkAll ds ≤ 1048576)
def OpenSpec.upto (s : _root_.Go.ChangeSpec) : _root_.Go.OpenSpec := { _root_.Go.OpenSpec.ofChange s with cond := some uptoSmall }

/-- 'laws.FnExactCountHoles', WHERE WHAT IT READS IS OF BULK AT MOST 1048576: true; the input reads as it did. -/
def fnExactCountHolesUptoRow : OpenClaim := { program := "ytghakmhglneckaa", sum := "2bb78e410cd1afec93116ba884a800223c96205a7c8523cd6a8528059d73b613", func := "loop.example/g03300/laws.FnExactCountHoles", spec := "fnExactCountHoles", unfollowed := true, recurses := true, apart := false, narrowed := true }
def FnExactCountHolesUptoSaid : Prop := fnExactCountHolesUptoRow.holds Try.pinned (OpenSpec.upto fnExactCountHolesSpec)

/-- 'laws.FnExactCountPieces', WHERE WHAT IT READS IS OF BULK AT MOST 1048576: true; the input reads as it did. -/
def fnExactCountPiecesUptoRow : OpenClaim := { program := "ytghakmhglneckaa", sum := "2bb78e410cd1afec93116ba884a800223c96205a7c8523cd6a8528059d73b613", func := "loop.example/g03300/laws.FnExactCountPieces", spec := "fnExactCountPieces", apart := false, narrowed := true }
def FnExactCountPiecesUptoSaid : Prop := fnExactCountPiecesUptoRow.holds Try.pinned (OpenSpec.upto fnExactCountPiecesSpec)

/-- 'laws.FnExactPieceOf', WHERE WHAT IT READS IS OF BULK AT MOST 1048576: true; the input reads as it did. -/
def fnExactPieceOfUptoRow : OpenClaim := { program := "ytghakmhglneckaa", sum := "2bb78e410cd1afec93116ba884a800223c96205a7c8523cd6a8528059d73b613", func := "loop.example/g03300/laws.FnExactPieceOf", spec := "fnExactPieceOf", apart := false, narrowed := true }
def FnExactPieceOfUptoSaid : Prop := fnExactPieceOfUptoRow.holds Try.pinned (OpenSpec.upto fnExactPieceOfSpec)

/-- 'laws.FnExactIsSimple', WHERE WHAT IT READS IS OF BULK AT MOST 1048576: true; the input reads as it did. -/
def fnExactIsSimpleUptoRow : OpenClaim := { program := "ytghakmhglneckaa", sum := "2bb78e410cd1afec93116ba884a800223c96205a7c8523cd6a8528059d73b613", func := "loop.example/g03300/laws.FnExactIsSimple", spec := "fnExactIsSimple", unfollowed := true, recurses := true, apart := false, narrowed := true }
def FnExactIsSimpleUptoSaid : Prop := fnExactIsSimpleUptoRow.holds Try.pinned (OpenSpec.upto fnExactIsSimpleSpec)

/-- 'laws.FnPieces', WHERE WHAT IT READS IS OF BULK AT MOST 1048576: true; the input reads as it did. -/
def fnPiecesUptoRow : OpenClaim := { program := "ytghakmhglneckaa", sum := "2bb78e410cd1afec93116ba884a800223c96205a7c8523cd6a8528059d73b613", func := "loop.example/g03300/laws.FnPieces", spec := "fnPieces", unfollowed := true, recurses := true, apart := false, narrowed := true }
def FnPiecesUptoSaid : Prop := fnPiecesUptoRow.holds Try.pinned (OpenSpec.upto fnPiecesSpec)

end Rows
end Go.Proofs.Ytghakmhglneckaa
