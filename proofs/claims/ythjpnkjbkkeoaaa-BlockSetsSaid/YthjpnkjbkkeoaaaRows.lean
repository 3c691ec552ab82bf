/-
  No cell of these rows narrows 'for every input' (looked for: loops, veiled, ifaces, maps, wideKeys, modest, calm, conditions, laid).
  DERIVED. THE GIVEN ROWS OF THIS SEAT. 3 by the template 'for every input the law returns true; each argument reads behind the call as it read before'; 0 by the template 'total and deterministic' (their statements: YthjpnkjbkkeoaaaTotals.lean).
  GIVEN WITH THE SEED: the statements are not yours to turn. If you find one false, say at which input.
  Laid BY PROGRAM, IN A SANDBOX (cutbox-rows.mjs): the forced cells as the released guide's own fill.sh prints them over the translation a239d767c7847d68… (all of the seat's roots in one cut). By AI agents, Wed Nov 11 2026. No macro, syntax, notation, axiom, sorry.
-/
import Derived.Test.YthjpnkjbkkeoaaaChecked
import GoSem.Claim
import GoSem.ClaimJoined
import GoSem.ClaimMapViews
import Derived.JoinedTies
import Derived.KernelRfl
namespace Go.Proofs.Ythjpnkjbkkeoaaa
/- THE CELL 'sum', in the pinned program and in every row, IS THE sha256 OF THE DUMP (.gsa) THAT YthjpnkjbkkeoaaaProg.lean LOADS. Nothing in Lean hashes anything: it is a label: what it is worth is what the hold of that sum in a sandbox is worth. -/
noncomputable def Try.pinned : Pinned := { name := "ythjpnkjbkkeoaaa", sum := "a239d767c7847d6868e5fd0d05dc44f281c38b56b90a87279575236f0e374a92", checked := Try.checked }
namespace Rows
def none {H : Type} : Left H := { results := [], args := [] }

/-- 'astragallaw28.BlockPieces': WHATEVER THE INPUT: true; the input reads as it did. -/
def blockPiecesSpec : ChangeSpec := { name := "blockPieces", fn := fun _ => fun
  | [d1, d2, d3, d4] => { results := [.lit (.bool true)], args := [d1, d2, d3, d4] }
  | _ => none }
def blockPiecesRow : OpenClaim := { program := "ythjpnkjbkkeoaaa", sum := "a239d767c7847d6868e5fd0d05dc44f281c38b56b90a87279575236f0e374a92", func := "astragal/astragallaw28.BlockPieces", spec := "blockPieces", unfollowed := true, recurses := true, apart := false }
def BlockPiecesSaid : Prop := blockPiecesRow.holds Try.pinned (OpenSpec.ofChange blockPiecesSpec)

/-- ITS FALSE NEIGHBOUR: 'it returns false'. Refute it at one input. -/
def blockPiecesWrong : ChangeSpec := { name := "blockPieces", fn := fun _ => fun
  | [d1, d2, d3, d4] => { results := [.lit (.bool false)], args := [d1, d2, d3, d4] }
  | _ => none }
def BlockPiecesWrongFalsely : Prop := blockPiecesRow.holds Try.pinned (OpenSpec.ofChange blockPiecesWrong)

/-- 'astragallaw28.BlockCopies': WHATEVER THE INPUT: true; the input reads as it did. -/
def blockCopiesSpec : ChangeSpec := { name := "blockCopies", fn := fun _ => fun
  | [d1, d2, d3, d4, d5] => { results := [.lit (.bool true)], args := [d1, d2, d3, d4, d5] }
  | _ => none }
def blockCopiesRow : OpenClaim := { program := "ythjpnkjbkkeoaaa", sum := "a239d767c7847d6868e5fd0d05dc44f281c38b56b90a87279575236f0e374a92", func := "astragal/astragallaw28.BlockCopies", spec := "blockCopies", unfollowed := true, recurses := true, apart := false }
def BlockCopiesSaid : Prop := blockCopiesRow.holds Try.pinned (OpenSpec.ofChange blockCopiesSpec)

/-- ITS FALSE NEIGHBOUR: 'it returns false'. Refute it at one input. -/
def blockCopiesWrong : ChangeSpec := { name := "blockCopies", fn := fun _ => fun
  | [d1, d2, d3, d4, d5] => { results := [.lit (.bool false)], args := [d1, d2, d3, d4, d5] }
  | _ => none }
def BlockCopiesWrongFalsely : Prop := blockCopiesRow.holds Try.pinned (OpenSpec.ofChange blockCopiesWrong)

/-- 'astragallaw28.BlockSets': WHATEVER THE INPUT: true; the input reads as it did. -/
def blockSetsSpec : ChangeSpec := { name := "blockSets", fn := fun _ => fun
  | [d1, d2, d3, d4, d5] => { results := [.lit (.bool true)], args := [d1, d2, d3, d4, d5] }
  | _ => none }
def blockSetsRow : OpenClaim := { program := "ythjpnkjbkkeoaaa", sum := "a239d767c7847d6868e5fd0d05dc44f281c38b56b90a87279575236f0e374a92", func := "astragal/astragallaw28.BlockSets", spec := "blockSets", unfollowed := true, recurses := true, apart := false }
def BlockSetsSaid : Prop := blockSetsRow.holds Try.pinned (OpenSpec.ofChange blockSetsSpec)

/-- ITS FALSE NEIGHBOUR: 'it returns false'. Refute it at one input. -/
def blockSetsWrong : ChangeSpec := { name := "blockSets", fn := fun _ => fun
  | [d1, d2, d3, d4, d5] => { results := [.lit (.bool false)], args := [d1, d2, d3, d4, d5] }
  | _ => none }
def BlockSetsWrongFalsely : Prop := blockSetsRow.holds Try.pinned (OpenSpec.ofChange blockSetsWrong)

/- THE SECOND FORM. 'bulk': how many values and letters a reading holds, each counted each time it is reached (what is shared counts as often as it is met; a slice's spare places count too). A statement '..UptoSaid' is the law's where the arguments, and the package variables that the reading takes, are together of bulk at most 1048576: NARROWER than '..Said'. Prove '..Said' where nothing that the law and all that it calls make is longer than what came in: it says more and counts as full. Else prove '..UptoSaid'. A law counts once. -/
mutual
def uptoBulk {H : Type} : DataW H → Nat
  | .lit (.string bytes) => bytes.length + 1
  | .lit _ => 1
  | .nil => 1
  | .ptr d => uptoBulk d + 1
  | .slice elems spare => uptoBulkAll elems + uptoBulkAll spare + 1
  | .agg parts => uptoBulkAll parts + 1
  | .iface _ d => uptoBulk d + 1
  | .map entries => uptoBulkEntries entries + 1
  | .held _ => 1
def uptoBulkAll {H : Type} : List (DataW H) → Nat
  | [] => 0
  | d :: r => uptoBulk d + uptoBulkAll r
def uptoBulkEntries {H : Type} : List (Lit × DataW H) → Nat
  | [] => 0
  | x :: r => uptoBulkEntry x + uptoBulkEntries r
def uptoBulkEntry {H : Type} : Lit × DataW H → Nat
  | (.string bytes, d) => bytes.length + uptoBulk d + 1
  | (_, d) => uptoBulk d + 1
 end
def uptoSmall : (H : Type) → List (DataW H) → Bool := fun _ ds => decide (uptoBulkAll ds ≤ 1048576)
def OpenSpec.upto (s : _root_.Go.ChangeSpec) : _root_.Go.OpenSpec := { _root_.Go.OpenSpec.ofChange s with cond := some uptoSmall }

/-- 'astragallaw28.BlockPieces', WHERE WHAT IT READS IS OF BULK AT MOST 1048576: true; the input reads as it did. -/
def blockPiecesUptoRow : OpenClaim := { program := "ythjpnkjbkkeoaaa", sum := "a239d767c7847d6868e5fd0d05dc44f281c38b56b90a87279575236f0e374a92", func := "astragal/astragallaw28.BlockPieces", spec := "blockPieces", unfollowed := true, recurses := true, apart := false, narrowed := true }
def BlockPiecesUptoSaid : Prop := blockPiecesUptoRow.holds Try.pinned (OpenSpec.upto blockPiecesSpec)

/-- 'astragallaw28.BlockCopies', WHERE WHAT IT READS IS OF BULK AT MOST 1048576: true; the input reads as it did. -/
def blockCopiesUptoRow : OpenClaim := { program := "ythjpnkjbkkeoaaa", sum := "a239d767c7847d6868e5fd0d05dc44f281c38b56b90a87279575236f0e374a92", func := "astragal/astragallaw28.BlockCopies", spec := "blockCopies", unfollowed := true, recurses := true, apart := false, narrowed := true }
def BlockCopiesUptoSaid : Prop := blockCopiesUptoRow.holds Try.pinned (OpenSpec.upto blockCopiesSpec)

/-- 'astragallaw28.BlockSets', WHERE WHAT IT READS IS OF BULK AT MOST 1048576: true; the input reads as it did. -/
def blockSetsUptoRow : OpenClaim := { program := "ythjpnkjbkkeoaaa", sum := "a239d767c7847d6868e5fd0d05dc44f281c38b56b90a87279575236f0e374a92", func := "astragal/astragallaw28.BlockSets", spec := "blockSets", unfollowed := true, recurses := true, apart := false, narrowed := true }
def BlockSetsUptoSaid : Prop := blockSetsUptoRow.holds Try.pinned (OpenSpec.upto blockSetsSpec)

end Rows
end Go.Proofs.Ythjpnkjbkkeoaaa
