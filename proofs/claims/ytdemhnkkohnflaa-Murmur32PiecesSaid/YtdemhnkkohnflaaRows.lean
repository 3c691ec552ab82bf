/-
  No cell of these rows narrows 'for every input' (looked for: loops, veiled, ifaces, maps, wideKeys, modest, calm, conditions, laid).
  DERIVED. THE GIVEN ROWS OF THIS SEAT. 4 by the template 'for every input the law returns true; each argument reads behind the call as it read before'; 0 by the template 'total and deterministic' (their statements: YtdemhnkkohnflaaTotals.lean).
  GIVEN WITH THE SEED: the statements are not yours to turn. If you find one false, say at which input.
  Laid BY PROGRAM, IN A SANDBOX (cutbox-rows.mjs): the forced cells as the released guide's own fill.sh prints them over the translation 6cf5a68c68fb7fe7… (all of the seat's roots in one cut). By AI agents, Wed Nov 11 2026. No macro, syntax, notation, axiom, sorry.
-/
import Derived.Test.YtdemhnkkohnflaaChecked
import GoSem.Claim
import GoSem.ClaimJoined
import GoSem.ClaimMapViews
import Derived.JoinedTies
import Derived.KernelRfl
namespace Go.Proofs.Ytdemhnkkohnflaa
/- THE CELL 'sum', in the pinned program and in every row, IS THE sha256 OF THE DUMP (.gsa) THAT YtdemhnkkohnflaaProg.lean LOADS. Nothing in Lean hashes anything: it is a label: what it is worth is what the hold of that sum in a sandbox is worth. -/
noncomputable def Try.pinned : Pinned := { name := "ytdemhnkkohnflaa", sum := "6cf5a68c68fb7fe76ff16af34a74e3df43987e7cd7839c962461ed1f276ddfa5", checked := Try.checked }
namespace Rows
def none {H : Type} : Left H := { results := [], args := [] }

/-- 'astragallaw29.Murmur32One': WHATEVER THE INPUT: true; the input reads as it did. -/
def murmur32OneSpec : ChangeSpec := { name := "murmur32One", fn := fun _ => fun
  | [d1, d2] => { results := [.lit (.bool true)], args := [d1, d2] }
  | _ => none }
def murmur32OneRow : OpenClaim := { program := "ytdemhnkkohnflaa", sum := "6cf5a68c68fb7fe76ff16af34a74e3df43987e7cd7839c962461ed1f276ddfa5", func := "astragal/astragallaw29.Murmur32One", spec := "murmur32One", unfollowed := true, recurses := true, apart := false }
def Murmur32OneSaid : Prop := murmur32OneRow.holds Try.pinned (OpenSpec.ofChange murmur32OneSpec)

/-- ITS FALSE NEIGHBOUR: 'it returns false'. Refute it at one input. -/
def murmur32OneWrong : ChangeSpec := { name := "murmur32One", fn := fun _ => fun
  | [d1, d2] => { results := [.lit (.bool false)], args := [d1, d2] }
  | _ => none }
def Murmur32OneWrongFalsely : Prop := murmur32OneRow.holds Try.pinned (OpenSpec.ofChange murmur32OneWrong)

/-- 'astragallaw29.Murmur32Pieces': WHATEVER THE INPUT: true; the input reads as it did. -/
def murmur32PiecesSpec : ChangeSpec := { name := "murmur32Pieces", fn := fun _ => fun
  | [d1, d2, d3] => { results := [.lit (.bool true)], args := [d1, d2, d3] }
  | _ => none }
def murmur32PiecesRow : OpenClaim := { program := "ytdemhnkkohnflaa", sum := "6cf5a68c68fb7fe76ff16af34a74e3df43987e7cd7839c962461ed1f276ddfa5", func := "astragal/astragallaw29.Murmur32Pieces", spec := "murmur32Pieces", unfollowed := true, recurses := true, apart := false }
def Murmur32PiecesSaid : Prop := murmur32PiecesRow.holds Try.pinned (OpenSpec.ofChange murmur32PiecesSpec)

/-- ITS FALSE NEIGHBOUR: 'it returns false'. Refute it at one input. -/
def murmur32PiecesWrong : ChangeSpec := { name := "murmur32Pieces", fn := fun _ => fun
  | [d1, d2, d3] => { results := [.lit (.bool false)], args := [d1, d2, d3] }
  | _ => none }
def Murmur32PiecesWrongFalsely : Prop := murmur32PiecesRow.holds Try.pinned (OpenSpec.ofChange murmur32PiecesWrong)

/-- 'astragallaw29.Murmur32Lanes': WHATEVER THE INPUT: true; the input reads as it did. -/
def murmur32LanesSpec : ChangeSpec := { name := "murmur32Lanes", fn := fun _ => fun
  | [d1, d2, d3] => { results := [.lit (.bool true)], args := [d1, d2, d3] }
  | _ => none }
def murmur32LanesRow : OpenClaim := { program := "ytdemhnkkohnflaa", sum := "6cf5a68c68fb7fe76ff16af34a74e3df43987e7cd7839c962461ed1f276ddfa5", func := "astragal/astragallaw29.Murmur32Lanes", spec := "murmur32Lanes", unfollowed := true, recurses := true, apart := false }
def Murmur32LanesSaid : Prop := murmur32LanesRow.holds Try.pinned (OpenSpec.ofChange murmur32LanesSpec)

/-- ITS FALSE NEIGHBOUR: 'it returns false'. Refute it at one input. -/
def murmur32LanesWrong : ChangeSpec := { name := "murmur32Lanes", fn := fun _ => fun
  | [d1, d2, d3] => { results := [.lit (.bool false)], args := [d1, d2, d3] }
  | _ => none }
def Murmur32LanesWrongFalsely : Prop := murmur32LanesRow.holds Try.pinned (OpenSpec.ofChange murmur32LanesWrong)

/-- 'astragallaw29.Murmur32Sets': WHATEVER THE INPUT: true; the input reads as it did. -/
def murmur32SetsSpec : ChangeSpec := { name := "murmur32Sets", fn := fun _ => fun
  | [d1, d2, d3, d4] => { results := [.lit (.bool true)], args := [d1, d2, d3, d4] }
  | _ => none }
def murmur32SetsRow : OpenClaim := { program := "ytdemhnkkohnflaa", sum := "6cf5a68c68fb7fe76ff16af34a74e3df43987e7cd7839c962461ed1f276ddfa5", func := "astragal/astragallaw29.Murmur32Sets", spec := "murmur32Sets", unfollowed := true, recurses := true, apart := false }
def Murmur32SetsSaid : Prop := murmur32SetsRow.holds Try.pinned (OpenSpec.ofChange murmur32SetsSpec)

/-- ITS FALSE NEIGHBOUR: 'it returns false'. Refute it at one input. -/
def murmur32SetsWrong : ChangeSpec := { name := "murmur32Sets", fn := fun _ => fun
  | [d1, d2, d3, d4] => { results := [.lit (.bool false)], args := [d1, d2, d3, d4] }
  | _ => none }
def Murmur32SetsWrongFalsely : Prop := murmur32SetsRow.holds Try.pinned (OpenSpec.ofChange murmur32SetsWrong)

/- THE SECOND FORM. 'bulk': how many values and letters a reading holds, each counted each time it is reached (what is shared counts as often as it is met; a slice's spare places count too). A statement '..UptoSaid' is the law's where the arguments, and the package variables that the reading takes, are together of bulk at most 1048576: NARROWER than '..Said'. Prove '..Said' where nothing that the law and all that it calls make is longer than what came in: it says more and counts as full. Else prove '..UptoSaid'. A law counts once. -/
mutual
def uptoBulk {H : Type} : DataW H → Nat
  | .lit (.string bytes) => bytes.length + 1
  | .lit _ => 1
  | .nil => 1
  | .ptr d => uptoBulk d + 1
  | .slice elems spare => uptoBulkAll elems + uptoBulkAll spare + 1
  | .agg parts => uptoBulkAll parts + 1
  | .iface _ d => uptoBulk d + 1
  | .map entries => uptoBulkEntries entries + 1
  | .held _ => 1
def uptoBulkAll {H : Type} : List (DataW H) → Nat
  | [] => 0
  | d :: r => uptoBulk d + uptoBulkAll r
def uptoBulkEntries {H : Type} : List (Lit × DataW H) → Nat
  | [] => 0
  | x :: r => uptoBulkEntry x + uptoBulkEntries r
def uptoBulkEntry {H : Type} : Lit × DataW H → Nat
  | (.string bytes, d) => bytes.length + uptoBulk d + 1
  | (_, d) => uptoBulk d + 1
 end
def uptoSmall : (H : Type) → List (DataW H) → Bool := fun _ ds => decide (uptoBulkAll ds ≤ 1048576)
def OpenSpec.upto (s : _root_.Go.ChangeSpec) : _root_.Go.OpenSpec := { _root_.Go.OpenSpec.ofChange s with cond := some uptoSmall }

/-- 'astragallaw29.Murmur32One', WHERE WHAT IT READS IS OF BULK AT MOST 1048576: true; the input reads as it did. -/
def murmur32OneUptoRow : OpenClaim := { program := "ytdemhnkkohnflaa", sum := "6cf5a68c68fb7fe76ff16af34a74e3df43987e7cd7839c962461ed1f276ddfa5", func := "astragal/astragallaw29.Murmur32One", spec := "murmur32One", unfollowed := true, recurses := true, apart := false, narrowed := true }
def Murmur32OneUptoSaid : Prop := murmur32OneUptoRow.holds Try.pinned (OpenSpec.upto murmur32OneSpec)

/-- 'astragallaw29.Murmur32Pieces', WHERE WHAT IT READS IS OF BULK AT MOST 1048576: true; the input reads as it did. -/
def murmur32PiecesUptoRow : OpenClaim := { program := "ytdemhnkkohnflaa", sum := "6cf5a68c68fb7fe76ff16af34a74e3df43987e7cd7839c962461ed1f276ddfa5", func := "astragal/astragallaw29.Murmur32Pieces", spec := "murmur32Pieces", unfollowed := true, recurses := true, apart := false, narrowed := true }
def Murmur32PiecesUptoSaid : Prop := murmur32PiecesUptoRow.holds Try.pinned (OpenSpec.upto murmur32PiecesSpec)

/-- 'astragallaw29.Murmur32Lanes', WHERE WHAT IT READS IS OF BULK AT MOST 1048576: true; the input reads as it did. -/
def murmur32LanesUptoRow : OpenClaim := { program := "ytdemhnkkohnflaa", sum := "6cf5a68c68fb7fe76ff16af34a74e3df43987e7cd7839c962461ed1f276ddfa5", func := "astragal/astragallaw29.Murmur32Lanes", spec := "murmur32Lanes", unfollowed := true, recurses := true, apart := false, narrowed := true }
def Murmur32LanesUptoSaid : Prop := murmur32LanesUptoRow.holds Try.pinned (OpenSpec.upto murmur32LanesSpec)

/-- 'astragallaw29.Murmur32Sets', WHERE WHAT IT READS IS OF BULK AT MOST 1048576: true; the input reads as it did. -/
def murmur32SetsUptoRow : OpenClaim := { program := "ytdemhnkkohnflaa", sum := "6cf5a68c68fb7fe76ff16af34a74e3df43987e7cd7839c962461ed1f276ddfa5", func := "astragal/astragallaw29.Murmur32Sets", spec := "murmur32Sets", unfollowed := true, recurses := true, apart := false, narrowed := true }
def Murmur32SetsUptoSaid : Prop := murmur32SetsUptoRow.holds Try.pinned (OpenSpec.upto murmur32SetsSpec)

end Rows
end Go.Proofs.Ytdemhnkkohnflaa
