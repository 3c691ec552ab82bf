/-
  No cell of these rows narrows 'for every input' (looked for: loops, veiled, ifaces, maps, wideKeys, modest, calm, conditions, laid).
  DERIVED. THE GIVEN ROWS OF THIS SEAT. 4 by the template 'for every input the law returns true; each argument reads behind the call as it read before'; 0 by the template 'total and deterministic' (their statements: YtdemhnkkohnfladTotals.lean).
  GIVEN WITH THE SEED: the statements are not yours to turn. If you find one false, say at which input.
  Laid BY PROGRAM, IN A SANDBOX (cutbox-rows.mjs): the forced cells as the released guide's own fill.sh prints them over the translation 582671f461e062ea… (all of the seat's roots in one cut). By AI agents, Wed Nov 11 2026. No macro, syntax, notation, axiom, sorry.
-/
import Derived.Test.YtdemhnkkohnfladChecked
import GoSem.Claim
import GoSem.ClaimJoined
import GoSem.ClaimMapViews
import Derived.JoinedTies
import Derived.KernelRfl
namespace Go.Proofs.Ytdemhnkkohnflad
/- THE CELL 'sum', in the pinned program and in every row, IS THE sha256 OF THE DUMP (.gsa) THAT YtdemhnkkohnfladProg.lean LOADS. Nothing in Lean hashes anything: it is a label: what it is worth is what the hold of that sum in a sandbox is worth. -/
noncomputable def Try.pinned : Pinned := { name := "ytdemhnkkohnflad", sum := "582671f461e062ea2a5ed7716bb1e5afd147f139225f1b950fca9f9eb65a861a", checked := Try.checked }
namespace Rows
def none {H : Type} : Left H := { results := [], args := [] }

/-- 'astragallaw31.Murmur64One': WHATEVER THE INPUT: true; the input reads as it did. -/
def murmur64OneSpec : ChangeSpec := { name := "murmur64One", fn := fun _ => fun
  | [d1, d2] => { results := [.lit (.bool true)], args := [d1, d2] }
  | _ => none }
def murmur64OneRow : OpenClaim := { program := "ytdemhnkkohnflad", sum := "582671f461e062ea2a5ed7716bb1e5afd147f139225f1b950fca9f9eb65a861a", func := "astragal/astragallaw31.Murmur64One", spec := "murmur64One", unfollowed := true, recurses := true, apart := false }
def Murmur64OneSaid : Prop := murmur64OneRow.holds Try.pinned (OpenSpec.ofChange murmur64OneSpec)

/-- ITS FALSE NEIGHBOUR: 'it returns false'. Refute it at one input. -/
def murmur64OneWrong : ChangeSpec := { name := "murmur64One", fn := fun _ => fun
  | [d1, d2] => { results := [.lit (.bool false)], args := [d1, d2] }
  | _ => none }
def Murmur64OneWrongFalsely : Prop := murmur64OneRow.holds Try.pinned (OpenSpec.ofChange murmur64OneWrong)

/-- 'astragallaw31.Murmur64Pieces': WHATEVER THE INPUT: true; the input reads as it did. -/
def murmur64PiecesSpec : ChangeSpec := { name := "murmur64Pieces", fn := fun _ => fun
  | [d1, d2, d3] => { results := [.lit (.bool true)], args := [d1, d2, d3] }
  | _ => none }
def murmur64PiecesRow : OpenClaim := { program := "ytdemhnkkohnflad", sum := "582671f461e062ea2a5ed7716bb1e5afd147f139225f1b950fca9f9eb65a861a", func := "astragal/astragallaw31.Murmur64Pieces", spec := "murmur64Pieces", unfollowed := true, recurses := true, apart := false }
def Murmur64PiecesSaid : Prop := murmur64PiecesRow.holds Try.pinned (OpenSpec.ofChange murmur64PiecesSpec)

/-- ITS FALSE NEIGHBOUR: 'it returns false'. Refute it at one input. -/
def murmur64PiecesWrong : ChangeSpec := { name := "murmur64Pieces", fn := fun _ => fun
  | [d1, d2, d3] => { results := [.lit (.bool false)], args := [d1, d2, d3] }
  | _ => none }
def Murmur64PiecesWrongFalsely : Prop := murmur64PiecesRow.holds Try.pinned (OpenSpec.ofChange murmur64PiecesWrong)

/-- 'astragallaw31.Murmur64Lanes': WHATEVER THE INPUT: true; the input reads as it did. -/
def murmur64LanesSpec : ChangeSpec := { name := "murmur64Lanes", fn := fun _ => fun
  | [d1, d2, d3] => { results := [.lit (.bool true)], args := [d1, d2, d3] }
  | _ => none }
def murmur64LanesRow : OpenClaim := { program := "ytdemhnkkohnflad", sum := "582671f461e062ea2a5ed7716bb1e5afd147f139225f1b950fca9f9eb65a861a", func := "astragal/astragallaw31.Murmur64Lanes", spec := "murmur64Lanes", unfollowed := true, recurses := true, apart := false }
def Murmur64LanesSaid : Prop := murmur64LanesRow.holds Try.pinned (OpenSpec.ofChange murmur64LanesSpec)

/-- ITS FALSE NEIGHBOUR: 'it returns false'. Refute it at one input. -/
def murmur64LanesWrong : ChangeSpec := { name := "murmur64Lanes", fn := fun _ => fun
  | [d1, d2, d3] => { results := [.lit (.bool false)], args := [d1, d2, d3] }
  | _ => none }
def Murmur64LanesWrongFalsely : Prop := murmur64LanesRow.holds Try.pinned (OpenSpec.ofChange murmur64LanesWrong)

/-- 'astragallaw31.Murmur64Sets': WHATEVER THE INPUT: true; the input reads as it did. -/
def murmur64SetsSpec : ChangeSpec := { name := "murmur64Sets", fn := fun _ => fun
  | [d1, d2, d3, d4] => { results := [.lit (.bool true)], args := [d1, d2, d3, d4] }
  | _ => none }
def murmur64SetsRow : OpenClaim := { program := "ytdemhnkkohnflad", sum := "582671f461e062ea2a5ed7716bb1e5afd147f139225f1b950fca9f9eb65a861a", func := "astragal/astragallaw31.Murmur64Sets", spec := "murmur64Sets", unfollowed := true, recurses := true, apart := false }
def Murmur64SetsSaid : Prop := murmur64SetsRow.holds Try.pinned (OpenSpec.ofChange murmur64SetsSpec)

/-- ITS FALSE NEIGHBOUR: 'it returns false'. Refute it at one input. -/
def murmur64SetsWrong : ChangeSpec := { name := "murmur64Sets", fn := fun _ => fun
  | [d1, d2, d3, d4] => { results := [.lit (.bool false)], args := [d1, d2, d3, d4] }
  | _ => none }
def Murmur64SetsWrongFalsely : Prop := murmur64SetsRow.holds Try.pinned (OpenSpec.ofChange murmur64SetsWrong)

/- THE SECOND FORM. 'bulk': how many values and letters a reading holds, each counted each time it is reached (what is shared counts as often as it is met; a slice's spare places count too). A statement '..UptoSaid' is the law's where the arguments, and the package variables that the reading takes, are together of bulk at most 1048576: NARROWER than '..Said'. Prove '..Said' where nothing that the law and all that it calls make is longer than what came in: it says more and counts as full. Else prove '..UptoSaid'. A law counts once. -/
mutual
def uptoBulk {H : Type} : DataW H → Nat
  | .lit (.string bytes) => bytes.length + 1
  | .lit _ => 1
  | .nil => 1
  | .ptr d => uptoBulk d + 1
  | .slice elems spare => uptoBulkAll elems + uptoBulkAll spare + 1
  | .agg parts => uptoBulkAll parts + 1
  | .iface _ d => uptoBulk d + 1
  | .map entries => uptoBulkEntries entries + 1
  | .held _ => 1
def uptoBulkAll {H : Type} : List (DataW H) → Nat
  | [] => 0
  | d :: r => uptoBulk d + uptoBulkAll r
def uptoBulkEntries {H : Type} : List (Lit × DataW H) → Nat
  | [] => 0
  | x :: r => uptoBulkEntry x + uptoBulkEntries r
def uptoBulkEntry {H : Type} : Lit × DataW H → Nat
  | (.string bytes, d) => bytes.length + uptoBulk d + 1
  | (_, d) => uptoBulk d + 1
 end
def uptoSmall : (H : Type) → List (DataW H) → Bool := fun _ ds => decide (uptoBulkAll ds ≤ 1048576)
def OpenSpec.upto (s : _root_.Go.ChangeSpec) : _root_.Go.OpenSpec := { _root_.Go.OpenSpec.ofChange s with cond := some uptoSmall }

/-- 'astragallaw31.Murmur64One', WHERE WHAT IT READS IS OF BULK AT MOST 1048576: true; the input reads as it did. -/
def murmur64OneUptoRow : OpenClaim := { program := "ytdemhnkkohnflad", sum := "582671f461e062ea2a5ed7716bb1e5afd147f139225f1b950fca9f9eb65a861a", func := "astragal/astragallaw31.Murmur64One", spec := "murmur64One", unfollowed := true, recurses := true, apart := false, narrowed := true }
def Murmur64OneUptoSaid : Prop := murmur64OneUptoRow.holds Try.pinned (OpenSpec.upto murmur64OneSpec)

/-- 'astragallaw31.Murmur64Pieces', WHERE WHAT IT READS IS OF BULK AT MOST 1048576: true; the input reads as it did. -/
def murmur64PiecesUptoRow : OpenClaim := { program := "ytdemhnkkohnflad", sum := "582671f461e062ea2a5ed7716bb1e5afd147f139225f1b950fca9f9eb65a861a", func := "astragal/astragallaw31.Murmur64Pieces", spec := "murmur64Pieces", unfollowed := true, recurses := true, apart := false, narrowed := true }
def Murmur64PiecesUptoSaid : Prop := murmur64PiecesUptoRow.holds Try.pinned (OpenSpec.upto murmur64PiecesSpec)

/-- 'astragallaw31.Murmur64Lanes', WHERE WHAT IT READS IS OF BULK AT MOST 1048576: true; the input reads as it did. -/
def murmur64LanesUptoRow : OpenClaim := { program := "ytdemhnkkohnflad", sum := "582671f461e062ea2a5ed7716bb1e5afd147f139225f1b950fca9f9eb65a861a", func := "astragal/astragallaw31.Murmur64Lanes", spec := "murmur64Lanes", unfollowed := true, recurses := true, apart := false, narrowed := true }
def Murmur64LanesUptoSaid : Prop := murmur64LanesUptoRow.holds Try.pinned (OpenSpec.upto murmur64LanesSpec)

/-- 'astragallaw31.Murmur64Sets', WHERE WHAT IT READS IS OF BULK AT MOST 1048576: true; the input reads as it did. -/
def murmur64SetsUptoRow : OpenClaim := { program := "ytdemhnkkohnflad", sum := "582671f461e062ea2a5ed7716bb1e5afd147f139225f1b950fca9f9eb65a861a", func := "astragal/astragallaw31.Murmur64Sets", spec := "murmur64Sets", unfollowed := true, recurses := true, apart := false, narrowed := true }
def Murmur64SetsUptoSaid : Prop := murmur64SetsUptoRow.holds Try.pinned (OpenSpec.upto murmur64SetsSpec)

end Rows
end Go.Proofs.Ytdemhnkkohnflad
