/-
  No cell of these rows narrows 'for every input' (looked for: loops, veiled, ifaces, maps, wideKeys, modest, calm, conditions, laid).
  DERIVED. THE GIVEN ROWS OF THIS SEAT. 4 by the template 'for every input the law returns true; each argument reads behind the call as it read before'; 0 by the template 'total and deterministic' (their statements: YtdemhnkkohnflaeTotals.lean).
  GIVEN WITH THE SEED: the statements are not yours to turn. If you find one false, say at which input.
  Laid BY PROGRAM, IN A SANDBOX (cutbox-rows.mjs): the forced cells as the released guide's own fill.sh prints them over the translation ad43bfb1344d2183… (all of the seat's roots in one cut). By AI agents, Wed Nov 11 2026. No macro, syntax, notation, axiom, sorry.
-/
import Derived.Test.YtdemhnkkohnflaeChecked
import GoSem.Claim
import GoSem.ClaimJoined
import GoSem.ClaimMapViews
import Derived.JoinedTies
import Derived.KernelRfl
namespace Go.Proofs.Ytdemhnkkohnflae
/- THE CELL 'sum', in the pinned program and in every row, IS THE sha256 OF THE DUMP (.gsa) THAT YtdemhnkkohnflaeProg.lean LOADS. Nothing in Lean hashes anything: it is a label: what it is worth is what the hold of that sum in a sandbox is worth. -/
noncomputable def Try.pinned : Pinned := { name := "ytdemhnkkohnflae", sum := "ad43bfb1344d218328db40cd1bd2e936c88511efad1e742363d094ca14892bef", checked := Try.checked }
namespace Rows
def none {H : Type} : Left H := { results := [], args := [] }

/-- 'astragallaw33.Xx64One': WHATEVER THE INPUT: true; the input reads as it did. -/
def xx64OneSpec : ChangeSpec := { name := "xx64One", fn := fun _ => fun
  | [d1, d2] => { results := [.lit (.bool true)], args := [d1, d2] }
  | _ => none }
def xx64OneRow : OpenClaim := { program := "ytdemhnkkohnflae", sum := "ad43bfb1344d218328db40cd1bd2e936c88511efad1e742363d094ca14892bef", func := "astragal/astragallaw33.Xx64One", spec := "xx64One", unfollowed := true, recurses := true, apart := false }
def Xx64OneSaid : Prop := xx64OneRow.holds Try.pinned (OpenSpec.ofChange xx64OneSpec)

/-- ITS FALSE NEIGHBOUR: 'it returns false'. Refute it at one input. -/
def xx64OneWrong : ChangeSpec := { name := "xx64One", fn := fun _ => fun
  | [d1, d2] => { results := [.lit (.bool false)], args := [d1, d2] }
  | _ => none }
def Xx64OneWrongFalsely : Prop := xx64OneRow.holds Try.pinned (OpenSpec.ofChange xx64OneWrong)

/-- 'astragallaw33.Xx64Pieces': WHATEVER THE INPUT: true; the input reads as it did. -/
def xx64PiecesSpec : ChangeSpec := { name := "xx64Pieces", fn := fun _ => fun
  | [d1, d2, d3] => { results := [.lit (.bool true)], args := [d1, d2, d3] }
  | _ => none }
def xx64PiecesRow : OpenClaim := { program := "ytdemhnkkohnflae", sum := "ad43bfb1344d218328db40cd1bd2e936c88511efad1e742363d094ca14892bef", func := "astragal/astragallaw33.Xx64Pieces", spec := "xx64Pieces", unfollowed := true, recurses := true, apart := false }
def Xx64PiecesSaid : Prop := xx64PiecesRow.holds Try.pinned (OpenSpec.ofChange xx64PiecesSpec)

/-- ITS FALSE NEIGHBOUR: 'it returns false'. Refute it at one input. -/
def xx64PiecesWrong : ChangeSpec := { name := "xx64Pieces", fn := fun _ => fun
  | [d1, d2, d3] => { results := [.lit (.bool false)], args := [d1, d2, d3] }
  | _ => none }
def Xx64PiecesWrongFalsely : Prop := xx64PiecesRow.holds Try.pinned (OpenSpec.ofChange xx64PiecesWrong)

/-- 'astragallaw33.Xx64Lanes': WHATEVER THE INPUT: true; the input reads as it did. -/
def xx64LanesSpec : ChangeSpec := { name := "xx64Lanes", fn := fun _ => fun
  | [d1, d2, d3] => { results := [.lit (.bool true)], args := [d1, d2, d3] }
  | _ => none }
def xx64LanesRow : OpenClaim := { program := "ytdemhnkkohnflae", sum := "ad43bfb1344d218328db40cd1bd2e936c88511efad1e742363d094ca14892bef", func := "astragal/astragallaw33.Xx64Lanes", spec := "xx64Lanes", unfollowed := true, recurses := true, apart := false }
def Xx64LanesSaid : Prop := xx64LanesRow.holds Try.pinned (OpenSpec.ofChange xx64LanesSpec)

/-- ITS FALSE NEIGHBOUR: 'it returns false'. Refute it at one input. -/
def xx64LanesWrong : ChangeSpec := { name := "xx64Lanes", fn := fun _ => fun
  | [d1, d2, d3] => { results := [.lit (.bool false)], args := [d1, d2, d3] }
  | _ => none }
def Xx64LanesWrongFalsely : Prop := xx64LanesRow.holds Try.pinned (OpenSpec.ofChange xx64LanesWrong)

/-- 'astragallaw33.Xx64Sets': WHATEVER THE INPUT: true; the input reads as it did. -/
def xx64SetsSpec : ChangeSpec := { name := "xx64Sets", fn := fun _ => fun
  | [d1, d2, d3, d4] => { results := [.lit (.bool true)], args := [d1, d2, d3, d4] }
  | _ => none }
def xx64SetsRow : OpenClaim := { program := "ytdemhnkkohnflae", sum := "ad43bfb1344d218328db40cd1bd2e936c88511efad1e742363d094ca14892bef", func := "astragal/astragallaw33.Xx64Sets", spec := "xx64Sets", unfollowed := true, recurses := true, apart := false }
def Xx64SetsSaid : Prop := xx64SetsRow.holds Try.pinned (OpenSpec.ofChange xx64SetsSpec)

/-- ITS FALSE NEIGHBOUR: 'it returns false'. Refute it at one input. -/
def xx64SetsWrong : ChangeSpec := { name := "xx64Sets", fn := fun _ => fun
  | [d1, d2, d3, d4] => { results := [.lit (.bool false)], args := [d1, d2, d3, d4] }
  | _ => none }
def Xx64SetsWrongFalsely : Prop := xx64SetsRow.holds Try.pinned (OpenSpec.ofChange xx64SetsWrong)

/- THE SECOND FORM. 'bulk': how many values and letters a reading holds, each counted each time it is reached (what is shared counts as often as it is met; a slice's spare places count too). A statement '..UptoSaid' is the law's where the arguments, and the package variables that the reading takes, are together of bulk at most 1048576: NARROWER than '..Said'. Prove '..Said' where nothing that the law and all that it calls make is longer than what came in: it says more and counts as full. Else prove '..UptoSaid'. A law counts once. -/
mutual
def uptoBulk {H : Type} : DataW H → Nat
  | .lit (.string bytes) => bytes.length + 1
  | .lit _ => 1
  | .nil => 1
  | .ptr d => uptoBulk d + 1
  | .slice elems spare => uptoBulkAll elems + uptoBulkAll spare + 1
  | .agg parts => uptoBulkAll parts + 1
  | .iface _ d => uptoBulk d + 1
  | .map entries => uptoBulkEntries entries + 1
  | .held _ => 1
def uptoBulkAll {H : Type} : List (DataW H) → Nat
  | [] => 0
  | d :: r => uptoBulk d + uptoBulkAll r
def uptoBulkEntries {H : Type} : List (Lit × DataW H) → Nat
  | [] => 0
  | x :: r => uptoBulkEntry x + uptoBulkEntries r
def uptoBulkEntry {H : Type} : Lit × DataW H → Nat
  | (.string bytes, d) => bytes.length + uptoBulk d + 1
  | (_, d) => uptoBulk d + 1
 end
def uptoSmall : (H : Type) → List (DataW H) → Bool := fun _ ds => decide (uptoBulkAll ds ≤ 1048576)
def OpenSpec.upto (s : _root_.Go.ChangeSpec) : _root_.Go.OpenSpec := { _root_.Go.OpenSpec.ofChange s with cond := some uptoSmall }

/-- 'astragallaw33.Xx64One', WHERE WHAT IT READS IS OF BULK AT MOST 1048576: true; the input reads as it did. -/
def xx64OneUptoRow : OpenClaim := { program := "ytdemhnkkohnflae", sum := "ad43bfb1344d218328db40cd1bd2e936c88511efad1e742363d094ca14892bef", func := "astragal/astragallaw33.Xx64One", spec := "xx64One", unfollowed := true, recurses := true, apart := false, narrowed := true }
def Xx64OneUptoSaid : Prop := xx64OneUptoRow.holds Try.pinned (OpenSpec.upto xx64OneSpec)

/-- 'astragallaw33.Xx64Pieces', WHERE WHAT IT READS IS OF BULK AT MOST 1048576: true; the input reads as it did. -/
def xx64PiecesUptoRow : OpenClaim := { program := "ytdemhnkkohnflae", sum := "ad43bfb1344d218328db40cd1bd2e936c88511efad1e742363d094ca14892bef", func := "astragal/astragallaw33.Xx64Pieces", spec := "xx64Pieces", unfollowed := true, recurses := true, apart := false, narrowed := true }
def Xx64PiecesUptoSaid : Prop := xx64PiecesUptoRow.holds Try.pinned (OpenSpec.upto xx64PiecesSpec)

/-- 'astragallaw33.Xx64Lanes', WHERE WHAT IT READS IS OF BULK AT MOST 1048576: true; the input reads as it did. -/
def xx64LanesUptoRow : OpenClaim := { program := "ytdemhnkkohnflae", sum := "ad43bfb1344d218328db40cd1bd2e936c88511efad1e742363d094ca14892bef", func := "astragal/astragallaw33.Xx64Lanes", spec := "xx64Lanes", unfollowed := true, recurses := true, apart := false, narrowed := true }
def Xx64LanesUptoSaid : Prop := xx64LanesUptoRow.holds Try.pinned (OpenSpec.upto xx64LanesSpec)

/-- 'astragallaw33.Xx64Sets', WHERE WHAT IT READS IS OF BULK AT MOST 1048576: true; the input reads as it did. -/
def xx64SetsUptoRow : OpenClaim := { program := "ytdemhnkkohnflae", sum := "ad43bfb1344d218328db40cd1bd2e936c88511efad1e742363d094ca14892bef", func := "astragal/astragallaw33.Xx64Sets", spec := "xx64Sets", unfollowed := true, recurses := true, apart := false, narrowed := true }
def Xx64SetsUptoSaid : Prop := xx64SetsUptoRow.holds Try.pinned (OpenSpec.upto xx64SetsSpec)

end Rows
end Go.Proofs.Ytdemhnkkohnflae
