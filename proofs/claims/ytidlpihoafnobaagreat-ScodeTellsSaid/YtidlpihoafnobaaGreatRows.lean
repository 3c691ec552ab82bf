/-
  No cell of these rows narrows 'for every input' (looked for: loops, veiled, ifaces, maps, wideKeys, modest, calm, conditions, laid).
  DERIVED. THE GIVEN ROWS OF THIS SEAT. 5 by the template 'for every input the law returns true; each argument reads behind the call as it read before'; 0 by the template 'total and deterministic' (their statements: YtidlpihoafnobaaGreatTotals.lean).
  GIVEN WITH THE SEED: the statements are not yours to turn. If you find one false, say at which input.
  Laid BY PROGRAM, IN A SANDBOX (cutbox-rows.mjs): the forced cells as the released guide's own fill.sh prints them over the translation d566dcc5bb6e70ae… (all of the seat's roots in one cut). By AI agents, Wed Nov 11 2026. No macro, syntax, notation, axiom, sorry.
-/
import Derived.Test.YtidlpihoafnobaaGreatChecked
import GoSem.Claim
import GoSem.ClaimJoined
import GoSem.ClaimMapViews
import Derived.JoinedTies
import Derived.KernelRfl
namespace Go.Proofs.YtidlpihoafnobaaGreat
/- THE CELL 'sum', in the pinned program and in every row, IS THE sha256 OF THE DUMP (.gsa) THAT YtidlpihoafnobaaGreatProg.lean LOADS. Nothing in Lean hashes anything: it is a label: what it is worth is what the hold of that sum in a sandbox is worth. -/
noncomputable def Tryz.pinned : Pinned := { name := "ytidlpihoafnobaagreat", sum := "d566dcc5bb6e70aefbff609916f6746ebdd61350750e74d61d5a6e1714fb0662", checked := Tryz.checked }
namespace Rows
def none {H : Type} : Left H := { results := [], args := [] }

/-- 'astragallaw35.StreamOne': WHATEVER THE INPUT: true; the input reads as it did. -/
def streamOneSpec : ChangeSpec := { name := "streamOne", fn := fun _ => fun
  | [d1, d2, d3] => { results := [.lit (.bool true)], args := [d1, d2, d3] }
  | _ => none }
def streamOneRow : OpenClaim := { program := "ytidlpihoafnobaagreat", sum := "d566dcc5bb6e70aefbff609916f6746ebdd61350750e74d61d5a6e1714fb0662", func := "astragal/astragallaw35.StreamOne", spec := "streamOne", unfollowed := true, recurses := true, apart := false }
def StreamOneSaid : Prop := streamOneRow.holds Tryz.pinned (OpenSpec.ofChange streamOneSpec)

/-- ITS FALSE NEIGHBOUR: 'it returns false'. Refute it at one input. -/
def streamOneWrong : ChangeSpec := { name := "streamOne", fn := fun _ => fun
  | [d1, d2, d3] => { results := [.lit (.bool false)], args := [d1, d2, d3] }
  | _ => none }
def StreamOneWrongFalsely : Prop := streamOneRow.holds Tryz.pinned (OpenSpec.ofChange streamOneWrong)

/-- 'astragallaw35.StreamPieces': WHATEVER THE INPUT: true; the input reads as it did. -/
def streamPiecesSpec : ChangeSpec := { name := "streamPieces", fn := fun _ => fun
  | [d1, d2, d3, d4] => { results := [.lit (.bool true)], args := [d1, d2, d3, d4] }
  | _ => none }
def streamPiecesRow : OpenClaim := { program := "ytidlpihoafnobaagreat", sum := "d566dcc5bb6e70aefbff609916f6746ebdd61350750e74d61d5a6e1714fb0662", func := "astragal/astragallaw35.StreamPieces", spec := "streamPieces", unfollowed := true, recurses := true, apart := false }
def StreamPiecesSaid : Prop := streamPiecesRow.holds Tryz.pinned (OpenSpec.ofChange streamPiecesSpec)

/-- ITS FALSE NEIGHBOUR: 'it returns false'. Refute it at one input. -/
def streamPiecesWrong : ChangeSpec := { name := "streamPieces", fn := fun _ => fun
  | [d1, d2, d3, d4] => { results := [.lit (.bool false)], args := [d1, d2, d3, d4] }
  | _ => none }
def StreamPiecesWrongFalsely : Prop := streamPiecesRow.holds Tryz.pinned (OpenSpec.ofChange streamPiecesWrong)

/-- 'astragallaw35.StreamGoes': WHATEVER THE INPUT: true; the input reads as it did. -/
def streamGoesSpec : ChangeSpec := { name := "streamGoes", fn := fun _ => fun
  | [d1, d2, d3, d4, d5] => { results := [.lit (.bool true)], args := [d1, d2, d3, d4, d5] }
  | _ => none }
def streamGoesRow : OpenClaim := { program := "ytidlpihoafnobaagreat", sum := "d566dcc5bb6e70aefbff609916f6746ebdd61350750e74d61d5a6e1714fb0662", func := "astragal/astragallaw35.StreamGoes", spec := "streamGoes", unfollowed := true, recurses := true, apart := false }
def StreamGoesSaid : Prop := streamGoesRow.holds Tryz.pinned (OpenSpec.ofChange streamGoesSpec)

/-- ITS FALSE NEIGHBOUR: 'it returns false'. Refute it at one input. -/
def streamGoesWrong : ChangeSpec := { name := "streamGoes", fn := fun _ => fun
  | [d1, d2, d3, d4, d5] => { results := [.lit (.bool false)], args := [d1, d2, d3, d4, d5] }
  | _ => none }
def StreamGoesWrongFalsely : Prop := streamGoesRow.holds Tryz.pinned (OpenSpec.ofChange streamGoesWrong)

/-- 'astragallaw35.StreamSets': WHATEVER THE INPUT: true; the input reads as it did. -/
def streamSetsSpec : ChangeSpec := { name := "streamSets", fn := fun _ => fun
  | [d1, d2, d3, d4, d5] => { results := [.lit (.bool true)], args := [d1, d2, d3, d4, d5] }
  | _ => none }
def streamSetsRow : OpenClaim := { program := "ytidlpihoafnobaagreat", sum := "d566dcc5bb6e70aefbff609916f6746ebdd61350750e74d61d5a6e1714fb0662", func := "astragal/astragallaw35.StreamSets", spec := "streamSets", unfollowed := true, recurses := true, apart := false }
def StreamSetsSaid : Prop := streamSetsRow.holds Tryz.pinned (OpenSpec.ofChange streamSetsSpec)

/-- ITS FALSE NEIGHBOUR: 'it returns false'. Refute it at one input. -/
def streamSetsWrong : ChangeSpec := { name := "streamSets", fn := fun _ => fun
  | [d1, d2, d3, d4, d5] => { results := [.lit (.bool false)], args := [d1, d2, d3, d4, d5] }
  | _ => none }
def StreamSetsWrongFalsely : Prop := streamSetsRow.holds Tryz.pinned (OpenSpec.ofChange streamSetsWrong)

/-- 'astragallaw36.ScodeTells': WHATEVER THE INPUT: true; the input reads as it did. -/
def scodeTellsSpec : ChangeSpec := { name := "scodeTells", fn := fun _ => fun
  | [d1, d2, d3] => { results := [.lit (.bool true)], args := [d1, d2, d3] }
  | _ => none }
def scodeTellsRow : OpenClaim := { program := "ytidlpihoafnobaagreat", sum := "d566dcc5bb6e70aefbff609916f6746ebdd61350750e74d61d5a6e1714fb0662", func := "astragal/astragallaw36.ScodeTells", spec := "scodeTells", unfollowed := true, recurses := true, apart := false }
def ScodeTellsSaid : Prop := scodeTellsRow.holds Tryz.pinned (OpenSpec.ofChange scodeTellsSpec)

/-- ITS FALSE NEIGHBOUR: 'it returns false'. Refute it at one input. -/
def scodeTellsWrong : ChangeSpec := { name := "scodeTells", fn := fun _ => fun
  | [d1, d2, d3] => { results := [.lit (.bool false)], args := [d1, d2, d3] }
  | _ => none }
def ScodeTellsWrongFalsely : Prop := scodeTellsRow.holds Tryz.pinned (OpenSpec.ofChange scodeTellsWrong)

/- THE SECOND FORM. 'bulk': how many values and letters a reading holds, each counted each time it is reached (what is shared counts as often as it is met; a slice's spare places count too). A statement '..UptoSaid' is the law's where the arguments, and the package variables that the reading takes, are together of bulk at most 1048576: NARROWER than '..Said'. Prove '..Said' where nothing that the law and all that it calls make is longer than what came in: it says more and counts as full. Else prove '..UptoSaid'. A law counts once. -/
mutual
def uptoBulk {H : Type} : DataW H → Nat
  | .lit (.string bytes) => bytes.length + 1
  | .lit _ => 1
  | .nil => 1
  | .ptr d => uptoBulk d + 1
  | .slice elems spare => uptoBulkAll elems + uptoBulkAll spare + 1
  | .agg parts => uptoBulkAll parts + 1
  | .iface _ d => uptoBulk d + 1
  | .map entries => uptoBulkEntries entries + 1
  | .held _ => 1
def uptoBulkAll {H : Type} : List (DataW H) → Nat
  | [] => 0
  | d :: r => uptoBulk d + uptoBulkAll r
def uptoBulkEntries {H : Type} : List (Lit × DataW H) → Nat
  | [] => 0
  | x :: r => uptoBulkEntry x + uptoBulkEntries r
def uptoBulkEntry {H : Type} : Lit × DataW H → Nat
  | (.string bytes, d) => bytes.length + uptoBulk d + 1
  | (_, d) => uptoBulk d + 1
 end
def uptoSmall : (H : Type) → List (DataW H) → Bool := fun _ ds => decide (uptoBulkAll ds ≤ 1048576)
def OpenSpec.upto (s : _root_.Go.ChangeSpec) : _root_.Go.OpenSpec := { _root_.Go.OpenSpec.ofChange s with cond := some uptoSmall }

/-- 'astragallaw35.StreamOne', WHERE WHAT IT READS IS OF BULK AT MOST 1048576: true; the input reads as it did. -/
def streamOneUptoRow : OpenClaim := { program := "ytidlpihoafnobaagreat", sum := "d566dcc5bb6e70aefbff609916f6746ebdd61350750e74d61d5a6e1714fb0662", func := "astragal/astragallaw35.StreamOne", spec := "streamOne", unfollowed := true, recurses := true, apart := false, narrowed := true }
def StreamOneUptoSaid : Prop := streamOneUptoRow.holds Tryz.pinned (OpenSpec.upto streamOneSpec)

/-- 'astragallaw35.StreamPieces', WHERE WHAT IT READS IS OF BULK AT MOST 1048576: true; the input reads as it did. -/
def streamPiecesUptoRow : OpenClaim := { program := "ytidlpihoafnobaagreat", sum := "d566dcc5bb6e70aefbff609916f6746ebdd61350750e74d61d5a6e1714fb0662", func := "astragal/astragallaw35.StreamPieces", spec := "streamPieces", unfollowed := true, recurses := true, apart := false, narrowed := true }
def StreamPiecesUptoSaid : Prop := streamPiecesUptoRow.holds Tryz.pinned (OpenSpec.upto streamPiecesSpec)

/-- 'astragallaw35.StreamGoes', WHERE WHAT IT READS IS OF BULK AT MOST 1048576: true; the input reads as it did. -/
def streamGoesUptoRow : OpenClaim := { program := "ytidlpihoafnobaagreat", sum := "d566dcc5bb6e70aefbff609916f6746ebdd61350750e74d61d5a6e1714fb0662", func := "astragal/astragallaw35.StreamGoes", spec := "streamGoes", unfollowed := true, recurses := true, apart := false, narrowed := true }
def StreamGoesUptoSaid : Prop := streamGoesUptoRow.holds Tryz.pinned (OpenSpec.upto streamGoesSpec)

/-- 'astragallaw35.StreamSets', WHERE WHAT IT READS IS OF BULK AT MOST 1048576: true; the input reads as it did. -/
def streamSetsUptoRow : OpenClaim := { program := "ytidlpihoafnobaagreat", sum := "d566dcc5bb6e70aefbff609916f6746ebdd61350750e74d61d5a6e1714fb0662", func := "astragal/astragallaw35.StreamSets", spec := "streamSets", unfollowed := true, recurses := true, apart := false, narrowed := true }
def StreamSetsUptoSaid : Prop := streamSetsUptoRow.holds Tryz.pinned (OpenSpec.upto streamSetsSpec)

/-- 'astragallaw36.ScodeTells', WHERE WHAT IT READS IS OF BULK AT MOST 1048576: true; the input reads as it did. -/
def scodeTellsUptoRow : OpenClaim := { program := "ytidlpihoafnobaagreat", sum := "d566dcc5bb6e70aefbff609916f6746ebdd61350750e74d61d5a6e1714fb0662", func := "astragal/astragallaw36.ScodeTells", spec := "scodeTells", unfollowed := true, recurses := true, apart := false, narrowed := true }
def ScodeTellsUptoSaid : Prop := scodeTellsUptoRow.holds Tryz.pinned (OpenSpec.upto scodeTellsSpec)

end Rows
end Go.Proofs.YtidlpihoafnobaaGreat
