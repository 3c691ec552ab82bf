/-
  No cell of these rows narrows 'for every input' (looked for: loops, veiled, ifaces, maps, wideKeys, modest, calm, conditions, laid).
  DERIVED. THE GIVEN ROWS OF THIS SEAT. 4 by the template 'for every input the law returns true; each argument reads behind the call as it read before'; 0 by the template 'total and deterministic' (their statements: YtakjdoioffogcaaTotals.lean).
  GIVEN WITH THE SEED: the statements are not yours to turn. If you find one false, say at which input.
  Laid BY PROGRAM, IN A SANDBOX (cutbox-rows.mjs): the forced cells as the released guide's own fill.sh prints them over the translation 848105f556e1feac… (all of the seat's roots in one cut). By AI agents, Wed Nov 11 2026. No macro, syntax, notation, axiom, sorry.
-/
import Derived.Test.YtakjdoioffogcaaChecked
import GoSem.Claim
import GoSem.ClaimJoined
import GoSem.ClaimMapViews
import Derived.JoinedTies
import Derived.KernelRfl
namespace Go.Proofs.Ytakjdoioffogcaa
/- THE CELL 'sum', in the pinned program and in every row, IS THE sha256 OF THE DUMP (.gsa) THAT YtakjdoioffogcaaProg.lean LOADS. Nothing in Lean hashes anything: it is a label: what it is worth is what the hold of that sum in a sandbox is worth. -/
noncomputable def Try.pinned : Pinned := { name := "ytakjdoioffogcaa", sum := "848105f556e1feacf27df6cdaac10df01d5595600f5b3e49e8c98dc6375a6c57", checked := Try.checked }
namespace Rows
def none {H : Type} : Left H := { results := [], args := [] }

/-- 'astragallaw02.LoadReads': WHATEVER THE INPUT: true; the input reads as it did. -/
def loadReadsSpec : ChangeSpec := { name := "loadReads", fn := fun _ => fun
  | [d1, d2] => { results := [.lit (.bool true)], args := [d1, d2] }
  | _ => none }
def loadReadsRow : OpenClaim := { program := "ytakjdoioffogcaa", sum := "848105f556e1feacf27df6cdaac10df01d5595600f5b3e49e8c98dc6375a6c57", func := "astragal/astragallaw02.LoadReads", spec := "loadReads", apart := false }
def LoadReadsSaid : Prop := loadReadsRow.holds Try.pinned (OpenSpec.ofChange loadReadsSpec)

/-- ITS FALSE NEIGHBOUR: 'it returns false'. Refute it at one input. -/
def loadReadsWrong : ChangeSpec := { name := "loadReads", fn := fun _ => fun
  | [d1, d2] => { results := [.lit (.bool false)], args := [d1, d2] }
  | _ => none }
def LoadReadsWrongFalsely : Prop := loadReadsRow.holds Try.pinned (OpenSpec.ofChange loadReadsWrong)

/-- 'astragallaw02.LoadTurns': WHATEVER THE INPUT: true; the input reads as it did. -/
def loadTurnsSpec : ChangeSpec := { name := "loadTurns", fn := fun _ => fun
  | [d1, d2, d3] => { results := [.lit (.bool true)], args := [d1, d2, d3] }
  | _ => none }
def loadTurnsRow : OpenClaim := { program := "ytakjdoioffogcaa", sum := "848105f556e1feacf27df6cdaac10df01d5595600f5b3e49e8c98dc6375a6c57", func := "astragal/astragallaw02.LoadTurns", spec := "loadTurns", apart := false }
def LoadTurnsSaid : Prop := loadTurnsRow.holds Try.pinned (OpenSpec.ofChange loadTurnsSpec)

/-- ITS FALSE NEIGHBOUR: 'it returns false'. Refute it at one input. -/
def loadTurnsWrong : ChangeSpec := { name := "loadTurns", fn := fun _ => fun
  | [d1, d2, d3] => { results := [.lit (.bool false)], args := [d1, d2, d3] }
  | _ => none }
def LoadTurnsWrongFalsely : Prop := loadTurnsRow.holds Try.pinned (OpenSpec.ofChange loadTurnsWrong)

/-- 'astragallaw02.LoadHexes': WHATEVER THE INPUT: true; the input reads as it did. -/
def loadHexesSpec : ChangeSpec := { name := "loadHexes", fn := fun _ => fun
  | [d1, d2] => { results := [.lit (.bool true)], args := [d1, d2] }
  | _ => none }
def loadHexesRow : OpenClaim := { program := "ytakjdoioffogcaa", sum := "848105f556e1feacf27df6cdaac10df01d5595600f5b3e49e8c98dc6375a6c57", func := "astragal/astragallaw02.LoadHexes", spec := "loadHexes", apart := false }
def LoadHexesSaid : Prop := loadHexesRow.holds Try.pinned (OpenSpec.ofChange loadHexesSpec)

/-- ITS FALSE NEIGHBOUR: 'it returns false'. Refute it at one input. -/
def loadHexesWrong : ChangeSpec := { name := "loadHexes", fn := fun _ => fun
  | [d1, d2] => { results := [.lit (.bool false)], args := [d1, d2] }
  | _ => none }
def LoadHexesWrongFalsely : Prop := loadHexesRow.holds Try.pinned (OpenSpec.ofChange loadHexesWrong)

/-- 'astragallaw02.LoadPuts': WHATEVER THE INPUT: true; the input reads as it did. -/
def loadPutsSpec : ChangeSpec := { name := "loadPuts", fn := fun _ => fun
  | [d1, d2, d3] => { results := [.lit (.bool true)], args := [d1, d2, d3] }
  | _ => none }
def loadPutsRow : OpenClaim := { program := "ytakjdoioffogcaa", sum := "848105f556e1feacf27df6cdaac10df01d5595600f5b3e49e8c98dc6375a6c57", func := "astragal/astragallaw02.LoadPuts", spec := "loadPuts", apart := false }
def LoadPutsSaid : Prop := loadPutsRow.holds Try.pinned (OpenSpec.ofChange loadPutsSpec)

/-- ITS FALSE NEIGHBOUR: 'it returns false'. Refute it at one input. -/
def loadPutsWrong : ChangeSpec := { name := "loadPuts", fn := fun _ => fun
  | [d1, d2, d3] => { results := [.lit (.bool false)], args := [d1, d2, d3] }
  | _ => none }
def LoadPutsWrongFalsely : Prop := loadPutsRow.holds Try.pinned (OpenSpec.ofChange loadPutsWrong)

/- THE SECOND FORM. 'bulk': how many values and letters a reading holds, each counted each time it is reached (what is shared counts as often as it is met; a slice's spare places count too). A statement '..UptoSaid' is the law's where the arguments, and the package variables that the reading takes, are together of bulk at most 1048576: NARROWER than '..Said'. Prove '..Said' where nothing that the law and all that it calls make is longer than what came in: it says more and counts as full. Else prove '..UptoSaid'. A law counts once. -/
mutual
def uptoBulk {H : Type} : DataW H → Nat
  | .lit (.string bytes) => bytes.length + 1
  | .lit _ => 1
  | .nil => 1
  | .ptr d => uptoBulk d + 1
  | .slice elems spare => uptoBulkAll elems + uptoBulkAll spare + 1
  | .agg parts => uptoBulkAll parts + 1
  | .iface _ d => uptoBulk d + 1
  | .map entries => uptoBulkEntries entries + 1
  | .held _ => 1
def uptoBulkAll {H : Type} : List (DataW H) → Nat
  | [] => 0
  | d :: r => uptoBulk d + uptoBulkAll r
def uptoBulkEntries {H : Type} : List (Lit × DataW H) → Nat
  | [] => 0
  | x :: r => uptoBulkEntry x + uptoBulkEntries r
def uptoBulkEntry {H : Type} : Lit × DataW H → Nat
  | (.string bytes, d) => bytes.length + uptoBulk d + 1
  | (_, d) => uptoBulk d + 1
 end
def uptoSmall : (H : Type) → List (DataW H) → Bool := fun _ ds => decide (uptoBulkAll ds ≤ 1048576)
def OpenSpec.upto (s : _root_.Go.ChangeSpec) : _root_.Go.OpenSpec := { _root_.Go.OpenSpec.ofChange s with cond := some uptoSmall }

/-- 'astragallaw02.LoadReads', WHERE WHAT IT READS IS OF BULK AT MOST 1048576: true; the input reads as it did. -/
def loadReadsUptoRow : OpenClaim := { program := "ytakjdoioffogcaa", sum := "848105f556e1feacf27df6cdaac10df01d5595600f5b3e49e8c98dc6375a6c57", func := "astragal/astragallaw02.LoadReads", spec := "loadReads", apart := false, narrowed := true }
def LoadReadsUptoSaid : Prop := loadReadsUptoRow.holds Try.pinned (OpenSpec.upto loadReadsSpec)

/-- 'astragallaw02.LoadTurns', WHERE WHAT IT READS IS OF BULK AT MOST 1048576: true; the input reads as it did. -/
def loadTurnsUptoRow : OpenClaim := { program := "ytakjdoioffogcaa", sum := "848105f556e1feacf27df6cdaac10df01d5595600f5b3e49e8c98dc6375a6c57", func := "astragal/astragallaw02.LoadTurns", spec := "loadTurns", apart := false, narrowed := true }
def LoadTurnsUptoSaid : Prop := loadTurnsUptoRow.holds Try.pinned (OpenSpec.upto loadTurnsSpec)

/-- 'astragallaw02.LoadHexes', WHERE WHAT IT READS IS OF BULK AT MOST 1048576: true; the input reads as it did. -/
def loadHexesUptoRow : OpenClaim := { program := "ytakjdoioffogcaa", sum := "848105f556e1feacf27df6cdaac10df01d5595600f5b3e49e8c98dc6375a6c57", func := "astragal/astragallaw02.LoadHexes", spec := "loadHexes", apart := false, narrowed := true }
def LoadHexesUptoSaid : Prop := loadHexesUptoRow.holds Try.pinned (OpenSpec.upto loadHexesSpec)

/-- 'astragallaw02.LoadPuts', WHERE WHAT IT READS IS OF BULK AT MOST 1048576: true; the input reads as it did. -/
def loadPutsUptoRow : OpenClaim := { program := "ytakjdoioffogcaa", sum := "848105f556e1feacf27df6cdaac10df01d5595600f5b3e49e8c98dc6375a6c57", func := "astragal/astragallaw02.LoadPuts", spec := "loadPuts", apart := false, narrowed := true }
def LoadPutsUptoSaid : Prop := loadPutsUptoRow.holds Try.pinned (OpenSpec.upto loadPutsSpec)

end Rows
end Go.Proofs.Ytakjdoioffogcaa
