/-
  DERIVED. GIVEN WITH THE SEED: THE CARDS: each row of YtidlpihoafnobaaGreatDoorRows.lean that lists a variable, with what it lists TIED to the program's text (the seventh form; the later family's looks); each row that meets fmt, with fmt's text TOLD by the authors' own Lean function (tested against real Go, not proved from fmt's source: count such statements apart). THE CARD IS WHAT COUNTS. Prove the row's statement (the work); the ties are given (YtidlpihoafnobaaGreatDoorTie.lean); close each card by the builder's one call (the guide's Derived/Test/ToyasCard.lean, 'card_holds'). Laid BY PROGRAM, IN A SANDBOX (cutbox-door.mjs). By AI agents, Wed Nov 11 2026. No macro, syntax, notation, axiom, sorry.
-/
import Derived.Test.YtidlpihoafnobaaGreatDoorRows
import GoSem.ClaimSeven
namespace Go.Proofs.YtidlpihoafnobaaGreatDoor
namespace Rows

/-- THE TIED CARD OF 'astragallaw36.ScodeReads'. -/
def scodeReadsCard : Claim7 := { stood := { row := scodeReadsRow, standIns := [], harness := (true, "20bb63cbd76ba70e7c8332b3f56c397e5d93eff1030625090d930fa715ebfd00"), looks := true }, kinds := [], alts := [], laidByText := true, laidKinds := [.handle], laidTests := true, laidLooks := .later }
def ScodeReadsCardSaid : Prop := Claim7.holds Tryz.pinned (.plain (OpenSpec.ofChange scodeReadsSpec)) scodeReadsCard

/-- THE TIED CARD OF 'astragallaw36.ScodeGoes'. -/
def scodeGoesCard : Claim7 := { stood := { row := scodeGoesRow, standIns := [], harness := (true, "20bb63cbd76ba70e7c8332b3f56c397e5d93eff1030625090d930fa715ebfd00"), looks := true }, kinds := [], alts := [], laidByText := true, laidKinds := [.handle], laidTests := true, laidLooks := .later }
def ScodeGoesCardSaid : Prop := Claim7.holds Tryz.pinned (.plain (OpenSpec.ofChange scodeGoesSpec)) scodeGoesCard

/-- THE SECOND FORM's CARD OF 'astragallaw36.ScodeReads'. -/
def scodeReadsUptoCard : Claim7 := { stood := { row := scodeReadsUptoRow, standIns := [], harness := (true, "20bb63cbd76ba70e7c8332b3f56c397e5d93eff1030625090d930fa715ebfd00"), looks := true }, kinds := [], alts := [], laidByText := true, laidKinds := [.handle], laidTests := true, laidLooks := .later }
def ScodeReadsUptoCardSaid : Prop := Claim7.holds Tryz.pinned (.plain (OpenSpec.upto scodeReadsSpec)) scodeReadsUptoCard

/-- THE SECOND FORM's CARD OF 'astragallaw36.ScodeGoes'. -/
def scodeGoesUptoCard : Claim7 := { stood := { row := scodeGoesUptoRow, standIns := [], harness := (true, "20bb63cbd76ba70e7c8332b3f56c397e5d93eff1030625090d930fa715ebfd00"), looks := true }, kinds := [], alts := [], laidByText := true, laidKinds := [.handle], laidTests := true, laidLooks := .later }
def ScodeGoesUptoCardSaid : Prop := Claim7.holds Tryz.pinned (.plain (OpenSpec.upto scodeGoesSpec)) scodeGoesUptoCard
end Rows
end Go.Proofs.YtidlpihoafnobaaGreatDoor
