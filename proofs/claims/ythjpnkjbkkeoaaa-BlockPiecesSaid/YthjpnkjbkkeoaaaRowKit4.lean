/- From a row's readings to what the walks ask: ints, arrays of four. -/
import Derived.Test.YthjpnkjbkkeoaaaRowKit
import Derived.Test.YthjpnkjbkkeoaaaPieces
import Derived.Laws.IdiomArrays
import Derived.Lib.SmallJoins
namespace Go.Proofs.Ythjpnkjbkkeoaaa
set_option linter.unusedVariables false
set_option linter.unusedSimpArgs false
open Go.RowKit Go.ChangeShapes

theorem cells_int : Try.prog.cellsOf 3 = 1 := by kernel_rfl
theorem isInts_of_ints {w : World} {x : Addr} {n c : Nat} {zs : List Int} (hl : n ≤ c) (hm : c ≤ maxLen) (hz : zs.length = c)
    (hcell : ∀ i, i < zs.length → w.cell? (x.add i) = some (.int .i64 (zs.getD i 0))) (hwz : ∀ n ∈ zs, (Lit.int .i64 n).wf = true) :
    IsInts w (some x) n c (zs.take n) := by
  refine ⟨by rw [List.length_take]; omega, hl, by unfold maxLen at hm; omega, (fun e => by cases e), fun i hi => ?_⟩
  obtain ⟨b, off, spot⟩ := x
  have hc := hcell i (by omega)
  have h0 := hcell 0 (by omega)
  have hspot : spot = none := by simpa [Addr.add] using World.cell?_spot h0
  subst hspot
  rw [Addr.add_lit] at hc
  have hi' : i < zs.length := by omega
  have e1 : zs.getD i 0 = zs[i] := by rw [List.getD_eq_getElem?_getD, List.getElem?_eq_getElem hi']; rfl
  have e2 : (zs.take n).getD i 0 = zs[i] := by
    rw [List.getD_eq_getElem?_getD, List.getElem?_take, if_pos hi, List.getElem?_eq_getElem hi']; rfl
  have hw := int64 (hwz zs[i] (List.getElem_mem hi'))
  rw [e2]
  exact ⟨⟨b, off, rfl, by rw [hc, e1]⟩, hw.1, hw.2⟩
end Go.Proofs.Ythjpnkjbkkeoaaa
