/- From a row's readings to what the walks ask: ints, arrays of four. -/
import Derived.Test.YtcbbllfgelnpjaaRowKit
import Derived.Test.YtcbbllfgelnpjaaPieces
import Derived.Laws.IdiomArrays
import Derived.Lib.SmallJoins
namespace Go.Proofs.Ytcbbllfgelnpjaa
set_option linter.unusedVariables false
set_option linter.unusedSimpArgs false
open Go.RowKit Go.ChangeShapes

theorem cells_int : Try.prog.cellsOf 3 = 1 := by kernel_rfl
theorem isInts_of_ints {w : World} {x : Addr} {n c : Nat} {zs : List Int} (hl : n ≤ c) (hm : c ≤ maxLen) (hz : zs.length = c)
    (hcell : ∀ i, i < zs.length → w.cell? (x.add i) = some (.int .i64 (zs.getD i 0))) (hwz : ∀ n ∈ zs, (Lit.int .i64 n).wf = true) :
    IsInts w (some x) n c (zs.take n) := by
  refine ⟨by rw [List.length_take]; omega, hl, by unfold maxLen at hm; omega, (fun e => by cases e), fun i hi => ?_⟩
  obtain ⟨b, off, spot⟩ := x
  have hc := hcell i (by omega)
  have h0 := hcell 0 (by omega)
  have hspot : spot = none := by simpa [Addr.add] using World.cell?_spot h0
  subst hspot
  rw [Addr.add_lit] at hc
  have hi' : i < zs.length := by omega
  have e1 : zs.getD i 0 = zs[i] := by rw [List.getD_eq_getElem?_getD, List.getElem?_eq_getElem hi']; rfl
  have e2 : (zs.take n).getD i 0 = zs[i] := by
    rw [List.getD_eq_getElem?_getD, List.getElem?_take, if_pos hi, List.getElem?_eq_getElem hi']; rfl
  have hw := int64 (hwz zs[i] (List.getElem_mem hi'))
  rw [e2]
  exact ⟨⟨b, off, rfl, by rw [hc, e1]⟩, hw.1, hw.2⟩
theorem cells_u64 : Try.prog.cellsOf 22 = 1 := by kernel_rfl
theorem cells_arr4 : Try.prog.cellsOf 38 = 4 := by kernel_rfl
theorem open_arr4 {H : Type} {enc : TypeId × Value → H} {w : World} {r : Reach} {b0 : Nat} {v : Value} {d : DataW H} {p : List MemPlace} (hv : Value.okWide Try.prog w r b0 38 v) (h : DataW.Trod enc Try.prog w 0 (fun _ => true) true 38 v d p) :
    ∃ x0 x1 x2 x3 : BitVec 64, v = .agg #[.int .u64 (W64 x0), .int .u64 (W64 x1), .int .u64 (W64 x2), .int .u64 (W64 x3)] ∧ ∀ w2 sp, DataW.Trod enc Try.prog w2 0 sp true 38 v d p := by
  unfold Value.okWide at hv
  rw [Try.underlying38] at hv
  obtain ⟨cs, rfl, hsz, _⟩ := hv
  rw [cells_arr4] at hsz
  obtain ⟨l⟩ := cs
  match l, hsz with
  | [c0, c1, c2, c3], _ =>
    obtain ⟨fuel, hf⟩ := h
    obtain ⟨y0, y1, y2, y3, n, hx, h0, h1, h2, h3⟩ := trod_array4 Try.underlying38 cells_u64 hf
    obtain ⟨i0, e0, rfl, k0⟩ := DataW.trod_int Try.underlying22 h0
    obtain ⟨i1, e1, rfl, k1⟩ := DataW.trod_int Try.underlying22 h1
    obtain ⟨i2, e2, rfl, k2⟩ := DataW.trod_int Try.underlying22 h2
    obtain ⟨i3, e3, rfl, k3⟩ := DataW.trod_int Try.underlying22 h3
    simp at e0 e1 e2 e3
    subst e0; subst e1; subst e2; subst e3
    obtain ⟨x0, rfl⟩ : ∃ x, i0 = W64 x := ⟨_, word64 k0⟩
    obtain ⟨x1, rfl⟩ : ∃ x, i1 = W64 x := ⟨_, word64 k1⟩
    obtain ⟨x2, rfl⟩ : ∃ x, i2 = W64 x := ⟨_, word64 k2⟩
    obtain ⟨x3, rfl⟩ : ∃ x, i3 = W64 x := ⟨_, word64 k3⟩
    simp only [Prod.mk.injEq] at hx
    obtain ⟨rfl, rfl⟩ := hx
    refine ⟨x0, x1, x2, x3, rfl, fun w2 sp => ⟨2, ?_⟩⟩
    have r4 : List.range 4 = [0, 1, 2, 3] := rfl
    simp [DataW.trod, Try.underlying38, Try.underlying22, cells_arr4, cells_u64, r4, k0, k1, k2, k3, Value.cells]
end Go.Proofs.Ytcbbllfgelnpjaa
