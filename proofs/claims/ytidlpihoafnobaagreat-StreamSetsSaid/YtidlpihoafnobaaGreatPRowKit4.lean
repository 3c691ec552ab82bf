/- RowKit4 -/
import Derived.Laws.IdiomArrays
import Derived.Lib.SmallJoins
import Derived.Test.YtidlpihoafnobaaGreatPStrAny
set_option linter.unusedVariables false
set_option linter.unusedSimpArgs false
namespace Go.Proofs.YtidlpihoafnobaaGreat
set_option maxRecDepth 100000
open Go.RowKit Go.ChangeShapes
theorem cells_u64 : Tryz.prog.cellsOf 22 = 1 := by kernel_rfl
theorem cells_arr4 : Tryz.prog.cellsOf 49 = 4 := by kernel_rfl
theorem open_arr4 {H : Type} {enc : TypeId × Value → H} {w : World} {r : Reach} {b0 : Nat} {v : Value} {d : DataW H} {p : List MemPlace} (hv : Value.okWide Tryz.prog w r b0 49 v) (h : DataW.Trod enc Tryz.prog w 0 (fun _ => true) true 49 v d p) :
 ∃ x0 x1 x2 x3 : BitVec 64, v = .agg #[.int .u64 (W64 x0), .int .u64 (W64 x1), .int .u64 (W64 x2), .int .u64 (W64 x3)] ∧ ∀ w2 sp, DataW.Trod enc Tryz.prog w2 0 sp true 49 v d p := by
 unfold Value.okWide at hv
 rw [Tryz.underlying49] at hv
 obtain ⟨cs, rfl, hsz, _⟩ := hv
 rw [cells_arr4] at hsz
 obtain ⟨l⟩ := cs
 match l, hsz with
 | [c0, c1, c2, c3], _ =>
  obtain ⟨fuel, hf⟩ := h
  obtain ⟨y0, y1, y2, y3, n, hx, h0, h1, h2, h3⟩ := trod_array4 Tryz.underlying49 cells_u64 hf
  obtain ⟨i0, e0, rfl, k0⟩ := DataW.trod_int Tryz.underlying22 h0
  obtain ⟨i1, e1, rfl, k1⟩ := DataW.trod_int Tryz.underlying22 h1
  obtain ⟨i2, e2, rfl, k2⟩ := DataW.trod_int Tryz.underlying22 h2
  obtain ⟨i3, e3, rfl, k3⟩ := DataW.trod_int Tryz.underlying22 h3
  simp at e0 e1 e2 e3
  subst e0; subst e1; subst e2; subst e3
  obtain ⟨x0, rfl⟩ : ∃ x, i0 = W64 x := ⟨_, word64 k0⟩
  obtain ⟨x1, rfl⟩ : ∃ x, i1 = W64 x := ⟨_, word64 k1⟩
  obtain ⟨x2, rfl⟩ : ∃ x, i2 = W64 x := ⟨_, word64 k2⟩
  obtain ⟨x3, rfl⟩ : ∃ x, i3 = W64 x := ⟨_, word64 k3⟩
  simp only [Prod.mk.injEq] at hx
  obtain ⟨rfl, rfl⟩ := hx
  refine ⟨x0, x1, x2, x3, rfl, fun w2 sp => ⟨2, ?_⟩⟩
  have r4 : List.range 4 = [0, 1, 2, 3] := rfl
  simp [DataW.trod, Tryz.underlying49, Tryz.underlying22, cells_arr4, cells_u64, r4, k0, k1, k2, k3, Value.cells]
end Go.Proofs.YtidlpihoafnobaaGreat
