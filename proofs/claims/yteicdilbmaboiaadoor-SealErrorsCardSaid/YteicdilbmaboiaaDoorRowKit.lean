/- From a row's readings to what the walks ask: bytes, words. -/
import Derived.Test.YteicdilbmaboiaaDoorMem
import Derived.Test.YteicdilbmaboiaaDoorRows
import Derived.WalkKit
import Derived.ProofKit
import Derived.OpenShut
import Derived.ShutString
import Derived.ChangeOld
import Derived.Below
import Derived.SizedLaws
namespace Go.Proofs.YteicdilbmaboiaaDoor
set_option linter.unusedVariables false
set_option linter.unusedSimpArgs false
open Go.RowKit

theorem own_knob : ownKnob Tryd.prog.godebug = none := by kernel_rfl
theorem laid_out : laidOutB Tryd.prog = true := by kernel_rfl
theorem bytes_u8 : Tryd.prog.bytesOf 5 = 1 := by kernel_rfl
theorem cells_u8 : Tryd.prog.cellsOf 5 = 1 := by kernel_rfl
theorem isBytes_of_ints {w : World} {x : Addr} {n c : Nat} {zs : List Int} (hl : n ≤ c) (hm : c ≤ maxLen) (hz : zs.length = c)
    (hcell : ∀ i, i < zs.length → w.cell? (x.add i) = some (.int .u8 (zs.getD i 0))) (hwz : ∀ n ∈ zs, (Lit.int .u8 n).wf = true) :
    IsBytes w (some x) n c ((zs.take n).map O8) := by
  refine ⟨by rw [List.length_map, List.length_take]; omega, hl, by unfold maxLen at hm; omega, (fun e => by cases e), fun i hi => ?_⟩
  obtain ⟨b, off, spot⟩ := x
  have hc := hcell i (by omega)
  have h0 := hcell 0 (by omega)
  have hspot : spot = none := by simpa [Addr.add] using World.cell?_spot h0
  subst hspot
  refine ⟨b, off, rfl, ?_⟩
  rw [Addr.add_lit] at hc
  rw [hc]
  have hi' : i < zs.length := by omega
  have e1 : zs.getD i 0 = zs[i] := by rw [List.getD_eq_getElem?_getD, List.getElem?_eq_getElem hi']; rfl
  have e2 : ((zs.take n).map O8).getD i 0 = O8 zs[i] := by
    rw [List.getD_eq_getElem?_getD, List.getElem?_map, List.getElem?_take, if_pos hi, List.getElem?_eq_getElem hi']; rfl
  have hw := hwz zs[i] (List.getElem_mem hi')
  have hb : 0 ≤ zs[i] ∧ zs[i] ≤ 255 := by
    have hmin : IntKind.u8.min = 0 := rfl
    have hmax : IntKind.u8.max = 255 := rfl
    simp only [Lit.wf, Bool.and_eq_true, decide_eq_true_eq] at hw
    omega
  rw [e1, e2, ← wrapu8, wrapu8_raw]
  congr 2
  omega
theorem word64 {n : Int} (h : (Lit.int .u64 n).wf = true) : n = W64 (O64 n) := by
  have hmin : IntKind.u64.min = 0 := rfl
  have hmax : IntKind.u64.max = 18446744073709551615 := rfl
  simp only [Lit.wf, Bool.and_eq_true, decide_eq_true_eq] at h
  rw [← wrapu64, wrapu64_raw]; omega
theorem word32 {n : Int} (h : (Lit.int .u32 n).wf = true) : n = W32 (O32 n) := by
  have hmin : IntKind.u32.min = 0 := rfl
  have hmax : IntKind.u32.max = 4294967295 := rfl
  simp only [Lit.wf, Bool.and_eq_true, decide_eq_true_eq] at h
  rw [← wrapu32, wrapu32_raw]; omega
theorem int64 {n : Int} (h : (Lit.int .i64 n).wf = true) : -9223372036854775808 ≤ n ∧ n ≤ 9223372036854775807 := by
  have hmin : IntKind.i64.min = -9223372036854775808 := rfl
  have hmax : IntKind.i64.max = 9223372036854775807 := rfl
  simp only [Lit.wf, Bool.and_eq_true, decide_eq_true_eq] at h
  omega
end Go.Proofs.YteicdilbmaboiaaDoor
