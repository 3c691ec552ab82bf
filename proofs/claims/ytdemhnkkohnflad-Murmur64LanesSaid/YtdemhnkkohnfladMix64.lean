/- mix.Fmix64 and the reference's. -/
import Derived.Test.YtdemhnkkohnfladMix64Plain
import Derived.Test.YtdemhnkkohnfladMix
import Derived.Test.YtdemhnkkohnfladWords2
namespace Go.Proofs.Ytdemhnkkohnflad
set_option linter.unusedVariables false
set_option linter.unusedSimpArgs false
open Go.RowKit

theorem refFmix64_any (h : BitVec 64) (w : World) :
    Calls Try.prog 42 #[.int .u64 (W64 h)] w (Gives (.int .u64 (W64 (fmix64 h))) w) := by
  go_enter Try.func42, Try.ntmps42
  go_wp2_with fail
  refine (refFold7_any _ 33 33 _ rfl (by omega) (by omega)).mono ?_
  rw [shr33]
  rintro e w' ⟨rfl, rfl⟩
  go_wp2_with fail
  refine (refFold7_any _ 33 33 _ rfl (by omega) (by omega)).mono ?_
  rw [shr33]
  rintro e w' ⟨rfl, rfl⟩
  go_wp2_with fail
  refine (refFold7_any _ 33 33 _ rfl (by omega) (by omega)).mono ?_
  rw [shr33]
  rintro e w' ⟨rfl, rfl⟩
  go_wp2_with fail
  rw [fmix64_def]
  go_ret
  exact ⟨rfl, rfl⟩
theorem Fold7_any (z : BitVec 64) (w : World) :
    Calls Try.prog 61 #[.int .u64 (W64 z), .int .i64 33] w (Gives (.int .u64 (W64 (z ^^^ z / 8589934592#64))) w) := by
  go_enter Try.func61, Try.ntmps61
  go_wp2
  go_ret
  exact ⟨rfl, rfl⟩
/-- In block mb lies Murmur's mixer. -/
def MixAt (w : World) (mb : Nat) : Prop := w.heap[mb]? = some (.cells #[.int .i64 33, .int .i64 33, .int .i64 33, .int .u64 18397679294719823053, .int .u64 14181476777654086739] 83 (0, 0))
def ZAt (w : World) (zb : Nat) (z : BitVec 64) : Prop := w.heap[zb]? = some (.cells #[.int .u64 (W64 z)] 25 (0, 0))
def Steps5 (w : World) (mb zb : Nat) (z : BitVec 64) (e : Ending) (w' : World) : Prop := e = .returned (.tuple #[]) ∧ ZAt w' zb z ∧ MixAt w' mb ∧ Fr (fun x => x = zb) w w'
theorem there_1 (mb zb : Nat) (z : BitVec 64) (w : World) (hm : MixAt w mb) (hz : ZAt w zb z) (hne : ¬ mb = zb) :
    Calls Try.prog 60 #[.pointer (some ⟨zb, 0, none⟩), .pointer (some ⟨mb, 0, none⟩)] w (Steps5 w mb zb (z ^^^ z / 8589934592#64)) := by
  have q0 : w.cell? ⟨mb, 0, none⟩ = some (.int .i64 33) := by rw [cell_of_row w mb 0 _ _ _ hm]; rfl
  have q1 : w.cell? ⟨zb, 0, none⟩ = some (.int .u64 (W64 z)) := by rw [cell_of_row w zb 0 _ _ _ hz]; rfl
  have q2 := frozen_of_row w zb 0 _ _ hz
  go_enter Try.func60, Try.ntmps60
  go_wp2_with fail
  refine (Fold7_any _ _).mono ?_
  rintro e w' ⟨rfl, rfl⟩
  go_wp2_with fail
  go_end0
  have hf := (Fr.refl (fun x => x = zb) w).setCell (p := ⟨zb, 0, none⟩) (.inl rfl) (.int .u64 (W64 (z ^^^ z / 8589934592#64)))
  exact ⟨rfl, by unfold ZAt; rw [heap_setCell_same w zb 0 _ _ _ hz]; rfl, hf.heap hne hm, hf⟩

theorem there_2 (mb zb : Nat) (z : BitVec 64) (w : World) (hm : MixAt w mb) (hz : ZAt w zb z) (hne : ¬ mb = zb) :
    Calls Try.prog 62 #[.pointer (some ⟨zb, 0, none⟩), .pointer (some ⟨mb, 0, none⟩)] w (Steps5 w mb zb (z * 18397679294719823053#64)) := by
  have q0 : w.cell? ⟨mb, 3, none⟩ = some (.int .u64 18397679294719823053) := by rw [cell_of_row w mb 3 _ _ _ hm]; rfl
  have q1 : w.cell? ⟨zb, 0, none⟩ = some (.int .u64 (W64 z)) := by rw [cell_of_row w zb 0 _ _ _ hz]; rfl
  have q2 := frozen_of_row w zb 0 _ _ hz
  go_enter Try.func62, Try.ntmps62
  go_wp2_with fail
  go_end0
  have hf := (Fr.refl (fun x => x = zb) w).setCell (p := ⟨zb, 0, none⟩) (.inl rfl) (.int .u64 (W64 (z * 18397679294719823053#64)))
  exact ⟨rfl, by unfold ZAt; rw [heap_setCell_same w zb 0 _ _ _ hz]; rfl, hf.heap hne hm, hf⟩

theorem there_3 (mb zb : Nat) (z : BitVec 64) (w : World) (hm : MixAt w mb) (hz : ZAt w zb z) (hne : ¬ mb = zb) :
    Calls Try.prog 63 #[.pointer (some ⟨zb, 0, none⟩), .pointer (some ⟨mb, 0, none⟩)] w (Steps5 w mb zb (z ^^^ z / 8589934592#64)) := by
  have q0 : w.cell? ⟨mb, 1, none⟩ = some (.int .i64 33) := by rw [cell_of_row w mb 1 _ _ _ hm]; rfl
  have q1 : w.cell? ⟨zb, 0, none⟩ = some (.int .u64 (W64 z)) := by rw [cell_of_row w zb 0 _ _ _ hz]; rfl
  have q2 := frozen_of_row w zb 0 _ _ hz
  go_enter Try.func63, Try.ntmps63
  go_wp2_with fail
  refine (Fold7_any _ _).mono ?_
  rintro e w' ⟨rfl, rfl⟩
  go_wp2_with fail
  go_end0
  have hf := (Fr.refl (fun x => x = zb) w).setCell (p := ⟨zb, 0, none⟩) (.inl rfl) (.int .u64 (W64 (z ^^^ z / 8589934592#64)))
  exact ⟨rfl, by unfold ZAt; rw [heap_setCell_same w zb 0 _ _ _ hz]; rfl, hf.heap hne hm, hf⟩

theorem there_4 (mb zb : Nat) (z : BitVec 64) (w : World) (hm : MixAt w mb) (hz : ZAt w zb z) (hne : ¬ mb = zb) :
    Calls Try.prog 64 #[.pointer (some ⟨zb, 0, none⟩), .pointer (some ⟨mb, 0, none⟩)] w (Steps5 w mb zb (z * 14181476777654086739#64)) := by
  have q0 : w.cell? ⟨mb, 4, none⟩ = some (.int .u64 14181476777654086739) := by rw [cell_of_row w mb 4 _ _ _ hm]; rfl
  have q1 : w.cell? ⟨zb, 0, none⟩ = some (.int .u64 (W64 z)) := by rw [cell_of_row w zb 0 _ _ _ hz]; rfl
  have q2 := frozen_of_row w zb 0 _ _ hz
  go_enter Try.func64, Try.ntmps64
  go_wp2_with fail
  go_end0
  have hf := (Fr.refl (fun x => x = zb) w).setCell (p := ⟨zb, 0, none⟩) (.inl rfl) (.int .u64 (W64 (z * 14181476777654086739#64)))
  exact ⟨rfl, by unfold ZAt; rw [heap_setCell_same w zb 0 _ _ _ hz]; rfl, hf.heap hne hm, hf⟩

theorem there_5 (mb zb : Nat) (z : BitVec 64) (w : World) (hm : MixAt w mb) (hz : ZAt w zb z) (hne : ¬ mb = zb) :
    Calls Try.prog 65 #[.pointer (some ⟨zb, 0, none⟩), .pointer (some ⟨mb, 0, none⟩)] w (Steps5 w mb zb (z ^^^ z / 8589934592#64)) := by
  have q0 : w.cell? ⟨mb, 2, none⟩ = some (.int .i64 33) := by rw [cell_of_row w mb 2 _ _ _ hm]; rfl
  have q1 : w.cell? ⟨zb, 0, none⟩ = some (.int .u64 (W64 z)) := by rw [cell_of_row w zb 0 _ _ _ hz]; rfl
  have q2 := frozen_of_row w zb 0 _ _ hz
  go_enter Try.func65, Try.ntmps65
  go_wp2_with fail
  refine (Fold7_any _ _).mono ?_
  rintro e w' ⟨rfl, rfl⟩
  go_wp2_with fail
  go_end0
  have hf := (Fr.refl (fun x => x = zb) w).setCell (p := ⟨zb, 0, none⟩) (.inl rfl) (.int .u64 (W64 (z ^^^ z / 8589934592#64)))
  exact ⟨rfl, by unfold ZAt; rw [heap_setCell_same w zb 0 _ _ _ hz]; rfl, hf.heap hne hm, hf⟩

@[go_sem] theorem run_store_fv5 (k : Nat) (x y : Array Value) (w : World) (a : Addr) (md : Mode) : (store a (.func (.func k) x y) md).run Try.prog w = stored Try.prog w a (.func (.func k) x y) md := run_store Try.prog w a _ md rfl
@[go_sem] theorem index5_0 (v0 v1 v2 v3 v4 : Value) (w : World) : (Instr.index 87 (.agg #[v0, v1, v2, v3, v4]) (.int .i64 0)).run Try.prog w = .ok v0 w := by simp [Instr.index, run_underlying Try.underlying87, asIntOf, go_sem]
@[go_sem] theorem index5_1 (v0 v1 v2 v3 v4 : Value) (w : World) : (Instr.index 87 (.agg #[v0, v1, v2, v3, v4]) (.int .i64 1)).run Try.prog w = .ok v1 w := by simp [Instr.index, run_underlying Try.underlying87, asIntOf, go_sem]
@[go_sem] theorem index5_2 (v0 v1 v2 v3 v4 : Value) (w : World) : (Instr.index 87 (.agg #[v0, v1, v2, v3, v4]) (.int .i64 2)).run Try.prog w = .ok v2 w := by simp [Instr.index, run_underlying Try.underlying87, asIntOf, go_sem]
@[go_sem] theorem index5_3 (v0 v1 v2 v3 v4 : Value) (w : World) : (Instr.index 87 (.agg #[v0, v1, v2, v3, v4]) (.int .i64 3)).run Try.prog w = .ok v3 w := by simp [Instr.index, run_underlying Try.underlying87, asIntOf, go_sem]
@[go_sem] theorem index5_4 (v0 v1 v2 v3 v4 : Value) (w : World) : (Instr.index 87 (.agg #[v0, v1, v2, v3, v4]) (.int .i64 4)).run Try.prog w = .ok v4 w := by simp [Instr.index, run_underlying Try.underlying87, asIntOf, go_sem]
def midF (h : BitVec 64) : Nat → BitVec 64
  | 0 => h
  | 1 => h ^^^ h / 8589934592#64
  | 2 => (h ^^^ h / 8589934592#64) * 18397679294719823053#64
  | 3 => (h ^^^ h / 8589934592#64) * 18397679294719823053#64 ^^^ (h ^^^ h / 8589934592#64) * 18397679294719823053#64 / 8589934592#64
  | 4 => ((h ^^^ h / 8589934592#64) * 18397679294719823053#64 ^^^ (h ^^^ h / 8589934592#64) * 18397679294719823053#64 / 8589934592#64) * 14181476777654086739#64
  | _ => fmix64 h
theorem mid1 (h : BitVec 64) : midF h 0 ^^^ midF h 0 / 8589934592#64 = midF h 1 := rfl
theorem mid2 (h : BitVec 64) : midF h 1 * 18397679294719823053#64 = midF h 2 := rfl
theorem mid3 (h : BitVec 64) : midF h 2 ^^^ midF h 2 / 8589934592#64 = midF h 3 := rfl
theorem mid4 (h : BitVec 64) : midF h 3 * 14181476777654086739#64 = midF h 4 := rfl
theorem mid5 (h : BitVec 64) : midF h 4 ^^^ midF h 4 / 8589934592#64 = midF h 5 := rfl
theorem mid_all (h : BitVec 64) : midF h 5 = fmix64 h := rfl
set_option maxHeartbeats 1000000 in
theorem there_any (h : BitVec 64) (w : World) :
    Calls Try.prog 58 #[.agg #[.int .i64 33, .int .i64 33, .int .i64 33, .int .u64 18397679294719823053, .int .u64 14181476777654086739], .int .u64 (W64 h)] w (GivesNew (.int .u64 (W64 (fmix64 h))) w) := by
  have hm0 : MixAt (((w.alloc (.cells #[.int .i64 33, .int .i64 33, .int .i64 33, .int .u64 18397679294719823053, .int .u64 14181476777654086739] 83)).alloc (.cells #[.int .u64 (W64 h)] 25)).alloc (.cells #[.func (.func 60) #[] #[.pointer (some ⟨w.heap.size + 1, 0, none⟩), .pointer (some ⟨w.heap.size, 0, none⟩)], .func (.func 62) #[] #[.pointer (some ⟨w.heap.size + 1, 0, none⟩), .pointer (some ⟨w.heap.size, 0, none⟩)], .func (.func 63) #[] #[.pointer (some ⟨w.heap.size + 1, 0, none⟩), .pointer (some ⟨w.heap.size, 0, none⟩)], .func (.func 64) #[] #[.pointer (some ⟨w.heap.size + 1, 0, none⟩), .pointer (some ⟨w.heap.size, 0, none⟩)], .func (.func 65) #[] #[.pointer (some ⟨w.heap.size + 1, 0, none⟩), .pointer (some ⟨w.heap.size, 0, none⟩)]] 87)) w.heap.size := (((Fr.refl No _).alloc _).alloc _).heap (fun h => h) (heap_alloc_new w _)
  have hz0 : ZAt (((w.alloc (.cells #[.int .i64 33, .int .i64 33, .int .i64 33, .int .u64 18397679294719823053, .int .u64 14181476777654086739] 83)).alloc (.cells #[.int .u64 (W64 h)] 25)).alloc (.cells #[.func (.func 60) #[] #[.pointer (some ⟨w.heap.size + 1, 0, none⟩), .pointer (some ⟨w.heap.size, 0, none⟩)], .func (.func 62) #[] #[.pointer (some ⟨w.heap.size + 1, 0, none⟩), .pointer (some ⟨w.heap.size, 0, none⟩)], .func (.func 63) #[] #[.pointer (some ⟨w.heap.size + 1, 0, none⟩), .pointer (some ⟨w.heap.size, 0, none⟩)], .func (.func 64) #[] #[.pointer (some ⟨w.heap.size + 1, 0, none⟩), .pointer (some ⟨w.heap.size, 0, none⟩)], .func (.func 65) #[] #[.pointer (some ⟨w.heap.size + 1, 0, none⟩), .pointer (some ⟨w.heap.size, 0, none⟩)]] 87)) (w.heap.size + 1) (midF h 0) := ((Fr.refl No _).alloc _).heap (fun h => h) (heap_alloc2_new w _ _)
  have hF0 : Fr No w (((w.alloc (.cells #[.int .i64 33, .int .i64 33, .int .i64 33, .int .u64 18397679294719823053, .int .u64 14181476777654086739] 83)).alloc (.cells #[.int .u64 (W64 h)] 25)).alloc (.cells #[.func (.func 60) #[] #[.pointer (some ⟨w.heap.size + 1, 0, none⟩), .pointer (some ⟨w.heap.size, 0, none⟩)], .func (.func 62) #[] #[.pointer (some ⟨w.heap.size + 1, 0, none⟩), .pointer (some ⟨w.heap.size, 0, none⟩)], .func (.func 63) #[] #[.pointer (some ⟨w.heap.size + 1, 0, none⟩), .pointer (some ⟨w.heap.size, 0, none⟩)], .func (.func 64) #[] #[.pointer (some ⟨w.heap.size + 1, 0, none⟩), .pointer (some ⟨w.heap.size, 0, none⟩)], .func (.func 65) #[] #[.pointer (some ⟨w.heap.size + 1, 0, none⟩), .pointer (some ⟨w.heap.size, 0, none⟩)]] 87)) := (((Fr.refl No w).alloc _).alloc _).alloc _
  go_enter Try.func58, Try.ntmps58
  go_wp2
  go_loopw [15] (fun i wr => ∃ k : Nat, k ≤ 5 ∧ i = .int .i64 k ∧ ZAt wr (w.heap.size + 1) (midF h k) ∧ MixAt wr w.heap.size ∧ Fr No w wr) (fun i _ => 5 - (intOf i).toNat)
  case atStart => exact ⟨0, by omega, rfl, hz0, hm0, hF0⟩
  case round =>
    obtain ⟨k, hk, rfl, hz2, hm2, hf2⟩ := hrel
    clear hm0 hz0 hF0
    rcases (show k = 0 ∨ k = 1 ∨ k = 2 ∨ k = 3 ∨ k = 4 ∨ k = 5 by omega) with rfl | rfl | rfl | rfl | rfl | rfl
    · go_wp2_with fail
      refine (there_1 _ _ _ _ hm2 hz2 (by omega)).mono ?_
      rw [mid1]
      rintro e w9 ⟨rfl, hz3, hm3, hf3⟩
      go_wp2_with fail
      go_roundw
      case rel => exact ⟨1, by omega, rfl, hz3, hm3, hf2.trans hf3 (fun x hx => .inr (by omega))⟩
      case measure => simp [intOf]
    · go_wp2_with fail
      refine (there_2 _ _ _ _ hm2 hz2 (by omega)).mono ?_
      rw [mid2]
      rintro e w9 ⟨rfl, hz3, hm3, hf3⟩
      go_wp2_with fail
      go_roundw
      case rel => exact ⟨2, by omega, rfl, hz3, hm3, hf2.trans hf3 (fun x hx => .inr (by omega))⟩
      case measure => simp [intOf]
    · go_wp2_with fail
      refine (there_3 _ _ _ _ hm2 hz2 (by omega)).mono ?_
      rw [mid3]
      rintro e w9 ⟨rfl, hz3, hm3, hf3⟩
      go_wp2_with fail
      go_roundw
      case rel => exact ⟨3, by omega, rfl, hz3, hm3, hf2.trans hf3 (fun x hx => .inr (by omega))⟩
      case measure => simp [intOf]
    · go_wp2_with fail
      refine (there_4 _ _ _ _ hm2 hz2 (by omega)).mono ?_
      rw [mid4]
      rintro e w9 ⟨rfl, hz3, hm3, hf3⟩
      go_wp2_with fail
      go_roundw
      case rel => exact ⟨4, by omega, rfl, hz3, hm3, hf2.trans hf3 (fun x hx => .inr (by omega))⟩
      case measure => simp [intOf]
    · go_wp2_with fail
      refine (there_5 _ _ _ _ hm2 hz2 (by omega)).mono ?_
      rw [mid5]
      rintro e w9 ⟨rfl, hz3, hm3, hf3⟩
      go_wp2_with fail
      go_roundw
      case rel => exact ⟨5, by omega, rfl, hz3, hm3, hf2.trans hf3 (fun x hx => .inr (by omega))⟩
      case measure => simp [intOf]
    · rw [mid_all] at hz2
      have q1 : wr.cell? ⟨w.heap.size + 1, 0, none⟩ = some (.int .u64 (W64 (fmix64 h))) := by rw [cell_of_row wr _ 0 _ _ _ hz2]; rfl
      go_wp2_with fail
      go_ret
      exact ⟨rfl, hf2⟩
theorem fmix_any (w : World) : Calls Try.prog 57 #[] w (GivesNew (.agg #[.int .i64 33, .int .i64 33, .int .i64 33, .int .u64 18397679294719823053, .int .u64 14181476777654086739]) w) := by
  have hm0 : MixAt (w.alloc (.cells #[.int .i64 33, .int .i64 33, .int .i64 33, .int .u64 18397679294719823053, .int .u64 14181476777654086739] 83)) w.heap.size := heap_alloc_new w _
  have hF0 : Fr No w (w.alloc (.cells #[.int .i64 33, .int .i64 33, .int .i64 33, .int .u64 18397679294719823053, .int .u64 14181476777654086739] 83)) := (Fr.refl No w).alloc _
  go_enter Try.func57, Try.ntmps57
  go_wp2
  generalize w.alloc (.cells #[.int .i64 33, .int .i64 33, .int .i64 33, .int .u64 18397679294719823053, .int .u64 14181476777654086739] 83) = w3 at hm0 hF0 ⊢
  have cd0 : w3.cell? ⟨w.heap.size, 0, none⟩ = some (.int .i64 33) := by rw [cell_of_row w3 _ 0 _ _ _ hm0]; rfl
  have cd1 : w3.cell? ⟨w.heap.size, 1, none⟩ = some (.int .i64 33) := by rw [cell_of_row w3 _ 1 _ _ _ hm0]; rfl
  have cd2 : w3.cell? ⟨w.heap.size, 2, none⟩ = some (.int .i64 33) := by rw [cell_of_row w3 _ 2 _ _ _ hm0]; rfl
  have cd3 : w3.cell? ⟨w.heap.size, 3, none⟩ = some (.int .u64 18397679294719823053) := by rw [cell_of_row w3 _ 3 _ _ _ hm0]; rfl
  have cd4 : w3.cell? ⟨w.heap.size, 4, none⟩ = some (.int .u64 14181476777654086739) := by rw [cell_of_row w3 _ 4 _ _ _ hm0]; rfl
  exact bodyPost_ret (v := .agg #[.int .i64 33, .int .i64 33, .int .i64 33, .int .u64 18397679294719823053, .int .u64 14181476777654086739]) (by simp [results, Try.results57, go_sem, cd0, cd1, cd2, cd3, cd4]) rfl ⟨rfl, hF0⟩
theorem Fmix64_any (h : BitVec 64) (w : World) : Calls Try.prog 49 #[.int .u64 (W64 h)] w (GivesNew (.int .u64 (W64 (fmix64 h))) w) := by
  go_enter Try.func49, Try.ntmps49
  go_wp2_with fail
  refine (fmix_any _).mono ?_
  rintro e w1 ⟨rfl, hf1⟩
  go_wp2_with fail
  refine (there_any _ _).mono ?_
  rintro e w2 ⟨rfl, hf2⟩
  go_wp2_with fail
  go_ret
  exact ⟨rfl, hf1.no hf2⟩
end Go.Proofs.Ytdemhnkkohnflad
