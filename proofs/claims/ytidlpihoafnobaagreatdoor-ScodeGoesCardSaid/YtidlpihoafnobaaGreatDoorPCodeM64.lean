/- Mix64 CodeM64 -/
import Derived.Test.YtidlpihoafnobaaGreatDoorPSealErr
set_option linter.unusedVariables false
set_option linter.unusedSimpArgs false
namespace Go.Proofs.YtidlpihoafnobaaGreatDoor
set_option maxRecDepth 100000
open Go.RowKit
theorem refFmix64_any (h : BitVec 64) (w : World) :
 Calls Tryz.prog 67 #[.int .u64 (W64 h)] w (Gives (.int .u64 (W64 (fmix64 h))) w) := by
 go_enter Tryz.func67, Tryz.ntmps67
 go_wp2_with fail
 refine (refFold7_any _ 33 33 _ rfl (by omega) (by omega)).mono ?_
 rw [shr33]
 rintro e w' ⟨rfl, rfl⟩
 go_wp2_with fail
 refine (refFold7_any _ 33 33 _ rfl (by omega) (by omega)).mono ?_
 rw [shr33]
 rintro e w' ⟨rfl, rfl⟩
 go_wp2_with fail
 refine (refFold7_any _ 33 33 _ rfl (by omega) (by omega)).mono ?_
 rw [shr33]
 rintro e w' ⟨rfl, rfl⟩
 go_wp2_with fail
 rw [fmix64_def]
 go_ret
 exact ⟨rfl, rfl⟩
theorem Fold7_any (z : BitVec 64) (w : World) :
 Calls Tryz.prog 246 #[.int .u64 (W64 z), .int .i64 33] w (Gives (.int .u64 (W64 (z ^^^ z / 8589934592#64))) w) := by
 go_enter Tryz.func246, Tryz.ntmps246
 go_wp2
 go_ret
 exact ⟨rfl, rfl⟩
def MixAt (w : World) (mb : Nat) : Prop := w.heap[mb]? = some (.cells #[.int .i64 33, .int .i64 33, .int .i64 33, .int .u64 18397679294719823053, .int .u64 14181476777654086739] 285 (0, 0))
def ZAt (w : World) (zb : Nat) (z : BitVec 64) : Prop := w.heap[zb]? = some (.cells #[.int .u64 (W64 z)] 28 (0, 0))
def Steps5 (w : World) (mb zb : Nat) (z : BitVec 64) (e : Ending) (w' : World) : Prop := e = .returned (.tuple #[]) ∧ ZAt w' zb z ∧ MixAt w' mb ∧ Fr (fun x => x = zb) w w'
theorem there_1 (mb zb : Nat) (z : BitVec 64) (w : World) (hm : MixAt w mb) (hz : ZAt w zb z) (hne : ¬ mb = zb) :
 Calls Tryz.prog 245 #[.pointer (some ⟨zb, 0, none⟩), .pointer (some ⟨mb, 0, none⟩)] w (Steps5 w mb zb (z ^^^ z / 8589934592#64)) := by
 have q0 : w.cell? ⟨mb, 0, none⟩ = some (.int .i64 33) := by rw [cell_of_row w mb 0 _ _ _ hm]; rfl
 have q1 : w.cell? ⟨zb, 0, none⟩ = some (.int .u64 (W64 z)) := by rw [cell_of_row w zb 0 _ _ _ hz]; rfl
 have q2 := frozen_of_row w zb 0 _ _ hz
 go_enter Tryz.func245, Tryz.ntmps245
 go_wp2_with fail
 refine (Fold7_any _ _).mono ?_
 rintro e w' ⟨rfl, rfl⟩
 go_wp2_with fail
 go_end0
 have hf := (Fr.refl (fun x => x = zb) w).setCell (p := ⟨zb, 0, none⟩) (.inl rfl) (.int .u64 (W64 (z ^^^ z / 8589934592#64)))
 exact ⟨rfl, by unfold ZAt; rw [heap_setCell_same w zb 0 _ _ _ hz]; rfl, hf.heap hne hm, hf⟩
theorem there_2 (mb zb : Nat) (z : BitVec 64) (w : World) (hm : MixAt w mb) (hz : ZAt w zb z) (hne : ¬ mb = zb) :
 Calls Tryz.prog 247 #[.pointer (some ⟨zb, 0, none⟩), .pointer (some ⟨mb, 0, none⟩)] w (Steps5 w mb zb (z * 18397679294719823053#64)) := by
 have q0 : w.cell? ⟨mb, 3, none⟩ = some (.int .u64 18397679294719823053) := by rw [cell_of_row w mb 3 _ _ _ hm]; rfl
 have q1 : w.cell? ⟨zb, 0, none⟩ = some (.int .u64 (W64 z)) := by rw [cell_of_row w zb 0 _ _ _ hz]; rfl
 have q2 := frozen_of_row w zb 0 _ _ hz
 go_enter Tryz.func247, Tryz.ntmps247
 go_wp2_with fail
 go_end0
 have hf := (Fr.refl (fun x => x = zb) w).setCell (p := ⟨zb, 0, none⟩) (.inl rfl) (.int .u64 (W64 (z * 18397679294719823053#64)))
 exact ⟨rfl, by unfold ZAt; rw [heap_setCell_same w zb 0 _ _ _ hz]; rfl, hf.heap hne hm, hf⟩
theorem there_3 (mb zb : Nat) (z : BitVec 64) (w : World) (hm : MixAt w mb) (hz : ZAt w zb z) (hne : ¬ mb = zb) :
 Calls Tryz.prog 248 #[.pointer (some ⟨zb, 0, none⟩), .pointer (some ⟨mb, 0, none⟩)] w (Steps5 w mb zb (z ^^^ z / 8589934592#64)) := by
 have q0 : w.cell? ⟨mb, 1, none⟩ = some (.int .i64 33) := by rw [cell_of_row w mb 1 _ _ _ hm]; rfl
 have q1 : w.cell? ⟨zb, 0, none⟩ = some (.int .u64 (W64 z)) := by rw [cell_of_row w zb 0 _ _ _ hz]; rfl
 have q2 := frozen_of_row w zb 0 _ _ hz
 go_enter Tryz.func248, Tryz.ntmps248
 go_wp2_with fail
 refine (Fold7_any _ _).mono ?_
 rintro e w' ⟨rfl, rfl⟩
 go_wp2_with fail
 go_end0
 have hf := (Fr.refl (fun x => x = zb) w).setCell (p := ⟨zb, 0, none⟩) (.inl rfl) (.int .u64 (W64 (z ^^^ z / 8589934592#64)))
 exact ⟨rfl, by unfold ZAt; rw [heap_setCell_same w zb 0 _ _ _ hz]; rfl, hf.heap hne hm, hf⟩
theorem there_4 (mb zb : Nat) (z : BitVec 64) (w : World) (hm : MixAt w mb) (hz : ZAt w zb z) (hne : ¬ mb = zb) :
 Calls Tryz.prog 249 #[.pointer (some ⟨zb, 0, none⟩), .pointer (some ⟨mb, 0, none⟩)] w (Steps5 w mb zb (z * 14181476777654086739#64)) := by
 have q0 : w.cell? ⟨mb, 4, none⟩ = some (.int .u64 14181476777654086739) := by rw [cell_of_row w mb 4 _ _ _ hm]; rfl
 have q1 : w.cell? ⟨zb, 0, none⟩ = some (.int .u64 (W64 z)) := by rw [cell_of_row w zb 0 _ _ _ hz]; rfl
 have q2 := frozen_of_row w zb 0 _ _ hz
 go_enter Tryz.func249, Tryz.ntmps249
 go_wp2_with fail
 go_end0
 have hf := (Fr.refl (fun x => x = zb) w).setCell (p := ⟨zb, 0, none⟩) (.inl rfl) (.int .u64 (W64 (z * 14181476777654086739#64)))
 exact ⟨rfl, by unfold ZAt; rw [heap_setCell_same w zb 0 _ _ _ hz]; rfl, hf.heap hne hm, hf⟩
theorem there_5 (mb zb : Nat) (z : BitVec 64) (w : World) (hm : MixAt w mb) (hz : ZAt w zb z) (hne : ¬ mb = zb) :
 Calls Tryz.prog 250 #[.pointer (some ⟨zb, 0, none⟩), .pointer (some ⟨mb, 0, none⟩)] w (Steps5 w mb zb (z ^^^ z / 8589934592#64)) := by
 have q0 : w.cell? ⟨mb, 2, none⟩ = some (.int .i64 33) := by rw [cell_of_row w mb 2 _ _ _ hm]; rfl
 have q1 : w.cell? ⟨zb, 0, none⟩ = some (.int .u64 (W64 z)) := by rw [cell_of_row w zb 0 _ _ _ hz]; rfl
 have q2 := frozen_of_row w zb 0 _ _ hz
 go_enter Tryz.func250, Tryz.ntmps250
 go_wp2_with fail
 refine (Fold7_any _ _).mono ?_
 rintro e w' ⟨rfl, rfl⟩
 go_wp2_with fail
 go_end0
 have hf := (Fr.refl (fun x => x = zb) w).setCell (p := ⟨zb, 0, none⟩) (.inl rfl) (.int .u64 (W64 (z ^^^ z / 8589934592#64)))
 exact ⟨rfl, by unfold ZAt; rw [heap_setCell_same w zb 0 _ _ _ hz]; rfl, hf.heap hne hm, hf⟩
@[go_sem] theorem run_store_fv5 (k : Nat) (x y : Array Value) (w : World) (a : Addr) (md : Mode) : (store a (.func (.func k) x y) md).run Tryz.prog w = stored Tryz.prog w a (.func (.func k) x y) md := run_store Tryz.prog w a _ md rfl
@[go_sem] theorem index5_0 (v0 v1 v2 v3 v4 : Value) (w : World) : (Instr.index 293 (.agg #[v0, v1, v2, v3, v4]) (.int .i64 0)).run Tryz.prog w = .ok v0 w := by simp [Instr.index, run_underlying Tryz.underlying293, asIntOf, go_sem]
@[go_sem] theorem index5_1 (v0 v1 v2 v3 v4 : Value) (w : World) : (Instr.index 293 (.agg #[v0, v1, v2, v3, v4]) (.int .i64 1)).run Tryz.prog w = .ok v1 w := by simp [Instr.index, run_underlying Tryz.underlying293, asIntOf, go_sem]
@[go_sem] theorem index5_2 (v0 v1 v2 v3 v4 : Value) (w : World) : (Instr.index 293 (.agg #[v0, v1, v2, v3, v4]) (.int .i64 2)).run Tryz.prog w = .ok v2 w := by simp [Instr.index, run_underlying Tryz.underlying293, asIntOf, go_sem]
@[go_sem] theorem index5_3 (v0 v1 v2 v3 v4 : Value) (w : World) : (Instr.index 293 (.agg #[v0, v1, v2, v3, v4]) (.int .i64 3)).run Tryz.prog w = .ok v3 w := by simp [Instr.index, run_underlying Tryz.underlying293, asIntOf, go_sem]
@[go_sem] theorem index5_4 (v0 v1 v2 v3 v4 : Value) (w : World) : (Instr.index 293 (.agg #[v0, v1, v2, v3, v4]) (.int .i64 4)).run Tryz.prog w = .ok v4 w := by simp [Instr.index, run_underlying Tryz.underlying293, asIntOf, go_sem]
def midF (h : BitVec 64) : Nat → BitVec 64
 | 0 => h
 | 1 => h ^^^ h / 8589934592#64
 | 2 => (h ^^^ h / 8589934592#64) * 18397679294719823053#64
 | 3 => (h ^^^ h / 8589934592#64) * 18397679294719823053#64 ^^^ (h ^^^ h / 8589934592#64) * 18397679294719823053#64 / 8589934592#64
 | 4 => ((h ^^^ h / 8589934592#64) * 18397679294719823053#64 ^^^ (h ^^^ h / 8589934592#64) * 18397679294719823053#64 / 8589934592#64) * 14181476777654086739#64
 | _ => fmix64 h
theorem mid1 (h : BitVec 64) : midF h 0 ^^^ midF h 0 / 8589934592#64 = midF h 1 := rfl
theorem mid2 (h : BitVec 64) : midF h 1 * 18397679294719823053#64 = midF h 2 := rfl
theorem mid3 (h : BitVec 64) : midF h 2 ^^^ midF h 2 / 8589934592#64 = midF h 3 := rfl
theorem mid4 (h : BitVec 64) : midF h 3 * 14181476777654086739#64 = midF h 4 := rfl
theorem mid5 (h : BitVec 64) : midF h 4 ^^^ midF h 4 / 8589934592#64 = midF h 5 := rfl
theorem mid_all (h : BitVec 64) : midF h 5 = fmix64 h := rfl
set_option maxHeartbeats 1000000 in
theorem there_any (h : BitVec 64) (w : World) :
 Calls Tryz.prog 235 #[.agg #[.int .i64 33, .int .i64 33, .int .i64 33, .int .u64 18397679294719823053, .int .u64 14181476777654086739], .int .u64 (W64 h)] w (GivesNew (.int .u64 (W64 (fmix64 h))) w) := by
 have hm0 : MixAt (((w.alloc (.cells #[.int .i64 33, .int .i64 33, .int .i64 33, .int .u64 18397679294719823053, .int .u64 14181476777654086739] 285)).alloc (.cells #[.int .u64 (W64 h)] 28)).alloc (.cells #[.func (.func 245) #[] #[.pointer (some ⟨w.heap.size + 1, 0, none⟩), .pointer (some ⟨w.heap.size, 0, none⟩)], .func (.func 247) #[] #[.pointer (some ⟨w.heap.size + 1, 0, none⟩), .pointer (some ⟨w.heap.size, 0, none⟩)], .func (.func 248) #[] #[.pointer (some ⟨w.heap.size + 1, 0, none⟩), .pointer (some ⟨w.heap.size, 0, none⟩)], .func (.func 249) #[] #[.pointer (some ⟨w.heap.size + 1, 0, none⟩), .pointer (some ⟨w.heap.size, 0, none⟩)], .func (.func 250) #[] #[.pointer (some ⟨w.heap.size + 1, 0, none⟩), .pointer (some ⟨w.heap.size, 0, none⟩)]] 293)) w.heap.size := (((Fr.refl No _).alloc _).alloc _).heap (fun h => h) (heap_alloc_new w _)
 have hz0 : ZAt (((w.alloc (.cells #[.int .i64 33, .int .i64 33, .int .i64 33, .int .u64 18397679294719823053, .int .u64 14181476777654086739] 285)).alloc (.cells #[.int .u64 (W64 h)] 28)).alloc (.cells #[.func (.func 245) #[] #[.pointer (some ⟨w.heap.size + 1, 0, none⟩), .pointer (some ⟨w.heap.size, 0, none⟩)], .func (.func 247) #[] #[.pointer (some ⟨w.heap.size + 1, 0, none⟩), .pointer (some ⟨w.heap.size, 0, none⟩)], .func (.func 248) #[] #[.pointer (some ⟨w.heap.size + 1, 0, none⟩), .pointer (some ⟨w.heap.size, 0, none⟩)], .func (.func 249) #[] #[.pointer (some ⟨w.heap.size + 1, 0, none⟩), .pointer (some ⟨w.heap.size, 0, none⟩)], .func (.func 250) #[] #[.pointer (some ⟨w.heap.size + 1, 0, none⟩), .pointer (some ⟨w.heap.size, 0, none⟩)]] 293)) (w.heap.size + 1) (midF h 0) := ((Fr.refl No _).alloc _).heap (fun h => h) (heap_alloc2_new w _ _)
 have hF0 : Fr No w (((w.alloc (.cells #[.int .i64 33, .int .i64 33, .int .i64 33, .int .u64 18397679294719823053, .int .u64 14181476777654086739] 285)).alloc (.cells #[.int .u64 (W64 h)] 28)).alloc (.cells #[.func (.func 245) #[] #[.pointer (some ⟨w.heap.size + 1, 0, none⟩), .pointer (some ⟨w.heap.size, 0, none⟩)], .func (.func 247) #[] #[.pointer (some ⟨w.heap.size + 1, 0, none⟩), .pointer (some ⟨w.heap.size, 0, none⟩)], .func (.func 248) #[] #[.pointer (some ⟨w.heap.size + 1, 0, none⟩), .pointer (some ⟨w.heap.size, 0, none⟩)], .func (.func 249) #[] #[.pointer (some ⟨w.heap.size + 1, 0, none⟩), .pointer (some ⟨w.heap.size, 0, none⟩)], .func (.func 250) #[] #[.pointer (some ⟨w.heap.size + 1, 0, none⟩), .pointer (some ⟨w.heap.size, 0, none⟩)]] 293)) := (((Fr.refl No w).alloc _).alloc _).alloc _
 go_enter Tryz.func235, Tryz.ntmps235
 go_wp2
 go_loopw [15] (fun i wr => ∃ k : Nat, k ≤ 5 ∧ i = .int .i64 k ∧ ZAt wr (w.heap.size + 1) (midF h k) ∧ MixAt wr w.heap.size ∧ Fr No w wr) (fun i _ => 5 - (intOf i).toNat)
 case atStart => exact ⟨0, by omega, rfl, hz0, hm0, hF0⟩
 case round =>
  obtain ⟨k, hk, rfl, hz2, hm2, hf2⟩ := hrel
  clear hm0 hz0 hF0
  rcases (show k = 0 ∨ k = 1 ∨ k = 2 ∨ k = 3 ∨ k = 4 ∨ k = 5 by omega) with rfl | rfl | rfl | rfl | rfl | rfl
  · go_wp2_with fail
    refine (there_1 _ _ _ _ hm2 hz2 (by omega)).mono ?_
    rw [mid1]
    rintro e w9 ⟨rfl, hz3, hm3, hf3⟩
    go_wp2_with fail
    go_roundw
    case rel => exact ⟨1, by omega, rfl, hz3, hm3, hf2.trans hf3 (fun x hx => .inr (by omega))⟩
    case measure => simp [intOf]
  · go_wp2_with fail
    refine (there_2 _ _ _ _ hm2 hz2 (by omega)).mono ?_
    rw [mid2]
    rintro e w9 ⟨rfl, hz3, hm3, hf3⟩
    go_wp2_with fail
    go_roundw
    case rel => exact ⟨2, by omega, rfl, hz3, hm3, hf2.trans hf3 (fun x hx => .inr (by omega))⟩
    case measure => simp [intOf]
  · go_wp2_with fail
    refine (there_3 _ _ _ _ hm2 hz2 (by omega)).mono ?_
    rw [mid3]
    rintro e w9 ⟨rfl, hz3, hm3, hf3⟩
    go_wp2_with fail
    go_roundw
    case rel => exact ⟨3, by omega, rfl, hz3, hm3, hf2.trans hf3 (fun x hx => .inr (by omega))⟩
    case measure => simp [intOf]
  · go_wp2_with fail
    refine (there_4 _ _ _ _ hm2 hz2 (by omega)).mono ?_
    rw [mid4]
    rintro e w9 ⟨rfl, hz3, hm3, hf3⟩
    go_wp2_with fail
    go_roundw
    case rel => exact ⟨4, by omega, rfl, hz3, hm3, hf2.trans hf3 (fun x hx => .inr (by omega))⟩
    case measure => simp [intOf]
  · go_wp2_with fail
    refine (there_5 _ _ _ _ hm2 hz2 (by omega)).mono ?_
    rw [mid5]
    rintro e w9 ⟨rfl, hz3, hm3, hf3⟩
    go_wp2_with fail
    go_roundw
    case rel => exact ⟨5, by omega, rfl, hz3, hm3, hf2.trans hf3 (fun x hx => .inr (by omega))⟩
    case measure => simp [intOf]
  · rw [mid_all] at hz2
    have q1 : wr.cell? ⟨w.heap.size + 1, 0, none⟩ = some (.int .u64 (W64 (fmix64 h))) := by rw [cell_of_row wr _ 0 _ _ _ hz2]; rfl
    go_wp2_with fail
    go_ret
    exact ⟨rfl, hf2⟩
theorem fmix_any (w : World) : Calls Tryz.prog 234 #[] w (GivesNew (.agg #[.int .i64 33, .int .i64 33, .int .i64 33, .int .u64 18397679294719823053, .int .u64 14181476777654086739]) w) := by
 have hm0 : MixAt (w.alloc (.cells #[.int .i64 33, .int .i64 33, .int .i64 33, .int .u64 18397679294719823053, .int .u64 14181476777654086739] 285)) w.heap.size := heap_alloc_new w _
 have hF0 : Fr No w (w.alloc (.cells #[.int .i64 33, .int .i64 33, .int .i64 33, .int .u64 18397679294719823053, .int .u64 14181476777654086739] 285)) := (Fr.refl No w).alloc _
 go_enter Tryz.func234, Tryz.ntmps234
 go_wp2
 generalize w.alloc (.cells #[.int .i64 33, .int .i64 33, .int .i64 33, .int .u64 18397679294719823053, .int .u64 14181476777654086739] 285) = w3 at hm0 hF0 ⊢
 have cd0 : w3.cell? ⟨w.heap.size, 0, none⟩ = some (.int .i64 33) := by rw [cell_of_row w3 _ 0 _ _ _ hm0]; rfl
 have cd1 : w3.cell? ⟨w.heap.size, 1, none⟩ = some (.int .i64 33) := by rw [cell_of_row w3 _ 1 _ _ _ hm0]; rfl
 have cd2 : w3.cell? ⟨w.heap.size, 2, none⟩ = some (.int .i64 33) := by rw [cell_of_row w3 _ 2 _ _ _ hm0]; rfl
 have cd3 : w3.cell? ⟨w.heap.size, 3, none⟩ = some (.int .u64 18397679294719823053) := by rw [cell_of_row w3 _ 3 _ _ _ hm0]; rfl
 have cd4 : w3.cell? ⟨w.heap.size, 4, none⟩ = some (.int .u64 14181476777654086739) := by rw [cell_of_row w3 _ 4 _ _ _ hm0]; rfl
 exact bodyPost_ret (v := .agg #[.int .i64 33, .int .i64 33, .int .i64 33, .int .u64 18397679294719823053, .int .u64 14181476777654086739]) (by simp [results, Tryz.results234, go_sem, cd0, cd1, cd2, cd3, cd4]) rfl ⟨rfl, hF0⟩
theorem Fmix64_any (h : BitVec 64) (w : World) : Calls Tryz.prog 205 #[.int .u64 (W64 h)] w (GivesNew (.int .u64 (W64 (fmix64 h))) w) := by
 go_enter Tryz.func205, Tryz.ntmps205
 go_wp2_with fail
 refine (fmix_any _).mono ?_
 rintro e w1 ⟨rfl, hf1⟩
 go_wp2_with fail
 refine (there_any _ _).mono ?_
 rintro e w2 ⟨rfl, hf2⟩
 go_wp2_with fail
 go_ret
 exact ⟨rfl, hf1.no hf2⟩
end Go.Proofs.YtidlpihoafnobaaGreatDoor
namespace Go.Proofs.YtidlpihoafnobaaGreatDoor.StM64
set_option maxRecDepth 100000
open Go.RowKit
theorem cS0 (s : ST) : cS s 0 = .int .u64 (W64 s.1) := rfl
theorem cS1 (s : ST) : cS s 1 = .int .u64 (W64 s.2) := rfl
def lanesV (s : ST) : Value := .agg #[.int .u64 (W64 s.1), .int .u64 (W64 s.2), .int .u64 0, .int .u64 0]
theorem ofA_any (k : BitVec 64) (w : World) : Calls Tryz.prog 232 #[.agg #[.int .u64 9782798678568883157, .int .i64 31, .int .u64 5545529020109919103], .int .u64 (W64 k)] w (GivesNew (.int .u64 (W64 (wordA k))) w) := by
 have hF1 : Fr No w (w.alloc (.cells #[.int .u64 9782798678568883157, .int .i64 31, .int .u64 5545529020109919103] 282)) := (Fr.refl No w).alloc _
 have hH : (w.alloc (.cells #[.int .u64 9782798678568883157, .int .i64 31, .int .u64 5545529020109919103] 282)).heap[w.heap.size]? = some (.cells #[.int .u64 9782798678568883157, .int .i64 31, .int .u64 5545529020109919103] 282 (0, 0)) := heap_alloc_new w _
 have cq0 : (w.alloc (.cells #[.int .u64 9782798678568883157, .int .i64 31, .int .u64 5545529020109919103] 282)).cell? ⟨w.heap.size, 0, none⟩ = some (.int .u64 9782798678568883157) := by rw [cell_of_row _ _ 0 _ _ _ hH]; rfl
 have cq1 : (w.alloc (.cells #[.int .u64 9782798678568883157, .int .i64 31, .int .u64 5545529020109919103] 282)).cell? ⟨w.heap.size, 1, none⟩ = some (.int .i64 31) := by rw [cell_of_row _ _ 1 _ _ _ hH]; rfl
 have cq2 : (w.alloc (.cells #[.int .u64 9782798678568883157, .int .i64 31, .int .u64 5545529020109919103] 282)).cell? ⟨w.heap.size, 2, none⟩ = some (.int .u64 5545529020109919103) := by rw [cell_of_row _ _ 2 _ _ _ hH]; rfl
 clear hH
 go_enter Tryz.func232, Tryz.ntmps232
 go_wp2_with fail
 generalize w.heap.size = pb at cq0 cq1 cq2 ⊢
 generalize w.alloc (.cells #[.int .u64 9782798678568883157, .int .i64 31, .int .u64 5545529020109919103] 282) = w1 at hF1 cq0 cq1 cq2 ⊢
 refine rsq (by kernel_rfl) [(0, 1), (1, 1), (2, 1), (3, 1), (4, 1), (5, 1), (7, 1), (8, 1), (6, 0), (9, 1), (10, 1)] (by kernel_rfl) ?_
 have hv0 : Fr No w1 w1.drew := (Fr.refl No w1).drew
 iterate 8 refine tq _ rfl rfl (by intro w9 h9; have q0 := h9.cell (fun h => h) cq0; have q1 := h9.cell (fun h => h) cq1; have q2 := h9.cell (fun h => h) cq2; clear h9; go_simp; try with_reducible rfl) ?_; simp only [es1, es2, es3]
 refine wpSeq_next rfl rfl (fun K hK => ?_)
 go_wp2_with fail
 refine (Rot64_any _ 31 _).mono ?_
 rintro e w' ⟨rfl, rfl⟩
 refine hK.out _ _ (fun _ => hv0) ?_
 clear hK K
 iterate 2 refine tp _ rfl rfl ?_; simp only [es1, es2, es3]
 refine wpSeq_done ?_
 go_wp2_with fail
 rw [wordA_def]
 go_ret
 exact ⟨rfl, hF1.no hv0⟩
theorem ofB_any (k : BitVec 64) (w : World) : Calls Tryz.prog 232 #[.agg #[.int .u64 5545529020109919103, .int .i64 33, .int .u64 9782798678568883157], .int .u64 (W64 k)] w (GivesNew (.int .u64 (W64 (wordB k))) w) := by
 have hF1 : Fr No w (w.alloc (.cells #[.int .u64 5545529020109919103, .int .i64 33, .int .u64 9782798678568883157] 282)) := (Fr.refl No w).alloc _
 have hH : (w.alloc (.cells #[.int .u64 5545529020109919103, .int .i64 33, .int .u64 9782798678568883157] 282)).heap[w.heap.size]? = some (.cells #[.int .u64 5545529020109919103, .int .i64 33, .int .u64 9782798678568883157] 282 (0, 0)) := heap_alloc_new w _
 have cq0 : (w.alloc (.cells #[.int .u64 5545529020109919103, .int .i64 33, .int .u64 9782798678568883157] 282)).cell? ⟨w.heap.size, 0, none⟩ = some (.int .u64 5545529020109919103) := by rw [cell_of_row _ _ 0 _ _ _ hH]; rfl
 have cq1 : (w.alloc (.cells #[.int .u64 5545529020109919103, .int .i64 33, .int .u64 9782798678568883157] 282)).cell? ⟨w.heap.size, 1, none⟩ = some (.int .i64 33) := by rw [cell_of_row _ _ 1 _ _ _ hH]; rfl
 have cq2 : (w.alloc (.cells #[.int .u64 5545529020109919103, .int .i64 33, .int .u64 9782798678568883157] 282)).cell? ⟨w.heap.size, 2, none⟩ = some (.int .u64 9782798678568883157) := by rw [cell_of_row _ _ 2 _ _ _ hH]; rfl
 clear hH
 go_enter Tryz.func232, Tryz.ntmps232
 go_wp2_with fail
 generalize w.heap.size = pb at cq0 cq1 cq2 ⊢
 generalize w.alloc (.cells #[.int .u64 5545529020109919103, .int .i64 33, .int .u64 9782798678568883157] 282) = w1 at hF1 cq0 cq1 cq2 ⊢
 refine rsq (by kernel_rfl) [(0, 1), (1, 1), (2, 1), (3, 1), (4, 1), (5, 1), (7, 1), (8, 1), (6, 0), (9, 1), (10, 1)] (by kernel_rfl) ?_
 have hv0 : Fr No w1 w1.drew := (Fr.refl No w1).drew
 iterate 8 refine tq _ rfl rfl (by intro w9 h9; have q0 := h9.cell (fun h => h) cq0; have q1 := h9.cell (fun h => h) cq1; have q2 := h9.cell (fun h => h) cq2; clear h9; go_simp; try with_reducible rfl) ?_; simp only [es1, es2, es3]
 refine wpSeq_next rfl rfl (fun K hK => ?_)
 go_wp2_with fail
 refine (Rot64_any _ 33 _).mono ?_
 rintro e w' ⟨rfl, rfl⟩
 refine hK.out _ _ (fun _ => hv0) ?_
 clear hK K
 iterate 2 refine tp _ rfl rfl ?_; simp only [es1, es2, es3]
 refine wpSeq_done ?_
 go_wp2_with fail
 rw [wordB_def]
 go_ret
 exact ⟨rfl, hF1.no hv0⟩
theorem mixA_def (s : ST) (l : Bytes) : s.1 ^^^ wordA (num8 l 0) = mixA s l := rfl
theorem mixB_def (s : ST) (l : Bytes) : s.2 ^^^ wordB (num8 l 8) = mixB s l := rfl
set_option maxHeartbeats 1000000 in
theorem mixed_long (s : ST) (a : Option Addr) (n c : Nat) (l : Bytes) (w : World) (hb : IsBytes w a n c l) (h8 : 8 < n) :
 Calls Tryz.prog 202 #[.agg #[.int .u64 (W64 (s.1)), .int .u64 (W64 (s.2))], .slice a n c] w (GivesNew (.agg #[.int .u64 (W64 (mixA s l)), .int .u64 (W64 (mixB s l))]) w) := by
 have hF1 : Fr No w ((w.alloc (.cells #[.int .u64 (W64 (s.1)), .int .u64 (W64 (s.2))] 208)).alloc (.cells #[.int .u64 0, .int .u64 0] 208)) := ((Fr.refl No w).alloc _).alloc _
 have hR : Row2 ((w.alloc (.cells #[.int .u64 (W64 (s.1)), .int .u64 (W64 (s.2))] 208)).alloc (.cells #[.int .u64 0, .int .u64 0] 208)) w.heap.size 208 (.int .u64 (W64 (s.1))) (.int .u64 (W64 (s.2))) := (row2_new w 208 _ _).no ((Fr.refl No _).alloc _)
 have hT : Row2 ((w.alloc (.cells #[.int .u64 (W64 (s.1)), .int .u64 (W64 (s.2))] 208)).alloc (.cells #[.int .u64 0, .int .u64 0] 208)) (w.heap.size + 1) 208 (.int .u64 0) (.int .u64 0) := heap_alloc2_new w _ _
 have hb1 := hb.no hF1
 go_enter Tryz.func202, Tryz.ntmps202
 go_wp2_with fail
 obtain ⟨pb, hpb⟩ : ∃ pb, pb = w.heap.size := ⟨_, rfl⟩
 have hpw : w.heap.size ≤ pb := by omega
 rw [← hpb] at hR hT ⊢
 clear hpb
 generalize (w.alloc (.cells #[.int .u64 (W64 (s.1)), .int .u64 (W64 (s.2))] 208)).alloc (.cells #[.int .u64 0, .int .u64 0] 208) = w1 at hF1 hR hT hb1 ⊢
 refine wp_region_seq (by kernel_rfl) (fun w' => Fr No w1 w') (fun i => decide (8 ≤ i)) [(0, 1), (1, 1), (2, 1), (3, 1), (4, 0), (5, 0), (6, 1), (7, 1), (8, 0)] (by kernel_rfl) (Fr.refl No w1).drew ?_
 have hv0 : Fr No w1 w1.drew := (Fr.refl No w1).drew
 iterate 4 refine tq _ rfl rfl (by intro w9 h9; have q0 := (hR.no h9).c0; have q1 := (hR.no h9).c1; clear h9; go_simp; try with_reducible rfl) ?_; simp only [es1, es2, es3]
 refine wpSeq_next rfl rfl (fun K hK => ?_)
 go_wp2_with fail
 refine (Go.Proofs.YtidlpihoafnobaaGreatDoor.Tail_any _ _ _ l _ (hb1.no hv0)).mono ?_
 rintro e w' ⟨rfl, rfl⟩
 rw [num8_zero]
 refine hK.out _ _ (fun _ => hv0) ?_
 clear hK K
 refine wpSeq_next rfl rfl (fun K hK => ?_)
 go_wp2_with fail
 refine (ofA_any _ _).mono ?_
 rintro e xhv1 ⟨rfl, hx⟩
 have hv1 := hv0.no hx
 clear hx
 refine hK.out _ _ (fun _ => hv1) ?_
 clear hK K
 iterate 2 refine tp _ rfl rfl ?_; simp only [es1, es2, es3]
 have hRx := hR.no hv1
 have cx := hRx.c0
 have fx := hRx.fz 0
 refine wpSeq_next rfl rfl (fun K hK => ?_)
 go_wp2_with fail
 refine hK.out _ _ (fun h => by simp at h) ?_
 clear hK K
 refine wpSeq_done ?_
 have hRb : Row2 xhv1 pb 208 (.int .u64 (W64 (s.1))) (.int .u64 (W64 (s.2))) := hRx
 have hT1 := hT.no hv1
 have hF2 := hF1.no hv1
 have hb2 := hb1.no hv1
 clear hRx cx fx hR hT hF1 hb1 hv0 hv1
 generalize xhv1 = w2 at hRb hT1 hF2 hb2 ⊢
 have hRc := hRb.put0 (.int .u64 (W64 (mixA s l)))
 have hfc := fr_put1 w2 pb 0 (.int .u64 (W64 (mixA s l)))
 rw [mixA_def]
 have hF3 := hF2.trans hfc (fun x hx => .inr (by omega))
 have hb3 := hb.no hF3
 have hT2 := hT1.fr hfc (by omega)
 generalize w2.setCell ⟨pb, 0, none⟩ (.int .u64 (W64 (mixA s l))) = w3 at hRc hfc hF3 hb3 hT2 ⊢
 clear hRb hT1 hF2 hb2 hfc
 have i1 : (8 : Int) < (n : Int) := by omega
 have i3 : (8 : Int) ≤ (n : Int) := by omega
 have i2 : (8 : Int) ≤ (c : Int) := by have := hb3.2.1; omega
 have hc2 : c ≤ 9223372036854775807 := hb3.2.2.1
 have hnc : n ≤ c := hb3.2.1
 have hc1 := hb3.cut_to_end 8 (n' := n - 8) (c' := c - 8) (by omega) rfl rfl
 go_wp2_with fail
 refine wp_region_seq (by kernel_rfl) (fun w' => Fr No w3 w') (fun i => decide (9 ≤ i)) [(0, 1), (1, 1), (2, 1), (3, 1), (4, 1), (5, 0), (6, 0), (7, 1), (8, 1), (9, 0)] (by kernel_rfl) (Fr.refl No w3).drew ?_
 have hv0 : Fr No w3 w3.drew := (Fr.refl No w3).drew
 iterate 5 refine tq _ rfl rfl (by intro w9 h9; have q0 := (hRc.no h9).c0; have q1 := (hRc.no h9).c1; clear h9; go_simp; try with_reducible rfl) ?_; simp only [es1, es2, es3]
 refine wpSeq_next rfl rfl (fun K hK => ?_)
 go_wp2_with fail
 refine (Go.Proofs.YtidlpihoafnobaaGreatDoor.Tail_any _ _ _ (l.drop 8) _ (hc1.no hv0)).mono ?_
 rintro e w' ⟨rfl, rfl⟩
 rw [num8_def]
 refine hK.out _ _ (fun _ => hv0) ?_
 clear hK K
 refine wpSeq_next rfl rfl (fun K hK => ?_)
 go_wp2_with fail
 refine (ofB_any _ _).mono ?_
 rintro e xhv1 ⟨rfl, hx⟩
 have hv1 := hv0.no hx
 clear hx
 refine hK.out _ _ (fun _ => hv1) ?_
 clear hK K
 iterate 2 refine tp _ rfl rfl ?_; simp only [es1, es2, es3]
 have hRx := hRc.no hv1
 have cx := hRx.c1
 have fx := hRx.fz 1
 refine wpSeq_next rfl rfl (fun K hK => ?_)
 go_wp2_with fail
 refine hK.out _ _ (fun h => by simp at h) ?_
 clear hK K
 refine wpSeq_done ?_
 have hRd : Row2 xhv1 pb 208 (.int .u64 (W64 (mixA s l))) (.int .u64 (W64 (s.2))) := hRx
 have hT3 := hT2.no hv1
 have hF4 := hF3.no hv1
 clear hRx cx fx hRc hT2 hF3 hb3 hc1 hv0 hv1
 generalize xhv1 = w4 at hRd hT3 hF4 ⊢
 rw [mixB_def]
 have hRe := hRd.put1 (.int .u64 (W64 (mixB s l)))
 have hfe := fr_put1 w4 pb 1 (.int .u64 (W64 (mixB s l)))
 have hF5 := hF4.trans hfe (fun x hx => .inr (by omega))
 have hT4 := hT3.fr hfe (by omega)
 generalize w4.setCell ⟨pb, 1, none⟩ (.int .u64 (W64 (mixB s l))) = w5 at hRe hfe hF5 hT4 ⊢
 clear hRd hT3 hF4 hfe
 have cq0 := hRe.c0
 have cq1 := hRe.c1
 have cr0 := hT4.c0
 have cr1 := hT4.c1
 have fr0 := hT4.fz 0
 have fr1 := hT4.fz 1
 go_wp2_with fail
 have hF9 := fr_put2 w5 (pb + 1) (.int .u64 (W64 (mixA s l))) (.int .u64 (W64 (mixB s l)))
 have hR9 := row_put2 hT4 (.int .u64 (W64 (mixA s l))) (.int .u64 (W64 (mixB s l)))
 clear cr0 cr1 fr0 fr1 cq0 cq1
 generalize (w5.setCell ⟨pb + 1, 0, none⟩ (.int .u64 (W64 (mixA s l)))).setCell ⟨pb + 1, 1, none⟩ (.int .u64 (W64 (mixB s l))) = w9 at hF9 hR9 ⊢
 have cd0 := hR9.c0
 have cd1 := hR9.c1
 refine bodyPost_ret (v := .agg #[.int .u64 (W64 (mixA s l)), .int .u64 (W64 (mixB s l))]) (by simp [results, Tryz.results202, go_sem, cd0, cd1]) rfl ?_
 exact ⟨rfl, hF5.trans hF9 (fun x hx => .inr (by omega))⟩
set_option maxHeartbeats 1000000 in
theorem mixed_short (s : ST) (a : Option Addr) (n c : Nat) (l : Bytes) (w : World) (hb : IsBytes w a n c l) (h8 : ¬ 8 < n) :
 Calls Tryz.prog 202 #[.agg #[.int .u64 (W64 (s.1)), .int .u64 (W64 (s.2))], .slice a n c] w (GivesNew (.agg #[.int .u64 (W64 (mixA s l)), .int .u64 (W64 (mixB s l))]) w) := by
 rw [mixB_short (by have := hb.1; omega)]
 have hF1 : Fr No w ((w.alloc (.cells #[.int .u64 (W64 (s.1)), .int .u64 (W64 (s.2))] 208)).alloc (.cells #[.int .u64 0, .int .u64 0] 208)) := ((Fr.refl No w).alloc _).alloc _
 have hR : Row2 ((w.alloc (.cells #[.int .u64 (W64 (s.1)), .int .u64 (W64 (s.2))] 208)).alloc (.cells #[.int .u64 0, .int .u64 0] 208)) w.heap.size 208 (.int .u64 (W64 (s.1))) (.int .u64 (W64 (s.2))) := (row2_new w 208 _ _).no ((Fr.refl No _).alloc _)
 have hT : Row2 ((w.alloc (.cells #[.int .u64 (W64 (s.1)), .int .u64 (W64 (s.2))] 208)).alloc (.cells #[.int .u64 0, .int .u64 0] 208)) (w.heap.size + 1) 208 (.int .u64 0) (.int .u64 0) := heap_alloc2_new w _ _
 have hb1 := hb.no hF1
 go_enter Tryz.func202, Tryz.ntmps202
 go_wp2_with fail
 obtain ⟨pb, hpb⟩ : ∃ pb, pb = w.heap.size := ⟨_, rfl⟩
 have hpw : w.heap.size ≤ pb := by omega
 rw [← hpb] at hR hT ⊢
 clear hpb
 generalize (w.alloc (.cells #[.int .u64 (W64 (s.1)), .int .u64 (W64 (s.2))] 208)).alloc (.cells #[.int .u64 0, .int .u64 0] 208) = w1 at hF1 hR hT hb1 ⊢
 refine wp_region_seq (by kernel_rfl) (fun w' => Fr No w1 w') (fun i => decide (8 ≤ i)) [(0, 1), (1, 1), (2, 1), (3, 1), (4, 0), (5, 0), (6, 1), (7, 1), (8, 0)] (by kernel_rfl) (Fr.refl No w1).drew ?_
 have hv0 : Fr No w1 w1.drew := (Fr.refl No w1).drew
 iterate 4 refine tq _ rfl rfl (by intro w9 h9; have q0 := (hR.no h9).c0; have q1 := (hR.no h9).c1; clear h9; go_simp; try with_reducible rfl) ?_; simp only [es1, es2, es3]
 refine wpSeq_next rfl rfl (fun K hK => ?_)
 go_wp2_with fail
 refine (Go.Proofs.YtidlpihoafnobaaGreatDoor.Tail_any _ _ _ l _ (hb1.no hv0)).mono ?_
 rintro e w' ⟨rfl, rfl⟩
 rw [num8_zero]
 refine hK.out _ _ (fun _ => hv0) ?_
 clear hK K
 refine wpSeq_next rfl rfl (fun K hK => ?_)
 go_wp2_with fail
 refine (ofA_any _ _).mono ?_
 rintro e xhv1 ⟨rfl, hx⟩
 have hv1 := hv0.no hx
 clear hx
 refine hK.out _ _ (fun _ => hv1) ?_
 clear hK K
 iterate 2 refine tp _ rfl rfl ?_; simp only [es1, es2, es3]
 have hRx := hR.no hv1
 have cx := hRx.c0
 have fx := hRx.fz 0
 refine wpSeq_next rfl rfl (fun K hK => ?_)
 go_wp2_with fail
 refine hK.out _ _ (fun h => by simp at h) ?_
 clear hK K
 refine wpSeq_done ?_
 have hRb : Row2 xhv1 pb 208 (.int .u64 (W64 (s.1))) (.int .u64 (W64 (s.2))) := hRx
 have hT1 := hT.no hv1
 have hF2 := hF1.no hv1
 have hb2 := hb1.no hv1
 clear hRx cx fx hR hT hF1 hb1 hv0 hv1
 generalize xhv1 = w2 at hRb hT1 hF2 hb2 ⊢
 have hRc := hRb.put0 (.int .u64 (W64 (mixA s l)))
 have hfc := fr_put1 w2 pb 0 (.int .u64 (W64 (mixA s l)))
 rw [mixA_def]
 have hF3 := hF2.trans hfc (fun x hx => .inr (by omega))
 have hb3 := hb.no hF3
 have hT2 := hT1.fr hfc (by omega)
 generalize w2.setCell ⟨pb, 0, none⟩ (.int .u64 (W64 (mixA s l))) = w3 at hRc hfc hF3 hb3 hT2 ⊢
 clear hRb hT1 hF2 hb2 hfc
 have i1 : (n : Int) ≤ 8 := by omega
 have cq0 := hRc.c0
 have cq1 := hRc.c1
 have cr0 := hT2.c0
 have cr1 := hT2.c1
 have fr0 := hT2.fz 0
 have fr1 := hT2.fz 1
 go_wp2_with fail
 have hF9 := fr_put2 w3 (pb + 1) (.int .u64 (W64 (mixA s l))) (.int .u64 (W64 (s.2)))
 have hR9 := row_put2 hT2 (.int .u64 (W64 (mixA s l))) (.int .u64 (W64 (s.2)))
 clear cr0 cr1 fr0 fr1 cq0 cq1
 generalize (w3.setCell ⟨pb + 1, 0, none⟩ (.int .u64 (W64 (mixA s l)))).setCell ⟨pb + 1, 1, none⟩ (.int .u64 (W64 (s.2))) = w9 at hF9 hR9 ⊢
 have cd0 := hR9.c0
 have cd1 := hR9.c1
 refine bodyPost_ret (v := .agg #[.int .u64 (W64 (mixA s l)), .int .u64 (W64 (s.2))]) (by simp [results, Tryz.results202, go_sem, cd0, cd1]) rfl ?_
 exact ⟨rfl, hF3.trans hF9 (fun x hx => .inr (by omega))⟩
theorem mixed_any (s : ST) (a : Option Addr) (n c : Nat) (l : Bytes) (w : World) (hb : IsBytes w a n c l) :
 Calls Tryz.prog 202 #[.agg #[.int .u64 (W64 (s.1)), .int .u64 (W64 (s.2))], .slice a n c] w (GivesNew (.agg #[.int .u64 (W64 (mixA s l)), .int .u64 (W64 (mixB s l))]) w) := by
 by_cases h8 : 8 < n
 · exact mixed_long s a n c l w hb h8
 · exact mixed_short s a n c l w hb h8
end Go.Proofs.YtidlpihoafnobaaGreatDoor.StM64
