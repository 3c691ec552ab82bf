/- CodeM86 -/
import Derived.Test.YtidlpihoafnobaaGreatDoorPSealErr
set_option linter.unusedVariables false
set_option linter.unusedSimpArgs false
namespace Go.Proofs.YtidlpihoafnobaaGreatDoor.StM86
set_option maxRecDepth 100000
open Go.Proofs.YtidlpihoafnobaaGreatDoor.StG32
open Go.RowKit
theorem size_alloc (w : World) (A : Obj) : (w.alloc A).heap.size = w.heap.size + 1 := by
 show (w.heap.push A).size = _
 simp
theorem heap_alloc3_new (w : World) (A B D : Obj) : (((w.alloc A).alloc B).alloc D).heap[w.heap.size + 2]? = some D := by
 have h := heap_alloc2_new (w.alloc A) B D
 rw [size_alloc] at h
 exact h
theorem heap_alloc4_new (w : World) (A B D E : Obj) : ((((w.alloc A).alloc B).alloc D).alloc E).heap[w.heap.size + 3]? = some E := by
 have h := heap_alloc3_new (w.alloc A) B D E
 rw [size_alloc] at h
 exact h
theorem take8_4 (l : Bytes) (i : Nat) : le (List.take 8 (List.take 4 (List.drop i l))) = le (List.take 4 (List.drop i l)) := by rw [List.take_take, show min 8 4 = 4 from rfl]
theorem take8_short {l : Bytes} {i : Nat} (h : l.length < i + 4) : le (List.take 8 (List.drop i l)) = le (List.take 4 (List.drop i l)) := by
 rw [List.take_of_length_le (by rw [List.length_drop]; omega), List.take_of_length_le (by rw [List.length_drop]; omega)]
theorem cS0 (s : ST) : cS s 0 = .int .u32 (W32 s.1) := rfl
theorem cS1 (s : ST) : cS s 1 = .int .u32 (W32 s.2.1) := rfl
theorem cS2 (s : ST) : cS s 2 = .int .u32 (W32 s.2.2.1) := rfl
theorem cS3 (s : ST) : cS s 3 = .int .u32 (W32 s.2.2.2) := rfl
theorem box_row {w : World} {b : Nat} {s : ST} (h : BoxAt w b s) : Row4 w b 123 (.int .u32 (W32 s.1)) (.int .u32 (W32 s.2.1)) (.int .u32 (W32 s.2.2.1)) (.int .u32 (W32 s.2.2.2)) := h
theorem row_box {w : World} {b : Nat} {s : ST} (h : Row4 w b 123 (.int .u32 (W32 s.1)) (.int .u32 (W32 s.2.1)) (.int .u32 (W32 s.2.2.1)) (.int .u32 (W32 s.2.2.2))) : BoxAt w b s := h
theorem box_put0 {w : World} {b : Nat} {s : ST} (h : BoxAt w b s) (y : BitVec 32) : BoxAt (w.setCell ⟨b, 0, none⟩ (.int .u32 (W32 y))) b (y, s.2.1, s.2.2.1, s.2.2.2) := row_box ((box_row h).put0 _)
theorem box_put1 {w : World} {b : Nat} {s : ST} (h : BoxAt w b s) (y : BitVec 32) : BoxAt (w.setCell ⟨b, 1, none⟩ (.int .u32 (W32 y))) b (s.1, y, s.2.2.1, s.2.2.2) := row_box ((box_row h).put1 _)
theorem box_put2 {w : World} {b : Nat} {s : ST} (h : BoxAt w b s) (y : BitVec 32) : BoxAt (w.setCell ⟨b, 2, none⟩ (.int .u32 (W32 y))) b (s.1, s.2.1, y, s.2.2.2) := row_box ((box_row h).put2 _)
theorem box_put3 {w : World} {b : Nat} {s : ST} (h : BoxAt w b s) (y : BitVec 32) : BoxAt (w.setCell ⟨b, 3, none⟩ (.int .u32 (W32 y))) b (s.1, s.2.1, s.2.2.1, y) := row_box ((box_row h).put3 _)
def lanesV (s : ST) : Value := .agg #[.int .u64 (W64 (s.1.setWidth 64)), .int .u64 (W64 (s.2.1.setWidth 64)), .int .u64 (W64 (s.2.2.1.setWidth 64)), .int .u64 (W64 (s.2.2.2.setWidth 64))]
@[go_sem] theorem index4_0 (v0 v1 v2 v3 : Value) (w : World) : (Instr.index 31 (.agg #[v0, v1, v2, v3]) (.int .i64 0)).run Tryz.prog w = .ok v0 w := by simp [Instr.index, run_underlying Tryz.underlying31, asIntOf, go_sem]
@[go_sem] theorem index4_1 (v0 v1 v2 v3 : Value) (w : World) : (Instr.index 31 (.agg #[v0, v1, v2, v3]) (.int .i64 1)).run Tryz.prog w = .ok v1 w := by simp [Instr.index, run_underlying Tryz.underlying31, asIntOf, go_sem]
@[go_sem] theorem index4_2 (v0 v1 v2 v3 : Value) (w : World) : (Instr.index 31 (.agg #[v0, v1, v2, v3]) (.int .i64 2)).run Tryz.prog w = .ok v2 w := by simp [Instr.index, run_underlying Tryz.underlying31, asIntOf, go_sem]
@[go_sem] theorem index4_3 (v0 v1 v2 v3 : Value) (w : World) : (Instr.index 31 (.agg #[v0, v1, v2, v3]) (.int .i64 3)).run Tryz.prog w = .ok v3 w := by simp [Instr.index, run_underlying Tryz.underlying31, asIntOf, go_sem]
@[go_sem] theorem index4s_0 (v0 v1 v2 v3 : Value) (w : World) : (Instr.index 123 (.agg #[v0, v1, v2, v3]) (.int .i64 0)).run Tryz.prog w = .ok v0 w := by simp [Instr.index, run_underlying Tryz.underlying123, asIntOf, go_sem]
@[go_sem] theorem index4s_1 (v0 v1 v2 v3 : Value) (w : World) : (Instr.index 123 (.agg #[v0, v1, v2, v3]) (.int .i64 1)).run Tryz.prog w = .ok v1 w := by simp [Instr.index, run_underlying Tryz.underlying123, asIntOf, go_sem]
@[go_sem] theorem index4s_2 (v0 v1 v2 v3 : Value) (w : World) : (Instr.index 123 (.agg #[v0, v1, v2, v3]) (.int .i64 2)).run Tryz.prog w = .ok v2 w := by simp [Instr.index, run_underlying Tryz.underlying123, asIntOf, go_sem]
@[go_sem] theorem index4s_3 (v0 v1 v2 v3 : Value) (w : World) : (Instr.index 123 (.agg #[v0, v1, v2, v3]) (.int .i64 3)).run Tryz.prog w = .ok v3 w := by simp [Instr.index, run_underlying Tryz.underlying123, asIntOf, go_sem]
theorem of0_any (k : BitVec 32) (w : World) : Calls Tryz.prog 191 #[.agg #[.int .u32 597399067, .int .i64 15, .int .u32 2869860233], .int .u32 (W32 k)] w (GivesNew (.int .u32 (W32 (w0 k))) w) := by
 have hF1 : Fr No w (w.alloc (.cells #[.int .u32 597399067, .int .i64 15, .int .u32 2869860233] 252)) := (Fr.refl No w).alloc _
 have hH : (w.alloc (.cells #[.int .u32 597399067, .int .i64 15, .int .u32 2869860233] 252)).heap[w.heap.size]? = some (.cells #[.int .u32 597399067, .int .i64 15, .int .u32 2869860233] 252 (0, 0)) := heap_alloc_new w _
 have cq0 : (w.alloc (.cells #[.int .u32 597399067, .int .i64 15, .int .u32 2869860233] 252)).cell? ⟨w.heap.size, 0, none⟩ = some (.int .u32 597399067) := by rw [cell_of_row _ _ 0 _ _ _ hH]; rfl
 have cq1 : (w.alloc (.cells #[.int .u32 597399067, .int .i64 15, .int .u32 2869860233] 252)).cell? ⟨w.heap.size, 1, none⟩ = some (.int .i64 15) := by rw [cell_of_row _ _ 1 _ _ _ hH]; rfl
 have cq2 : (w.alloc (.cells #[.int .u32 597399067, .int .i64 15, .int .u32 2869860233] 252)).cell? ⟨w.heap.size, 2, none⟩ = some (.int .u32 2869860233) := by rw [cell_of_row _ _ 2 _ _ _ hH]; rfl
 clear hH
 go_enter Tryz.func191, Tryz.ntmps191
 go_wp2_with fail
 generalize w.heap.size = pb at cq0 cq1 cq2 ⊢
 generalize w.alloc (.cells #[.int .u32 597399067, .int .i64 15, .int .u32 2869860233] 252) = w1 at hF1 cq0 cq1 cq2 ⊢
 refine rsq (by kernel_rfl) [(0, 1), (1, 1), (2, 1), (3, 1), (4, 1), (5, 1), (7, 1), (8, 1), (6, 0), (9, 1), (10, 1)] (by kernel_rfl) ?_
 have hv0 : Fr No w1 w1.drew := (Fr.refl No w1).drew
 iterate 8 refine tq _ rfl rfl (by intro w9 h9; have q0 := h9.cell (fun h => h) cq0; have q1 := h9.cell (fun h => h) cq1; have q2 := h9.cell (fun h => h) cq2; clear h9; go_simp; try with_reducible rfl) ?_; simp only [es1, es2, es3]
 refine wpSeq_next rfl rfl (fun K hK => ?_)
 go_wp2_with fail
 refine (Rot32_any _ 15 _).mono ?_
 rintro e w' ⟨rfl, rfl⟩
 refine hK.out _ _ (fun _ => hv0) ?_
 clear hK K
 iterate 2 refine tp _ rfl rfl ?_; simp only [es1, es2, es3]
 refine wpSeq_done ?_
 go_wp2_with fail
 rw [w0_def]
 go_ret
 exact ⟨rfl, hF1.no hv0⟩
theorem of1_any (k : BitVec 32) (w : World) : Calls Tryz.prog 191 #[.agg #[.int .u32 2869860233, .int .i64 16, .int .u32 951274213], .int .u32 (W32 k)] w (GivesNew (.int .u32 (W32 (w1 k))) w) := by
 have hF1 : Fr No w (w.alloc (.cells #[.int .u32 2869860233, .int .i64 16, .int .u32 951274213] 252)) := (Fr.refl No w).alloc _
 have hH : (w.alloc (.cells #[.int .u32 2869860233, .int .i64 16, .int .u32 951274213] 252)).heap[w.heap.size]? = some (.cells #[.int .u32 2869860233, .int .i64 16, .int .u32 951274213] 252 (0, 0)) := heap_alloc_new w _
 have cq0 : (w.alloc (.cells #[.int .u32 2869860233, .int .i64 16, .int .u32 951274213] 252)).cell? ⟨w.heap.size, 0, none⟩ = some (.int .u32 2869860233) := by rw [cell_of_row _ _ 0 _ _ _ hH]; rfl
 have cq1 : (w.alloc (.cells #[.int .u32 2869860233, .int .i64 16, .int .u32 951274213] 252)).cell? ⟨w.heap.size, 1, none⟩ = some (.int .i64 16) := by rw [cell_of_row _ _ 1 _ _ _ hH]; rfl
 have cq2 : (w.alloc (.cells #[.int .u32 2869860233, .int .i64 16, .int .u32 951274213] 252)).cell? ⟨w.heap.size, 2, none⟩ = some (.int .u32 951274213) := by rw [cell_of_row _ _ 2 _ _ _ hH]; rfl
 clear hH
 go_enter Tryz.func191, Tryz.ntmps191
 go_wp2_with fail
 generalize w.heap.size = pb at cq0 cq1 cq2 ⊢
 generalize w.alloc (.cells #[.int .u32 2869860233, .int .i64 16, .int .u32 951274213] 252) = w1 at hF1 cq0 cq1 cq2 ⊢
 refine rsq (by kernel_rfl) [(0, 1), (1, 1), (2, 1), (3, 1), (4, 1), (5, 1), (7, 1), (8, 1), (6, 0), (9, 1), (10, 1)] (by kernel_rfl) ?_
 have hv0 : Fr No w1 w1.drew := (Fr.refl No w1).drew
 iterate 8 refine tq _ rfl rfl (by intro w9 h9; have q0 := h9.cell (fun h => h) cq0; have q1 := h9.cell (fun h => h) cq1; have q2 := h9.cell (fun h => h) cq2; clear h9; go_simp; try with_reducible rfl) ?_; simp only [es1, es2, es3]
 refine wpSeq_next rfl rfl (fun K hK => ?_)
 go_wp2_with fail
 refine (Rot32_any _ 16 _).mono ?_
 rintro e w' ⟨rfl, rfl⟩
 refine hK.out _ _ (fun _ => hv0) ?_
 clear hK K
 iterate 2 refine tp _ rfl rfl ?_; simp only [es1, es2, es3]
 refine wpSeq_done ?_
 go_wp2_with fail
 rw [w1_def]
 go_ret
 exact ⟨rfl, hF1.no hv0⟩
theorem of2_any (k : BitVec 32) (w : World) : Calls Tryz.prog 191 #[.agg #[.int .u32 951274213, .int .i64 17, .int .u32 2716044179], .int .u32 (W32 k)] w (GivesNew (.int .u32 (W32 (w2 k))) w) := by
 have hF1 : Fr No w (w.alloc (.cells #[.int .u32 951274213, .int .i64 17, .int .u32 2716044179] 252)) := (Fr.refl No w).alloc _
 have hH : (w.alloc (.cells #[.int .u32 951274213, .int .i64 17, .int .u32 2716044179] 252)).heap[w.heap.size]? = some (.cells #[.int .u32 951274213, .int .i64 17, .int .u32 2716044179] 252 (0, 0)) := heap_alloc_new w _
 have cq0 : (w.alloc (.cells #[.int .u32 951274213, .int .i64 17, .int .u32 2716044179] 252)).cell? ⟨w.heap.size, 0, none⟩ = some (.int .u32 951274213) := by rw [cell_of_row _ _ 0 _ _ _ hH]; rfl
 have cq1 : (w.alloc (.cells #[.int .u32 951274213, .int .i64 17, .int .u32 2716044179] 252)).cell? ⟨w.heap.size, 1, none⟩ = some (.int .i64 17) := by rw [cell_of_row _ _ 1 _ _ _ hH]; rfl
 have cq2 : (w.alloc (.cells #[.int .u32 951274213, .int .i64 17, .int .u32 2716044179] 252)).cell? ⟨w.heap.size, 2, none⟩ = some (.int .u32 2716044179) := by rw [cell_of_row _ _ 2 _ _ _ hH]; rfl
 clear hH
 go_enter Tryz.func191, Tryz.ntmps191
 go_wp2_with fail
 generalize w.heap.size = pb at cq0 cq1 cq2 ⊢
 generalize w.alloc (.cells #[.int .u32 951274213, .int .i64 17, .int .u32 2716044179] 252) = w1 at hF1 cq0 cq1 cq2 ⊢
 refine rsq (by kernel_rfl) [(0, 1), (1, 1), (2, 1), (3, 1), (4, 1), (5, 1), (7, 1), (8, 1), (6, 0), (9, 1), (10, 1)] (by kernel_rfl) ?_
 have hv0 : Fr No w1 w1.drew := (Fr.refl No w1).drew
 iterate 8 refine tq _ rfl rfl (by intro w9 h9; have q0 := h9.cell (fun h => h) cq0; have q1 := h9.cell (fun h => h) cq1; have q2 := h9.cell (fun h => h) cq2; clear h9; go_simp; try with_reducible rfl) ?_; simp only [es1, es2, es3]
 refine wpSeq_next rfl rfl (fun K hK => ?_)
 go_wp2_with fail
 refine (Rot32_any _ 17 _).mono ?_
 rintro e w' ⟨rfl, rfl⟩
 refine hK.out _ _ (fun _ => hv0) ?_
 clear hK K
 iterate 2 refine tp _ rfl rfl ?_; simp only [es1, es2, es3]
 refine wpSeq_done ?_
 go_wp2_with fail
 rw [w2_def]
 go_ret
 exact ⟨rfl, hF1.no hv0⟩
theorem of3_any (k : BitVec 32) (w : World) : Calls Tryz.prog 191 #[.agg #[.int .u32 2716044179, .int .i64 18, .int .u32 597399067], .int .u32 (W32 k)] w (GivesNew (.int .u32 (W32 (w3 k))) w) := by
 have hF1 : Fr No w (w.alloc (.cells #[.int .u32 2716044179, .int .i64 18, .int .u32 597399067] 252)) := (Fr.refl No w).alloc _
 have hH : (w.alloc (.cells #[.int .u32 2716044179, .int .i64 18, .int .u32 597399067] 252)).heap[w.heap.size]? = some (.cells #[.int .u32 2716044179, .int .i64 18, .int .u32 597399067] 252 (0, 0)) := heap_alloc_new w _
 have cq0 : (w.alloc (.cells #[.int .u32 2716044179, .int .i64 18, .int .u32 597399067] 252)).cell? ⟨w.heap.size, 0, none⟩ = some (.int .u32 2716044179) := by rw [cell_of_row _ _ 0 _ _ _ hH]; rfl
 have cq1 : (w.alloc (.cells #[.int .u32 2716044179, .int .i64 18, .int .u32 597399067] 252)).cell? ⟨w.heap.size, 1, none⟩ = some (.int .i64 18) := by rw [cell_of_row _ _ 1 _ _ _ hH]; rfl
 have cq2 : (w.alloc (.cells #[.int .u32 2716044179, .int .i64 18, .int .u32 597399067] 252)).cell? ⟨w.heap.size, 2, none⟩ = some (.int .u32 597399067) := by rw [cell_of_row _ _ 2 _ _ _ hH]; rfl
 clear hH
 go_enter Tryz.func191, Tryz.ntmps191
 go_wp2_with fail
 generalize w.heap.size = pb at cq0 cq1 cq2 ⊢
 generalize w.alloc (.cells #[.int .u32 2716044179, .int .i64 18, .int .u32 597399067] 252) = w1 at hF1 cq0 cq1 cq2 ⊢
 refine rsq (by kernel_rfl) [(0, 1), (1, 1), (2, 1), (3, 1), (4, 1), (5, 1), (7, 1), (8, 1), (6, 0), (9, 1), (10, 1)] (by kernel_rfl) ?_
 have hv0 : Fr No w1 w1.drew := (Fr.refl No w1).drew
 iterate 8 refine tq _ rfl rfl (by intro w9 h9; have q0 := h9.cell (fun h => h) cq0; have q1 := h9.cell (fun h => h) cq1; have q2 := h9.cell (fun h => h) cq2; clear h9; go_simp; try with_reducible rfl) ?_; simp only [es1, es2, es3]
 refine wpSeq_next rfl rfl (fun K hK => ?_)
 go_wp2_with fail
 refine (Rot32_any _ 18 _).mono ?_
 rintro e w' ⟨rfl, rfl⟩
 refine hK.out _ _ (fun _ => hv0) ?_
 clear hK K
 iterate 2 refine tp _ rfl rfl ?_; simp only [es1, es2, es3]
 refine wpSeq_done ?_
 go_wp2_with fail
 rw [w3_def]
 go_ret
 exact ⟨rfl, hF1.no hv0⟩
set_option maxHeartbeats 1000000 in
theorem wide_any (s : ST) (w : World) : Calls Tryz.prog 197 #[.agg #[.int .u32 (W32 (s.1)), .int .u32 (W32 (s.2.1)), .int .u32 (W32 (s.2.2.1)), .int .u32 (W32 (s.2.2.2))]] w (GivesNew (lanesV s) w) := by
 have hF0 : Fr No w (((w.alloc (.cells #[.int .u32 (W32 (s.1)), .int .u32 (W32 (s.2.1)), .int .u32 (W32 (s.2.2.1)), .int .u32 (W32 (s.2.2.2))] 123)).alloc (.cells #[.int .u64 0, .int .u64 0, .int .u64 0, .int .u64 0] 31)).alloc (.cells #[.int .u64 0, .int .u64 0, .int .u64 0, .int .u64 0] 31)) := (((Fr.refl No w).alloc _).alloc _).alloc _
 have hO0 : Row4 (((w.alloc (.cells #[.int .u32 (W32 (s.1)), .int .u32 (W32 (s.2.1)), .int .u32 (W32 (s.2.2.1)), .int .u32 (W32 (s.2.2.2))] 123)).alloc (.cells #[.int .u64 0, .int .u64 0, .int .u64 0, .int .u64 0] 31)).alloc (.cells #[.int .u64 0, .int .u64 0, .int .u64 0, .int .u64 0] 31)) (w.heap.size + 2) 31 (.int .u64 0) (.int .u64 0) (.int .u64 0) (.int .u64 0) := heap_alloc3_new w _ _ _
 have hZ0 : Row4 (((w.alloc (.cells #[.int .u32 (W32 (s.1)), .int .u32 (W32 (s.2.1)), .int .u32 (W32 (s.2.2.1)), .int .u32 (W32 (s.2.2.2))] 123)).alloc (.cells #[.int .u64 0, .int .u64 0, .int .u64 0, .int .u64 0] 31)).alloc (.cells #[.int .u64 0, .int .u64 0, .int .u64 0, .int .u64 0] 31)) (w.heap.size + 1) 31 (.int .u64 0) (.int .u64 0) (.int .u64 0) (.int .u64 0) := Row4.no (show Row4 ((w.alloc (.cells #[.int .u32 (W32 (s.1)), .int .u32 (W32 (s.2.1)), .int .u32 (W32 (s.2.2.1)), .int .u32 (W32 (s.2.2.2))] 123)).alloc (.cells #[.int .u64 0, .int .u64 0, .int .u64 0, .int .u64 0] 31)) (w.heap.size + 1) 31 (.int .u64 0) (.int .u64 0) (.int .u64 0) (.int .u64 0) from heap_alloc2_new w _ _) ((Fr.refl No _).alloc _)
 go_enter Tryz.func197, Tryz.ntmps197
 go_wp2
 rw [show w.heap.size + 1 + 1 = w.heap.size + 2 from rfl]
 go_loopw [7] (fun i wr => ∃ k : Nat, k ≤ 4 ∧ i = .int .i64 k ∧ Row4 wr (w.heap.size + 2) 31 (if 0 < k then .int .u64 (W64 (s.1.setWidth 64)) else .int .u64 0) (if 1 < k then .int .u64 (W64 (s.2.1.setWidth 64)) else .int .u64 0) (if 2 < k then .int .u64 (W64 (s.2.2.1.setWidth 64)) else .int .u64 0) (if 3 < k then .int .u64 (W64 (s.2.2.2.setWidth 64)) else .int .u64 0) ∧ Row4 wr (w.heap.size + 1) 31 (.int .u64 0) (.int .u64 0) (.int .u64 0) (.int .u64 0) ∧ Fr No w wr) (fun i _ => 4 - (intOf i).toNat)
 case atStart => exact ⟨0, by omega, rfl, hO0, hZ0, hF0⟩
 case round =>
  obtain ⟨k, hk, rfl, hO, hZ, hf⟩ := hrel
  clear hF0 hO0 hZ0
  rcases (show k = 0 ∨ k = 1 ∨ k = 2 ∨ k = 3 ∨ k = 4 by omega) with rfl | rfl | rfl | rfl | rfl
  · have hRow : Row4 wr (w.heap.size + 2) 31 (.int .u64 0) (.int .u64 0) (.int .u64 0) (.int .u64 0) := hO
    have cx := hRow.c0
    have fx := hRow.fz 0
    clear hO
    go_wp2_with fail
    go_roundw
    case rel =>
     have hN : Row4 _ (w.heap.size + 2) 31 (.int .u64 (W64 (s.1.setWidth 64))) (.int .u64 0) (.int .u64 0) (.int .u64 0) := hRow.put0 _
     exact ⟨1, by omega, rfl, hN, hZ.fr ((Fr.refl (fun x => x = w.heap.size + 2) wr).setCell (p := ⟨w.heap.size + 2, 0, none⟩) (.inl rfl) _) (by omega), hf.trans ((Fr.refl (fun x => x = w.heap.size + 2) wr).setCell (p := ⟨w.heap.size + 2, 0, none⟩) (.inl rfl) _) (fun x hx => .inr (by omega))⟩
    case measure => simp [intOf]
  · have hRow : Row4 wr (w.heap.size + 2) 31 (.int .u64 (W64 (s.1.setWidth 64))) (.int .u64 0) (.int .u64 0) (.int .u64 0) := hO
    have cx := hRow.c1
    have fx := hRow.fz 1
    clear hO
    go_wp2_with fail
    go_roundw
    case rel =>
     have hN : Row4 _ (w.heap.size + 2) 31 (.int .u64 (W64 (s.1.setWidth 64))) (.int .u64 (W64 (s.2.1.setWidth 64))) (.int .u64 0) (.int .u64 0) := hRow.put1 _
     exact ⟨2, by omega, rfl, hN, hZ.fr ((Fr.refl (fun x => x = w.heap.size + 2) wr).setCell (p := ⟨w.heap.size + 2, 1, none⟩) (.inl rfl) _) (by omega), hf.trans ((Fr.refl (fun x => x = w.heap.size + 2) wr).setCell (p := ⟨w.heap.size + 2, 1, none⟩) (.inl rfl) _) (fun x hx => .inr (by omega))⟩
    case measure => simp [intOf]
  · have hRow : Row4 wr (w.heap.size + 2) 31 (.int .u64 (W64 (s.1.setWidth 64))) (.int .u64 (W64 (s.2.1.setWidth 64))) (.int .u64 0) (.int .u64 0) := hO
    have cx := hRow.c2
    have fx := hRow.fz 2
    clear hO
    go_wp2_with fail
    go_roundw
    case rel =>
     have hN : Row4 _ (w.heap.size + 2) 31 (.int .u64 (W64 (s.1.setWidth 64))) (.int .u64 (W64 (s.2.1.setWidth 64))) (.int .u64 (W64 (s.2.2.1.setWidth 64))) (.int .u64 0) := hRow.put2 _
     exact ⟨3, by omega, rfl, hN, hZ.fr ((Fr.refl (fun x => x = w.heap.size + 2) wr).setCell (p := ⟨w.heap.size + 2, 2, none⟩) (.inl rfl) _) (by omega), hf.trans ((Fr.refl (fun x => x = w.heap.size + 2) wr).setCell (p := ⟨w.heap.size + 2, 2, none⟩) (.inl rfl) _) (fun x hx => .inr (by omega))⟩
    case measure => simp [intOf]
  · have hRow : Row4 wr (w.heap.size + 2) 31 (.int .u64 (W64 (s.1.setWidth 64))) (.int .u64 (W64 (s.2.1.setWidth 64))) (.int .u64 (W64 (s.2.2.1.setWidth 64))) (.int .u64 0) := hO
    have cx := hRow.c3
    have fx := hRow.fz 3
    clear hO
    go_wp2_with fail
    go_roundw
    case rel =>
     have hN : Row4 _ (w.heap.size + 2) 31 (.int .u64 (W64 (s.1.setWidth 64))) (.int .u64 (W64 (s.2.1.setWidth 64))) (.int .u64 (W64 (s.2.2.1.setWidth 64))) (.int .u64 (W64 (s.2.2.2.setWidth 64))) := hRow.put3 _
     exact ⟨4, by omega, rfl, hN, hZ.fr ((Fr.refl (fun x => x = w.heap.size + 2) wr).setCell (p := ⟨w.heap.size + 2, 3, none⟩) (.inl rfl) _) (by omega), hf.trans ((Fr.refl (fun x => x = w.heap.size + 2) wr).setCell (p := ⟨w.heap.size + 2, 3, none⟩) (.inl rfl) _) (fun x hx => .inr (by omega))⟩
    case measure => simp [intOf]
  · have hRow : Row4 wr (w.heap.size + 2) 31 (.int .u64 (W64 (s.1.setWidth 64))) (.int .u64 (W64 (s.2.1.setWidth 64))) (.int .u64 (W64 (s.2.2.1.setWidth 64))) (.int .u64 (W64 (s.2.2.2.setWidth 64))) := hO
    clear hO
    have cb0 := hRow.c0
    have cb1 := hRow.c1
    have cb2 := hRow.c2
    have cb3 := hRow.c3
    have cr0 := hZ.c0
    have cr1 := hZ.c1
    have cr2 := hZ.c2
    have cr3 := hZ.c3
    have fr0 := hZ.fz 0
    have fr1 := hZ.fz 1
    have fr2 := hZ.fz 2
    have fr3 := hZ.fz 3
    go_wp2_with fail
    have hF3 := fr_put4 wr (w.heap.size + 1) (.int .u64 (W64 (s.1.setWidth 64))) (.int .u64 (W64 (s.2.1.setWidth 64))) (.int .u64 (W64 (s.2.2.1.setWidth 64))) (.int .u64 (W64 (s.2.2.2.setWidth 64)))
    have hR3 := row_put4 hZ (.int .u64 (W64 (s.1.setWidth 64))) (.int .u64 (W64 (s.2.1.setWidth 64))) (.int .u64 (W64 (s.2.2.1.setWidth 64))) (.int .u64 (W64 (s.2.2.2.setWidth 64)))
    clear cr0 fr0 cr1 fr1 cr2 fr2 cr3 fr3
    generalize (((wr.setCell ⟨w.heap.size + 1, 0, none⟩ (.int .u64 (W64 (s.1.setWidth 64)))).setCell ⟨w.heap.size + 1, 1, none⟩ (.int .u64 (W64 (s.2.1.setWidth 64)))).setCell ⟨w.heap.size + 1, 2, none⟩ (.int .u64 (W64 (s.2.2.1.setWidth 64)))).setCell ⟨w.heap.size + 1, 3, none⟩ (.int .u64 (W64 (s.2.2.2.setWidth 64))) = w3 at hF3 hR3 ⊢
    have cd0 := hR3.c0
    have cd1 := hR3.c1
    have cd2 := hR3.c2
    have cd3 := hR3.c3
    refine bodyPost_ret (v := lanesV s) (by simp [results, Tryz.results197, go_sem, cd0, cd1, cd2, cd3, lanesV, cS0, cS1, cS2, cS3]) rfl ?_
    exact ⟨rfl, hf.trans hF3 (fun x hx => .inr (by omega))⟩
set_option maxHeartbeats 1000000 in
theorem narrow_any (x0 x1 x2 x3 : BitVec 64) (w : World) : Calls Tryz.prog 283 #[.agg #[.int .u64 (W64 (x0)), .int .u64 (W64 (x1)), .int .u64 (W64 (x2)), .int .u64 (W64 (x3))]] w (GivesNew (.agg #[.int .u32 (W32 (x0.setWidth 32)), .int .u32 (W32 (x1.setWidth 32)), .int .u32 (W32 (x2.setWidth 32)), .int .u32 (W32 (x3.setWidth 32))]) w) := by
 have hF0 : Fr No w (((w.alloc (.cells #[.int .u64 (W64 (x0)), .int .u64 (W64 (x1)), .int .u64 (W64 (x2)), .int .u64 (W64 (x3))] 31)).alloc (.cells #[.int .u32 0, .int .u32 0, .int .u32 0, .int .u32 0] 123)).alloc (.cells #[.int .u32 0, .int .u32 0, .int .u32 0, .int .u32 0] 123)) := (((Fr.refl No w).alloc _).alloc _).alloc _
 have hO0 : Row4 (((w.alloc (.cells #[.int .u64 (W64 (x0)), .int .u64 (W64 (x1)), .int .u64 (W64 (x2)), .int .u64 (W64 (x3))] 31)).alloc (.cells #[.int .u32 0, .int .u32 0, .int .u32 0, .int .u32 0] 123)).alloc (.cells #[.int .u32 0, .int .u32 0, .int .u32 0, .int .u32 0] 123)) (w.heap.size + 2) 123 (.int .u32 0) (.int .u32 0) (.int .u32 0) (.int .u32 0) := heap_alloc3_new w _ _ _
 have hZ0 : Row4 (((w.alloc (.cells #[.int .u64 (W64 (x0)), .int .u64 (W64 (x1)), .int .u64 (W64 (x2)), .int .u64 (W64 (x3))] 31)).alloc (.cells #[.int .u32 0, .int .u32 0, .int .u32 0, .int .u32 0] 123)).alloc (.cells #[.int .u32 0, .int .u32 0, .int .u32 0, .int .u32 0] 123)) (w.heap.size + 1) 123 (.int .u32 0) (.int .u32 0) (.int .u32 0) (.int .u32 0) := Row4.no (show Row4 ((w.alloc (.cells #[.int .u64 (W64 (x0)), .int .u64 (W64 (x1)), .int .u64 (W64 (x2)), .int .u64 (W64 (x3))] 31)).alloc (.cells #[.int .u32 0, .int .u32 0, .int .u32 0, .int .u32 0] 123)) (w.heap.size + 1) 123 (.int .u32 0) (.int .u32 0) (.int .u32 0) (.int .u32 0) from heap_alloc2_new w _ _) ((Fr.refl No _).alloc _)
 go_enter Tryz.func283, Tryz.ntmps283
 go_wp2
 rw [show w.heap.size + 1 + 1 = w.heap.size + 2 from rfl]
 go_loopw [7] (fun i wr => ∃ k : Nat, k ≤ 4 ∧ i = .int .i64 k ∧ Row4 wr (w.heap.size + 2) 123 (if 0 < k then .int .u32 (W32 (x0.setWidth 32)) else .int .u32 0) (if 1 < k then .int .u32 (W32 (x1.setWidth 32)) else .int .u32 0) (if 2 < k then .int .u32 (W32 (x2.setWidth 32)) else .int .u32 0) (if 3 < k then .int .u32 (W32 (x3.setWidth 32)) else .int .u32 0) ∧ Row4 wr (w.heap.size + 1) 123 (.int .u32 0) (.int .u32 0) (.int .u32 0) (.int .u32 0) ∧ Fr No w wr) (fun i _ => 4 - (intOf i).toNat)
 case atStart => exact ⟨0, by omega, rfl, hO0, hZ0, hF0⟩
 case round =>
  obtain ⟨k, hk, rfl, hO, hZ, hf⟩ := hrel
  clear hF0 hO0 hZ0
  rcases (show k = 0 ∨ k = 1 ∨ k = 2 ∨ k = 3 ∨ k = 4 by omega) with rfl | rfl | rfl | rfl | rfl
  · have hRow : Row4 wr (w.heap.size + 2) 123 (.int .u32 0) (.int .u32 0) (.int .u32 0) (.int .u32 0) := hO
    have cx := hRow.c0
    have fx := hRow.fz 0
    clear hO
    go_wp2_with fail
    go_roundw
    case rel =>
     have hN : Row4 _ (w.heap.size + 2) 123 (.int .u32 (W32 (x0.setWidth 32))) (.int .u32 0) (.int .u32 0) (.int .u32 0) := hRow.put0 _
     exact ⟨1, by omega, rfl, hN, hZ.fr ((Fr.refl (fun x => x = w.heap.size + 2) wr).setCell (p := ⟨w.heap.size + 2, 0, none⟩) (.inl rfl) _) (by omega), hf.trans ((Fr.refl (fun x => x = w.heap.size + 2) wr).setCell (p := ⟨w.heap.size + 2, 0, none⟩) (.inl rfl) _) (fun x hx => .inr (by omega))⟩
    case measure => simp [intOf]
  · have hRow : Row4 wr (w.heap.size + 2) 123 (.int .u32 (W32 (x0.setWidth 32))) (.int .u32 0) (.int .u32 0) (.int .u32 0) := hO
    have cx := hRow.c1
    have fx := hRow.fz 1
    clear hO
    go_wp2_with fail
    go_roundw
    case rel =>
     have hN : Row4 _ (w.heap.size + 2) 123 (.int .u32 (W32 (x0.setWidth 32))) (.int .u32 (W32 (x1.setWidth 32))) (.int .u32 0) (.int .u32 0) := hRow.put1 _
     exact ⟨2, by omega, rfl, hN, hZ.fr ((Fr.refl (fun x => x = w.heap.size + 2) wr).setCell (p := ⟨w.heap.size + 2, 1, none⟩) (.inl rfl) _) (by omega), hf.trans ((Fr.refl (fun x => x = w.heap.size + 2) wr).setCell (p := ⟨w.heap.size + 2, 1, none⟩) (.inl rfl) _) (fun x hx => .inr (by omega))⟩
    case measure => simp [intOf]
  · have hRow : Row4 wr (w.heap.size + 2) 123 (.int .u32 (W32 (x0.setWidth 32))) (.int .u32 (W32 (x1.setWidth 32))) (.int .u32 0) (.int .u32 0) := hO
    have cx := hRow.c2
    have fx := hRow.fz 2
    clear hO
    go_wp2_with fail
    go_roundw
    case rel =>
     have hN : Row4 _ (w.heap.size + 2) 123 (.int .u32 (W32 (x0.setWidth 32))) (.int .u32 (W32 (x1.setWidth 32))) (.int .u32 (W32 (x2.setWidth 32))) (.int .u32 0) := hRow.put2 _
     exact ⟨3, by omega, rfl, hN, hZ.fr ((Fr.refl (fun x => x = w.heap.size + 2) wr).setCell (p := ⟨w.heap.size + 2, 2, none⟩) (.inl rfl) _) (by omega), hf.trans ((Fr.refl (fun x => x = w.heap.size + 2) wr).setCell (p := ⟨w.heap.size + 2, 2, none⟩) (.inl rfl) _) (fun x hx => .inr (by omega))⟩
    case measure => simp [intOf]
  · have hRow : Row4 wr (w.heap.size + 2) 123 (.int .u32 (W32 (x0.setWidth 32))) (.int .u32 (W32 (x1.setWidth 32))) (.int .u32 (W32 (x2.setWidth 32))) (.int .u32 0) := hO
    have cx := hRow.c3
    have fx := hRow.fz 3
    clear hO
    go_wp2_with fail
    go_roundw
    case rel =>
     have hN : Row4 _ (w.heap.size + 2) 123 (.int .u32 (W32 (x0.setWidth 32))) (.int .u32 (W32 (x1.setWidth 32))) (.int .u32 (W32 (x2.setWidth 32))) (.int .u32 (W32 (x3.setWidth 32))) := hRow.put3 _
     exact ⟨4, by omega, rfl, hN, hZ.fr ((Fr.refl (fun x => x = w.heap.size + 2) wr).setCell (p := ⟨w.heap.size + 2, 3, none⟩) (.inl rfl) _) (by omega), hf.trans ((Fr.refl (fun x => x = w.heap.size + 2) wr).setCell (p := ⟨w.heap.size + 2, 3, none⟩) (.inl rfl) _) (fun x hx => .inr (by omega))⟩
    case measure => simp [intOf]
  · have hRow : Row4 wr (w.heap.size + 2) 123 (.int .u32 (W32 (x0.setWidth 32))) (.int .u32 (W32 (x1.setWidth 32))) (.int .u32 (W32 (x2.setWidth 32))) (.int .u32 (W32 (x3.setWidth 32))) := hO
    clear hO
    have cb0 := hRow.c0
    have cb1 := hRow.c1
    have cb2 := hRow.c2
    have cb3 := hRow.c3
    have cr0 := hZ.c0
    have cr1 := hZ.c1
    have cr2 := hZ.c2
    have cr3 := hZ.c3
    have fr0 := hZ.fz 0
    have fr1 := hZ.fz 1
    have fr2 := hZ.fz 2
    have fr3 := hZ.fz 3
    go_wp2_with fail
    have hF3 := fr_put4 wr (w.heap.size + 1) (.int .u32 (W32 (x0.setWidth 32))) (.int .u32 (W32 (x1.setWidth 32))) (.int .u32 (W32 (x2.setWidth 32))) (.int .u32 (W32 (x3.setWidth 32)))
    have hR3 := row_put4 hZ (.int .u32 (W32 (x0.setWidth 32))) (.int .u32 (W32 (x1.setWidth 32))) (.int .u32 (W32 (x2.setWidth 32))) (.int .u32 (W32 (x3.setWidth 32)))
    clear cr0 fr0 cr1 fr1 cr2 fr2 cr3 fr3
    generalize (((wr.setCell ⟨w.heap.size + 1, 0, none⟩ (.int .u32 (W32 (x0.setWidth 32)))).setCell ⟨w.heap.size + 1, 1, none⟩ (.int .u32 (W32 (x1.setWidth 32)))).setCell ⟨w.heap.size + 1, 2, none⟩ (.int .u32 (W32 (x2.setWidth 32)))).setCell ⟨w.heap.size + 1, 3, none⟩ (.int .u32 (W32 (x3.setWidth 32))) = w3 at hF3 hR3 ⊢
    have cd0 := hR3.c0
    have cd1 := hR3.c1
    have cd2 := hR3.c2
    have cd3 := hR3.c3
    refine bodyPost_ret (v := .agg #[.int .u32 (W32 (x0.setWidth 32)), .int .u32 (W32 (x1.setWidth 32)), .int .u32 (W32 (x2.setWidth 32)), .int .u32 (W32 (x3.setWidth 32))]) (by simp [results, Tryz.results283, go_sem, cd0, cd1, cd2, cd3, lanesV, cS0, cS1, cS2, cS3]) rfl ?_
    exact ⟨rfl, hf.trans hF3 (fun x hx => .inr (by omega))⟩
set_option maxHeartbeats 2000000 in
theorem words_any (a : Option Addr) (n c : Nat) (l : Bytes) (w : World) (hb : IsBytes w a n c l) : Calls Tryz.prog 189 #[.slice a n c] w (GivesNew (.agg #[.int .u32 (W32 (num4 l 0)), .int .u32 (W32 (num4 l 4)), .int .u32 (W32 (num4 l 8)), .int .u32 (W32 (num4 l 12))]) w) := by
 have hF0 : Fr No w ((w.alloc (.cells #[.int .u32 0, .int .u32 0, .int .u32 0, .int .u32 0] 123)).alloc (.cells #[.int .u32 0, .int .u32 0, .int .u32 0, .int .u32 0] 123)) := ((Fr.refl No w).alloc _).alloc _
 have hO0 : BoxAt ((w.alloc (.cells #[.int .u32 0, .int .u32 0, .int .u32 0, .int .u32 0] 123)).alloc (.cells #[.int .u32 0, .int .u32 0, .int .u32 0, .int .u32 0] 123)) (w.heap.size + 1) (numsTo l 0) := heap_alloc2_new w _ _
 have hZ0 : Row4 ((w.alloc (.cells #[.int .u32 0, .int .u32 0, .int .u32 0, .int .u32 0] 123)).alloc (.cells #[.int .u32 0, .int .u32 0, .int .u32 0, .int .u32 0] 123)) w.heap.size 123 (.int .u32 0) (.int .u32 0) (.int .u32 0) (.int .u32 0) := (row4_new w 123 _ _ _ _).no ((Fr.refl No _).alloc _)
 have hlen := Lib.hid hb.1
 go_enter Tryz.func189, Tryz.ntmps189
 go_wp2
 go_loopw [5] (fun i wr => ∃ k : Nat, k ≤ 4 ∧ i = .int .i64 k ∧ BoxAt wr (w.heap.size + 1) (numsTo l k) ∧ Row4 wr w.heap.size 123 (.int .u32 0) (.int .u32 0) (.int .u32 0) (.int .u32 0) ∧ Fr No w wr) (fun i _ => 4 - (intOf i).toNat)
 case atStart => exact ⟨0, by omega, rfl, hO0, hZ0, hF0⟩
 case round =>
  obtain ⟨k, hk, rfl, hO, hZ, hf⟩ := hrel
  clear hF0 hO0 hZ0
  rcases (show k = 0 ∨ k = 1 ∨ k = 2 ∨ k = 3 ∨ k = 4 by omega) with rfl | rfl | rfl | rfl | rfl
  · have hRow : Row4 wr (w.heap.size + 1) 123 (.int .u32 (W32 (0#32))) (.int .u32 (W32 (0#32))) (.int .u32 (W32 (0#32))) (.int .u32 (W32 (0#32))) := hO
    have cx := hRow.c0
    have fx := hRow.fz 0
    have hy := hb.no hf
    have hc : n ≤ c := hb.2.1
    have hc2 : c ≤ 9223372036854775807 := hb.2.2.1
    by_cases h1 : 4 ≤ n
    · have i1 : (4 : Int) ≤ (n : Int) := by omega
      have i2 : (0 : Int) < (n : Int) := by omega
      have i3 : (4 : Int) ≤ (c : Int) := by omega
      have hcut : IsBytes wr (subAddr a 0 c 1) 4 (c) ((l.drop 0).take 4) := hy.cut 0 4 c (by omega) (by omega) (by omega) (by omega) rfl rfl
      go_wp2_with fail
      refine (Go.Proofs.YtidlpihoafnobaaGreatDoor.Tail_any _ _ _ ((l.drop 0).take 4) _ hcut).mono ?_
      rw [take8_4]
      rintro e w' ⟨rfl, rfl⟩
      go_wp2_with fail
      go_roundw
      case rel =>
       have hN : BoxAt (wr.setCell ⟨w.heap.size + 1, 0, none⟩ (.int .u32 (W32 (num4 l 0)))) (w.heap.size + 1) (numsTo l 1) := box_put0 (s := ((0#32, 0#32, 0#32, 0#32) : S4)) hO _
       exact ⟨1, by omega, rfl, hN, hZ.fr ((Fr.refl (fun x => x = w.heap.size + 1) wr).setCell (p := ⟨w.heap.size + 1, 0, none⟩) (.inl rfl) _) (by omega), hf.trans ((Fr.refl (fun x => x = w.heap.size + 1) wr).setCell (p := ⟨w.heap.size + 1, 0, none⟩) (.inl rfl) _) (fun x hx => .inr (by omega))⟩
      case measure => simp [intOf]
    · by_cases h2 : 0 < n
      · have i1 : (n : Int) < 4 := by omega
        have i2 : (0 : Int) < (n : Int) := by omega
        have i3 : (n : Int) ≤ (c : Int) := by omega
        have hcut : IsBytes wr (subAddr a 0 c 1) (n) (c) (l.drop 0) := hy.cut_to_end 0 (by omega) rfl rfl
        go_wp2_with fail
        refine (Go.Proofs.YtidlpihoafnobaaGreatDoor.Tail_any _ _ _ (l.drop 0) _ hcut).mono ?_
        rw [take8_short (i := 0) (by rw [hlen.out]; omega)]
        rintro e w' ⟨rfl, rfl⟩
        go_wp2_with fail
        go_roundw
        case rel =>
         have hN : BoxAt (wr.setCell ⟨w.heap.size + 1, 0, none⟩ (.int .u32 (W32 (num4 l 0)))) (w.heap.size + 1) (numsTo l 1) := box_put0 (s := ((0#32, 0#32, 0#32, 0#32) : S4)) hO _
         exact ⟨1, by omega, rfl, hN, hZ.fr ((Fr.refl (fun x => x = w.heap.size + 1) wr).setCell (p := ⟨w.heap.size + 1, 0, none⟩) (.inl rfl) _) (by omega), hf.trans ((Fr.refl (fun x => x = w.heap.size + 1) wr).setCell (p := ⟨w.heap.size + 1, 0, none⟩) (.inl rfl) _) (fun x hx => .inr (by omega))⟩
        case measure => simp [intOf]
      · have i1 : (n : Int) ≤ 0 := by omega
        go_wp2_with fail
        go_roundw
        case rel =>
         have hN : BoxAt wr (w.heap.size + 1) (numsTo l 1) := by
          show BoxAt wr _ ((num4 l 0, 0#32, 0#32, 0#32) : S4)
          rw [num4_none (l := l) (i := 0) (by rw [hlen.out]; omega)]
          exact hO
         exact ⟨1, by omega, rfl, hN, hZ, hf⟩
        case measure => simp [intOf]
  · have hRow : Row4 wr (w.heap.size + 1) 123 (.int .u32 (W32 (num4 l 0))) (.int .u32 (W32 (0#32))) (.int .u32 (W32 (0#32))) (.int .u32 (W32 (0#32))) := hO
    have cx := hRow.c1
    have fx := hRow.fz 1
    have hy := hb.no hf
    have hc : n ≤ c := hb.2.1
    have hc2 : c ≤ 9223372036854775807 := hb.2.2.1
    by_cases h1 : 8 ≤ n
    · have i1 : (8 : Int) ≤ (n : Int) := by omega
      have i2 : (4 : Int) < (n : Int) := by omega
      have i3 : (8 : Int) ≤ (c : Int) := by omega
      have hcut : IsBytes wr (subAddr a 4 c 1) 4 (c - 4) ((l.drop 4).take 4) := hy.cut 4 8 c (by omega) (by omega) (by omega) (by omega) rfl rfl
      go_wp2_with fail
      refine (Go.Proofs.YtidlpihoafnobaaGreatDoor.Tail_any _ _ _ ((l.drop 4).take 4) _ hcut).mono ?_
      rw [take8_4]
      rintro e w' ⟨rfl, rfl⟩
      go_wp2_with fail
      go_roundw
      case rel =>
       have hN : BoxAt (wr.setCell ⟨w.heap.size + 1, 1, none⟩ (.int .u32 (W32 (num4 l 4)))) (w.heap.size + 1) (numsTo l 2) := box_put1 (s := ((num4 l 0, 0#32, 0#32, 0#32) : S4)) hO _
       exact ⟨2, by omega, rfl, hN, hZ.fr ((Fr.refl (fun x => x = w.heap.size + 1) wr).setCell (p := ⟨w.heap.size + 1, 1, none⟩) (.inl rfl) _) (by omega), hf.trans ((Fr.refl (fun x => x = w.heap.size + 1) wr).setCell (p := ⟨w.heap.size + 1, 1, none⟩) (.inl rfl) _) (fun x hx => .inr (by omega))⟩
      case measure => simp [intOf]
    · by_cases h2 : 4 < n
      · have i1 : (n : Int) < 8 := by omega
        have i2 : (4 : Int) < (n : Int) := by omega
        have i3 : (n : Int) ≤ (c : Int) := by omega
        have hcut : IsBytes wr (subAddr a 4 c 1) (n - 4) (c - 4) (l.drop 4) := hy.cut_to_end 4 (by omega) rfl rfl
        go_wp2_with fail
        refine (Go.Proofs.YtidlpihoafnobaaGreatDoor.Tail_any _ _ _ (l.drop 4) _ hcut).mono ?_
        rw [take8_short (i := 4) (by rw [hlen.out]; omega)]
        rintro e w' ⟨rfl, rfl⟩
        go_wp2_with fail
        go_roundw
        case rel =>
         have hN : BoxAt (wr.setCell ⟨w.heap.size + 1, 1, none⟩ (.int .u32 (W32 (num4 l 4)))) (w.heap.size + 1) (numsTo l 2) := box_put1 (s := ((num4 l 0, 0#32, 0#32, 0#32) : S4)) hO _
         exact ⟨2, by omega, rfl, hN, hZ.fr ((Fr.refl (fun x => x = w.heap.size + 1) wr).setCell (p := ⟨w.heap.size + 1, 1, none⟩) (.inl rfl) _) (by omega), hf.trans ((Fr.refl (fun x => x = w.heap.size + 1) wr).setCell (p := ⟨w.heap.size + 1, 1, none⟩) (.inl rfl) _) (fun x hx => .inr (by omega))⟩
        case measure => simp [intOf]
      · have i1 : (n : Int) ≤ 4 := by omega
        go_wp2_with fail
        go_roundw
        case rel =>
         have hN : BoxAt wr (w.heap.size + 1) (numsTo l 2) := by
          show BoxAt wr _ ((num4 l 0, num4 l 4, 0#32, 0#32) : S4)
          rw [num4_none (l := l) (i := 4) (by rw [hlen.out]; omega)]
          exact hO
         exact ⟨2, by omega, rfl, hN, hZ, hf⟩
        case measure => simp [intOf]
  · have hRow : Row4 wr (w.heap.size + 1) 123 (.int .u32 (W32 (num4 l 0))) (.int .u32 (W32 (num4 l 4))) (.int .u32 (W32 (0#32))) (.int .u32 (W32 (0#32))) := hO
    have cx := hRow.c2
    have fx := hRow.fz 2
    have hy := hb.no hf
    have hc : n ≤ c := hb.2.1
    have hc2 : c ≤ 9223372036854775807 := hb.2.2.1
    by_cases h1 : 12 ≤ n
    · have i1 : (12 : Int) ≤ (n : Int) := by omega
      have i2 : (8 : Int) < (n : Int) := by omega
      have i3 : (12 : Int) ≤ (c : Int) := by omega
      have hcut : IsBytes wr (subAddr a 8 c 1) 4 (c - 8) ((l.drop 8).take 4) := hy.cut 8 12 c (by omega) (by omega) (by omega) (by omega) rfl rfl
      go_wp2_with fail
      refine (Go.Proofs.YtidlpihoafnobaaGreatDoor.Tail_any _ _ _ ((l.drop 8).take 4) _ hcut).mono ?_
      rw [take8_4]
      rintro e w' ⟨rfl, rfl⟩
      go_wp2_with fail
      go_roundw
      case rel =>
       have hN : BoxAt (wr.setCell ⟨w.heap.size + 1, 2, none⟩ (.int .u32 (W32 (num4 l 8)))) (w.heap.size + 1) (numsTo l 3) := box_put2 (s := ((num4 l 0, num4 l 4, 0#32, 0#32) : S4)) hO _
       exact ⟨3, by omega, rfl, hN, hZ.fr ((Fr.refl (fun x => x = w.heap.size + 1) wr).setCell (p := ⟨w.heap.size + 1, 2, none⟩) (.inl rfl) _) (by omega), hf.trans ((Fr.refl (fun x => x = w.heap.size + 1) wr).setCell (p := ⟨w.heap.size + 1, 2, none⟩) (.inl rfl) _) (fun x hx => .inr (by omega))⟩
      case measure => simp [intOf]
    · by_cases h2 : 8 < n
      · have i1 : (n : Int) < 12 := by omega
        have i2 : (8 : Int) < (n : Int) := by omega
        have i3 : (n : Int) ≤ (c : Int) := by omega
        have hcut : IsBytes wr (subAddr a 8 c 1) (n - 8) (c - 8) (l.drop 8) := hy.cut_to_end 8 (by omega) rfl rfl
        go_wp2_with fail
        refine (Go.Proofs.YtidlpihoafnobaaGreatDoor.Tail_any _ _ _ (l.drop 8) _ hcut).mono ?_
        rw [take8_short (i := 8) (by rw [hlen.out]; omega)]
        rintro e w' ⟨rfl, rfl⟩
        go_wp2_with fail
        go_roundw
        case rel =>
         have hN : BoxAt (wr.setCell ⟨w.heap.size + 1, 2, none⟩ (.int .u32 (W32 (num4 l 8)))) (w.heap.size + 1) (numsTo l 3) := box_put2 (s := ((num4 l 0, num4 l 4, 0#32, 0#32) : S4)) hO _
         exact ⟨3, by omega, rfl, hN, hZ.fr ((Fr.refl (fun x => x = w.heap.size + 1) wr).setCell (p := ⟨w.heap.size + 1, 2, none⟩) (.inl rfl) _) (by omega), hf.trans ((Fr.refl (fun x => x = w.heap.size + 1) wr).setCell (p := ⟨w.heap.size + 1, 2, none⟩) (.inl rfl) _) (fun x hx => .inr (by omega))⟩
        case measure => simp [intOf]
      · have i1 : (n : Int) ≤ 8 := by omega
        go_wp2_with fail
        go_roundw
        case rel =>
         have hN : BoxAt wr (w.heap.size + 1) (numsTo l 3) := by
          show BoxAt wr _ ((num4 l 0, num4 l 4, num4 l 8, 0#32) : S4)
          rw [num4_none (l := l) (i := 8) (by rw [hlen.out]; omega)]
          exact hO
         exact ⟨3, by omega, rfl, hN, hZ, hf⟩
        case measure => simp [intOf]
  · have hRow : Row4 wr (w.heap.size + 1) 123 (.int .u32 (W32 (num4 l 0))) (.int .u32 (W32 (num4 l 4))) (.int .u32 (W32 (num4 l 8))) (.int .u32 (W32 (0#32))) := hO
    have cx := hRow.c3
    have fx := hRow.fz 3
    have hy := hb.no hf
    have hc : n ≤ c := hb.2.1
    have hc2 : c ≤ 9223372036854775807 := hb.2.2.1
    by_cases h1 : 16 ≤ n
    · have i1 : (16 : Int) ≤ (n : Int) := by omega
      have i2 : (12 : Int) < (n : Int) := by omega
      have i3 : (16 : Int) ≤ (c : Int) := by omega
      have hcut : IsBytes wr (subAddr a 12 c 1) 4 (c - 12) ((l.drop 12).take 4) := hy.cut 12 16 c (by omega) (by omega) (by omega) (by omega) rfl rfl
      go_wp2_with fail
      refine (Go.Proofs.YtidlpihoafnobaaGreatDoor.Tail_any _ _ _ ((l.drop 12).take 4) _ hcut).mono ?_
      rw [take8_4]
      rintro e w' ⟨rfl, rfl⟩
      go_wp2_with fail
      go_roundw
      case rel =>
       have hN : BoxAt (wr.setCell ⟨w.heap.size + 1, 3, none⟩ (.int .u32 (W32 (num4 l 12)))) (w.heap.size + 1) (numsTo l 4) := box_put3 (s := ((num4 l 0, num4 l 4, num4 l 8, 0#32) : S4)) hO _
       exact ⟨4, by omega, rfl, hN, hZ.fr ((Fr.refl (fun x => x = w.heap.size + 1) wr).setCell (p := ⟨w.heap.size + 1, 3, none⟩) (.inl rfl) _) (by omega), hf.trans ((Fr.refl (fun x => x = w.heap.size + 1) wr).setCell (p := ⟨w.heap.size + 1, 3, none⟩) (.inl rfl) _) (fun x hx => .inr (by omega))⟩
      case measure => simp [intOf]
    · by_cases h2 : 12 < n
      · have i1 : (n : Int) < 16 := by omega
        have i2 : (12 : Int) < (n : Int) := by omega
        have i3 : (n : Int) ≤ (c : Int) := by omega
        have hcut : IsBytes wr (subAddr a 12 c 1) (n - 12) (c - 12) (l.drop 12) := hy.cut_to_end 12 (by omega) rfl rfl
        go_wp2_with fail
        refine (Go.Proofs.YtidlpihoafnobaaGreatDoor.Tail_any _ _ _ (l.drop 12) _ hcut).mono ?_
        rw [take8_short (i := 12) (by rw [hlen.out]; omega)]
        rintro e w' ⟨rfl, rfl⟩
        go_wp2_with fail
        go_roundw
        case rel =>
         have hN : BoxAt (wr.setCell ⟨w.heap.size + 1, 3, none⟩ (.int .u32 (W32 (num4 l 12)))) (w.heap.size + 1) (numsTo l 4) := box_put3 (s := ((num4 l 0, num4 l 4, num4 l 8, 0#32) : S4)) hO _
         exact ⟨4, by omega, rfl, hN, hZ.fr ((Fr.refl (fun x => x = w.heap.size + 1) wr).setCell (p := ⟨w.heap.size + 1, 3, none⟩) (.inl rfl) _) (by omega), hf.trans ((Fr.refl (fun x => x = w.heap.size + 1) wr).setCell (p := ⟨w.heap.size + 1, 3, none⟩) (.inl rfl) _) (fun x hx => .inr (by omega))⟩
        case measure => simp [intOf]
      · have i1 : (n : Int) ≤ 12 := by omega
        go_wp2_with fail
        go_roundw
        case rel =>
         have hN : BoxAt wr (w.heap.size + 1) (numsTo l 4) := by
          show BoxAt wr _ ((num4 l 0, num4 l 4, num4 l 8, num4 l 12) : S4)
          rw [num4_none (l := l) (i := 12) (by rw [hlen.out]; omega)]
          exact hO
         exact ⟨4, by omega, rfl, hN, hZ, hf⟩
        case measure => simp [intOf]
  · have hRow : Row4 wr (w.heap.size + 1) 123 (.int .u32 (W32 (num4 l 0))) (.int .u32 (W32 (num4 l 4))) (.int .u32 (W32 (num4 l 8))) (.int .u32 (W32 (num4 l 12))) := hO
    clear hO
    have cb0 := hRow.c0
    have cb1 := hRow.c1
    have cb2 := hRow.c2
    have cb3 := hRow.c3
    have cr0 := hZ.c0
    have cr1 := hZ.c1
    have cr2 := hZ.c2
    have cr3 := hZ.c3
    have fr0 := hZ.fz 0
    have fr1 := hZ.fz 1
    have fr2 := hZ.fz 2
    have fr3 := hZ.fz 3
    go_wp2_with fail
    have hF3 := fr_put4 wr (w.heap.size) (.int .u32 (W32 (num4 l 0))) (.int .u32 (W32 (num4 l 4))) (.int .u32 (W32 (num4 l 8))) (.int .u32 (W32 (num4 l 12)))
    have hR3 := row_put4 hZ (.int .u32 (W32 (num4 l 0))) (.int .u32 (W32 (num4 l 4))) (.int .u32 (W32 (num4 l 8))) (.int .u32 (W32 (num4 l 12)))
    clear cr0 fr0 cr1 fr1 cr2 fr2 cr3 fr3
    generalize (((wr.setCell ⟨w.heap.size, 0, none⟩ (.int .u32 (W32 (num4 l 0)))).setCell ⟨w.heap.size, 1, none⟩ (.int .u32 (W32 (num4 l 4)))).setCell ⟨w.heap.size, 2, none⟩ (.int .u32 (W32 (num4 l 8)))).setCell ⟨w.heap.size, 3, none⟩ (.int .u32 (W32 (num4 l 12))) = w3 at hF3 hR3 ⊢
    have cd0 := hR3.c0
    have cd1 := hR3.c1
    have cd2 := hR3.c2
    have cd3 := hR3.c3
    refine bodyPost_ret (v := .agg #[.int .u32 (W32 (num4 l 0)), .int .u32 (W32 (num4 l 4)), .int .u32 (W32 (num4 l 8)), .int .u32 (W32 (num4 l 12))]) (by simp [results, Tryz.results189, go_sem, cd0, cd1, cd2, cd3, lanesV, cS0, cS1, cS2, cS3]) rfl ?_
    exact ⟨rfl, hf.trans hF3 (fun x hx => .inr (by omega))⟩
end Go.Proofs.YtidlpihoafnobaaGreatDoor.StM86
