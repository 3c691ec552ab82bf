/- StepM86 -/
import Derived.Test.YtidlpihoafnobaaGreatDoorPCodeM86
set_option linter.unusedVariables false
set_option linter.unusedSimpArgs false
namespace Go.Proofs.YtidlpihoafnobaaGreatDoor.StM86
set_option maxRecDepth 100000
open Go.Proofs.YtidlpihoafnobaaGreatDoor.StG32
open Go.RowKit
def mixC : Nat → Array Value
 | 0 => #[.int .u32 0, .int .i64 0, .int .u32 0, .int .u32 0, .int .i64 0, .int .u32 0, .int .u32 0, .int .i64 0, .int .u32 0, .int .u32 0, .int .i64 0, .int .u32 0]
 | 1 => #[.int .u32 597399067, .int .i64 15, .int .u32 2869860233, .int .u32 0, .int .i64 0, .int .u32 0, .int .u32 0, .int .i64 0, .int .u32 0, .int .u32 0, .int .i64 0, .int .u32 0]
 | 2 => #[.int .u32 597399067, .int .i64 15, .int .u32 2869860233, .int .u32 2869860233, .int .i64 16, .int .u32 951274213, .int .u32 0, .int .i64 0, .int .u32 0, .int .u32 0, .int .i64 0, .int .u32 0]
 | 3 => #[.int .u32 597399067, .int .i64 15, .int .u32 2869860233, .int .u32 2869860233, .int .i64 16, .int .u32 951274213, .int .u32 951274213, .int .i64 17, .int .u32 2716044179, .int .u32 0, .int .i64 0, .int .u32 0]
 | _ => #[.int .u32 597399067, .int .i64 15, .int .u32 2869860233, .int .u32 2869860233, .int .i64 16, .int .u32 951274213, .int .u32 951274213, .int .i64 17, .int .u32 2716044179, .int .u32 2716044179, .int .i64 18, .int .u32 597399067]
def M12 (w : World) (b k : Nat) : Prop := w.heap[b]? = some (.cells (mixC k) 253 (0, 0))
theorem M12.fr {F : Nat → Prop} {w w' : World} {b k : Nat} (h : M12 w b k) (f : Fr F w w') (hF : ¬ F b) : M12 w' b k := f.heap hF h
theorem M12.no {w w' : World} {b k : Nat} (h : M12 w b k) (f : Fr No w w') : M12 w' b k := f.heap (fun h => h) h
theorem M12.c {w : World} {b k : Nat} (h : M12 w b k) (i : Nat) {v : Value} (hv : (mixC k)[i]? = some v) : w.cell? ⟨b, i, none⟩ = some v := by rw [cell_of_row w b i _ _ _ h]; exact hv
theorem M12.fz {w : World} {b k : Nat} (h : M12 w b k) (i : Nat) : w.frozen? ⟨b, i, none⟩ = false := frozen_of_row w b i _ _ h
theorem M12.lt {w : World} {b k : Nat} (h : M12 w b k) : b < w.heap.size := (Array.getElem?_eq_some_iff.1 h).1
theorem put3 {w : World} {b : Nat} {cs : Array Value} {T : TypeId} (h : w.heap[b]? = some (.cells cs T (0, 0))) (i0 i1 i2 : Nat) (x0 x1 x2 : Value) :
 (((w.setCell ⟨b, i0, none⟩ x0).setCell ⟨b, i1, none⟩ x1).setCell ⟨b, i2, none⟩ x2).heap[b]? = some (.cells (((cs.setIfInBounds i0 x0).setIfInBounds i1 x1).setIfInBounds i2 x2) T (0, 0)) := by
 rw [heap_setCell_same _ _ _ _ _ _ (heap_setCell_same _ _ _ _ _ _ (heap_setCell_same _ _ _ _ _ _ h))]
theorem fr_put3 (w : World) (b i0 i1 i2 : Nat) (x0 x1 x2 : Value) : Fr (fun x => x = b) w (((w.setCell ⟨b, i0, none⟩ x0).setCell ⟨b, i1, none⟩ x1).setCell ⟨b, i2, none⟩ x2) :=
 (((Fr.refl (fun x => x = b) w).setCell (p := ⟨b, i0, none⟩) (.inl rfl) _).setCell (p := ⟨b, i1, none⟩) (.inl rfl) _).setCell (p := ⟨b, i2, none⟩) (.inl rfl) _
set_option maxHeartbeats 4000000 in
theorem mixers_any (w : World) : Calls Tryz.prog 190 #[] w (GivesNew (.agg #[.int .u32 597399067, .int .i64 15, .int .u32 2869860233, .int .u32 2869860233, .int .i64 16, .int .u32 951274213, .int .u32 951274213, .int .i64 17, .int .u32 2716044179, .int .u32 2716044179, .int .i64 18, .int .u32 597399067]) w) := by
 have hF0 : Fr No w (((w.alloc (.cells #[.int .u32 0, .int .i64 0, .int .u32 0, .int .u32 0, .int .i64 0, .int .u32 0, .int .u32 0, .int .i64 0, .int .u32 0, .int .u32 0, .int .i64 0, .int .u32 0] 253)).alloc (.cells #[.int .u32 597399067, .int .u32 2869860233, .int .u32 951274213, .int .u32 2716044179] 123)).alloc (.cells #[.int .u32 0, .int .i64 0, .int .u32 0, .int .u32 0, .int .i64 0, .int .u32 0, .int .u32 0, .int .i64 0, .int .u32 0, .int .u32 0, .int .i64 0, .int .u32 0] 253)) := (((Fr.refl No w).alloc _).alloc _).alloc _
 have hO0 : M12 (((w.alloc (.cells #[.int .u32 0, .int .i64 0, .int .u32 0, .int .u32 0, .int .i64 0, .int .u32 0, .int .u32 0, .int .i64 0, .int .u32 0, .int .u32 0, .int .i64 0, .int .u32 0] 253)).alloc (.cells #[.int .u32 597399067, .int .u32 2869860233, .int .u32 951274213, .int .u32 2716044179] 123)).alloc (.cells #[.int .u32 0, .int .i64 0, .int .u32 0, .int .u32 0, .int .i64 0, .int .u32 0, .int .u32 0, .int .i64 0, .int .u32 0, .int .u32 0, .int .i64 0, .int .u32 0] 253)) (w.heap.size + 2) 0 := heap_alloc3_new w _ _ _
 have hC0 : Row4 (((w.alloc (.cells #[.int .u32 0, .int .i64 0, .int .u32 0, .int .u32 0, .int .i64 0, .int .u32 0, .int .u32 0, .int .i64 0, .int .u32 0, .int .u32 0, .int .i64 0, .int .u32 0] 253)).alloc (.cells #[.int .u32 597399067, .int .u32 2869860233, .int .u32 951274213, .int .u32 2716044179] 123)).alloc (.cells #[.int .u32 0, .int .i64 0, .int .u32 0, .int .u32 0, .int .i64 0, .int .u32 0, .int .u32 0, .int .i64 0, .int .u32 0, .int .u32 0, .int .i64 0, .int .u32 0] 253)) (w.heap.size + 1) 123 (.int .u32 597399067) (.int .u32 2869860233) (.int .u32 951274213) (.int .u32 2716044179) := Row4.no (show Row4 ((w.alloc (.cells #[.int .u32 0, .int .i64 0, .int .u32 0, .int .u32 0, .int .i64 0, .int .u32 0, .int .u32 0, .int .i64 0, .int .u32 0, .int .u32 0, .int .i64 0, .int .u32 0] 253)).alloc (.cells #[.int .u32 597399067, .int .u32 2869860233, .int .u32 951274213, .int .u32 2716044179] 123)) (w.heap.size + 1) 123 (.int .u32 597399067) (.int .u32 2869860233) (.int .u32 951274213) (.int .u32 2716044179) from heap_alloc2_new w _ _) ((Fr.refl No _).alloc _)
 have hR0 : M12 (((w.alloc (.cells #[.int .u32 0, .int .i64 0, .int .u32 0, .int .u32 0, .int .i64 0, .int .u32 0, .int .u32 0, .int .i64 0, .int .u32 0, .int .u32 0, .int .i64 0, .int .u32 0] 253)).alloc (.cells #[.int .u32 597399067, .int .u32 2869860233, .int .u32 951274213, .int .u32 2716044179] 123)).alloc (.cells #[.int .u32 0, .int .i64 0, .int .u32 0, .int .u32 0, .int .i64 0, .int .u32 0, .int .u32 0, .int .i64 0, .int .u32 0, .int .u32 0, .int .i64 0, .int .u32 0] 253)) w.heap.size 0 := M12.no (M12.no (show M12 (w.alloc (.cells #[.int .u32 0, .int .i64 0, .int .u32 0, .int .u32 0, .int .i64 0, .int .u32 0, .int .u32 0, .int .i64 0, .int .u32 0, .int .u32 0, .int .i64 0, .int .u32 0] 253)) w.heap.size 0 from heap_alloc_new w _) ((Fr.refl No _).alloc _)) ((Fr.refl No _).alloc _)
 go_enter Tryz.func190, Tryz.ntmps190
 go_wp2
 rw [show w.heap.size + 1 + 1 = w.heap.size + 2 from rfl]
 go_loopw [5] (fun i wr => ∃ k : Nat, k ≤ 4 ∧ i = .int .i64 k ∧ M12 wr (w.heap.size + 2) k ∧ Row4 wr (w.heap.size + 1) 123 (.int .u32 597399067) (.int .u32 2869860233) (.int .u32 951274213) (.int .u32 2716044179) ∧ M12 wr w.heap.size 0 ∧ Fr No w wr) (fun i _ => 4 - (intOf i).toNat)
 case atStart => exact ⟨0, by omega, rfl, hO0, hC0, hR0, hF0⟩
 case round =>
  obtain ⟨k, hk, rfl, hO, hC, hR, hf⟩ := hrel
  clear hF0 hO0 hC0 hR0
  rcases (show k = 0 ∨ k = 1 ∨ k = 2 ∨ k = 3 ∨ k = 4 by omega) with rfl | rfl | rfl | rfl | rfl
  · go_wp2_with fail
    refine wp_region_seq (by kernel_rfl) (fun w' => Fr No wr w') (fun i => decide (13 ≤ i)) [(0, 1), (1, 1), (2, 1), (3, 1), (4, 1), (5, 1), (6, 1), (7, 1), (8, 1), (9, 1), (10, 1), (11, 1), (12, 1), (13, 0)] (by kernel_rfl) (Fr.refl No wr).drew ?_
    have hv0 : Fr No wr wr.drew := (Fr.refl No wr).drew
    iterate 7 refine tq _ rfl rfl (by intro w9 h9; have q0 := (hC.no h9).c0; have q1 := (hC.no h9).c1; have q2 := (hC.no h9).c2; have q3 := (hC.no h9).c3; clear h9; go_simp; try with_reducible rfl) ?_; simp only [es1, es2, es3]
    iterate 3 refine tq _ rfl rfl (by intro w9 h9; have em : IntKind.i64.wrap 1 = 1 := (by decide); have em2 : (1 : Int).tmod 4 = 1 := (by decide); clear h9; go_simp; try with_reducible rfl) ?_; simp only [es1, es2, es3]
    iterate 3 refine tq _ rfl rfl (by intro w9 h9; have q0 := (hC.no h9).c0; have q1 := (hC.no h9).c1; have q2 := (hC.no h9).c2; have q3 := (hC.no h9).c3; clear h9; go_simp; try with_reducible rfl) ?_; simp only [es1, es2, es3]
    have hOx := hO.no hv0
    have cx0 := hOx.c 0 (v := .int .u32 0) rfl
    have cx1 := hOx.c 1 (v := .int .i64 0) rfl
    have cx2 := hOx.c 2 (v := .int .u32 0) rfl
    have fx0 := hOx.fz 0
    have fx1 := hOx.fz 1
    have fx2 := hOx.fz 2
    have cy0 := hO.c 0 (v := .int .u32 0) rfl
    have cy1 := hO.c 1 (v := .int .i64 0) rfl
    have cy2 := hO.c 2 (v := .int .u32 0) rfl
    have fy0 := hO.fz 0
    have fy1 := hO.fz 1
    have fy2 := hO.fz 2
    refine wpSeq_next rfl rfl (fun K hK => ?_)
    go_wp2_with fail
    refine hK.out _ _ (fun h => by simp at h) ?_
    clear hK K
    refine wpSeq_done ?_
    have hf3 := (fr_put3 wr (w.heap.size + 2) 0 1 2 (.int .u32 597399067) (.int .i64 15) (.int .u32 2869860233)).no (Fr.refl No _).drew
    have hN : M12 _ (w.heap.size + 2) 1 := M12.no (show M12 _ (w.heap.size + 2) 1 from put3 hO 0 1 2 (.int .u32 597399067) (.int .i64 15) (.int .u32 2869860233)) (Fr.refl No _).drew
    have hC3 := hC.fr hf3 (by omega)
    have hR3 := hR.fr hf3 (by omega)
    have hF3 := hf.trans hf3 (fun x hx => .inr (by omega))
    clear hOx cx0 cx1 cx2 fx0 fx1 fx2 cy0 cy1 cy2 fy0 fy1 fy2 hv0 hO hC hR hf
    go_wp2_with fail
    go_roundw
    case rel => exact ⟨1, by omega, rfl, hN, hC3, hR3, hF3⟩
    case measure => simp [intOf]
  · go_wp2_with fail
    refine wp_region_seq (by kernel_rfl) (fun w' => Fr No wr w') (fun i => decide (13 ≤ i)) [(0, 1), (1, 1), (2, 1), (3, 1), (4, 1), (5, 1), (6, 1), (7, 1), (8, 1), (9, 1), (10, 1), (11, 1), (12, 1), (13, 0)] (by kernel_rfl) (Fr.refl No wr).drew ?_
    have hv0 : Fr No wr wr.drew := (Fr.refl No wr).drew
    iterate 7 refine tq _ rfl rfl (by intro w9 h9; have q0 := (hC.no h9).c0; have q1 := (hC.no h9).c1; have q2 := (hC.no h9).c2; have q3 := (hC.no h9).c3; clear h9; go_simp; try with_reducible rfl) ?_; simp only [es1, es2, es3]
    iterate 3 refine tq _ rfl rfl (by intro w9 h9; have em : IntKind.i64.wrap 2 = 2 := (by decide); have em2 : (2 : Int).tmod 4 = 2 := (by decide); clear h9; go_simp; try with_reducible rfl) ?_; simp only [es1, es2, es3]
    iterate 3 refine tq _ rfl rfl (by intro w9 h9; have q0 := (hC.no h9).c0; have q1 := (hC.no h9).c1; have q2 := (hC.no h9).c2; have q3 := (hC.no h9).c3; clear h9; go_simp; try with_reducible rfl) ?_; simp only [es1, es2, es3]
    have hOx := hO.no hv0
    have cx0 := hOx.c 3 (v := .int .u32 0) rfl
    have cx1 := hOx.c 4 (v := .int .i64 0) rfl
    have cx2 := hOx.c 5 (v := .int .u32 0) rfl
    have fx0 := hOx.fz 3
    have fx1 := hOx.fz 4
    have fx2 := hOx.fz 5
    have cy0 := hO.c 3 (v := .int .u32 0) rfl
    have cy1 := hO.c 4 (v := .int .i64 0) rfl
    have cy2 := hO.c 5 (v := .int .u32 0) rfl
    have fy0 := hO.fz 3
    have fy1 := hO.fz 4
    have fy2 := hO.fz 5
    refine wpSeq_next rfl rfl (fun K hK => ?_)
    go_wp2_with fail
    refine hK.out _ _ (fun h => by simp at h) ?_
    clear hK K
    refine wpSeq_done ?_
    have hf3 := (fr_put3 wr (w.heap.size + 2) 3 4 5 (.int .u32 2869860233) (.int .i64 16) (.int .u32 951274213)).no (Fr.refl No _).drew
    have hN : M12 _ (w.heap.size + 2) 2 := M12.no (show M12 _ (w.heap.size + 2) 2 from put3 hO 3 4 5 (.int .u32 2869860233) (.int .i64 16) (.int .u32 951274213)) (Fr.refl No _).drew
    have hC3 := hC.fr hf3 (by omega)
    have hR3 := hR.fr hf3 (by omega)
    have hF3 := hf.trans hf3 (fun x hx => .inr (by omega))
    clear hOx cx0 cx1 cx2 fx0 fx1 fx2 cy0 cy1 cy2 fy0 fy1 fy2 hv0 hO hC hR hf
    go_wp2_with fail
    go_roundw
    case rel => exact ⟨2, by omega, rfl, hN, hC3, hR3, hF3⟩
    case measure => simp [intOf]
  · go_wp2_with fail
    refine wp_region_seq (by kernel_rfl) (fun w' => Fr No wr w') (fun i => decide (13 ≤ i)) [(0, 1), (1, 1), (2, 1), (3, 1), (4, 1), (5, 1), (6, 1), (7, 1), (8, 1), (9, 1), (10, 1), (11, 1), (12, 1), (13, 0)] (by kernel_rfl) (Fr.refl No wr).drew ?_
    have hv0 : Fr No wr wr.drew := (Fr.refl No wr).drew
    iterate 7 refine tq _ rfl rfl (by intro w9 h9; have q0 := (hC.no h9).c0; have q1 := (hC.no h9).c1; have q2 := (hC.no h9).c2; have q3 := (hC.no h9).c3; clear h9; go_simp; try with_reducible rfl) ?_; simp only [es1, es2, es3]
    iterate 3 refine tq _ rfl rfl (by intro w9 h9; have em : IntKind.i64.wrap 3 = 3 := (by decide); have em2 : (3 : Int).tmod 4 = 3 := (by decide); clear h9; go_simp; try with_reducible rfl) ?_; simp only [es1, es2, es3]
    iterate 3 refine tq _ rfl rfl (by intro w9 h9; have q0 := (hC.no h9).c0; have q1 := (hC.no h9).c1; have q2 := (hC.no h9).c2; have q3 := (hC.no h9).c3; clear h9; go_simp; try with_reducible rfl) ?_; simp only [es1, es2, es3]
    have hOx := hO.no hv0
    have cx0 := hOx.c 6 (v := .int .u32 0) rfl
    have cx1 := hOx.c 7 (v := .int .i64 0) rfl
    have cx2 := hOx.c 8 (v := .int .u32 0) rfl
    have fx0 := hOx.fz 6
    have fx1 := hOx.fz 7
    have fx2 := hOx.fz 8
    have cy0 := hO.c 6 (v := .int .u32 0) rfl
    have cy1 := hO.c 7 (v := .int .i64 0) rfl
    have cy2 := hO.c 8 (v := .int .u32 0) rfl
    have fy0 := hO.fz 6
    have fy1 := hO.fz 7
    have fy2 := hO.fz 8
    refine wpSeq_next rfl rfl (fun K hK => ?_)
    go_wp2_with fail
    refine hK.out _ _ (fun h => by simp at h) ?_
    clear hK K
    refine wpSeq_done ?_
    have hf3 := (fr_put3 wr (w.heap.size + 2) 6 7 8 (.int .u32 951274213) (.int .i64 17) (.int .u32 2716044179)).no (Fr.refl No _).drew
    have hN : M12 _ (w.heap.size + 2) 3 := M12.no (show M12 _ (w.heap.size + 2) 3 from put3 hO 6 7 8 (.int .u32 951274213) (.int .i64 17) (.int .u32 2716044179)) (Fr.refl No _).drew
    have hC3 := hC.fr hf3 (by omega)
    have hR3 := hR.fr hf3 (by omega)
    have hF3 := hf.trans hf3 (fun x hx => .inr (by omega))
    clear hOx cx0 cx1 cx2 fx0 fx1 fx2 cy0 cy1 cy2 fy0 fy1 fy2 hv0 hO hC hR hf
    go_wp2_with fail
    go_roundw
    case rel => exact ⟨3, by omega, rfl, hN, hC3, hR3, hF3⟩
    case measure => simp [intOf]
  · go_wp2_with fail
    refine wp_region_seq (by kernel_rfl) (fun w' => Fr No wr w') (fun i => decide (13 ≤ i)) [(0, 1), (1, 1), (2, 1), (3, 1), (4, 1), (5, 1), (6, 1), (7, 1), (8, 1), (9, 1), (10, 1), (11, 1), (12, 1), (13, 0)] (by kernel_rfl) (Fr.refl No wr).drew ?_
    have hv0 : Fr No wr wr.drew := (Fr.refl No wr).drew
    iterate 7 refine tq _ rfl rfl (by intro w9 h9; have q0 := (hC.no h9).c0; have q1 := (hC.no h9).c1; have q2 := (hC.no h9).c2; have q3 := (hC.no h9).c3; clear h9; go_simp; try with_reducible rfl) ?_; simp only [es1, es2, es3]
    iterate 3 refine tq _ rfl rfl (by intro w9 h9; have em : IntKind.i64.wrap 4 = 4 := (by decide); have em2 : (4 : Int).tmod 4 = 0 := (by decide); clear h9; go_simp; try with_reducible rfl) ?_; simp only [es1, es2, es3]
    iterate 3 refine tq _ rfl rfl (by intro w9 h9; have q0 := (hC.no h9).c0; have q1 := (hC.no h9).c1; have q2 := (hC.no h9).c2; have q3 := (hC.no h9).c3; clear h9; go_simp; try with_reducible rfl) ?_; simp only [es1, es2, es3]
    have hOx := hO.no hv0
    have cx0 := hOx.c 9 (v := .int .u32 0) rfl
    have cx1 := hOx.c 10 (v := .int .i64 0) rfl
    have cx2 := hOx.c 11 (v := .int .u32 0) rfl
    have fx0 := hOx.fz 9
    have fx1 := hOx.fz 10
    have fx2 := hOx.fz 11
    have cy0 := hO.c 9 (v := .int .u32 0) rfl
    have cy1 := hO.c 10 (v := .int .i64 0) rfl
    have cy2 := hO.c 11 (v := .int .u32 0) rfl
    have fy0 := hO.fz 9
    have fy1 := hO.fz 10
    have fy2 := hO.fz 11
    refine wpSeq_next rfl rfl (fun K hK => ?_)
    go_wp2_with fail
    refine hK.out _ _ (fun h => by simp at h) ?_
    clear hK K
    refine wpSeq_done ?_
    have hf3 := (fr_put3 wr (w.heap.size + 2) 9 10 11 (.int .u32 2716044179) (.int .i64 18) (.int .u32 597399067)).no (Fr.refl No _).drew
    have hN : M12 _ (w.heap.size + 2) 4 := M12.no (show M12 _ (w.heap.size + 2) 4 from put3 hO 9 10 11 (.int .u32 2716044179) (.int .i64 18) (.int .u32 597399067)) (Fr.refl No _).drew
    have hC3 := hC.fr hf3 (by omega)
    have hR3 := hR.fr hf3 (by omega)
    have hF3 := hf.trans hf3 (fun x hx => .inr (by omega))
    clear hOx cx0 cx1 cx2 fx0 fx1 fx2 cy0 cy1 cy2 fy0 fy1 fy2 hv0 hO hC hR hf
    go_wp2_with fail
    go_roundw
    case rel => exact ⟨4, by omega, rfl, hN, hC3, hR3, hF3⟩
    case measure => simp [intOf]
  · have cq0 := hO.c 0 (v := .int .u32 597399067) rfl
    have cq1 := hO.c 1 (v := .int .i64 15) rfl
    have cq2 := hO.c 2 (v := .int .u32 2869860233) rfl
    have cq3 := hO.c 3 (v := .int .u32 2869860233) rfl
    have cq4 := hO.c 4 (v := .int .i64 16) rfl
    have cq5 := hO.c 5 (v := .int .u32 951274213) rfl
    have cq6 := hO.c 6 (v := .int .u32 951274213) rfl
    have cq7 := hO.c 7 (v := .int .i64 17) rfl
    have cq8 := hO.c 8 (v := .int .u32 2716044179) rfl
    have cq9 := hO.c 9 (v := .int .u32 2716044179) rfl
    have cq10 := hO.c 10 (v := .int .i64 18) rfl
    have cq11 := hO.c 11 (v := .int .u32 597399067) rfl
    have cr0 := hR.c 0 (v := .int .u32 0) rfl
    have cr1 := hR.c 1 (v := .int .i64 0) rfl
    have cr2 := hR.c 2 (v := .int .u32 0) rfl
    have cr3 := hR.c 3 (v := .int .u32 0) rfl
    have cr4 := hR.c 4 (v := .int .i64 0) rfl
    have cr5 := hR.c 5 (v := .int .u32 0) rfl
    have cr6 := hR.c 6 (v := .int .u32 0) rfl
    have cr7 := hR.c 7 (v := .int .i64 0) rfl
    have cr8 := hR.c 8 (v := .int .u32 0) rfl
    have cr9 := hR.c 9 (v := .int .u32 0) rfl
    have cr10 := hR.c 10 (v := .int .i64 0) rfl
    have cr11 := hR.c 11 (v := .int .u32 0) rfl
    have fr0 := hR.fz 0
    have fr1 := hR.fz 1
    have fr2 := hR.fz 2
    have fr3 := hR.fz 3
    have fr4 := hR.fz 4
    have fr5 := hR.fz 5
    have fr6 := hR.fz 6
    have fr7 := hR.fz 7
    have fr8 := hR.fz 8
    have fr9 := hR.fz 9
    have fr10 := hR.fz 10
    have fr11 := hR.fz 11
    go_wp2_with fail
    have hF9 : Fr (fun x => x = w.heap.size) wr ((((((((((((wr.setCell ⟨w.heap.size, 0, none⟩ (.int .u32 597399067)).setCell ⟨w.heap.size, 1, none⟩ (.int .i64 15)).setCell ⟨w.heap.size, 2, none⟩ (.int .u32 2869860233)).setCell ⟨w.heap.size, 3, none⟩ (.int .u32 2869860233)).setCell ⟨w.heap.size, 4, none⟩ (.int .i64 16)).setCell ⟨w.heap.size, 5, none⟩ (.int .u32 951274213)).setCell ⟨w.heap.size, 6, none⟩ (.int .u32 951274213)).setCell ⟨w.heap.size, 7, none⟩ (.int .i64 17)).setCell ⟨w.heap.size, 8, none⟩ (.int .u32 2716044179)).setCell ⟨w.heap.size, 9, none⟩ (.int .u32 2716044179)).setCell ⟨w.heap.size, 10, none⟩ (.int .i64 18)).setCell ⟨w.heap.size, 11, none⟩ (.int .u32 597399067)) := (((((((((((((Fr.refl (fun x => x = w.heap.size) wr).setCell (p := ⟨w.heap.size, 0, none⟩) (.inl rfl) (.int .u32 597399067)).setCell (p := ⟨w.heap.size, 1, none⟩) (.inl rfl) (.int .i64 15)).setCell (p := ⟨w.heap.size, 2, none⟩) (.inl rfl) (.int .u32 2869860233)).setCell (p := ⟨w.heap.size, 3, none⟩) (.inl rfl) (.int .u32 2869860233)).setCell (p := ⟨w.heap.size, 4, none⟩) (.inl rfl) (.int .i64 16)).setCell (p := ⟨w.heap.size, 5, none⟩) (.inl rfl) (.int .u32 951274213)).setCell (p := ⟨w.heap.size, 6, none⟩) (.inl rfl) (.int .u32 951274213)).setCell (p := ⟨w.heap.size, 7, none⟩) (.inl rfl) (.int .i64 17)).setCell (p := ⟨w.heap.size, 8, none⟩) (.inl rfl) (.int .u32 2716044179)).setCell (p := ⟨w.heap.size, 9, none⟩) (.inl rfl) (.int .u32 2716044179)).setCell (p := ⟨w.heap.size, 10, none⟩) (.inl rfl) (.int .i64 18)).setCell (p := ⟨w.heap.size, 11, none⟩) (.inl rfl) (.int .u32 597399067))
    have hR9 : M12 ((((((((((((wr.setCell ⟨w.heap.size, 0, none⟩ (.int .u32 597399067)).setCell ⟨w.heap.size, 1, none⟩ (.int .i64 15)).setCell ⟨w.heap.size, 2, none⟩ (.int .u32 2869860233)).setCell ⟨w.heap.size, 3, none⟩ (.int .u32 2869860233)).setCell ⟨w.heap.size, 4, none⟩ (.int .i64 16)).setCell ⟨w.heap.size, 5, none⟩ (.int .u32 951274213)).setCell ⟨w.heap.size, 6, none⟩ (.int .u32 951274213)).setCell ⟨w.heap.size, 7, none⟩ (.int .i64 17)).setCell ⟨w.heap.size, 8, none⟩ (.int .u32 2716044179)).setCell ⟨w.heap.size, 9, none⟩ (.int .u32 2716044179)).setCell ⟨w.heap.size, 10, none⟩ (.int .i64 18)).setCell ⟨w.heap.size, 11, none⟩ (.int .u32 597399067)) w.heap.size 4 := (heap_setCell_same _ _ 11 _ _ (.int .u32 597399067) (heap_setCell_same _ _ 10 _ _ (.int .i64 18) (heap_setCell_same _ _ 9 _ _ (.int .u32 2716044179) (heap_setCell_same _ _ 8 _ _ (.int .u32 2716044179) (heap_setCell_same _ _ 7 _ _ (.int .i64 17) (heap_setCell_same _ _ 6 _ _ (.int .u32 951274213) (heap_setCell_same _ _ 5 _ _ (.int .u32 951274213) (heap_setCell_same _ _ 4 _ _ (.int .i64 16) (heap_setCell_same _ _ 3 _ _ (.int .u32 2869860233) (heap_setCell_same _ _ 2 _ _ (.int .u32 2869860233) (heap_setCell_same _ _ 1 _ _ (.int .i64 15) (heap_setCell_same _ _ 0 _ _ (.int .u32 597399067) hR))))))))))))
    clear cr0 fr0 cq0 cr1 fr1 cq1 cr2 fr2 cq2 cr3 fr3 cq3 cr4 fr4 cq4 cr5 fr5 cq5 cr6 fr6 cq6 cr7 fr7 cq7 cr8 fr8 cq8 cr9 fr9 cq9 cr10 fr10 cq10 cr11 fr11 cq11
    generalize (((((((((((wr.setCell ⟨w.heap.size, 0, none⟩ (.int .u32 597399067)).setCell ⟨w.heap.size, 1, none⟩ (.int .i64 15)).setCell ⟨w.heap.size, 2, none⟩ (.int .u32 2869860233)).setCell ⟨w.heap.size, 3, none⟩ (.int .u32 2869860233)).setCell ⟨w.heap.size, 4, none⟩ (.int .i64 16)).setCell ⟨w.heap.size, 5, none⟩ (.int .u32 951274213)).setCell ⟨w.heap.size, 6, none⟩ (.int .u32 951274213)).setCell ⟨w.heap.size, 7, none⟩ (.int .i64 17)).setCell ⟨w.heap.size, 8, none⟩ (.int .u32 2716044179)).setCell ⟨w.heap.size, 9, none⟩ (.int .u32 2716044179)).setCell ⟨w.heap.size, 10, none⟩ (.int .i64 18)).setCell ⟨w.heap.size, 11, none⟩ (.int .u32 597399067) = w9 at hF9 hR9 ⊢
    have cd0 := hR9.c 0 (v := .int .u32 597399067) rfl
    have cd1 := hR9.c 1 (v := .int .i64 15) rfl
    have cd2 := hR9.c 2 (v := .int .u32 2869860233) rfl
    have cd3 := hR9.c 3 (v := .int .u32 2869860233) rfl
    have cd4 := hR9.c 4 (v := .int .i64 16) rfl
    have cd5 := hR9.c 5 (v := .int .u32 951274213) rfl
    have cd6 := hR9.c 6 (v := .int .u32 951274213) rfl
    have cd7 := hR9.c 7 (v := .int .i64 17) rfl
    have cd8 := hR9.c 8 (v := .int .u32 2716044179) rfl
    have cd9 := hR9.c 9 (v := .int .u32 2716044179) rfl
    have cd10 := hR9.c 10 (v := .int .i64 18) rfl
    have cd11 := hR9.c 11 (v := .int .u32 597399067) rfl
    refine bodyPost_ret (v := .agg #[.int .u32 597399067, .int .i64 15, .int .u32 2869860233, .int .u32 2869860233, .int .i64 16, .int .u32 951274213, .int .u32 951274213, .int .i64 17, .int .u32 2716044179, .int .u32 2716044179, .int .i64 18, .int .u32 597399067]) (by simp [results, Tryz.results190, go_sem, cd0, cd1, cd2, cd3, cd4, cd5, cd6, cd7, cd8, cd9, cd10, cd11]) rfl ?_
    exact ⟨rfl, hf.trans hF9 (fun x hx => .inr (by omega))⟩
theorem mix0_def (s : S4) (l : Bytes) : s.1 ^^^ w0 (num4 l 0) = mix0 s l := rfl
theorem mix1_def (s : S4) (l : Bytes) : s.2.1 ^^^ w1 (num4 l 4) = mix1 s l := rfl
theorem mix2_def (s : S4) (l : Bytes) : s.2.2.1 ^^^ w2 (num4 l 8) = mix2 s l := rfl
theorem mix3_def (s : S4) (l : Bytes) : s.2.2.2 ^^^ w3 (num4 l 12) = mix3 s l := rfl
theorem one0_def (s : S4) (l : Bytes) : ((turn0 (mix0 s l) s.2.1, s.2.1, s.2.2.1, s.2.2.2) : S4) = one0 s l := rfl
theorem one1_def (s : S4) (l : Bytes) : ((s.1, turn1 (mix1 s l) s.2.2.1, s.2.2.1, s.2.2.2) : S4) = one1 s l := rfl
theorem one2_def (s : S4) (l : Bytes) : ((s.1, s.2.1, turn2 (mix2 s l) s.2.2.2, s.2.2.2) : S4) = one2 s l := rfl
theorem one3_def (s : S4) (l : Bytes) : ((s.1, s.2.1, s.2.2.1, turn3 (mix3 s l) s.1) : S4) = one3 s l := rfl
set_option maxHeartbeats 4000000 in
theorem step_any (s : ST) (a : Option Addr) (n c : Nat) (l : Bytes) (w : World) (h : IsBytes w a n c l) :
 Calls Tryz.prog 128 #[.agg #[cS s 0, cS s 1, cS s 2, cS s 3], .slice a n c] w (GivesS (stepG s l) w) := by
 simp only [cS0, cS1, cS2, cS3]
 have hF0 : Fr No w ((w.alloc (.cells #[.int .u32 (W32 (s.1)), .int .u32 (W32 (s.2.1)), .int .u32 (W32 (s.2.2.1)), .int .u32 (W32 (s.2.2.2))] 123)).alloc (.cells #[.int .u32 0, .int .u32 0, .int .u32 0, .int .u32 0] 123)) := ((Fr.refl No w).alloc _).alloc _
 have hB0 : BoxAt ((w.alloc (.cells #[.int .u32 (W32 (s.1)), .int .u32 (W32 (s.2.1)), .int .u32 (W32 (s.2.2.1)), .int .u32 (W32 (s.2.2.2))] 123)).alloc (.cells #[.int .u32 0, .int .u32 0, .int .u32 0, .int .u32 0] 123)) w.heap.size s := BoxAt.fr (row_box (row4_new w 123 (.int .u32 (W32 (s.1))) (.int .u32 (W32 (s.2.1))) (.int .u32 (W32 (s.2.2.1))) (.int .u32 (W32 (s.2.2.2))))) ((Fr.refl No _).alloc _) (fun h => h)
 have hZ0 : Row4 ((w.alloc (.cells #[.int .u32 (W32 (s.1)), .int .u32 (W32 (s.2.1)), .int .u32 (W32 (s.2.2.1)), .int .u32 (W32 (s.2.2.2))] 123)).alloc (.cells #[.int .u32 0, .int .u32 0, .int .u32 0, .int .u32 0] 123)) (w.heap.size + 1) 123 (.int .u32 0) (.int .u32 0) (.int .u32 0) (.int .u32 0) := heap_alloc2_new w _ _
 have h1 := h.no hF0
 go_enter Tryz.func128, Tryz.ntmps128
 go_wp2_with fail
 obtain ⟨pb, hpb⟩ : ∃ pb, pb = w.heap.size := ⟨_, rfl⟩
 have hpw : w.heap.size ≤ pb := by omega
 rw [← hpb] at hB0 hZ0 ⊢
 clear hpb
 generalize ((w.alloc (.cells #[.int .u32 (W32 (s.1)), .int .u32 (W32 (s.2.1)), .int .u32 (W32 (s.2.2.1)), .int .u32 (W32 (s.2.2.2))] 123)).alloc (.cells #[.int .u32 0, .int .u32 0, .int .u32 0, .int .u32 0] 123)) = w1 at hF0 hB0 hZ0 h1 ⊢
 refine (words_any _ _ _ l _ h1).mono ?_
 rintro e w3 ⟨rfl, hf3⟩
 have hB3 := hB0.fr hf3 (fun h => h)
 have hZ3 := hZ0.no hf3
 have hF3 := hF0.no hf3
 clear hB0 hZ0 hF0 hf3 h1 h
 go_wp2_with fail
 refine (mixers_any _).mono ?_
 rintro e w2 ⟨rfl, hf2⟩
 have hB2 := hB3.fr hf2 (fun h => h)
 have hZ2 := hZ3.no hf2
 have hF2 := hF3.no hf2
 clear hB3 hZ3 hF3 hf2
 have hmb := hZ2.lt
 have hFa : Fr No w2 ((((w2.alloc (.cells #[.int .u32 (W32 (num4 l 0)), .int .u32 (W32 (num4 l 4)), .int .u32 (W32 (num4 l 8)), .int .u32 (W32 (num4 l 12))] 123)).alloc (.cells #[.int .u32 597399067, .int .i64 15, .int .u32 2869860233, .int .u32 2869860233, .int .i64 16, .int .u32 951274213, .int .u32 951274213, .int .i64 17, .int .u32 2716044179, .int .u32 2716044179, .int .i64 18, .int .u32 597399067] 253)).alloc (.cells #[.int .i64 19, .int .i64 17, .int .i64 15, .int .i64 13] 255)).alloc (.cells #[.int .u32 1444728091, .int .u32 197830471, .int .u32 2530024501, .int .u32 850148119] 123)) := ((((Fr.refl No w2).alloc _).alloc _).alloc _).alloc _
 have hN0 : Row4 ((((w2.alloc (.cells #[.int .u32 (W32 (num4 l 0)), .int .u32 (W32 (num4 l 4)), .int .u32 (W32 (num4 l 8)), .int .u32 (W32 (num4 l 12))] 123)).alloc (.cells #[.int .u32 597399067, .int .i64 15, .int .u32 2869860233, .int .u32 2869860233, .int .i64 16, .int .u32 951274213, .int .u32 951274213, .int .i64 17, .int .u32 2716044179, .int .u32 2716044179, .int .i64 18, .int .u32 597399067] 253)).alloc (.cells #[.int .i64 19, .int .i64 17, .int .i64 15, .int .i64 13] 255)).alloc (.cells #[.int .u32 1444728091, .int .u32 197830471, .int .u32 2530024501, .int .u32 850148119] 123)) w2.heap.size 123 (.int .u32 (W32 (num4 l 0))) (.int .u32 (W32 (num4 l 4))) (.int .u32 (W32 (num4 l 8))) (.int .u32 (W32 (num4 l 12))) := (row4_new w2 123 (.int .u32 (W32 (num4 l 0))) (.int .u32 (W32 (num4 l 4))) (.int .u32 (W32 (num4 l 8))) (.int .u32 (W32 (num4 l 12)))).no ((((Fr.refl No _).alloc _).alloc _).alloc _)
 have hX0 : M12 ((((w2.alloc (.cells #[.int .u32 (W32 (num4 l 0)), .int .u32 (W32 (num4 l 4)), .int .u32 (W32 (num4 l 8)), .int .u32 (W32 (num4 l 12))] 123)).alloc (.cells #[.int .u32 597399067, .int .i64 15, .int .u32 2869860233, .int .u32 2869860233, .int .i64 16, .int .u32 951274213, .int .u32 951274213, .int .i64 17, .int .u32 2716044179, .int .u32 2716044179, .int .i64 18, .int .u32 597399067] 253)).alloc (.cells #[.int .i64 19, .int .i64 17, .int .i64 15, .int .i64 13] 255)).alloc (.cells #[.int .u32 1444728091, .int .u32 197830471, .int .u32 2530024501, .int .u32 850148119] 123)) (w2.heap.size + 1) 4 := M12.no (show M12 ((w2.alloc (.cells #[.int .u32 (W32 (num4 l 0)), .int .u32 (W32 (num4 l 4)), .int .u32 (W32 (num4 l 8)), .int .u32 (W32 (num4 l 12))] 123)).alloc (.cells #[.int .u32 597399067, .int .i64 15, .int .u32 2869860233, .int .u32 2869860233, .int .i64 16, .int .u32 951274213, .int .u32 951274213, .int .i64 17, .int .u32 2716044179, .int .u32 2716044179, .int .i64 18, .int .u32 597399067] 253)) (w2.heap.size + 1) 4 from heap_alloc2_new w2 _ _) (((Fr.refl No _).alloc _).alloc _)
 have hT0 : Row4 ((((w2.alloc (.cells #[.int .u32 (W32 (num4 l 0)), .int .u32 (W32 (num4 l 4)), .int .u32 (W32 (num4 l 8)), .int .u32 (W32 (num4 l 12))] 123)).alloc (.cells #[.int .u32 597399067, .int .i64 15, .int .u32 2869860233, .int .u32 2869860233, .int .i64 16, .int .u32 951274213, .int .u32 951274213, .int .i64 17, .int .u32 2716044179, .int .u32 2716044179, .int .i64 18, .int .u32 597399067] 253)).alloc (.cells #[.int .i64 19, .int .i64 17, .int .i64 15, .int .i64 13] 255)).alloc (.cells #[.int .u32 1444728091, .int .u32 197830471, .int .u32 2530024501, .int .u32 850148119] 123)) (w2.heap.size + 2) 255 (.int .i64 19) (.int .i64 17) (.int .i64 15) (.int .i64 13) := Row4.no (show Row4 (((w2.alloc (.cells #[.int .u32 (W32 (num4 l 0)), .int .u32 (W32 (num4 l 4)), .int .u32 (W32 (num4 l 8)), .int .u32 (W32 (num4 l 12))] 123)).alloc (.cells #[.int .u32 597399067, .int .i64 15, .int .u32 2869860233, .int .u32 2869860233, .int .i64 16, .int .u32 951274213, .int .u32 951274213, .int .i64 17, .int .u32 2716044179, .int .u32 2716044179, .int .i64 18, .int .u32 597399067] 253)).alloc (.cells #[.int .i64 19, .int .i64 17, .int .i64 15, .int .i64 13] 255)) (w2.heap.size + 2) 255 (.int .i64 19) (.int .i64 17) (.int .i64 15) (.int .i64 13) from heap_alloc3_new w2 _ _ _) ((Fr.refl No _).alloc _)
 have hP0 : Row4 ((((w2.alloc (.cells #[.int .u32 (W32 (num4 l 0)), .int .u32 (W32 (num4 l 4)), .int .u32 (W32 (num4 l 8)), .int .u32 (W32 (num4 l 12))] 123)).alloc (.cells #[.int .u32 597399067, .int .i64 15, .int .u32 2869860233, .int .u32 2869860233, .int .i64 16, .int .u32 951274213, .int .u32 951274213, .int .i64 17, .int .u32 2716044179, .int .u32 2716044179, .int .i64 18, .int .u32 597399067] 253)).alloc (.cells #[.int .i64 19, .int .i64 17, .int .i64 15, .int .i64 13] 255)).alloc (.cells #[.int .u32 1444728091, .int .u32 197830471, .int .u32 2530024501, .int .u32 850148119] 123)) (w2.heap.size + 3) 123 (.int .u32 1444728091) (.int .u32 197830471) (.int .u32 2530024501) (.int .u32 850148119) := heap_alloc4_new w2 _ _ _ _
 go_wp2_with fail
 have hB4 := hB2.fr hFa (fun h => h)
 have hZ4 := hZ2.no hFa
 have hF4 := hF2.no hFa
 clear hB2 hZ2 hF2 hFa
 try rw [show w2.heap.size + 1 + 1 = w2.heap.size + 2 from rfl]
 try rw [show w2.heap.size + 2 + 1 = w2.heap.size + 3 from rfl]
 generalize ((((w2.alloc (.cells #[.int .u32 (W32 (num4 l 0)), .int .u32 (W32 (num4 l 4)), .int .u32 (W32 (num4 l 8)), .int .u32 (W32 (num4 l 12))] 123)).alloc (.cells #[.int .u32 597399067, .int .i64 15, .int .u32 2869860233, .int .u32 2869860233, .int .i64 16, .int .u32 951274213, .int .u32 951274213, .int .i64 17, .int .u32 2716044179, .int .u32 2716044179, .int .i64 18, .int .u32 597399067] 253)).alloc (.cells #[.int .i64 19, .int .i64 17, .int .i64 15, .int .i64 13] 255)).alloc (.cells #[.int .u32 1444728091, .int .u32 197830471, .int .u32 2530024501, .int .u32 850148119] 123)) = w4 at hB4 hZ4 hF4 hN0 hX0 hT0 hP0 ⊢
 generalize w2.heap.size = mb at hmb hN0 hX0 hT0 hP0 ⊢
 go_loopw [15] (fun i wr => ∃ (k : Nat) (s' : ST), k ≤ 4 ∧ i = .int .i64 k ∧ BoxAt wr pb s' ∧ Hid (s' = stepTo s l k) ∧ Fr (fun x => x = pb) w4 wr) (fun i _ => 4 - (intOf i).toNat)
 case atStart => exact ⟨0, s, by omega, rfl, hB4, rfl, Fr.refl _ _⟩
 case round =>
  obtain ⟨k, s', hk, rfl, hB, hs, hf⟩ := hrel
  clear hB4
  rcases (show k = 0 ∨ k = 1 ∨ k = 2 ∨ k = 3 ∨ k = 4 by omega) with rfl | rfl | rfl | rfl | rfl
  · have hN := hN0.fr hf (by omega)
    have hX := hX0.fr hf (by omega)
    go_wp2_with fail
    refine wp_region_seq (by kernel_rfl) (fun w' => Fr No wr w') (fun i => decide (12 ≤ i)) [(0, 1), (1, 1), (2, 1), (3, 1), (4, 1), (5, 1), (6, 1), (7, 1), (8, 1), (9, 0), (10, 1), (11, 1), (12, 0)] (by kernel_rfl) (Fr.refl No wr).drew ?_
    have hv0 : Fr No wr wr.drew := (Fr.refl No wr).drew
    iterate 9 refine tq _ rfl rfl (by intro w9 h9; have q0 := (box_row (hB.fr h9 (fun h => h))).c0; have qm0 := (hX.no h9).c 0 (v := .int .u32 597399067) rfl; have qm1 := (hX.no h9).c 1 (v := .int .i64 15) rfl; have qm2 := (hX.no h9).c 2 (v := .int .u32 2869860233) rfl; have q1 := (hN.no h9).c0; clear h9; go_simp; try with_reducible rfl) ?_; simp only [es1, es2, es3]
    refine wpSeq_next rfl rfl (fun K hK => ?_)
    go_wp2_with fail
    refine (of0_any _ _).mono ?_
    rintro e xhv1 ⟨rfl, hx⟩
    have hv1 := hv0.no hx
    clear hx
    refine hK.out _ _ (fun _ => hv1) ?_
    clear hK K
    iterate 2 refine tp _ rfl rfl ?_; simp only [es1, es2, es3]
    rw [mix0_def]
    obtain ⟨y, hy⟩ : ∃ y, y = mix0 s' l := ⟨_, rfl⟩
    rw [← hy]
    have HY := Lib.hid hy
    clear hy
    have hBx := hB.fr hv1 (fun h => h)
    have cx := (box_row hBx).c0
    have fx := (box_row hBx).fz 0
    refine wpSeq_next rfl rfl (fun K hK => ?_)
    go_wp2_with fail
    refine hK.out _ _ (fun h => by simp at h) ?_
    clear hK K
    refine wpSeq_done ?_
    have hB5 : BoxAt _ pb ((y, s'.2.1, s'.2.2.1, s'.2.2.2) : S4) := box_put0 hBx y
    have hf5 := (hf.trans (hv1.mono (fun _ _ f => f.elim)) (fun x hx => .inl hx)).trans ((Fr.refl (fun x => x = pb) xhv1).setCell (p := ⟨pb, 0, none⟩) (.inl rfl) (.int .u32 (W32 (y)))) (fun x hx => .inl hx)
    clear hBx cx fx hB hN hX hf hv0 hv1
    generalize xhv1.setCell ⟨pb, 0, none⟩ (.int .u32 (W32 (y))) = w5 at hB5 hf5 ⊢
    have hT := hT0.fr hf5 (by omega)
    have hP := hP0.fr hf5 (by omega)
    go_wp2_with fail
    refine wp_region_seq (by kernel_rfl) (fun w' => Fr No w5 w') (fun i => decide (20 ≤ i)) [(0, 1), (1, 1), (2, 1), (3, 1), (4, 1), (5, 1), (6, 1), (8, 1), (9, 1), (10, 1), (11, 1), (12, 1), (15, 1), (16, 1), (17, 1), (7, 0), (13, 1), (14, 1), (18, 1), (19, 1), (20, 0)] (by kernel_rfl) (Fr.refl No w5).drew ?_
    have hv0 : Fr No w5 w5.drew := (Fr.refl No w5).drew
    iterate 8 refine tq _ rfl rfl (by intro w9 h9; have q0 := (box_row (hB5.fr h9 (fun h => h))).c0; have q9 := (box_row (hB5.fr h9 (fun h => h))).c1; have qt := (hT.no h9).c0; have qp := (hP.no h9).c0; clear h9; go_simp; try with_reducible rfl) ?_; simp only [es1, es2, es3]
    iterate 3 refine tq _ rfl rfl (by intro w9 h9; have em : IntKind.i64.wrap 1 = 1 := (by decide); have em2 : (1 : Int).tmod 4 = 1 := (by decide); clear h9; go_simp; try with_reducible rfl) ?_; simp only [es1, es2, es3]
    iterate 4 refine tq _ rfl rfl (by intro w9 h9; have q0 := (box_row (hB5.fr h9 (fun h => h))).c0; have q9 := (box_row (hB5.fr h9 (fun h => h))).c1; have qt := (hT.no h9).c0; have qp := (hP.no h9).c0; clear h9; go_simp; try with_reducible rfl) ?_; simp only [es1, es2, es3]
    refine wpSeq_next rfl rfl (fun K hK => ?_)
    go_wp2_with fail
    refine (Rot32_any _ 19 _).mono ?_
    rintro e w' ⟨rfl, rfl⟩
    refine hK.out _ _ (fun _ => hv0) ?_
    clear hK K
    iterate 4 refine tp _ rfl rfl ?_; simp only [es1, es2, es3]
    rw [turn0_def]
    obtain ⟨z, hz⟩ : ∃ z, z = turn0 y (s'.2.1) := ⟨_, rfl⟩
    rw [← hz]
    have HZ := Lib.hid hz
    clear hz
    have hBx := hB5.fr hv0 (fun h => h)
    have cx := (box_row hBx).c0
    have fx := (box_row hBx).fz 0
    refine wpSeq_next rfl rfl (fun K hK => ?_)
    go_wp2_with fail
    refine hK.out _ _ (fun h => by simp at h) ?_
    clear hK K
    refine wpSeq_done ?_
    have hB6 : BoxAt _ pb ((z, s'.2.1, s'.2.2.1, s'.2.2.2) : S4) := BoxAt.fr (show BoxAt _ pb ((z, s'.2.1, s'.2.2.1, s'.2.2.2) : S4) from box_put0 hB5 z) (Fr.refl No _).drew (fun h => h)
    have hf6 := (hf5.trans ((Fr.refl (fun x => x = pb) w5).setCell (p := ⟨pb, 0, none⟩) (.inl rfl) (.int .u32 (W32 (z)))) (fun x hx => .inl hx)).drew
    clear hBx cx fx hB5 hf5 hT hP hv0
    go_wp2_with fail
    go_roundw
    case rel => exact ⟨1, (z, s'.2.1, s'.2.2.1, s'.2.2.2), by omega, rfl, hB6, (by show _ = _; rw [HZ.out, HY.out, one0_def, hs.out, stepTo1]), hf6⟩
    case measure => simp [intOf]
  · have hN := hN0.fr hf (by omega)
    have hX := hX0.fr hf (by omega)
    go_wp2_with fail
    refine wp_region_seq (by kernel_rfl) (fun w' => Fr No wr w') (fun i => decide (12 ≤ i)) [(0, 1), (1, 1), (2, 1), (3, 1), (4, 1), (5, 1), (6, 1), (7, 1), (8, 1), (9, 0), (10, 1), (11, 1), (12, 0)] (by kernel_rfl) (Fr.refl No wr).drew ?_
    have hv0 : Fr No wr wr.drew := (Fr.refl No wr).drew
    iterate 9 refine tq _ rfl rfl (by intro w9 h9; have q0 := (box_row (hB.fr h9 (fun h => h))).c1; have qm0 := (hX.no h9).c 3 (v := .int .u32 2869860233) rfl; have qm1 := (hX.no h9).c 4 (v := .int .i64 16) rfl; have qm2 := (hX.no h9).c 5 (v := .int .u32 951274213) rfl; have q1 := (hN.no h9).c1; clear h9; go_simp; try with_reducible rfl) ?_; simp only [es1, es2, es3]
    refine wpSeq_next rfl rfl (fun K hK => ?_)
    go_wp2_with fail
    refine (of1_any _ _).mono ?_
    rintro e xhv1 ⟨rfl, hx⟩
    have hv1 := hv0.no hx
    clear hx
    refine hK.out _ _ (fun _ => hv1) ?_
    clear hK K
    iterate 2 refine tp _ rfl rfl ?_; simp only [es1, es2, es3]
    rw [mix1_def]
    obtain ⟨y, hy⟩ : ∃ y, y = mix1 s' l := ⟨_, rfl⟩
    rw [← hy]
    have HY := Lib.hid hy
    clear hy
    have hBx := hB.fr hv1 (fun h => h)
    have cx := (box_row hBx).c1
    have fx := (box_row hBx).fz 1
    refine wpSeq_next rfl rfl (fun K hK => ?_)
    go_wp2_with fail
    refine hK.out _ _ (fun h => by simp at h) ?_
    clear hK K
    refine wpSeq_done ?_
    have hB5 : BoxAt _ pb ((s'.1, y, s'.2.2.1, s'.2.2.2) : S4) := box_put1 hBx y
    have hf5 := (hf.trans (hv1.mono (fun _ _ f => f.elim)) (fun x hx => .inl hx)).trans ((Fr.refl (fun x => x = pb) xhv1).setCell (p := ⟨pb, 1, none⟩) (.inl rfl) (.int .u32 (W32 (y)))) (fun x hx => .inl hx)
    clear hBx cx fx hB hN hX hf hv0 hv1
    generalize xhv1.setCell ⟨pb, 1, none⟩ (.int .u32 (W32 (y))) = w5 at hB5 hf5 ⊢
    have hT := hT0.fr hf5 (by omega)
    have hP := hP0.fr hf5 (by omega)
    go_wp2_with fail
    refine wp_region_seq (by kernel_rfl) (fun w' => Fr No w5 w') (fun i => decide (20 ≤ i)) [(0, 1), (1, 1), (2, 1), (3, 1), (4, 1), (5, 1), (6, 1), (8, 1), (9, 1), (10, 1), (11, 1), (12, 1), (15, 1), (16, 1), (17, 1), (7, 0), (13, 1), (14, 1), (18, 1), (19, 1), (20, 0)] (by kernel_rfl) (Fr.refl No w5).drew ?_
    have hv0 : Fr No w5 w5.drew := (Fr.refl No w5).drew
    iterate 8 refine tq _ rfl rfl (by intro w9 h9; have q0 := (box_row (hB5.fr h9 (fun h => h))).c1; have q9 := (box_row (hB5.fr h9 (fun h => h))).c2; have qt := (hT.no h9).c1; have qp := (hP.no h9).c1; clear h9; go_simp; try with_reducible rfl) ?_; simp only [es1, es2, es3]
    iterate 3 refine tq _ rfl rfl (by intro w9 h9; have em : IntKind.i64.wrap 2 = 2 := (by decide); have em2 : (2 : Int).tmod 4 = 2 := (by decide); clear h9; go_simp; try with_reducible rfl) ?_; simp only [es1, es2, es3]
    iterate 4 refine tq _ rfl rfl (by intro w9 h9; have q0 := (box_row (hB5.fr h9 (fun h => h))).c1; have q9 := (box_row (hB5.fr h9 (fun h => h))).c2; have qt := (hT.no h9).c1; have qp := (hP.no h9).c1; clear h9; go_simp; try with_reducible rfl) ?_; simp only [es1, es2, es3]
    refine wpSeq_next rfl rfl (fun K hK => ?_)
    go_wp2_with fail
    refine (Rot32_any _ 17 _).mono ?_
    rintro e w' ⟨rfl, rfl⟩
    refine hK.out _ _ (fun _ => hv0) ?_
    clear hK K
    iterate 4 refine tp _ rfl rfl ?_; simp only [es1, es2, es3]
    rw [turn1_def]
    obtain ⟨z, hz⟩ : ∃ z, z = turn1 y (s'.2.2.1) := ⟨_, rfl⟩
    rw [← hz]
    have HZ := Lib.hid hz
    clear hz
    have hBx := hB5.fr hv0 (fun h => h)
    have cx := (box_row hBx).c1
    have fx := (box_row hBx).fz 1
    refine wpSeq_next rfl rfl (fun K hK => ?_)
    go_wp2_with fail
    refine hK.out _ _ (fun h => by simp at h) ?_
    clear hK K
    refine wpSeq_done ?_
    have hB6 : BoxAt _ pb ((s'.1, z, s'.2.2.1, s'.2.2.2) : S4) := BoxAt.fr (show BoxAt _ pb ((s'.1, z, s'.2.2.1, s'.2.2.2) : S4) from box_put1 hB5 z) (Fr.refl No _).drew (fun h => h)
    have hf6 := (hf5.trans ((Fr.refl (fun x => x = pb) w5).setCell (p := ⟨pb, 1, none⟩) (.inl rfl) (.int .u32 (W32 (z)))) (fun x hx => .inl hx)).drew
    clear hBx cx fx hB5 hf5 hT hP hv0
    go_wp2_with fail
    go_roundw
    case rel => exact ⟨2, (s'.1, z, s'.2.2.1, s'.2.2.2), by omega, rfl, hB6, (by show _ = _; rw [HZ.out, HY.out, one1_def, hs.out, stepTo2]), hf6⟩
    case measure => simp [intOf]
  · have hN := hN0.fr hf (by omega)
    have hX := hX0.fr hf (by omega)
    go_wp2_with fail
    refine wp_region_seq (by kernel_rfl) (fun w' => Fr No wr w') (fun i => decide (12 ≤ i)) [(0, 1), (1, 1), (2, 1), (3, 1), (4, 1), (5, 1), (6, 1), (7, 1), (8, 1), (9, 0), (10, 1), (11, 1), (12, 0)] (by kernel_rfl) (Fr.refl No wr).drew ?_
    have hv0 : Fr No wr wr.drew := (Fr.refl No wr).drew
    iterate 9 refine tq _ rfl rfl (by intro w9 h9; have q0 := (box_row (hB.fr h9 (fun h => h))).c2; have qm0 := (hX.no h9).c 6 (v := .int .u32 951274213) rfl; have qm1 := (hX.no h9).c 7 (v := .int .i64 17) rfl; have qm2 := (hX.no h9).c 8 (v := .int .u32 2716044179) rfl; have q1 := (hN.no h9).c2; clear h9; go_simp; try with_reducible rfl) ?_; simp only [es1, es2, es3]
    refine wpSeq_next rfl rfl (fun K hK => ?_)
    go_wp2_with fail
    refine (of2_any _ _).mono ?_
    rintro e xhv1 ⟨rfl, hx⟩
    have hv1 := hv0.no hx
    clear hx
    refine hK.out _ _ (fun _ => hv1) ?_
    clear hK K
    iterate 2 refine tp _ rfl rfl ?_; simp only [es1, es2, es3]
    rw [mix2_def]
    obtain ⟨y, hy⟩ : ∃ y, y = mix2 s' l := ⟨_, rfl⟩
    rw [← hy]
    have HY := Lib.hid hy
    clear hy
    have hBx := hB.fr hv1 (fun h => h)
    have cx := (box_row hBx).c2
    have fx := (box_row hBx).fz 2
    refine wpSeq_next rfl rfl (fun K hK => ?_)
    go_wp2_with fail
    refine hK.out _ _ (fun h => by simp at h) ?_
    clear hK K
    refine wpSeq_done ?_
    have hB5 : BoxAt _ pb ((s'.1, s'.2.1, y, s'.2.2.2) : S4) := box_put2 hBx y
    have hf5 := (hf.trans (hv1.mono (fun _ _ f => f.elim)) (fun x hx => .inl hx)).trans ((Fr.refl (fun x => x = pb) xhv1).setCell (p := ⟨pb, 2, none⟩) (.inl rfl) (.int .u32 (W32 (y)))) (fun x hx => .inl hx)
    clear hBx cx fx hB hN hX hf hv0 hv1
    generalize xhv1.setCell ⟨pb, 2, none⟩ (.int .u32 (W32 (y))) = w5 at hB5 hf5 ⊢
    have hT := hT0.fr hf5 (by omega)
    have hP := hP0.fr hf5 (by omega)
    go_wp2_with fail
    refine wp_region_seq (by kernel_rfl) (fun w' => Fr No w5 w') (fun i => decide (20 ≤ i)) [(0, 1), (1, 1), (2, 1), (3, 1), (4, 1), (5, 1), (6, 1), (8, 1), (9, 1), (10, 1), (11, 1), (12, 1), (15, 1), (16, 1), (17, 1), (7, 0), (13, 1), (14, 1), (18, 1), (19, 1), (20, 0)] (by kernel_rfl) (Fr.refl No w5).drew ?_
    have hv0 : Fr No w5 w5.drew := (Fr.refl No w5).drew
    iterate 8 refine tq _ rfl rfl (by intro w9 h9; have q0 := (box_row (hB5.fr h9 (fun h => h))).c2; have q9 := (box_row (hB5.fr h9 (fun h => h))).c3; have qt := (hT.no h9).c2; have qp := (hP.no h9).c2; clear h9; go_simp; try with_reducible rfl) ?_; simp only [es1, es2, es3]
    iterate 3 refine tq _ rfl rfl (by intro w9 h9; have em : IntKind.i64.wrap 3 = 3 := (by decide); have em2 : (3 : Int).tmod 4 = 3 := (by decide); clear h9; go_simp; try with_reducible rfl) ?_; simp only [es1, es2, es3]
    iterate 4 refine tq _ rfl rfl (by intro w9 h9; have q0 := (box_row (hB5.fr h9 (fun h => h))).c2; have q9 := (box_row (hB5.fr h9 (fun h => h))).c3; have qt := (hT.no h9).c2; have qp := (hP.no h9).c2; clear h9; go_simp; try with_reducible rfl) ?_; simp only [es1, es2, es3]
    refine wpSeq_next rfl rfl (fun K hK => ?_)
    go_wp2_with fail
    refine (Rot32_any _ 15 _).mono ?_
    rintro e w' ⟨rfl, rfl⟩
    refine hK.out _ _ (fun _ => hv0) ?_
    clear hK K
    iterate 4 refine tp _ rfl rfl ?_; simp only [es1, es2, es3]
    rw [turn2_def]
    obtain ⟨z, hz⟩ : ∃ z, z = turn2 y (s'.2.2.2) := ⟨_, rfl⟩
    rw [← hz]
    have HZ := Lib.hid hz
    clear hz
    have hBx := hB5.fr hv0 (fun h => h)
    have cx := (box_row hBx).c2
    have fx := (box_row hBx).fz 2
    refine wpSeq_next rfl rfl (fun K hK => ?_)
    go_wp2_with fail
    refine hK.out _ _ (fun h => by simp at h) ?_
    clear hK K
    refine wpSeq_done ?_
    have hB6 : BoxAt _ pb ((s'.1, s'.2.1, z, s'.2.2.2) : S4) := BoxAt.fr (show BoxAt _ pb ((s'.1, s'.2.1, z, s'.2.2.2) : S4) from box_put2 hB5 z) (Fr.refl No _).drew (fun h => h)
    have hf6 := (hf5.trans ((Fr.refl (fun x => x = pb) w5).setCell (p := ⟨pb, 2, none⟩) (.inl rfl) (.int .u32 (W32 (z)))) (fun x hx => .inl hx)).drew
    clear hBx cx fx hB5 hf5 hT hP hv0
    go_wp2_with fail
    go_roundw
    case rel => exact ⟨3, (s'.1, s'.2.1, z, s'.2.2.2), by omega, rfl, hB6, (by show _ = _; rw [HZ.out, HY.out, one2_def, hs.out, stepTo3]), hf6⟩
    case measure => simp [intOf]
  · have hN := hN0.fr hf (by omega)
    have hX := hX0.fr hf (by omega)
    go_wp2_with fail
    refine wp_region_seq (by kernel_rfl) (fun w' => Fr No wr w') (fun i => decide (12 ≤ i)) [(0, 1), (1, 1), (2, 1), (3, 1), (4, 1), (5, 1), (6, 1), (7, 1), (8, 1), (9, 0), (10, 1), (11, 1), (12, 0)] (by kernel_rfl) (Fr.refl No wr).drew ?_
    have hv0 : Fr No wr wr.drew := (Fr.refl No wr).drew
    iterate 9 refine tq _ rfl rfl (by intro w9 h9; have q0 := (box_row (hB.fr h9 (fun h => h))).c3; have qm0 := (hX.no h9).c 9 (v := .int .u32 2716044179) rfl; have qm1 := (hX.no h9).c 10 (v := .int .i64 18) rfl; have qm2 := (hX.no h9).c 11 (v := .int .u32 597399067) rfl; have q1 := (hN.no h9).c3; clear h9; go_simp; try with_reducible rfl) ?_; simp only [es1, es2, es3]
    refine wpSeq_next rfl rfl (fun K hK => ?_)
    go_wp2_with fail
    refine (of3_any _ _).mono ?_
    rintro e xhv1 ⟨rfl, hx⟩
    have hv1 := hv0.no hx
    clear hx
    refine hK.out _ _ (fun _ => hv1) ?_
    clear hK K
    iterate 2 refine tp _ rfl rfl ?_; simp only [es1, es2, es3]
    rw [mix3_def]
    obtain ⟨y, hy⟩ : ∃ y, y = mix3 s' l := ⟨_, rfl⟩
    rw [← hy]
    have HY := Lib.hid hy
    clear hy
    have hBx := hB.fr hv1 (fun h => h)
    have cx := (box_row hBx).c3
    have fx := (box_row hBx).fz 3
    refine wpSeq_next rfl rfl (fun K hK => ?_)
    go_wp2_with fail
    refine hK.out _ _ (fun h => by simp at h) ?_
    clear hK K
    refine wpSeq_done ?_
    have hB5 : BoxAt _ pb ((s'.1, s'.2.1, s'.2.2.1, y) : S4) := box_put3 hBx y
    have hf5 := (hf.trans (hv1.mono (fun _ _ f => f.elim)) (fun x hx => .inl hx)).trans ((Fr.refl (fun x => x = pb) xhv1).setCell (p := ⟨pb, 3, none⟩) (.inl rfl) (.int .u32 (W32 (y)))) (fun x hx => .inl hx)
    clear hBx cx fx hB hN hX hf hv0 hv1
    generalize xhv1.setCell ⟨pb, 3, none⟩ (.int .u32 (W32 (y))) = w5 at hB5 hf5 ⊢
    have hT := hT0.fr hf5 (by omega)
    have hP := hP0.fr hf5 (by omega)
    go_wp2_with fail
    refine wp_region_seq (by kernel_rfl) (fun w' => Fr No w5 w') (fun i => decide (20 ≤ i)) [(0, 1), (1, 1), (2, 1), (3, 1), (4, 1), (5, 1), (6, 1), (8, 1), (9, 1), (10, 1), (11, 1), (12, 1), (15, 1), (16, 1), (17, 1), (7, 0), (13, 1), (14, 1), (18, 1), (19, 1), (20, 0)] (by kernel_rfl) (Fr.refl No w5).drew ?_
    have hv0 : Fr No w5 w5.drew := (Fr.refl No w5).drew
    iterate 8 refine tq _ rfl rfl (by intro w9 h9; have q0 := (box_row (hB5.fr h9 (fun h => h))).c3; have q9 := (box_row (hB5.fr h9 (fun h => h))).c0; have qt := (hT.no h9).c3; have qp := (hP.no h9).c3; clear h9; go_simp; try with_reducible rfl) ?_; simp only [es1, es2, es3]
    iterate 3 refine tq _ rfl rfl (by intro w9 h9; have em : IntKind.i64.wrap 4 = 4 := (by decide); have em2 : (4 : Int).tmod 4 = 0 := (by decide); clear h9; go_simp; try with_reducible rfl) ?_; simp only [es1, es2, es3]
    iterate 4 refine tq _ rfl rfl (by intro w9 h9; have q0 := (box_row (hB5.fr h9 (fun h => h))).c3; have q9 := (box_row (hB5.fr h9 (fun h => h))).c0; have qt := (hT.no h9).c3; have qp := (hP.no h9).c3; clear h9; go_simp; try with_reducible rfl) ?_; simp only [es1, es2, es3]
    refine wpSeq_next rfl rfl (fun K hK => ?_)
    go_wp2_with fail
    refine (Rot32_any _ 13 _).mono ?_
    rintro e w' ⟨rfl, rfl⟩
    refine hK.out _ _ (fun _ => hv0) ?_
    clear hK K
    iterate 4 refine tp _ rfl rfl ?_; simp only [es1, es2, es3]
    rw [turn3_def]
    obtain ⟨z, hz⟩ : ∃ z, z = turn3 y (s'.1) := ⟨_, rfl⟩
    rw [← hz]
    have HZ := Lib.hid hz
    clear hz
    have hBx := hB5.fr hv0 (fun h => h)
    have cx := (box_row hBx).c3
    have fx := (box_row hBx).fz 3
    refine wpSeq_next rfl rfl (fun K hK => ?_)
    go_wp2_with fail
    refine hK.out _ _ (fun h => by simp at h) ?_
    clear hK K
    refine wpSeq_done ?_
    have hB6 : BoxAt _ pb ((s'.1, s'.2.1, s'.2.2.1, z) : S4) := BoxAt.fr (show BoxAt _ pb ((s'.1, s'.2.1, s'.2.2.1, z) : S4) from box_put3 hB5 z) (Fr.refl No _).drew (fun h => h)
    have hf6 := (hf5.trans ((Fr.refl (fun x => x = pb) w5).setCell (p := ⟨pb, 3, none⟩) (.inl rfl) (.int .u32 (W32 (z)))) (fun x hx => .inl hx)).drew
    clear hBx cx fx hB5 hf5 hT hP hv0
    go_wp2_with fail
    go_roundw
    case rel => exact ⟨4, (s'.1, s'.2.1, s'.2.2.1, z), by omega, rfl, hB6, (by show _ = _; rw [HZ.out, HY.out, one3_def, hs.out, stepTo4]), hf6⟩
    case measure => simp [intOf]
  · have hRow := box_row hB
    have cb0 := hRow.c0
    have cb1 := hRow.c1
    have cb2 := hRow.c2
    have cb3 := hRow.c3
    have hZ := hZ4.fr hf (by omega)
    have cr0 := hZ.c0
    have cr1 := hZ.c1
    have cr2 := hZ.c2
    have cr3 := hZ.c3
    have fr0 := hZ.fz 0
    have fr1 := hZ.fz 1
    have fr2 := hZ.fz 2
    have fr3 := hZ.fz 3
    go_wp2_with fail
    have hF3 := fr_put4 wr (pb + 1) (.int .u32 (W32 (s'.1))) (.int .u32 (W32 (s'.2.1))) (.int .u32 (W32 (s'.2.2.1))) (.int .u32 (W32 (s'.2.2.2)))
    have hR3 := row_put4 hZ (.int .u32 (W32 (s'.1))) (.int .u32 (W32 (s'.2.1))) (.int .u32 (W32 (s'.2.2.1))) (.int .u32 (W32 (s'.2.2.2)))
    clear cr0 fr0 cr1 fr1 cr2 fr2 cr3 fr3
    generalize (((wr.setCell ⟨pb + 1, 0, none⟩ (.int .u32 (W32 (s'.1)))).setCell ⟨pb + 1, 1, none⟩ (.int .u32 (W32 (s'.2.1)))).setCell ⟨pb + 1, 2, none⟩ (.int .u32 (W32 (s'.2.2.1)))).setCell ⟨pb + 1, 3, none⟩ (.int .u32 (W32 (s'.2.2.2))) = w3 at hF3 hR3 ⊢
    have cd0 := hR3.c0
    have cd1 := hR3.c1
    have cd2 := hR3.c2
    have cd3 := hR3.c3
    refine bodyPost_ret (v := .agg #[cS s' 0, cS s' 1, cS s' 2, cS s' 3]) (by simp [results, Tryz.results128, go_sem, cd0, cd1, cd2, cd3, lanesV, cS0, cS1, cS2, cS3]) rfl ?_
    exact ⟨by rw [hs.out]; rfl, (hF4.trans hf (fun x hx => .inr (by omega))).trans hF3 (fun x hx => .inr (by omega))⟩
abbrev q0 : QT := (128, #[])
theorem run_callFunc_enter {P : Program} {f : FuncId} {fn : Func} (hf : P.funcs[f]? = some fn) (hname : (fn.name == "runtime.NumGoroutine") = false) (hb : fn.body.isSome = true) (args : Array Value) (w : World) : Sem.run P (callFunc f args) w = .ok (.enter f args) w := by
 obtain ⟨c, hc⟩ := Option.isSome_iff_exists.1 hb
 have h1 : fn.name ≠ "runtime.NumGoroutine" := by simpa using hname
 simp [callFunc, hf, h1, hc, mark]
theorem steps_any : Hid (StG32.Steps (fun _ => True) stepG 16 q0) := Lib.hid ⟨fun args w => run_callFunc_enter Tryz.func128 (by kernel_rfl) (by kernel_rfl) args w, fun w s a n c l _ hb hl => step_any s a n c l w hb⟩
end Go.Proofs.YtidlpihoafnobaaGreatDoor.StM86
