/- murmur64's step, spread, end, both, two, four. -/
import Derived.Test.YtdemhnkkohnfladCodeM64
namespace Go.Proofs.Ytdemhnkkohnflad.StM64
set_option linter.unusedVariables false
set_option linter.unusedSimpArgs false
open Go.RowKit

theorem spread_any (x y : BitVec 64) (w : World) : Calls Try.prog 48 #[.agg #[.int .u64 (W64 (x)), .int .u64 (W64 (y))]] w (GivesNew (.agg #[.int .u64 (W64 (x + y)), .int .u64 (W64 (y + (x + y)))]) w) := by
  have hF : Fr No w ((w.alloc (.cells #[.int .u64 (W64 (x + y)), .int .u64 (W64 (y + (x + y)))] 51)).alloc (.cells #[.int .u64 (W64 (x + y)), .int .u64 (W64 (y + (x + y)))] 51)) := ((Fr.refl No w).alloc _).alloc _
  have hN : ((w.alloc (.cells #[.int .u64 (W64 (x + y)), .int .u64 (W64 (y + (x + y)))] 51)).alloc (.cells #[.int .u64 (W64 (x + y)), .int .u64 (W64 (y + (x + y)))] 51)).heap[w.heap.size + 1]? = some (.cells #[.int .u64 (W64 (x + y)), .int .u64 (W64 (y + (x + y)))] 51 (0, 0)) := heap_alloc2_new w _ _
  go_enter Try.func48, Try.ntmps48
  go_wp2_with fail
  generalize ((w.alloc (.cells #[.int .u64 (W64 (x + y)), .int .u64 (W64 (y + (x + y)))] 51)).alloc (.cells #[.int .u64 (W64 (x + y)), .int .u64 (W64 (y + (x + y)))] 51)) = w3 at hF hN ⊢
  have cd0 : w3.cell? ⟨w.heap.size + 1, 0, none⟩ = some (.int .u64 (W64 (x + y))) := by rw [cell_of_row w3 _ 0 _ _ _ hN]; rfl
  have cd1 : w3.cell? ⟨w.heap.size + 1, 1, none⟩ = some (.int .u64 (W64 (y + (x + y)))) := by rw [cell_of_row w3 _ 1 _ _ _ hN]; rfl
  exact bodyPost_ret (v := .agg #[.int .u64 (W64 (x + y)), .int .u64 (W64 (y + (x + y)))]) (by simp [results, Try.results48, go_sem, cd0, cd1]) rfl ⟨rfl, hF⟩

theorem both_any (sd : BitVec 32) (w : World) : Calls Try.prog 24 #[.int .u32 (W32 sd)] w (GivesNew (.agg #[cS (firstF sd) 0, cS (firstF sd) 1]) w) := by
  have hF : Fr No w (w.alloc (.cells #[.int .u64 (W64 (sd.setWidth 64)), .int .u64 (W64 (sd.setWidth 64))] 51)) := (Fr.refl No w).alloc _
  have hN : (w.alloc (.cells #[.int .u64 (W64 (sd.setWidth 64)), .int .u64 (W64 (sd.setWidth 64))] 51)).heap[w.heap.size]? = some (.cells #[.int .u64 (W64 (sd.setWidth 64)), .int .u64 (W64 (sd.setWidth 64))] 51 (0, 0)) := heap_alloc_new w _
  go_enter Try.func24, Try.ntmps24
  go_wp2_with fail
  generalize (w.alloc (.cells #[.int .u64 (W64 (sd.setWidth 64)), .int .u64 (W64 (sd.setWidth 64))] 51)) = w3 at hF hN ⊢
  have cd0 : w3.cell? ⟨w.heap.size, 0, none⟩ = some (.int .u64 (W64 (sd.setWidth 64))) := by rw [cell_of_row w3 _ 0 _ _ _ hN]; rfl
  have cd1 : w3.cell? ⟨w.heap.size, 1, none⟩ = some (.int .u64 (W64 (sd.setWidth 64))) := by rw [cell_of_row w3 _ 1 _ _ _ hN]; rfl
  exact bodyPost_ret (v := .agg #[.int .u64 (W64 (sd.setWidth 64)), .int .u64 (W64 (sd.setWidth 64))]) (by simp [results, Try.results24, go_sem, cd0, cd1]) rfl ⟨rfl, hF⟩

theorem two_any (x0 x1 x2 x3 : BitVec 64) (w : World) : Calls Try.prog 36 #[.agg #[.int .u64 (W64 (x0)), .int .u64 (W64 (x1)), .int .u64 (W64 (x2)), .int .u64 (W64 (x3))]] w (GivesNew (.agg #[cS (x0, x1) 0, cS (x0, x1) 1]) w) := by
  have hF : Fr No w ((w.alloc (.cells #[.int .u64 (W64 (x0)), .int .u64 (W64 (x1)), .int .u64 (W64 (x2)), .int .u64 (W64 (x3))] 38)).alloc (.cells #[.int .u64 (W64 (x0)), .int .u64 (W64 (x1))] 51)) := ((Fr.refl No w).alloc _).alloc _
  have hN : ((w.alloc (.cells #[.int .u64 (W64 (x0)), .int .u64 (W64 (x1)), .int .u64 (W64 (x2)), .int .u64 (W64 (x3))] 38)).alloc (.cells #[.int .u64 (W64 (x0)), .int .u64 (W64 (x1))] 51)).heap[w.heap.size + 1]? = some (.cells #[.int .u64 (W64 (x0)), .int .u64 (W64 (x1))] 51 (0, 0)) := heap_alloc2_new w _ _
  go_enter Try.func36, Try.ntmps36
  go_wp2_with fail
  generalize ((w.alloc (.cells #[.int .u64 (W64 (x0)), .int .u64 (W64 (x1)), .int .u64 (W64 (x2)), .int .u64 (W64 (x3))] 38)).alloc (.cells #[.int .u64 (W64 (x0)), .int .u64 (W64 (x1))] 51)) = w3 at hF hN ⊢
  have cd0 : w3.cell? ⟨w.heap.size + 1, 0, none⟩ = some (.int .u64 (W64 (x0))) := by rw [cell_of_row w3 _ 0 _ _ _ hN]; rfl
  have cd1 : w3.cell? ⟨w.heap.size + 1, 1, none⟩ = some (.int .u64 (W64 (x1))) := by rw [cell_of_row w3 _ 1 _ _ _ hN]; rfl
  exact bodyPost_ret (v := .agg #[.int .u64 (W64 (x0)), .int .u64 (W64 (x1))]) (by simp [results, Try.results36, go_sem, cd0, cd1]) rfl ⟨rfl, hF⟩

theorem four_any (s : ST) (w : World) : Calls Try.prog 34 #[.agg #[cS s 0, cS s 1]] w (GivesNew (lanesV s) w) := by
  rw [cS0, cS1]
  have hF : Fr No w ((w.alloc (.cells #[.int .u64 (W64 (s.1)), .int .u64 (W64 (s.2))] 51)).alloc (.cells #[.int .u64 (W64 (s.1)), .int .u64 (W64 (s.2)), .int .u64 0, .int .u64 0] 38)) := ((Fr.refl No w).alloc _).alloc _
  have hN : ((w.alloc (.cells #[.int .u64 (W64 (s.1)), .int .u64 (W64 (s.2))] 51)).alloc (.cells #[.int .u64 (W64 (s.1)), .int .u64 (W64 (s.2)), .int .u64 0, .int .u64 0] 38)).heap[w.heap.size + 1]? = some (.cells #[.int .u64 (W64 (s.1)), .int .u64 (W64 (s.2)), .int .u64 0, .int .u64 0] 38 (0, 0)) := heap_alloc2_new w _ _
  go_enter Try.func34, Try.ntmps34
  go_wp2_with fail
  generalize ((w.alloc (.cells #[.int .u64 (W64 (s.1)), .int .u64 (W64 (s.2))] 51)).alloc (.cells #[.int .u64 (W64 (s.1)), .int .u64 (W64 (s.2)), .int .u64 0, .int .u64 0] 38)) = w3 at hF hN ⊢
  have cd0 : w3.cell? ⟨w.heap.size + 1, 0, none⟩ = some (.int .u64 (W64 (s.1))) := by rw [cell_of_row w3 _ 0 _ _ _ hN]; rfl
  have cd1 : w3.cell? ⟨w.heap.size + 1, 1, none⟩ = some (.int .u64 (W64 (s.2))) := by rw [cell_of_row w3 _ 1 _ _ _ hN]; rfl
  have cd2 : w3.cell? ⟨w.heap.size + 1, 2, none⟩ = some (.int .u64 0) := by rw [cell_of_row w3 _ 2 _ _ _ hN]; rfl
  have cd3 : w3.cell? ⟨w.heap.size + 1, 3, none⟩ = some (.int .u64 0) := by rw [cell_of_row w3 _ 3 _ _ _ hN]; rfl
  exact bodyPost_ret (v := .agg #[.int .u64 (W64 (s.1)), .int .u64 (W64 (s.2)), .int .u64 0, .int .u64 0]) (by simp [results, Try.results34, go_sem, cd0, cd1, cd2, cd3]) rfl ⟨rfl, hF⟩

set_option maxHeartbeats 2000000 in
theorem step_any (s : ST) (a : Option Addr) (n c : Nat) (l : Bytes) (w : World) (hb : IsBytes w a n c l) :
    Calls Try.prog 25 #[.agg #[cS s 0, cS s 1], .slice a n c] w (GivesS (stepG s l) w) := by
  rw [cS0, cS1]
  have hF1 : Fr No w ((w.alloc (.cells #[.int .u64 (W64 (s.1)), .int .u64 (W64 (s.2))] 51)).alloc (.cells #[.int .u64 0, .int .u64 0] 51)) := ((Fr.refl No w).alloc _).alloc _
  have hR : Row2 ((w.alloc (.cells #[.int .u64 (W64 (s.1)), .int .u64 (W64 (s.2))] 51)).alloc (.cells #[.int .u64 0, .int .u64 0] 51)) w.heap.size 51 (.int .u64 (W64 (s.1))) (.int .u64 (W64 (s.2))) := (row2_new w 51 _ _).no ((Fr.refl No _).alloc _)
  have hT : Row2 ((w.alloc (.cells #[.int .u64 (W64 (s.1)), .int .u64 (W64 (s.2))] 51)).alloc (.cells #[.int .u64 0, .int .u64 0] 51)) (w.heap.size + 1) 51 (.int .u64 0) (.int .u64 0) := heap_alloc2_new w _ _
  have hb1 := hb.no hF1
  go_enter Try.func25, Try.ntmps25
  go_wp2_with fail
  obtain ⟨pb, hpb⟩ : ∃ pb, pb = w.heap.size := ⟨_, rfl⟩
  have hpw : w.heap.size ≤ pb := by omega
  rw [← hpb] at hR hT ⊢
  clear hpb
  generalize (w.alloc (.cells #[.int .u64 (W64 (s.1)), .int .u64 (W64 (s.2))] 51)).alloc (.cells #[.int .u64 0, .int .u64 0] 51) = w1 at hF1 hR hT hb1 ⊢
  refine (mixed_any s _ _ _ l _ hb1).mono ?_
  rintro e w2 ⟨rfl, hf2⟩
  have hR2 := hR.no hf2
  have hT2 := hT.no hf2
  have hF2 := hF1.no hf2
  clear hR hT hF1 hf2 hb1 hb
  go_wp2_with fail
  have hM : Row2 (w2.alloc (.cells #[.int .u64 (W64 (mixA s l)), .int .u64 (W64 (mixB s l))] 51)) w2.heap.size 51 (.int .u64 (W64 (mixA s l))) (.int .u64 (W64 (mixB s l))) := row2_new w2 51 _ _
  have hR := hR2.no ((Fr.refl No w2).alloc (.cells #[.int .u64 (W64 (mixA s l)), .int .u64 (W64 (mixB s l))] 51))
  have hT3 := hT2.no ((Fr.refl No w2).alloc (.cells #[.int .u64 (W64 (mixA s l)), .int .u64 (W64 (mixB s l))] 51))
  have hF3 := hF2.alloc (.cells #[.int .u64 (W64 (mixA s l)), .int .u64 (W64 (mixB s l))] 51)
  have hms := hR2.lt
  have hmt := hT2.lt
  generalize w2.heap.size = mb at hM hms hmt ⊢
  generalize w2.alloc (.cells #[.int .u64 (W64 (mixA s l)), .int .u64 (W64 (mixB s l))] 51) = w3 at hM hR hT3 hF3 ⊢
  clear hR2 hT2 hF2
  refine wp_region_seq (by kernel_rfl) (fun w' => Fr No w3 w') (fun i => decide (9 ≤ i)) [(0, 1), (1, 1), (3, 1), (4, 1), (2, 0), (5, 1), (6, 1), (7, 1), (8, 1), (9, 0)] (by kernel_rfl) (Fr.refl No w3).drew ?_
  have hv0 : Fr No w3 w3.drew := (Fr.refl No w3).drew
  refine wpSeq_take (v := ?_) 9 rfl rfl (fun _ _ _ h => h) (Or.inl ⟨rfl, ?_⟩) ?_
  rotate_left 1
  · (intro w9 h9; go_simp; try with_reducible rfl)
  simp only [List.setIfInBounds_toArray, List.set_cons_zero, List.set_cons_succ]
  refine wpSeq_take (v := ?_) 10 rfl rfl (fun _ _ _ h => h) (Or.inl ⟨rfl, ?_⟩) ?_
  rotate_left 1
  · (intro w9 h9; have q0 := (hR.no h9).c0; have q1 := (hR.no h9).c1; have q2 := (hM.no h9).c0; have q3 := (hM.no h9).c1; clear h9; go_simp; try with_reducible rfl)
  simp only [List.setIfInBounds_toArray, List.set_cons_zero, List.set_cons_succ]
  refine wpSeq_take (v := ?_) 12 rfl rfl (fun _ _ _ h => h) (Or.inl ⟨rfl, ?_⟩) ?_
  rotate_left 1
  · (intro w9 h9; go_simp; try with_reducible rfl)
  simp only [List.setIfInBounds_toArray, List.set_cons_zero, List.set_cons_succ]
  refine wpSeq_take (v := ?_) 13 rfl rfl (fun _ _ _ h => h) (Or.inl ⟨rfl, ?_⟩) ?_
  rotate_left 1
  · (intro w9 h9; have q0 := (hR.no h9).c0; have q1 := (hR.no h9).c1; have q2 := (hM.no h9).c0; have q3 := (hM.no h9).c1; clear h9; go_simp; try with_reducible rfl)
  simp only [List.setIfInBounds_toArray, List.set_cons_zero, List.set_cons_succ]
  refine wpSeq_next rfl rfl (fun K hK => ?_)
  go_wp2_with fail
  refine (Rot64_any _ 27 _).mono ?_
  rintro e w' ⟨rfl, rfl⟩
  refine hK.out _ _ (fun _ => hv0) ?_
  clear hK K
  refine wpSeq_take (v := ?_) 14 rfl rfl (fun _ _ _ h => h) (Or.inl ⟨rfl, ?_⟩) ?_
  rotate_left 1
  · (intro w9 h9; go_simp; try with_reducible rfl)
  simp only [List.setIfInBounds_toArray, List.set_cons_zero, List.set_cons_succ]
  refine wpSeq_take (v := ?_) 15 rfl rfl (fun _ _ _ h => h) (Or.inl ⟨rfl, ?_⟩) ?_
  rotate_left 1
  · (intro w9 h9; go_simp; try with_reducible rfl)
  simp only [List.setIfInBounds_toArray, List.set_cons_zero, List.set_cons_succ]
  refine wpSeq_take (v := ?_) 16 rfl rfl (fun _ _ _ h => h) (Or.inl ⟨rfl, ?_⟩) ?_
  rotate_left 1
  · (intro w9 h9; go_simp; try with_reducible rfl)
  simp only [List.setIfInBounds_toArray, List.set_cons_zero, List.set_cons_succ]
  refine wpSeq_take (v := ?_) 17 rfl rfl (fun _ _ _ h => h) (Or.inl ⟨rfl, ?_⟩) ?_
  rotate_left 1
  · (intro w9 h9; go_simp; try with_reducible rfl)
  simp only [List.setIfInBounds_toArray, List.set_cons_zero, List.set_cons_succ]
  have hRx := hR.no hv0
  have cx := hRx.c0
  have fx := hRx.fz 0
  refine wpSeq_next rfl rfl (fun K hK => ?_)
  go_wp2_with fail
  refine hK.out _ _ (fun h => by simp at h) ?_
  clear hK K
  refine wpSeq_done ?_
  rw [turnA_def]
  have hR5 := (hR.put0 (.int .u64 (W64 (turnA (mixA s l) s.2)))).no (Fr.refl No _).drew
  have hf5 := (fr_put1 w3 pb 0 (.int .u64 (W64 (turnA (mixA s l) s.2)))).no (Fr.refl No _).drew
  have hM5 := hM.fr hf5 (by omega)
  have hT5 := hT3.fr hf5 (by omega)
  have hF5 := hF3.trans hf5 (fun x hx => .inr (by omega))
  clear hRx cx fx hv0 hR hM hT3 hF3
  generalize (w3.setCell ⟨pb, 0, none⟩ (.int .u64 (W64 (turnA (mixA s l) s.2)))).drew = w5 at hR5 hf5 hM5 hT5 hF5 ⊢
  clear hf5
  go_wp2_with fail
  refine wp_region_seq (by kernel_rfl) (fun w' => Fr No w5 w') (fun i => decide (9 ≤ i)) [(0, 1), (1, 1), (3, 1), (4, 1), (2, 0), (5, 1), (6, 1), (7, 1), (8, 1), (9, 0)] (by kernel_rfl) (Fr.refl No w5).drew ?_
  have hv0 : Fr No w5 w5.drew := (Fr.refl No w5).drew
  refine wpSeq_take (v := ?_) 18 rfl rfl (fun _ _ _ h => h) (Or.inl ⟨rfl, ?_⟩) ?_
  rotate_left 1
  · (intro w9 h9; go_simp; try with_reducible rfl)
  simp only [List.setIfInBounds_toArray, List.set_cons_zero, List.set_cons_succ]
  refine wpSeq_take (v := ?_) 19 rfl rfl (fun _ _ _ h => h) (Or.inl ⟨rfl, ?_⟩) ?_
  rotate_left 1
  · (intro w9 h9; have q0 := (hR5.no h9).c0; have q1 := (hR5.no h9).c1; have q2 := (hM5.no h9).c0; have q3 := (hM5.no h9).c1; clear h9; go_simp; try with_reducible rfl)
  simp only [List.setIfInBounds_toArray, List.set_cons_zero, List.set_cons_succ]
  refine wpSeq_take (v := ?_) 21 rfl rfl (fun _ _ _ h => h) (Or.inl ⟨rfl, ?_⟩) ?_
  rotate_left 1
  · (intro w9 h9; go_simp; try with_reducible rfl)
  simp only [List.setIfInBounds_toArray, List.set_cons_zero, List.set_cons_succ]
  refine wpSeq_take (v := ?_) 22 rfl rfl (fun _ _ _ h => h) (Or.inl ⟨rfl, ?_⟩) ?_
  rotate_left 1
  · (intro w9 h9; have q0 := (hR5.no h9).c0; have q1 := (hR5.no h9).c1; have q2 := (hM5.no h9).c0; have q3 := (hM5.no h9).c1; clear h9; go_simp; try with_reducible rfl)
  simp only [List.setIfInBounds_toArray, List.set_cons_zero, List.set_cons_succ]
  refine wpSeq_next rfl rfl (fun K hK => ?_)
  go_wp2_with fail
  refine (Rot64_any _ 31 _).mono ?_
  rintro e w' ⟨rfl, rfl⟩
  refine hK.out _ _ (fun _ => hv0) ?_
  clear hK K
  refine wpSeq_take (v := ?_) 23 rfl rfl (fun _ _ _ h => h) (Or.inl ⟨rfl, ?_⟩) ?_
  rotate_left 1
  · (intro w9 h9; go_simp; try with_reducible rfl)
  simp only [List.setIfInBounds_toArray, List.set_cons_zero, List.set_cons_succ]
  refine wpSeq_take (v := ?_) 24 rfl rfl (fun _ _ _ h => h) (Or.inl ⟨rfl, ?_⟩) ?_
  rotate_left 1
  · (intro w9 h9; go_simp; try with_reducible rfl)
  simp only [List.setIfInBounds_toArray, List.set_cons_zero, List.set_cons_succ]
  refine wpSeq_take (v := ?_) 25 rfl rfl (fun _ _ _ h => h) (Or.inl ⟨rfl, ?_⟩) ?_
  rotate_left 1
  · (intro w9 h9; go_simp; try with_reducible rfl)
  simp only [List.setIfInBounds_toArray, List.set_cons_zero, List.set_cons_succ]
  refine wpSeq_take (v := ?_) 26 rfl rfl (fun _ _ _ h => h) (Or.inl ⟨rfl, ?_⟩) ?_
  rotate_left 1
  · (intro w9 h9; go_simp; try with_reducible rfl)
  simp only [List.setIfInBounds_toArray, List.set_cons_zero, List.set_cons_succ]
  have hRx := hR5.no hv0
  have cx := hRx.c1
  have fx := hRx.fz 1
  refine wpSeq_next rfl rfl (fun K hK => ?_)
  go_wp2_with fail
  refine hK.out _ _ (fun h => by simp at h) ?_
  clear hK K
  refine wpSeq_done ?_
  rw [turnB_def]
  have hR6 := (hR5.put1 (.int .u64 (W64 (turnB (mixB s l) (turnA (mixA s l) s.2))))).no (Fr.refl No _).drew
  have hf6 := (fr_put1 w5 pb 1 (.int .u64 (W64 (turnB (mixB s l) (turnA (mixA s l) s.2))))).no (Fr.refl No _).drew
  have hT6 := hT5.fr hf6 (by omega)
  have hF6 := hF5.trans hf6 (fun x hx => .inr (by omega))
  clear hRx cx fx hv0 hR5 hM5 hT5 hF5
  generalize (w5.setCell ⟨pb, 1, none⟩ (.int .u64 (W64 (turnB (mixB s l) (turnA (mixA s l) s.2))))).drew = w6 at hR6 hf6 hT6 hF6 ⊢
  clear hf6
  have cq0 := hR6.c0
  have cq1 := hR6.c1
  have cr0 := hT6.c0
  have cr1 := hT6.c1
  have fr0 := hT6.fz 0
  have fr1 := hT6.fz 1
  go_wp2_with fail
  have hF9 := fr_put2 w6 (pb + 1) (.int .u64 (W64 (turnA (mixA s l) s.2))) (.int .u64 (W64 (turnB (mixB s l) (turnA (mixA s l) s.2))))
  have hR9 := row_put2 hT6 (.int .u64 (W64 (turnA (mixA s l) s.2))) (.int .u64 (W64 (turnB (mixB s l) (turnA (mixA s l) s.2))))
  clear cr0 cr1 fr0 fr1
  generalize (w6.setCell ⟨pb + 1, 0, none⟩ (.int .u64 (W64 (turnA (mixA s l) s.2)))).setCell ⟨pb + 1, 1, none⟩ (.int .u64 (W64 (turnB (mixB s l) (turnA (mixA s l) s.2)))) = w9 at hF9 hR9 ⊢
  have cd0 := hR9.c0
  have cd1 := hR9.c1
  refine bodyPost_ret (v := .agg #[.int .u64 (W64 (turnA (mixA s l) s.2)), .int .u64 (W64 (turnB (mixB s l) (turnA (mixA s l) s.2)))]) (by simp [results, Try.results25, go_sem, cd0, cd1]) rfl ?_
  exact ⟨rfl, hF6.trans hF9 (fun x hx => .inr (by omega))⟩

theorem lastF_1 (a b : BitVec 64) : fmix64 (b + (a + b)) + (fmix64 (a + b) + fmix64 (b + (a + b))) = lastHi a b := rfl
theorem lastF_2 (a b : BitVec 64) : fmix64 (a + b) + fmix64 (b + (a + b)) = lastLo a b := rfl
set_option maxHeartbeats 2000000 in
theorem end_any (s : ST) (a : Option Addr) (n c : Nat) (l : Bytes) (lo : BitVec 64) (w : World) (hb : IsBytes w a n c l) :
    Calls Try.prog 26 #[.agg #[cS s 0, cS s 1], .slice a n c, .int .u64 (W64 lo)] w (GivesNew (.agg #[.int .u64 (W64 (endHi s l lo)), .int .u64 (W64 (endLo s l lo))]) w) := by
  rw [cS0, cS1]
  unfold endHi endLo
  have hF1 : Fr No w ((w.alloc (.cells #[.int .u64 (W64 (s.1)), .int .u64 (W64 (s.2))] 51)).alloc (.cells #[.int .u64 0, .int .u64 0] 27)) := ((Fr.refl No w).alloc _).alloc _
  have hR : Row2 ((w.alloc (.cells #[.int .u64 (W64 (s.1)), .int .u64 (W64 (s.2))] 51)).alloc (.cells #[.int .u64 0, .int .u64 0] 27)) w.heap.size 51 (.int .u64 (W64 (s.1))) (.int .u64 (W64 (s.2))) := (row2_new w 51 _ _).no ((Fr.refl No _).alloc _)
  have hT : Row2 ((w.alloc (.cells #[.int .u64 (W64 (s.1)), .int .u64 (W64 (s.2))] 51)).alloc (.cells #[.int .u64 0, .int .u64 0] 27)) (w.heap.size + 1) 27 (.int .u64 0) (.int .u64 0) := heap_alloc2_new w _ _
  have hb1 := hb.no hF1
  go_enter Try.func26, Try.ntmps26
  go_wp2_with fail
  obtain ⟨pb, hpb⟩ : ∃ pb, pb = w.heap.size := ⟨_, rfl⟩
  have hpw : w.heap.size ≤ pb := by omega
  rw [← hpb] at hR hT ⊢
  clear hpb
  generalize (w.alloc (.cells #[.int .u64 (W64 (s.1)), .int .u64 (W64 (s.2))] 51)).alloc (.cells #[.int .u64 0, .int .u64 0] 27) = w1 at hF1 hR hT hb1 ⊢
  have cq0 := hR.c0
  have cq1 := hR.c1
  have fq0 := hR.fz 0
  have fq1 := hR.fz 1
  try go_wp2_with fail
  refine (mixed_any s _ _ _ l _ hb1).mono ?_
  rintro e w2 ⟨rfl, hf2⟩
  have hR2 := hR.no hf2
  have hT2 := hT.no hf2
  have hF2 := hF1.no hf2
  clear hR hT hF1 hf2 hb1 hb cq0 cq1 fq0 fq1
  have cq0 := hR2.c0
  have cq1 := hR2.c1
  have fq0 := hR2.fz 0
  have fq1 := hR2.fz 1
  go_wp2_with fail
  have hf3 := fr_put2 w2 pb (.int .u64 (W64 (mixA s l))) (.int .u64 (W64 (mixB s l)))
  have hR3 := row_put2 hR2 (.int .u64 (W64 (mixA s l))) (.int .u64 (W64 (mixB s l)))
  have hT3 := hT2.fr hf3 (by omega)
  have hF3 := hF2.trans hf3 (fun x hx => .inr (by omega))
  clear cq0 cq1 fq0 fq1 hR2 hT2 hF2
  generalize (w2.setCell ⟨pb, 0, none⟩ (.int .u64 (W64 (mixA s l)))).setCell ⟨pb, 1, none⟩ (.int .u64 (W64 (mixB s l))) = w3 at hf3 hR3 hT3 hF3 ⊢
  clear hf3
  refine (spread_any _ _ _).mono ?_
  rintro e w4 ⟨rfl, hf4⟩
  have hR4 := hR3.no hf4
  have hT4 := hT3.no hf4
  have hF4 := hF3.no hf4
  clear hR3 hT3 hF3 hf4
  have cq0 := hR4.c0
  have cq1 := hR4.c1
  have fq0 := hR4.fz 0
  have fq1 := hR4.fz 1
  go_wp2_with fail
  have hf5 := fr_put2 w4 pb (.int .u64 (W64 ((mixA s l ^^^ lo) + (mixB s l ^^^ lo)))) (.int .u64 (W64 ((mixB s l ^^^ lo) + ((mixA s l ^^^ lo) + (mixB s l ^^^ lo)))))
  have hRe := row_put2 hR4 (.int .u64 (W64 ((mixA s l ^^^ lo) + (mixB s l ^^^ lo)))) (.int .u64 (W64 ((mixB s l ^^^ lo) + ((mixA s l ^^^ lo) + (mixB s l ^^^ lo)))))
  have hT5 := hT4.fr hf5 (by omega)
  have hF5 := hF4.trans hf5 (fun x hx => .inr (by omega))
  clear cq0 cq1 fq0 fq1 hR4 hT4 hF4
  generalize (w4.setCell ⟨pb, 0, none⟩ (.int .u64 (W64 ((mixA s l ^^^ lo) + (mixB s l ^^^ lo))))).setCell ⟨pb, 1, none⟩ (.int .u64 (W64 ((mixB s l ^^^ lo) + ((mixA s l ^^^ lo) + (mixB s l ^^^ lo))))) = w5 at hf5 hRe hT5 hF5 ⊢
  clear hf5
  refine wp_region_seq (by kernel_rfl) (fun w' => Fr No w5 w') (fun i => decide (8 ≤ i)) [(0, 1), (1, 1), (3, 1), (4, 1), (2, 0), (5, 0), (6, 1), (7, 0), (8, 0)] (by kernel_rfl) (Fr.refl No w5).drew ?_
  have hv0 : Fr No w5 w5.drew := (Fr.refl No w5).drew
  refine wpSeq_take (v := ?_) 20 rfl rfl (fun _ _ _ h => h) (Or.inl ⟨rfl, ?_⟩) ?_
  rotate_left 1
  · (intro w9 h9; go_simp; try with_reducible rfl)
  simp only [List.setIfInBounds_toArray, List.set_cons_zero, List.set_cons_succ]
  refine wpSeq_take (v := ?_) 21 rfl rfl (fun _ _ _ h => h) (Or.inl ⟨rfl, ?_⟩) ?_
  rotate_left 1
  · (intro w9 h9; have q0 := (hRe.no h9).c0; have q1 := (hRe.no h9).c1; clear h9; go_simp; try with_reducible rfl)
  simp only [List.setIfInBounds_toArray, List.set_cons_zero, List.set_cons_succ]
  refine wpSeq_take (v := ?_) 23 rfl rfl (fun _ _ _ h => h) (Or.inl ⟨rfl, ?_⟩) ?_
  rotate_left 1
  · (intro w9 h9; go_simp; try with_reducible rfl)
  simp only [List.setIfInBounds_toArray, List.set_cons_zero, List.set_cons_succ]
  refine wpSeq_take (v := ?_) 24 rfl rfl (fun _ _ _ h => h) (Or.inl ⟨rfl, ?_⟩) ?_
  rotate_left 1
  · (intro w9 h9; have q0 := (hRe.no h9).c0; have q1 := (hRe.no h9).c1; clear h9; go_simp; try with_reducible rfl)
  simp only [List.setIfInBounds_toArray, List.set_cons_zero, List.set_cons_succ]
  refine wpSeq_next rfl rfl (fun K hK => ?_)
  go_wp2_with fail
  refine (Fmix64_any _ _).mono ?_
  rintro e xhv1 ⟨rfl, hx⟩
  have hv1 := hv0.no hx
  clear hx
  refine hK.out _ _ (fun _ => hv1) ?_
  clear hK K
  refine wpSeq_next rfl rfl (fun K hK => ?_)
  go_wp2_with fail
  refine (Fmix64_any _ _).mono ?_
  rintro e xhv2 ⟨rfl, hx⟩
  have hv2 := hv1.no hx
  clear hx
  refine hK.out _ _ (fun _ => hv2) ?_
  clear hK K
  refine wpSeq_take (v := ?_) 26 rfl rfl (fun _ _ _ h => h) (Or.inl ⟨rfl, ?_⟩) ?_
  rotate_left 1
  · (intro w9 h9; go_simp; try with_reducible rfl)
  simp only [List.setIfInBounds_toArray, List.set_cons_zero, List.set_cons_succ]
  refine wpSeq_next rfl rfl (fun K hK => ?_)
  go_wp2_with fail
  refine (spread_any _ _ _).mono ?_
  rintro e xhv3 ⟨rfl, hx⟩
  have hv3 := hv2.no hx
  clear hx
  refine hK.out _ _ (fun _ => hv3) ?_
  clear hK K
  have hRx := hRe.no hv3
  have cx := hRx.c0
  have fx := hRx.fz 0
  have cy := hRx.c1
  have fy := hRx.fz 1
  refine wpSeq_next rfl rfl (fun K hK => ?_)
  go_wp2_with fail
  refine hK.out _ _ (fun h => by simp at h) ?_
  clear hK K
  refine wpSeq_done ?_
  rw [lastF_1, lastF_2]
  have hf6 := fr_put2 xhv3 pb (.int .u64 (W64 (lastLo (mixA s l ^^^ lo) (mixB s l ^^^ lo)))) (.int .u64 (W64 (lastHi (mixA s l ^^^ lo) (mixB s l ^^^ lo))))
  have hR6 := row_put2 hRx (.int .u64 (W64 (lastLo (mixA s l ^^^ lo) (mixB s l ^^^ lo)))) (.int .u64 (W64 (lastHi (mixA s l ^^^ lo) (mixB s l ^^^ lo))))
  have hT6 := (hT5.no hv3).fr hf6 (by omega)
  have hF6 := (hF5.no hv3).trans hf6 (fun x hx => .inr (by omega))
  clear hRx cx fx cy fy hRe hT5 hF5 hv0 hv1 hv2 hv3
  generalize (xhv3.setCell ⟨pb, 0, none⟩ (.int .u64 (W64 (lastLo (mixA s l ^^^ lo) (mixB s l ^^^ lo))))).setCell ⟨pb, 1, none⟩ (.int .u64 (W64 (lastHi (mixA s l ^^^ lo) (mixB s l ^^^ lo)))) = w6 at hf6 hR6 hT6 hF6 ⊢
  clear hf6
  obtain ⟨r1, hr1⟩ : ∃ r, r = lastHi (mixA s l ^^^ lo) (mixB s l ^^^ lo) := ⟨_, rfl⟩
  obtain ⟨r2, hr2⟩ : ∃ r, r = lastLo (mixA s l ^^^ lo) (mixB s l ^^^ lo) := ⟨_, rfl⟩
  rw [← hr1, ← hr2] at hR6 ⊢
  have HR := Lib.hid hr1
  have HR2 := Lib.hid hr2
  clear hr1 hr2
  have cq0 := hR6.c0
  have cq1 := hR6.c1
  have cr0 := hT6.c0
  have cr1 := hT6.c1
  have fr0 := hT6.fz 0
  have fr1 := hT6.fz 1
  go_wp2_with fail
  have hF9 := fr_put2 w6 (pb + 1) (.int .u64 (W64 (r1))) (.int .u64 (W64 (r2)))
  have hR9 := row_put2 hT6 (.int .u64 (W64 (r1))) (.int .u64 (W64 (r2)))
  clear cr0 cr1 fr0 fr1
  generalize (w6.setCell ⟨pb + 1, 0, none⟩ (.int .u64 (W64 (r1)))).setCell ⟨pb + 1, 1, none⟩ (.int .u64 (W64 (r2))) = w9 at hF9 hR9 ⊢
  have cd0 := hR9.c0
  have cd1 := hR9.c1
  refine bodyPost_ret (v := .agg #[.int .u64 (W64 (r1)), .int .u64 (W64 (r2))]) (by simp [results, Try.results26, go_sem, cd0, cd1]) rfl ?_
  exact ⟨by rw [HR.out, HR2.out], hF6.trans hF9 (fun x hx => .inr (by omega))⟩
end Go.Proofs.Ytdemhnkkohnflad.StM64
