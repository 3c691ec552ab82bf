/- EndM64 RefM64 -/
import Derived.Test.YtidlpihoafnobaaGreatDoorPCodeM64
set_option linter.unusedVariables false
set_option linter.unusedSimpArgs false
namespace Go.Proofs.YtidlpihoafnobaaGreatDoor.StM64
set_option maxRecDepth 100000
open Go.RowKit
theorem spread_any (x y : BitVec 64) (w : World) : Calls Tryz.prog 204 #[.agg #[.int .u64 (W64 (x)), .int .u64 (W64 (y))]] w (GivesNew (.agg #[.int .u64 (W64 (x + y)), .int .u64 (W64 (y + (x + y)))]) w) := by
 have hF : Fr No w ((w.alloc (.cells #[.int .u64 (W64 (x + y)), .int .u64 (W64 (y + (x + y)))] 208)).alloc (.cells #[.int .u64 (W64 (x + y)), .int .u64 (W64 (y + (x + y)))] 208)) := ((Fr.refl No w).alloc _).alloc _
 have hN : ((w.alloc (.cells #[.int .u64 (W64 (x + y)), .int .u64 (W64 (y + (x + y)))] 208)).alloc (.cells #[.int .u64 (W64 (x + y)), .int .u64 (W64 (y + (x + y)))] 208)).heap[w.heap.size + 1]? = some (.cells #[.int .u64 (W64 (x + y)), .int .u64 (W64 (y + (x + y)))] 208 (0, 0)) := heap_alloc2_new w _ _
 go_enter Tryz.func204, Tryz.ntmps204
 go_wp2_with fail
 generalize ((w.alloc (.cells #[.int .u64 (W64 (x + y)), .int .u64 (W64 (y + (x + y)))] 208)).alloc (.cells #[.int .u64 (W64 (x + y)), .int .u64 (W64 (y + (x + y)))] 208)) = w3 at hF hN ⊢
 have cd0 : w3.cell? ⟨w.heap.size + 1, 0, none⟩ = some (.int .u64 (W64 (x + y))) := by rw [cell_of_row w3 _ 0 _ _ _ hN]; rfl
 have cd1 : w3.cell? ⟨w.heap.size + 1, 1, none⟩ = some (.int .u64 (W64 (y + (x + y)))) := by rw [cell_of_row w3 _ 1 _ _ _ hN]; rfl
 exact bodyPost_ret (v := .agg #[.int .u64 (W64 (x + y)), .int .u64 (W64 (y + (x + y)))]) (by simp [results, Tryz.results204, go_sem, cd0, cd1]) rfl ⟨rfl, hF⟩
theorem both_any (sd : BitVec 32) (w : World) : Calls Tryz.prog 140 #[.int .u32 (W32 sd)] w (GivesNew (.agg #[cS (firstF sd) 0, cS (firstF sd) 1]) w) := by
 have hF : Fr No w (w.alloc (.cells #[.int .u64 (W64 (sd.setWidth 64)), .int .u64 (W64 (sd.setWidth 64))] 208)) := (Fr.refl No w).alloc _
 have hN : (w.alloc (.cells #[.int .u64 (W64 (sd.setWidth 64)), .int .u64 (W64 (sd.setWidth 64))] 208)).heap[w.heap.size]? = some (.cells #[.int .u64 (W64 (sd.setWidth 64)), .int .u64 (W64 (sd.setWidth 64))] 208 (0, 0)) := heap_alloc_new w _
 go_enter Tryz.func140, Tryz.ntmps140
 go_wp2_with fail
 generalize (w.alloc (.cells #[.int .u64 (W64 (sd.setWidth 64)), .int .u64 (W64 (sd.setWidth 64))] 208)) = w3 at hF hN ⊢
 have cd0 : w3.cell? ⟨w.heap.size, 0, none⟩ = some (.int .u64 (W64 (sd.setWidth 64))) := by rw [cell_of_row w3 _ 0 _ _ _ hN]; rfl
 have cd1 : w3.cell? ⟨w.heap.size, 1, none⟩ = some (.int .u64 (W64 (sd.setWidth 64))) := by rw [cell_of_row w3 _ 1 _ _ _ hN]; rfl
 exact bodyPost_ret (v := .agg #[.int .u64 (W64 (sd.setWidth 64)), .int .u64 (W64 (sd.setWidth 64))]) (by simp [results, Tryz.results140, go_sem, cd0, cd1]) rfl ⟨rfl, hF⟩
theorem two_any (x0 x1 x2 x3 : BitVec 64) (w : World) : Calls Tryz.prog 291 #[.agg #[.int .u64 (W64 (x0)), .int .u64 (W64 (x1)), .int .u64 (W64 (x2)), .int .u64 (W64 (x3))]] w (GivesNew (.agg #[cS (x0, x1) 0, cS (x0, x1) 1]) w) := by
 have hF : Fr No w ((w.alloc (.cells #[.int .u64 (W64 (x0)), .int .u64 (W64 (x1)), .int .u64 (W64 (x2)), .int .u64 (W64 (x3))] 31)).alloc (.cells #[.int .u64 (W64 (x0)), .int .u64 (W64 (x1))] 208)) := ((Fr.refl No w).alloc _).alloc _
 have hN : ((w.alloc (.cells #[.int .u64 (W64 (x0)), .int .u64 (W64 (x1)), .int .u64 (W64 (x2)), .int .u64 (W64 (x3))] 31)).alloc (.cells #[.int .u64 (W64 (x0)), .int .u64 (W64 (x1))] 208)).heap[w.heap.size + 1]? = some (.cells #[.int .u64 (W64 (x0)), .int .u64 (W64 (x1))] 208 (0, 0)) := heap_alloc2_new w _ _
 go_enter Tryz.func291, Tryz.ntmps291
 go_wp2_with fail
 generalize ((w.alloc (.cells #[.int .u64 (W64 (x0)), .int .u64 (W64 (x1)), .int .u64 (W64 (x2)), .int .u64 (W64 (x3))] 31)).alloc (.cells #[.int .u64 (W64 (x0)), .int .u64 (W64 (x1))] 208)) = w3 at hF hN ⊢
 have cd0 : w3.cell? ⟨w.heap.size + 1, 0, none⟩ = some (.int .u64 (W64 (x0))) := by rw [cell_of_row w3 _ 0 _ _ _ hN]; rfl
 have cd1 : w3.cell? ⟨w.heap.size + 1, 1, none⟩ = some (.int .u64 (W64 (x1))) := by rw [cell_of_row w3 _ 1 _ _ _ hN]; rfl
 exact bodyPost_ret (v := .agg #[.int .u64 (W64 (x0)), .int .u64 (W64 (x1))]) (by simp [results, Tryz.results291, go_sem, cd0, cd1]) rfl ⟨rfl, hF⟩
theorem four_any (s : ST) (w : World) : Calls Tryz.prog 290 #[.agg #[cS s 0, cS s 1]] w (GivesNew (lanesV s) w) := by
 rw [cS0, cS1]
 have hF : Fr No w ((w.alloc (.cells #[.int .u64 (W64 (s.1)), .int .u64 (W64 (s.2))] 208)).alloc (.cells #[.int .u64 (W64 (s.1)), .int .u64 (W64 (s.2)), .int .u64 0, .int .u64 0] 31)) := ((Fr.refl No w).alloc _).alloc _
 have hN : ((w.alloc (.cells #[.int .u64 (W64 (s.1)), .int .u64 (W64 (s.2))] 208)).alloc (.cells #[.int .u64 (W64 (s.1)), .int .u64 (W64 (s.2)), .int .u64 0, .int .u64 0] 31)).heap[w.heap.size + 1]? = some (.cells #[.int .u64 (W64 (s.1)), .int .u64 (W64 (s.2)), .int .u64 0, .int .u64 0] 31 (0, 0)) := heap_alloc2_new w _ _
 go_enter Tryz.func290, Tryz.ntmps290
 go_wp2_with fail
 generalize ((w.alloc (.cells #[.int .u64 (W64 (s.1)), .int .u64 (W64 (s.2))] 208)).alloc (.cells #[.int .u64 (W64 (s.1)), .int .u64 (W64 (s.2)), .int .u64 0, .int .u64 0] 31)) = w3 at hF hN ⊢
 have cd0 : w3.cell? ⟨w.heap.size + 1, 0, none⟩ = some (.int .u64 (W64 (s.1))) := by rw [cell_of_row w3 _ 0 _ _ _ hN]; rfl
 have cd1 : w3.cell? ⟨w.heap.size + 1, 1, none⟩ = some (.int .u64 (W64 (s.2))) := by rw [cell_of_row w3 _ 1 _ _ _ hN]; rfl
 have cd2 : w3.cell? ⟨w.heap.size + 1, 2, none⟩ = some (.int .u64 0) := by rw [cell_of_row w3 _ 2 _ _ _ hN]; rfl
 have cd3 : w3.cell? ⟨w.heap.size + 1, 3, none⟩ = some (.int .u64 0) := by rw [cell_of_row w3 _ 3 _ _ _ hN]; rfl
 exact bodyPost_ret (v := .agg #[.int .u64 (W64 (s.1)), .int .u64 (W64 (s.2)), .int .u64 0, .int .u64 0]) (by simp [results, Tryz.results290, go_sem, cd0, cd1, cd2, cd3]) rfl ⟨rfl, hF⟩
set_option maxHeartbeats 2000000 in
theorem step_any (s : ST) (a : Option Addr) (n c : Nat) (l : Bytes) (w : World) (hb : IsBytes w a n c l) :
 Calls Tryz.prog 141 #[.agg #[cS s 0, cS s 1], .slice a n c] w (GivesS (stepG s l) w) := by
 rw [cS0, cS1]
 have hF1 : Fr No w ((w.alloc (.cells #[.int .u64 (W64 (s.1)), .int .u64 (W64 (s.2))] 208)).alloc (.cells #[.int .u64 0, .int .u64 0] 208)) := ((Fr.refl No w).alloc _).alloc _
 have hR : Row2 ((w.alloc (.cells #[.int .u64 (W64 (s.1)), .int .u64 (W64 (s.2))] 208)).alloc (.cells #[.int .u64 0, .int .u64 0] 208)) w.heap.size 208 (.int .u64 (W64 (s.1))) (.int .u64 (W64 (s.2))) := (row2_new w 208 _ _).no ((Fr.refl No _).alloc _)
 have hT : Row2 ((w.alloc (.cells #[.int .u64 (W64 (s.1)), .int .u64 (W64 (s.2))] 208)).alloc (.cells #[.int .u64 0, .int .u64 0] 208)) (w.heap.size + 1) 208 (.int .u64 0) (.int .u64 0) := heap_alloc2_new w _ _
 have hb1 := hb.no hF1
 go_enter Tryz.func141, Tryz.ntmps141
 go_wp2_with fail
 obtain ⟨pb, hpb⟩ : ∃ pb, pb = w.heap.size := ⟨_, rfl⟩
 have hpw : w.heap.size ≤ pb := by omega
 rw [← hpb] at hR hT ⊢
 clear hpb
 generalize (w.alloc (.cells #[.int .u64 (W64 (s.1)), .int .u64 (W64 (s.2))] 208)).alloc (.cells #[.int .u64 0, .int .u64 0] 208) = w1 at hF1 hR hT hb1 ⊢
 refine (mixed_any s _ _ _ l _ hb1).mono ?_
 rintro e w2 ⟨rfl, hf2⟩
 have hR2 := hR.no hf2
 have hT2 := hT.no hf2
 have hF2 := hF1.no hf2
 clear hR hT hF1 hf2 hb1 hb
 go_wp2_with fail
 have hM : Row2 (w2.alloc (.cells #[.int .u64 (W64 (mixA s l)), .int .u64 (W64 (mixB s l))] 208)) w2.heap.size 208 (.int .u64 (W64 (mixA s l))) (.int .u64 (W64 (mixB s l))) := row2_new w2 208 _ _
 have hR := hR2.no ((Fr.refl No w2).alloc (.cells #[.int .u64 (W64 (mixA s l)), .int .u64 (W64 (mixB s l))] 208))
 have hT3 := hT2.no ((Fr.refl No w2).alloc (.cells #[.int .u64 (W64 (mixA s l)), .int .u64 (W64 (mixB s l))] 208))
 have hF3 := hF2.alloc (.cells #[.int .u64 (W64 (mixA s l)), .int .u64 (W64 (mixB s l))] 208)
 have hms := hR2.lt
 have hmt := hT2.lt
 generalize w2.heap.size = mb at hM hms hmt ⊢
 generalize w2.alloc (.cells #[.int .u64 (W64 (mixA s l)), .int .u64 (W64 (mixB s l))] 208) = w3 at hM hR hT3 hF3 ⊢
 clear hR2 hT2 hF2
 refine wp_region_seq (by kernel_rfl) (fun w' => Fr No w3 w') (fun i => decide (9 ≤ i)) [(0, 1), (1, 1), (3, 1), (4, 1), (2, 0), (5, 1), (6, 1), (7, 1), (8, 1), (9, 0)] (by kernel_rfl) (Fr.refl No w3).drew ?_
 have hv0 : Fr No w3 w3.drew := (Fr.refl No w3).drew
 iterate 4 refine tq _ rfl rfl (by intro w9 h9; have q0 := (hR.no h9).c0; have q1 := (hR.no h9).c1; have q2 := (hM.no h9).c0; have q3 := (hM.no h9).c1; clear h9; go_simp; try with_reducible rfl) ?_; simp only [es1, es2, es3]
 refine wpSeq_next rfl rfl (fun K hK => ?_)
 go_wp2_with fail
 refine (Rot64_any _ 27 _).mono ?_
 rintro e w' ⟨rfl, rfl⟩
 refine hK.out _ _ (fun _ => hv0) ?_
 clear hK K
 iterate 4 refine tp _ rfl rfl ?_; simp only [es1, es2, es3]
 have hRx := hR.no hv0
 have cx := hRx.c0
 have fx := hRx.fz 0
 refine wpSeq_next rfl rfl (fun K hK => ?_)
 go_wp2_with fail
 refine hK.out _ _ (fun h => by simp at h) ?_
 clear hK K
 refine wpSeq_done ?_
 rw [turnA_def]
 have hR5 := (hR.put0 (.int .u64 (W64 (turnA (mixA s l) s.2)))).no (Fr.refl No _).drew
 have hf5 := (fr_put1 w3 pb 0 (.int .u64 (W64 (turnA (mixA s l) s.2)))).no (Fr.refl No _).drew
 have hM5 := hM.fr hf5 (by omega)
 have hT5 := hT3.fr hf5 (by omega)
 have hF5 := hF3.trans hf5 (fun x hx => .inr (by omega))
 clear hRx cx fx hv0 hR hM hT3 hF3
 generalize (w3.setCell ⟨pb, 0, none⟩ (.int .u64 (W64 (turnA (mixA s l) s.2)))).drew = w5 at hR5 hf5 hM5 hT5 hF5 ⊢
 clear hf5
 go_wp2_with fail
 refine wp_region_seq (by kernel_rfl) (fun w' => Fr No w5 w') (fun i => decide (9 ≤ i)) [(0, 1), (1, 1), (3, 1), (4, 1), (2, 0), (5, 1), (6, 1), (7, 1), (8, 1), (9, 0)] (by kernel_rfl) (Fr.refl No w5).drew ?_
 have hv0 : Fr No w5 w5.drew := (Fr.refl No w5).drew
 iterate 4 refine tq _ rfl rfl (by intro w9 h9; have q0 := (hR5.no h9).c0; have q1 := (hR5.no h9).c1; have q2 := (hM5.no h9).c0; have q3 := (hM5.no h9).c1; clear h9; go_simp; try with_reducible rfl) ?_; simp only [es1, es2, es3]
 refine wpSeq_next rfl rfl (fun K hK => ?_)
 go_wp2_with fail
 refine (Rot64_any _ 31 _).mono ?_
 rintro e w' ⟨rfl, rfl⟩
 refine hK.out _ _ (fun _ => hv0) ?_
 clear hK K
 iterate 4 refine tp _ rfl rfl ?_; simp only [es1, es2, es3]
 have hRx := hR5.no hv0
 have cx := hRx.c1
 have fx := hRx.fz 1
 refine wpSeq_next rfl rfl (fun K hK => ?_)
 go_wp2_with fail
 refine hK.out _ _ (fun h => by simp at h) ?_
 clear hK K
 refine wpSeq_done ?_
 rw [turnB_def]
 have hR6 := (hR5.put1 (.int .u64 (W64 (turnB (mixB s l) (turnA (mixA s l) s.2))))).no (Fr.refl No _).drew
 have hf6 := (fr_put1 w5 pb 1 (.int .u64 (W64 (turnB (mixB s l) (turnA (mixA s l) s.2))))).no (Fr.refl No _).drew
 have hT6 := hT5.fr hf6 (by omega)
 have hF6 := hF5.trans hf6 (fun x hx => .inr (by omega))
 clear hRx cx fx hv0 hR5 hM5 hT5 hF5
 generalize (w5.setCell ⟨pb, 1, none⟩ (.int .u64 (W64 (turnB (mixB s l) (turnA (mixA s l) s.2))))).drew = w6 at hR6 hf6 hT6 hF6 ⊢
 clear hf6
 have cq0 := hR6.c0
 have cq1 := hR6.c1
 have cr0 := hT6.c0
 have cr1 := hT6.c1
 have fr0 := hT6.fz 0
 have fr1 := hT6.fz 1
 go_wp2_with fail
 have hF9 := fr_put2 w6 (pb + 1) (.int .u64 (W64 (turnA (mixA s l) s.2))) (.int .u64 (W64 (turnB (mixB s l) (turnA (mixA s l) s.2))))
 have hR9 := row_put2 hT6 (.int .u64 (W64 (turnA (mixA s l) s.2))) (.int .u64 (W64 (turnB (mixB s l) (turnA (mixA s l) s.2))))
 clear cr0 cr1 fr0 fr1
 generalize (w6.setCell ⟨pb + 1, 0, none⟩ (.int .u64 (W64 (turnA (mixA s l) s.2)))).setCell ⟨pb + 1, 1, none⟩ (.int .u64 (W64 (turnB (mixB s l) (turnA (mixA s l) s.2)))) = w9 at hF9 hR9 ⊢
 have cd0 := hR9.c0
 have cd1 := hR9.c1
 refine bodyPost_ret (v := .agg #[.int .u64 (W64 (turnA (mixA s l) s.2)), .int .u64 (W64 (turnB (mixB s l) (turnA (mixA s l) s.2)))]) (by simp [results, Tryz.results141, go_sem, cd0, cd1]) rfl ?_
 exact ⟨rfl, hF6.trans hF9 (fun x hx => .inr (by omega))⟩
theorem lastF_1 (a b : BitVec 64) : fmix64 (b + (a + b)) + (fmix64 (a + b) + fmix64 (b + (a + b))) = lastHi a b := rfl
theorem lastF_2 (a b : BitVec 64) : fmix64 (a + b) + fmix64 (b + (a + b)) = lastLo a b := rfl
set_option maxHeartbeats 2000000 in
theorem end_any (s : ST) (a : Option Addr) (n c : Nat) (l : Bytes) (lo : BitVec 64) (w : World) (hb : IsBytes w a n c l) :
 Calls Tryz.prog 142 #[.agg #[cS s 0, cS s 1], .slice a n c, .int .u64 (W64 lo)] w (GivesNew (.agg #[.int .u64 (W64 (endHi s l lo)), .int .u64 (W64 (endLo s l lo))]) w) := by
 rw [cS0, cS1]
 unfold endHi endLo
 have hF1 : Fr No w ((w.alloc (.cells #[.int .u64 (W64 (s.1)), .int .u64 (W64 (s.2))] 208)).alloc (.cells #[.int .u64 0, .int .u64 0] 30)) := ((Fr.refl No w).alloc _).alloc _
 have hR : Row2 ((w.alloc (.cells #[.int .u64 (W64 (s.1)), .int .u64 (W64 (s.2))] 208)).alloc (.cells #[.int .u64 0, .int .u64 0] 30)) w.heap.size 208 (.int .u64 (W64 (s.1))) (.int .u64 (W64 (s.2))) := (row2_new w 208 _ _).no ((Fr.refl No _).alloc _)
 have hT : Row2 ((w.alloc (.cells #[.int .u64 (W64 (s.1)), .int .u64 (W64 (s.2))] 208)).alloc (.cells #[.int .u64 0, .int .u64 0] 30)) (w.heap.size + 1) 30 (.int .u64 0) (.int .u64 0) := heap_alloc2_new w _ _
 have hb1 := hb.no hF1
 go_enter Tryz.func142, Tryz.ntmps142
 go_wp2_with fail
 obtain ⟨pb, hpb⟩ : ∃ pb, pb = w.heap.size := ⟨_, rfl⟩
 have hpw : w.heap.size ≤ pb := by omega
 rw [← hpb] at hR hT ⊢
 clear hpb
 generalize (w.alloc (.cells #[.int .u64 (W64 (s.1)), .int .u64 (W64 (s.2))] 208)).alloc (.cells #[.int .u64 0, .int .u64 0] 30) = w1 at hF1 hR hT hb1 ⊢
 have cq0 := hR.c0
 have cq1 := hR.c1
 have fq0 := hR.fz 0
 have fq1 := hR.fz 1
 try go_wp2_with fail
 refine (mixed_any s _ _ _ l _ hb1).mono ?_
 rintro e w2 ⟨rfl, hf2⟩
 have hR2 := hR.no hf2
 have hT2 := hT.no hf2
 have hF2 := hF1.no hf2
 clear hR hT hF1 hf2 hb1 hb cq0 cq1 fq0 fq1
 have cq0 := hR2.c0
 have cq1 := hR2.c1
 have fq0 := hR2.fz 0
 have fq1 := hR2.fz 1
 go_wp2_with fail
 have hf3 := fr_put2 w2 pb (.int .u64 (W64 (mixA s l))) (.int .u64 (W64 (mixB s l)))
 have hR3 := row_put2 hR2 (.int .u64 (W64 (mixA s l))) (.int .u64 (W64 (mixB s l)))
 have hT3 := hT2.fr hf3 (by omega)
 have hF3 := hF2.trans hf3 (fun x hx => .inr (by omega))
 clear cq0 cq1 fq0 fq1 hR2 hT2 hF2
 generalize (w2.setCell ⟨pb, 0, none⟩ (.int .u64 (W64 (mixA s l)))).setCell ⟨pb, 1, none⟩ (.int .u64 (W64 (mixB s l))) = w3 at hf3 hR3 hT3 hF3 ⊢
 clear hf3
 refine (spread_any _ _ _).mono ?_
 rintro e w4 ⟨rfl, hf4⟩
 have hR4 := hR3.no hf4
 have hT4 := hT3.no hf4
 have hF4 := hF3.no hf4
 clear hR3 hT3 hF3 hf4
 have cq0 := hR4.c0
 have cq1 := hR4.c1
 have fq0 := hR4.fz 0
 have fq1 := hR4.fz 1
 go_wp2_with fail
 have hf5 := fr_put2 w4 pb (.int .u64 (W64 ((mixA s l ^^^ lo) + (mixB s l ^^^ lo)))) (.int .u64 (W64 ((mixB s l ^^^ lo) + ((mixA s l ^^^ lo) + (mixB s l ^^^ lo)))))
 have hRe := row_put2 hR4 (.int .u64 (W64 ((mixA s l ^^^ lo) + (mixB s l ^^^ lo)))) (.int .u64 (W64 ((mixB s l ^^^ lo) + ((mixA s l ^^^ lo) + (mixB s l ^^^ lo)))))
 have hT5 := hT4.fr hf5 (by omega)
 have hF5 := hF4.trans hf5 (fun x hx => .inr (by omega))
 clear cq0 cq1 fq0 fq1 hR4 hT4 hF4
 generalize (w4.setCell ⟨pb, 0, none⟩ (.int .u64 (W64 ((mixA s l ^^^ lo) + (mixB s l ^^^ lo))))).setCell ⟨pb, 1, none⟩ (.int .u64 (W64 ((mixB s l ^^^ lo) + ((mixA s l ^^^ lo) + (mixB s l ^^^ lo))))) = w5 at hf5 hRe hT5 hF5 ⊢
 clear hf5
 refine wp_region_seq (by kernel_rfl) (fun w' => Fr No w5 w') (fun i => decide (8 ≤ i)) [(0, 1), (1, 1), (3, 1), (4, 1), (2, 0), (5, 0), (6, 1), (7, 0), (8, 0)] (by kernel_rfl) (Fr.refl No w5).drew ?_
 have hv0 : Fr No w5 w5.drew := (Fr.refl No w5).drew
 iterate 4 refine tq _ rfl rfl (by intro w9 h9; have q0 := (hRe.no h9).c0; have q1 := (hRe.no h9).c1; clear h9; go_simp; try with_reducible rfl) ?_; simp only [es1, es2, es3]
 refine wpSeq_next rfl rfl (fun K hK => ?_)
 go_wp2_with fail
 refine (Fmix64_any _ _).mono ?_
 rintro e xhv1 ⟨rfl, hx⟩
 have hv1 := hv0.no hx
 clear hx
 refine hK.out _ _ (fun _ => hv1) ?_
 clear hK K
 refine wpSeq_next rfl rfl (fun K hK => ?_)
 go_wp2_with fail
 refine (Fmix64_any _ _).mono ?_
 rintro e xhv2 ⟨rfl, hx⟩
 have hv2 := hv1.no hx
 clear hx
 refine hK.out _ _ (fun _ => hv2) ?_
 clear hK K
 refine tp _ rfl rfl ?_; simp only [es1, es2, es3]
 refine wpSeq_next rfl rfl (fun K hK => ?_)
 go_wp2_with fail
 refine (spread_any _ _ _).mono ?_
 rintro e xhv3 ⟨rfl, hx⟩
 have hv3 := hv2.no hx
 clear hx
 refine hK.out _ _ (fun _ => hv3) ?_
 clear hK K
 have hRx := hRe.no hv3
 have cx := hRx.c0
 have fx := hRx.fz 0
 have cy := hRx.c1
 have fy := hRx.fz 1
 refine wpSeq_next rfl rfl (fun K hK => ?_)
 go_wp2_with fail
 refine hK.out _ _ (fun h => by simp at h) ?_
 clear hK K
 refine wpSeq_done ?_
 rw [lastF_1, lastF_2]
 have hf6 := fr_put2 xhv3 pb (.int .u64 (W64 (lastLo (mixA s l ^^^ lo) (mixB s l ^^^ lo)))) (.int .u64 (W64 (lastHi (mixA s l ^^^ lo) (mixB s l ^^^ lo))))
 have hR6 := row_put2 hRx (.int .u64 (W64 (lastLo (mixA s l ^^^ lo) (mixB s l ^^^ lo)))) (.int .u64 (W64 (lastHi (mixA s l ^^^ lo) (mixB s l ^^^ lo))))
 have hT6 := (hT5.no hv3).fr hf6 (by omega)
 have hF6 := (hF5.no hv3).trans hf6 (fun x hx => .inr (by omega))
 clear hRx cx fx cy fy hRe hT5 hF5 hv0 hv1 hv2 hv3
 generalize (xhv3.setCell ⟨pb, 0, none⟩ (.int .u64 (W64 (lastLo (mixA s l ^^^ lo) (mixB s l ^^^ lo))))).setCell ⟨pb, 1, none⟩ (.int .u64 (W64 (lastHi (mixA s l ^^^ lo) (mixB s l ^^^ lo)))) = w6 at hf6 hR6 hT6 hF6 ⊢
 clear hf6
 obtain ⟨r1, hr1⟩ : ∃ r, r = lastHi (mixA s l ^^^ lo) (mixB s l ^^^ lo) := ⟨_, rfl⟩
 obtain ⟨r2, hr2⟩ : ∃ r, r = lastLo (mixA s l ^^^ lo) (mixB s l ^^^ lo) := ⟨_, rfl⟩
 rw [← hr1, ← hr2] at hR6 ⊢
 have HR := Lib.hid hr1
 have HR2 := Lib.hid hr2
 clear hr1 hr2
 have cq0 := hR6.c0
 have cq1 := hR6.c1
 have cr0 := hT6.c0
 have cr1 := hT6.c1
 have fr0 := hT6.fz 0
 have fr1 := hT6.fz 1
 go_wp2_with fail
 have hF9 := fr_put2 w6 (pb + 1) (.int .u64 (W64 (r1))) (.int .u64 (W64 (r2)))
 have hR9 := row_put2 hT6 (.int .u64 (W64 (r1))) (.int .u64 (W64 (r2)))
 clear cr0 cr1 fr0 fr1
 generalize (w6.setCell ⟨pb + 1, 0, none⟩ (.int .u64 (W64 (r1)))).setCell ⟨pb + 1, 1, none⟩ (.int .u64 (W64 (r2))) = w9 at hF9 hR9 ⊢
 have cd0 := hR9.c0
 have cd1 := hR9.c1
 refine bodyPost_ret (v := .agg #[.int .u64 (W64 (r1)), .int .u64 (W64 (r2))]) (by simp [results, Tryz.results142, go_sem, cd0, cd1]) rfl ?_
 exact ⟨by rw [HR.out, HR2.out], hF6.trans hF9 (fun x hx => .inr (by omega))⟩
end Go.Proofs.YtidlpihoafnobaaGreatDoor.StM64
namespace Go.Proofs.YtidlpihoafnobaaGreatDoor.StM64
set_option maxRecDepth 100000
open Go.RowKit
theorem steps_any : Hid (Steps (fun _ => True) stepG 16 0) := Lib.hid (fun w s a n c l _ hb hl => step_any s a n c l w hb)
theorem ref_one (k : BitVec 64) (w : World) : Calls Tryz.prog 65 #[.int .u64 (W64 k)] w (Gives (.int .u64 (W64 (wordA k))) w) := by
 go_enter Tryz.func65, Tryz.ntmps65
 go_wp2_with fail
 refine (refRot64_any _ 31 _ (by omega) (by omega)).mono ?_
 rintro e w' ⟨rfl, rfl⟩
 go_wp2_with fail
 rw [wordA_def]
 go_ret
 exact ⟨rfl, rfl⟩
theorem ref_two (k : BitVec 64) (w : World) : Calls Tryz.prog 66 #[.int .u64 (W64 k)] w (Gives (.int .u64 (W64 (wordB k))) w) := by
 go_enter Tryz.func66, Tryz.ntmps66
 go_wp2_with fail
 refine (refRot64_any _ 33 _ (by omega) (by omega)).mono ?_
 rintro e w' ⟨rfl, rfl⟩
 go_wp2_with fail
 rw [wordB_def]
 go_ret
 exact ⟨rfl, rfl⟩
def GivesLanes (a : Option Addr) (n c : Nat) (l : Bytes) (r : ST × Bytes) (w : World) (e : Ending) (w' : World) : Prop :=
 ∃ a' n' c', e = .returned (.tuple #[lanesV r.1, .slice a' n' c']) ∧ IsBytes w' a' n' c' r.2 ∧ (∀ w2, IsBytes w2 a n c l → IsBytes w2 a' n' c' r.2) ∧ Fr No w w'
set_option maxHeartbeats 2000000 in
theorem refFrom_any (s : ST) (v2 v3 : Value) (a : Option Addr) (n c : Nat) (l : Bytes) (w : World) (h : IsBytes w a n c l) (hn : n ≤ 1099511627776) :
 Calls Tryz.prog 174 #[.agg #[.int .u64 (W64 (s.1)), .int .u64 (W64 (s.2)), v2, v3], .slice a n c] w (GivesLanes a n c l (foldF stepG 16 s l) w) := by
 obtain ⟨r, hr⟩ : ∃ r, r = foldF stepG 16 s l := ⟨_, rfl⟩
 rw [← hr]
 have HR := Lib.hid hr
 clear hr
 have hF : Fr No w ((w.alloc (.cells #[.int .u64 (W64 (s.1)), .int .u64 (W64 (s.2)), v2, v3] 31)).alloc (.cells #[.int .u64 0, .int .u64 0, .int .u64 0, .int .u64 0] 31)) := ((Fr.refl No w).alloc _).alloc _
 go_enter Tryz.func174, Tryz.ntmps174
 go_wp2
 go_loop [1, 6, 7] (fun v u x => ∃ m a' c' l' s', v = .slice a' m c' ∧ u = .int .u64 (W64 s'.1) ∧ x = .int .u64 (W64 s'.2) ∧ IsBytes w a' m c' l' ∧ (∀ w2, IsBytes w2 a n c l → IsBytes w2 a' m c' l') ∧ Hid (foldF stepG 16 s' l' = r)) (fun v _ _ => match v with | .slice _ m _ => m | _ => 0)
 case atStart => exact ⟨n, a, c, l, s, rfl, rfl, rfl, h, fun _ h => h, HR.out.symm⟩
 case round =>
  obtain ⟨m, a', c', l', s', rfl, rfl, rfl, hb, hst, hr'⟩ := hrel
  have hlen := Lib.hid hb.1
  have hc : m ≤ c' := hb.2.1
  have hc2 : c' ≤ 9223372036854775807 := hb.2.2.1
  by_cases hlt : 16 ≤ m
  · have i1 : (16 : Int) ≤ (m : Int) := by omega
    have i2 : (16 : Int) ≤ (c' : Int) := by omega
    have hy := hb.no hF
    have hcut := hb.cut_to_end 16 (n' := m - 16) (c' := c' - 16) hlt rfl rfl
    go_wp2_with fail
    refine (refNum_any _ _ _ l' 0 8 _ hy (by omega) (by omega) (by omega) (by omega)).mono ?_
    rintro e w' ⟨rfl, rfl⟩
    go_wp2_with fail
    refine (ref_one _ _).mono ?_
    rintro e w' ⟨rfl, rfl⟩
    rw [num8_zero]
    go_wp2_with fail
    rw [mixA_def]
    refine (refRot64_any _ 27 _ (by omega) (by omega)).mono ?_
    rintro e w' ⟨rfl, rfl⟩
    go_wp2_with fail
    refine (refNum_any _ _ _ l' 8 8 _ hy (by omega) (by omega) (by omega) (by omega)).mono ?_
    rintro e w' ⟨rfl, rfl⟩
    clear hy
    go_wp2_with fail
    refine (ref_two _ _).mono ?_
    rintro e w' ⟨rfl, rfl⟩
    rw [num8_def]
    go_wp2_with fail
    rw [mixB_def]
    refine (refRot64_any _ 31 _ (by omega) (by omega)).mono ?_
    rintro e w' ⟨rfl, rfl⟩
    go_wp2_with fail
    refine ⟨⟨m - 16, _, _, _, stepG s' l', rfl, rfl, rfl, hcut, fun w2 h2 => (hst w2 h2).cut_to_end 16 hlt rfl rfl, ?_⟩, by simp; omega⟩
    show _ = _
    rw [← hr'.out, foldF_step (s := s') (l := l') (by omega) (by rw [hlen.out]; exact hlt), stepG_take]
  · have i1 : (m : Int) < 16 := by omega
    have HS := Lib.hid (foldF_short (F := stepG) (size := 16) (s := s') (l := l') (by rw [hlen.out]; omega))
    have hR := heap_alloc2_new w (.cells #[.int .u64 (W64 (s.1)), .int .u64 (W64 (s.2)), v2, v3] 31) (.cells #[.int .u64 (W64 (s'.1)), .int .u64 (W64 (s'.2)), .int .u64 0, .int .u64 0] 31)
    have hF2 : Fr No w ((w.alloc (.cells #[.int .u64 (W64 (s.1)), .int .u64 (W64 (s.2)), v2, v3] 31)).alloc (.cells #[.int .u64 (W64 (s'.1)), .int .u64 (W64 (s'.2)), .int .u64 0, .int .u64 0] 31)) := ((Fr.refl No w).alloc _).alloc _
    go_wp2_with fail
    generalize ((w.alloc (.cells #[.int .u64 (W64 (s.1)), .int .u64 (W64 (s.2)), v2, v3] 31)).alloc (.cells #[.int .u64 (W64 (s'.1)), .int .u64 (W64 (s'.2)), .int .u64 0, .int .u64 0] 31)) = w3 at hR hF2 ⊢
    have cd0 : w3.cell? ⟨w.heap.size + 1, 0, none⟩ = some (.int .u64 (W64 (s'.1))) := by rw [cell_of_row w3 _ 0 _ _ _ hR]; rfl
    have cd1 : w3.cell? ⟨w.heap.size + 1, 1, none⟩ = some (.int .u64 (W64 (s'.2))) := by rw [cell_of_row w3 _ 1 _ _ _ hR]; rfl
    have cd2 : w3.cell? ⟨w.heap.size + 1, 2, none⟩ = some (.int .u64 0) := by rw [cell_of_row w3 _ 2 _ _ _ hR]; rfl
    have cd3 : w3.cell? ⟨w.heap.size + 1, 3, none⟩ = some (.int .u64 0) := by rw [cell_of_row w3 _ 3 _ _ _ hR]; rfl
    refine bodyPost_ret (v := .tuple #[lanesV s', .slice a' m c']) (by simp [results, Tryz.results174, go_sem, cd0, cd1, cd2, cd3, lanesV]) rfl ?_
    refine ⟨a', m, c', by rw [← hr'.out, HS.out], ?_, ?_, hF2⟩
    · rw [← hr'.out, HS.out]; exact hb.no hF2
    · rw [← hr'.out, HS.out]; exact hst
set_option maxHeartbeats 1000000 in
theorem refBlocks_any (sd : BitVec 32) (a : Option Addr) (n c : Nat) (l : Bytes) (w : World) (h : IsBytes w a n c l) (hn : n ≤ 1099511627776) :
 Calls Tryz.prog 99 #[.int .u32 (W32 sd), .slice a n c] w (GivesLanes a n c l (foldF stepG 16 (firstF sd) l) w) := by
 have hF1 := (Fr.refl No w).alloc (.cells #[.int .u64 0, .int .u64 0, .int .u64 0, .int .u64 0] 31)
 have hA := row4_new w 31 (.int .u64 0) (.int .u64 0) (.int .u64 0) (.int .u64 0)
 generalize hr : foldF stepG 16 (firstF sd) l = r
 have HR := Lib.hid hr
 clear hr
 have h1 := h.no hF1
 go_enter Tryz.func99, Tryz.ntmps99
 go_wp2_with fail
 refine (refFrom_any (firstF sd) _ _ _ _ _ l _ h1 hn).mono ?_
 rintro e w2 ⟨a', n', c', rfl, hb, hst, hf⟩
 rw [HR.out] at hb hst ⊢
 have hR := hA.no hf
 have hF := hF1.no hf
 clear hf h1 hA hF1
 have cr0 := hR.c0
 have cr1 := hR.c1
 have cr2 := hR.c2
 have cr3 := hR.c3
 have fr0 := hR.fz 0
 have fr1 := hR.fz 1
 have fr2 := hR.fz 2
 have fr3 := hR.fz 3
 unfold lanesV
 go_wp2_with fail
 have hF3 := fr_put4 w2 (w.heap.size) (.int .u64 (W64 (r.1.1))) (.int .u64 (W64 (r.1.2))) (.int .u64 0) (.int .u64 0)
 have hR3 := row_put4 hR (.int .u64 (W64 (r.1.1))) (.int .u64 (W64 (r.1.2))) (.int .u64 0) (.int .u64 0)
 clear cr0 cr1 cr2 cr3 fr0 fr1 fr2 fr3
 generalize (((w2.setCell ⟨w.heap.size, 0, none⟩ (.int .u64 (W64 (r.1.1)))).setCell ⟨w.heap.size, 1, none⟩ (.int .u64 (W64 (r.1.2)))).setCell ⟨w.heap.size, 2, none⟩ (.int .u64 0)).setCell ⟨w.heap.size, 3, none⟩ (.int .u64 0) = w3 at hF3 hR3 ⊢
 have cd0 := hR3.c0
 have cd1 := hR3.c1
 have cd2 := hR3.c2
 have cd3 := hR3.c3
 have hFe : Fr No w w3 := hF.trans hF3 (fun x hx => .inr (by omega))
 refine bodyPost_ret (v := .tuple #[lanesV r.1, .slice a' n' c']) (by simp [results, Tryz.results99, go_sem, cd0, cd1, cd2, cd3, lanesV]) rfl ?_
 exact ⟨a', n', c', rfl, (hst _ (h.no hFe)), hst, hFe⟩
set_option maxHeartbeats 2000000 in
theorem refEnd_any (sv : Value) (s : ST) (v2 v3 : Value) (a : Option Addr) (n c : Nat) (l : Bytes) (lo : BitVec 64) (w : World) (hb : IsBytes w a n c l) :
 Calls Tryz.prog 36 #[sv, .agg #[.int .u64 (W64 (s.1)), .int .u64 (W64 (s.2)), v2, v3], .slice a n c, .int .u64 (W64 lo)] w (GivesNew (.agg #[.int .u64 (W64 (endHi s l lo)), .int .u64 (W64 (endLo s l lo))]) w) := by
 unfold endHi endLo
 have hF1 : Fr No w ((w.alloc (.cells #[.int .u64 (W64 (s.1)), .int .u64 (W64 (s.2)), v2, v3] 31)).alloc (.cells #[.int .u64 0, .int .u64 0] 30)) := ((Fr.refl No w).alloc _).alloc _
 have hR : Row4 ((w.alloc (.cells #[.int .u64 (W64 (s.1)), .int .u64 (W64 (s.2)), v2, v3] 31)).alloc (.cells #[.int .u64 0, .int .u64 0] 30)) w.heap.size 31 (.int .u64 (W64 (s.1))) (.int .u64 (W64 (s.2))) v2 v3 := (row4_new w 31 _ _ _ _).no ((Fr.refl No _).alloc _)
 have hT : Row2 ((w.alloc (.cells #[.int .u64 (W64 (s.1)), .int .u64 (W64 (s.2)), v2, v3] 31)).alloc (.cells #[.int .u64 0, .int .u64 0] 30)) (w.heap.size + 1) 30 (.int .u64 0) (.int .u64 0) := heap_alloc2_new w _ _
 have hb1 := hb.no hF1
 go_enter Tryz.func36, Tryz.ntmps36
 go_wp2_with fail
 obtain ⟨pb, hpb⟩ : ∃ pb, pb = w.heap.size := ⟨_, rfl⟩
 have hpw : w.heap.size ≤ pb := by omega
 rw [← hpb] at hR hT ⊢
 clear hpb
 generalize ((w.alloc (.cells #[.int .u64 (W64 (s.1)), .int .u64 (W64 (s.2)), v2, v3] 31)).alloc (.cells #[.int .u64 0, .int .u64 0] 30)) = w1 at hF1 hR hT hb1 ⊢
 refine rsq (by kernel_rfl) [(0, 1), (1, 1), (2, 1), (6, 1), (3, 0), (4, 0), (5, 1), (7, 1), (8, 1)] (by kernel_rfl) ?_
 have hv0 : Fr No w1 w1.drew := (Fr.refl No w1).drew
 iterate 4 refine tq _ rfl rfl (by intro w9 h9; have q0 := (hR.no h9).c0; have q1 := (hR.no h9).c1; clear h9; go_simp; try with_reducible rfl) ?_; simp only [es1, es2, es3]
 refine wpSeq_next rfl rfl (fun K hK => ?_)
 go_wp2_with fail
 refine (refNum_any _ _ _ l 0 8 _ (hb1.no hv0) (by omega) (by omega) (by omega) (by omega)).mono ?_
 rintro e w' ⟨rfl, rfl⟩
 refine hK.out _ _ (fun _ => hv0) ?_
 clear hK K
 refine wpSeq_next rfl rfl (fun K hK => ?_)
 go_wp2_with fail
 refine (ref_one _ _).mono ?_
 rintro e w' ⟨rfl, rfl⟩
 rw [num8_zero]
 refine hK.out _ _ (fun _ => hv0) ?_
 clear hK K
 iterate 3 refine tp _ rfl rfl ?_; simp only [es1, es2, es3]
 refine wpSeq_done ?_
 rw [mixA_def]
 have hR2 := hR.no hv0
 have hT2 := hT.no hv0
 have hF2 := hF1.no hv0
 clear hR hT hF1 hb1 hv0
 have hR := hR2
 have hb1 := hb.no hF2
 clear hR2
 generalize w1.drew = w2 at hR hT2 hF2 hb1 ⊢
 go_wp2_with fail
 refine rsq (by kernel_rfl) [(0, 1), (1, 1), (2, 1), (6, 1), (3, 0), (4, 0), (5, 1), (7, 1), (8, 1)] (by kernel_rfl) ?_
 have hv0 : Fr No w2 w2.drew := (Fr.refl No w2).drew
 iterate 4 refine tq _ rfl rfl (by intro w9 h9; have q0 := (hR.no h9).c0; have q1 := (hR.no h9).c1; clear h9; go_simp; try with_reducible rfl) ?_; simp only [es1, es2, es3]
 refine wpSeq_next rfl rfl (fun K hK => ?_)
 go_wp2_with fail
 refine (refNum_any _ _ _ l 8 8 _ (hb1.no hv0) (by omega) (by omega) (by omega) (by omega)).mono ?_
 rintro e w' ⟨rfl, rfl⟩
 refine hK.out _ _ (fun _ => hv0) ?_
 clear hK K
 refine wpSeq_next rfl rfl (fun K hK => ?_)
 go_wp2_with fail
 refine (ref_two _ _).mono ?_
 rintro e w' ⟨rfl, rfl⟩
 rw [num8_def]
 refine hK.out _ _ (fun _ => hv0) ?_
 clear hK K
 iterate 3 refine tp _ rfl rfl ?_; simp only [es1, es2, es3]
 refine wpSeq_done ?_
 rw [mixB_def]
 have hT3 := hT2.no hv0
 have hF3 := hF2.no hv0
 clear hR hT2 hF2 hb1 hv0
 generalize w2.drew = w3 at hT3 hF3 ⊢
 go_wp2_with fail
 refine (refFmix64_any _ _).mono ?_
 rintro e w' ⟨rfl, rfl⟩
 go_wp2_with fail
 refine (refFmix64_any _ _).mono ?_
 rintro e w' ⟨rfl, rfl⟩
 have cr0 := hT3.c0
 have cr1 := hT3.c1
 have fr0 := hT3.fz 0
 have fr1 := hT3.fz 1
 go_wp2_with fail
 rw [lastF_1, lastF_2]
 have hF9 := fr_put2 w3 (pb + 1) (.int .u64 (W64 (lastHi (mixA s l ^^^ lo) (mixB s l ^^^ lo)))) (.int .u64 (W64 (lastLo (mixA s l ^^^ lo) (mixB s l ^^^ lo))))
 have hR9 := row_put2 hT3 (.int .u64 (W64 (lastHi (mixA s l ^^^ lo) (mixB s l ^^^ lo)))) (.int .u64 (W64 (lastLo (mixA s l ^^^ lo) (mixB s l ^^^ lo))))
 clear cr0 cr1 fr0 fr1
 generalize (w3.setCell ⟨pb + 1, 0, none⟩ (.int .u64 (W64 (lastHi (mixA s l ^^^ lo) (mixB s l ^^^ lo))))).setCell ⟨pb + 1, 1, none⟩ (.int .u64 (W64 (lastLo (mixA s l ^^^ lo) (mixB s l ^^^ lo)))) = w9 at hF9 hR9 ⊢
 have cd0 := hR9.c0
 have cd1 := hR9.c1
 refine bodyPost_ret (v := .agg #[.int .u64 (W64 (lastHi (mixA s l ^^^ lo) (mixB s l ^^^ lo))), .int .u64 (W64 (lastLo (mixA s l ^^^ lo) (mixB s l ^^^ lo)))]) (by simp [results, Tryz.results36, go_sem, cd0, cd1]) rfl ?_
 exact ⟨rfl, hF3.trans hF9 (fun x hx => .inr (by omega))⟩
end Go.Proofs.YtidlpihoafnobaaGreatDoor.StM64
