/- EndM64 RefM64 HashM64 -/
import Derived.Test.YtidlpihoafnobaaGreatDoorPCodeM64
set_option linter.unusedVariables false
set_option linter.unusedSimpArgs false
namespace Go.Proofs.YtidlpihoafnobaaGreatDoor.StM64
set_option maxRecDepth 100000
open Go.RowKit
theorem spread_any (x y : BitVec 64) (w : World) : Calls Tryz.prog 204 #[.agg #[.int .u64 (W64 (x)), .int .u64 (W64 (y))]] w (GivesNew (.agg #[.int .u64 (W64 (x + y)), .int .u64 (W64 (y + (x + y)))]) w) := by
 have hF : Fr No w ((w.alloc (.cells #[.int .u64 (W64 (x + y)), .int .u64 (W64 (y + (x + y)))] 208)).alloc (.cells #[.int .u64 (W64 (x + y)), .int .u64 (W64 (y + (x + y)))] 208)) := ((Fr.refl No w).alloc _).alloc _
 have hN : ((w.alloc (.cells #[.int .u64 (W64 (x + y)), .int .u64 (W64 (y + (x + y)))] 208)).alloc (.cells #[.int .u64 (W64 (x + y)), .int .u64 (W64 (y + (x + y)))] 208)).heap[w.heap.size + 1]? = some (.cells #[.int .u64 (W64 (x + y)), .int .u64 (W64 (y + (x + y)))] 208 (0, 0)) := heap_alloc2_new w _ _
 go_enter Tryz.func204, Tryz.ntmps204
 go_wp2_with fail
 generalize ((w.alloc (.cells #[.int .u64 (W64 (x + y)), .int .u64 (W64 (y + (x + y)))] 208)).alloc (.cells #[.int .u64 (W64 (x + y)), .int .u64 (W64 (y + (x + y)))] 208)) = w3 at hF hN ⊢
 have cd0 : w3.cell? ⟨w.heap.size + 1, 0, none⟩ = some (.int .u64 (W64 (x + y))) := by rw [cell_of_row w3 _ 0 _ _ _ hN]; rfl
 have cd1 : w3.cell? ⟨w.heap.size + 1, 1, none⟩ = some (.int .u64 (W64 (y + (x + y)))) := by rw [cell_of_row w3 _ 1 _ _ _ hN]; rfl
 exact bodyPost_ret (v := .agg #[.int .u64 (W64 (x + y)), .int .u64 (W64 (y + (x + y)))]) (by simp [results, Tryz.results204, go_sem, cd0, cd1]) rfl ⟨rfl, hF⟩
theorem both_any (sd : BitVec 32) (w : World) : Calls Tryz.prog 140 #[.int .u32 (W32 sd)] w (GivesNew (.agg #[cS (firstF sd) 0, cS (firstF sd) 1]) w) := by
 have hF : Fr No w (w.alloc (.cells #[.int .u64 (W64 (sd.setWidth 64)), .int .u64 (W64 (sd.setWidth 64))] 208)) := (Fr.refl No w).alloc _
 have hN : (w.alloc (.cells #[.int .u64 (W64 (sd.setWidth 64)), .int .u64 (W64 (sd.setWidth 64))] 208)).heap[w.heap.size]? = some (.cells #[.int .u64 (W64 (sd.setWidth 64)), .int .u64 (W64 (sd.setWidth 64))] 208 (0, 0)) := heap_alloc_new w _
 go_enter Tryz.func140, Tryz.ntmps140
 go_wp2_with fail
 generalize (w.alloc (.cells #[.int .u64 (W64 (sd.setWidth 64)), .int .u64 (W64 (sd.setWidth 64))] 208)) = w3 at hF hN ⊢
 have cd0 : w3.cell? ⟨w.heap.size, 0, none⟩ = some (.int .u64 (W64 (sd.setWidth 64))) := by rw [cell_of_row w3 _ 0 _ _ _ hN]; rfl
 have cd1 : w3.cell? ⟨w.heap.size, 1, none⟩ = some (.int .u64 (W64 (sd.setWidth 64))) := by rw [cell_of_row w3 _ 1 _ _ _ hN]; rfl
 exact bodyPost_ret (v := .agg #[.int .u64 (W64 (sd.setWidth 64)), .int .u64 (W64 (sd.setWidth 64))]) (by simp [results, Tryz.results140, go_sem, cd0, cd1]) rfl ⟨rfl, hF⟩
theorem two_any (x0 x1 x2 x3 : BitVec 64) (w : World) : Calls Tryz.prog 291 #[.agg #[.int .u64 (W64 (x0)), .int .u64 (W64 (x1)), .int .u64 (W64 (x2)), .int .u64 (W64 (x3))]] w (GivesNew (.agg #[cS (x0, x1) 0, cS (x0, x1) 1]) w) := by
 have hF : Fr No w ((w.alloc (.cells #[.int .u64 (W64 (x0)), .int .u64 (W64 (x1)), .int .u64 (W64 (x2)), .int .u64 (W64 (x3))] 31)).alloc (.cells #[.int .u64 (W64 (x0)), .int .u64 (W64 (x1))] 208)) := ((Fr.refl No w).alloc _).alloc _
 have hN : ((w.alloc (.cells #[.int .u64 (W64 (x0)), .int .u64 (W64 (x1)), .int .u64 (W64 (x2)), .int .u64 (W64 (x3))] 31)).alloc (.cells #[.int .u64 (W64 (x0)), .int .u64 (W64 (x1))] 208)).heap[w.heap.size + 1]? = some (.cells #[.int .u64 (W64 (x0)), .int .u64 (W64 (x1))] 208 (0, 0)) := heap_alloc2_new w _ _
 go_enter Tryz.func291, Tryz.ntmps291
 go_wp2_with fail
 generalize ((w.alloc (.cells #[.int .u64 (W64 (x0)), .int .u64 (W64 (x1)), .int .u64 (W64 (x2)), .int .u64 (W64 (x3))] 31)).alloc (.cells #[.int .u64 (W64 (x0)), .int .u64 (W64 (x1))] 208)) = w3 at hF hN ⊢
 have cd0 : w3.cell? ⟨w.heap.size + 1, 0, none⟩ = some (.int .u64 (W64 (x0))) := by rw [cell_of_row w3 _ 0 _ _ _ hN]; rfl
 have cd1 : w3.cell? ⟨w.heap.size + 1, 1, none⟩ = some (.int .u64 (W64 (x1))) := by rw [cell_of_row w3 _ 1 _ _ _ hN]; rfl
 exact bodyPost_ret (v := .agg #[.int .u64 (W64 (x0)), .int .u64 (W64 (x1))]) (by simp [results, Tryz.results291, go_sem, cd0, cd1]) rfl ⟨rfl, hF⟩
theorem four_any (s : ST) (w : World) : Calls Tryz.prog 290 #[.agg #[cS s 0, cS s 1]] w (GivesNew (lanesV s) w) := by
 rw [cS0, cS1]
 have hF : Fr No w ((w.alloc (.cells #[.int .u64 (W64 (s.1)), .int .u64 (W64 (s.2))] 208)).alloc (.cells #[.int .u64 (W64 (s.1)), .int .u64 (W64 (s.2)), .int .u64 0, .int .u64 0] 31)) := ((Fr.refl No w).alloc _).alloc _
 have hN : ((w.alloc (.cells #[.int .u64 (W64 (s.1)), .int .u64 (W64 (s.2))] 208)).alloc (.cells #[.int .u64 (W64 (s.1)), .int .u64 (W64 (s.2)), .int .u64 0, .int .u64 0] 31)).heap[w.heap.size + 1]? = some (.cells #[.int .u64 (W64 (s.1)), .int .u64 (W64 (s.2)), .int .u64 0, .int .u64 0] 31 (0, 0)) := heap_alloc2_new w _ _
 go_enter Tryz.func290, Tryz.ntmps290
 go_wp2_with fail
 generalize ((w.alloc (.cells #[.int .u64 (W64 (s.1)), .int .u64 (W64 (s.2))] 208)).alloc (.cells #[.int .u64 (W64 (s.1)), .int .u64 (W64 (s.2)), .int .u64 0, .int .u64 0] 31)) = w3 at hF hN ⊢
 have cd0 : w3.cell? ⟨w.heap.size + 1, 0, none⟩ = some (.int .u64 (W64 (s.1))) := by rw [cell_of_row w3 _ 0 _ _ _ hN]; rfl
 have cd1 : w3.cell? ⟨w.heap.size + 1, 1, none⟩ = some (.int .u64 (W64 (s.2))) := by rw [cell_of_row w3 _ 1 _ _ _ hN]; rfl
 have cd2 : w3.cell? ⟨w.heap.size + 1, 2, none⟩ = some (.int .u64 0) := by rw [cell_of_row w3 _ 2 _ _ _ hN]; rfl
 have cd3 : w3.cell? ⟨w.heap.size + 1, 3, none⟩ = some (.int .u64 0) := by rw [cell_of_row w3 _ 3 _ _ _ hN]; rfl
 exact bodyPost_ret (v := .agg #[.int .u64 (W64 (s.1)), .int .u64 (W64 (s.2)), .int .u64 0, .int .u64 0]) (by simp [results, Tryz.results290, go_sem, cd0, cd1, cd2, cd3]) rfl ⟨rfl, hF⟩
set_option maxHeartbeats 2000000 in
theorem step_any (s : ST) (a : Option Addr) (n c : Nat) (l : Bytes) (w : World) (hb : IsBytes w a n c l) :
 Calls Tryz.prog 141 #[.agg #[cS s 0, cS s 1], .slice a n c] w (GivesS (stepG s l) w) := by
 rw [cS0, cS1]
 have hF1 : Fr No w ((w.alloc (.cells #[.int .u64 (W64 (s.1)), .int .u64 (W64 (s.2))] 208)).alloc (.cells #[.int .u64 0, .int .u64 0] 208)) := ((Fr.refl No w).alloc _).alloc _
 have hR : Row2 ((w.alloc (.cells #[.int .u64 (W64 (s.1)), .int .u64 (W64 (s.2))] 208)).alloc (.cells #[.int .u64 0, .int .u64 0] 208)) w.heap.size 208 (.int .u64 (W64 (s.1))) (.int .u64 (W64 (s.2))) := (row2_new w 208 _ _).no ((Fr.refl No _).alloc _)
 have hT : Row2 ((w.alloc (.cells #[.int .u64 (W64 (s.1)), .int .u64 (W64 (s.2))] 208)).alloc (.cells #[.int .u64 0, .int .u64 0] 208)) (w.heap.size + 1) 208 (.int .u64 0) (.int .u64 0) := heap_alloc2_new w _ _
 have hb1 := hb.no hF1
 go_enter Tryz.func141, Tryz.ntmps141
 go_wp2_with fail
 obtain ⟨pb, hpb⟩ : ∃ pb, pb = w.heap.size := ⟨_, rfl⟩
 have hpw : w.heap.size ≤ pb := by omega
 rw [← hpb] at hR hT ⊢
 clear hpb
 generalize (w.alloc (.cells #[.int .u64 (W64 (s.1)), .int .u64 (W64 (s.2))] 208)).alloc (.cells #[.int .u64 0, .int .u64 0] 208) = w1 at hF1 hR hT hb1 ⊢
 refine (mixed_any s _ _ _ l _ hb1).mono ?_
 rintro e w2 ⟨rfl, hf2⟩
 have hR2 := hR.no hf2
 have hT2 := hT.no hf2
 have hF2 := hF1.no hf2
 clear hR hT hF1 hf2 hb1 hb
 go_wp2_with fail
 have hM : Row2 (w2.alloc (.cells #[.int .u64 (W64 (mixA s l)), .int .u64 (W64 (mixB s l))] 208)) w2.heap.size 208 (.int .u64 (W64 (mixA s l))) (.int .u64 (W64 (mixB s l))) := row2_new w2 208 _ _
 have hR := hR2.no ((Fr.refl No w2).alloc (.cells #[.int .u64 (W64 (mixA s l)), .int .u64 (W64 (mixB s l))] 208))
 have hT3 := hT2.no ((Fr.refl No w2).alloc (.cells #[.int .u64 (W64 (mixA s l)), .int .u64 (W64 (mixB s l))] 208))
 have hF3 := hF2.alloc (.cells #[.int .u64 (W64 (mixA s l)), .int .u64 (W64 (mixB s l))] 208)
 have hms := hR2.lt
 have hmt := hT2.lt
 generalize w2.heap.size = mb at hM hms hmt ⊢
 generalize w2.alloc (.cells #[.int .u64 (W64 (mixA s l)), .int .u64 (W64 (mixB s l))] 208) = w3 at hM hR hT3 hF3 ⊢
 clear hR2 hT2 hF2
 refine wp_region_seq (by kernel_rfl) (fun w' => Fr No w3 w') (fun i => decide (9 ≤ i)) [(0, 1), (1, 1), (3, 1), (4, 1), (2, 0), (5, 1), (6, 1), (7, 1), (8, 1), (9, 0)] (by kernel_rfl) (Fr.refl No w3).drew ?_
 have hv0 : Fr No w3 w3.drew := (Fr.refl No w3).drew
 iterate 4 refine tq _ rfl rfl (by intro w9 h9; have q0 := (hR.no h9).c0; have q1 := (hR.no h9).c1; have q2 := (hM.no h9).c0; have q3 := (hM.no h9).c1; clear h9; go_simp; try with_reducible rfl) ?_; simp only [es1, es2, es3]
 refine wpSeq_next rfl rfl (fun K hK => ?_)
 go_wp2_with fail
 refine (Rot64_any _ 27 _).mono ?_
 rintro e w' ⟨rfl, rfl⟩
 refine hK.out _ _ (fun _ => hv0) ?_
 clear hK K
 iterate 4 refine tp _ rfl rfl ?_; simp only [es1, es2, es3]
 have hRx := hR.no hv0
 have cx := hRx.c0
 have fx := hRx.fz 0
 refine wpSeq_next rfl rfl (fun K hK => ?_)
 go_wp2_with fail
 refine hK.out _ _ (fun h => by simp at h) ?_
 clear hK K
 refine wpSeq_done ?_
 rw [turnA_def]
 have hR5 := (hR.put0 (.int .u64 (W64 (turnA (mixA s l) s.2)))).no (Fr.refl No _).drew
 have hf5 := (fr_put1 w3 pb 0 (.int .u64 (W64 (turnA (mixA s l) s.2)))).no (Fr.refl No _).drew
 have hM5 := hM.fr hf5 (by omega)
 have hT5 := hT3.fr hf5 (by omega)
 have hF5 := hF3.trans hf5 (fun x hx => .inr (by omega))
 clear hRx cx fx hv0 hR hM hT3 hF3
 generalize (w3.setCell ⟨pb, 0, none⟩ (.int .u64 (W64 (turnA (mixA s l) s.2)))).drew = w5 at hR5 hf5 hM5 hT5 hF5 ⊢
 clear hf5
 go_wp2_with fail
 refine wp_region_seq (by kernel_rfl) (fun w' => Fr No w5 w') (fun i => decide (9 ≤ i)) [(0, 1), (1, 1), (3, 1), (4, 1), (2, 0), (5, 1), (6, 1), (7, 1), (8, 1), (9, 0)] (by kernel_rfl) (Fr.refl No w5).drew ?_
 have hv0 : Fr No w5 w5.drew := (Fr.refl No w5).drew
 iterate 4 refine tq _ rfl rfl (by intro w9 h9; have q0 := (hR5.no h9).c0; have q1 := (hR5.no h9).c1; have q2 := (hM5.no h9).c0; have q3 := (hM5.no h9).c1; clear h9; go_simp; try with_reducible rfl) ?_; simp only [es1, es2, es3]
 refine wpSeq_next rfl rfl (fun K hK => ?_)
 go_wp2_with fail
 refine (Rot64_any _ 31 _).mono ?_
 rintro e w' ⟨rfl, rfl⟩
 refine hK.out _ _ (fun _ => hv0) ?_
 clear hK K
 iterate 4 refine tp _ rfl rfl ?_; simp only [es1, es2, es3]
 have hRx := hR5.no hv0
 have cx := hRx.c1
 have fx := hRx.fz 1
 refine wpSeq_next rfl rfl (fun K hK => ?_)
 go_wp2_with fail
 refine hK.out _ _ (fun h => by simp at h) ?_
 clear hK K
 refine wpSeq_done ?_
 rw [turnB_def]
 have hR6 := (hR5.put1 (.int .u64 (W64 (turnB (mixB s l) (turnA (mixA s l) s.2))))).no (Fr.refl No _).drew
 have hf6 := (fr_put1 w5 pb 1 (.int .u64 (W64 (turnB (mixB s l) (turnA (mixA s l) s.2))))).no (Fr.refl No _).drew
 have hT6 := hT5.fr hf6 (by omega)
 have hF6 := hF5.trans hf6 (fun x hx => .inr (by omega))
 clear hRx cx fx hv0 hR5 hM5 hT5 hF5
 generalize (w5.setCell ⟨pb, 1, none⟩ (.int .u64 (W64 (turnB (mixB s l) (turnA (mixA s l) s.2))))).drew = w6 at hR6 hf6 hT6 hF6 ⊢
 clear hf6
 have cq0 := hR6.c0
 have cq1 := hR6.c1
 have cr0 := hT6.c0
 have cr1 := hT6.c1
 have fr0 := hT6.fz 0
 have fr1 := hT6.fz 1
 go_wp2_with fail
 have hF9 := fr_put2 w6 (pb + 1) (.int .u64 (W64 (turnA (mixA s l) s.2))) (.int .u64 (W64 (turnB (mixB s l) (turnA (mixA s l) s.2))))
 have hR9 := row_put2 hT6 (.int .u64 (W64 (turnA (mixA s l) s.2))) (.int .u64 (W64 (turnB (mixB s l) (turnA (mixA s l) s.2))))
 clear cr0 cr1 fr0 fr1
 generalize (w6.setCell ⟨pb + 1, 0, none⟩ (.int .u64 (W64 (turnA (mixA s l) s.2)))).setCell ⟨pb + 1, 1, none⟩ (.int .u64 (W64 (turnB (mixB s l) (turnA (mixA s l) s.2)))) = w9 at hF9 hR9 ⊢
 have cd0 := hR9.c0
 have cd1 := hR9.c1
 refine bodyPost_ret (v := .agg #[.int .u64 (W64 (turnA (mixA s l) s.2)), .int .u64 (W64 (turnB (mixB s l) (turnA (mixA s l) s.2)))]) (by simp [results, Tryz.results141, go_sem, cd0, cd1]) rfl ?_
 exact ⟨rfl, hF6.trans hF9 (fun x hx => .inr (by omega))⟩
theorem lastF_1 (a b : BitVec 64) : fmix64 (b + (a + b)) + (fmix64 (a + b) + fmix64 (b + (a + b))) = lastHi a b := rfl
theorem lastF_2 (a b : BitVec 64) : fmix64 (a + b) + fmix64 (b + (a + b)) = lastLo a b := rfl
set_option maxHeartbeats 2000000 in
theorem end_any (s : ST) (a : Option Addr) (n c : Nat) (l : Bytes) (lo : BitVec 64) (w : World) (hb : IsBytes w a n c l) :
 Calls Tryz.prog 142 #[.agg #[cS s 0, cS s 1], .slice a n c, .int .u64 (W64 lo)] w (GivesNew (.agg #[.int .u64 (W64 (endHi s l lo)), .int .u64 (W64 (endLo s l lo))]) w) := by
 rw [cS0, cS1]
 unfold endHi endLo
 have hF1 : Fr No w ((w.alloc (.cells #[.int .u64 (W64 (s.1)), .int .u64 (W64 (s.2))] 208)).alloc (.cells #[.int .u64 0, .int .u64 0] 30)) := ((Fr.refl No w).alloc _).alloc _
 have hR : Row2 ((w.alloc (.cells #[.int .u64 (W64 (s.1)), .int .u64 (W64 (s.2))] 208)).alloc (.cells #[.int .u64 0, .int .u64 0] 30)) w.heap.size 208 (.int .u64 (W64 (s.1))) (.int .u64 (W64 (s.2))) := (row2_new w 208 _ _).no ((Fr.refl No _).alloc _)
 have hT : Row2 ((w.alloc (.cells #[.int .u64 (W64 (s.1)), .int .u64 (W64 (s.2))] 208)).alloc (.cells #[.int .u64 0, .int .u64 0] 30)) (w.heap.size + 1) 30 (.int .u64 0) (.int .u64 0) := heap_alloc2_new w _ _
 have hb1 := hb.no hF1
 go_enter Tryz.func142, Tryz.ntmps142
 go_wp2_with fail
 obtain ⟨pb, hpb⟩ : ∃ pb, pb = w.heap.size := ⟨_, rfl⟩
 have hpw : w.heap.size ≤ pb := by omega
 rw [← hpb] at hR hT ⊢
 clear hpb
 generalize (w.alloc (.cells #[.int .u64 (W64 (s.1)), .int .u64 (W64 (s.2))] 208)).alloc (.cells #[.int .u64 0, .int .u64 0] 30) = w1 at hF1 hR hT hb1 ⊢
 have cq0 := hR.c0
 have cq1 := hR.c1
 have fq0 := hR.fz 0
 have fq1 := hR.fz 1
 try go_wp2_with fail
 refine (mixed_any s _ _ _ l _ hb1).mono ?_
 rintro e w2 ⟨rfl, hf2⟩
 have hR2 := hR.no hf2
 have hT2 := hT.no hf2
 have hF2 := hF1.no hf2
 clear hR hT hF1 hf2 hb1 hb cq0 cq1 fq0 fq1
 have cq0 := hR2.c0
 have cq1 := hR2.c1
 have fq0 := hR2.fz 0
 have fq1 := hR2.fz 1
 go_wp2_with fail
 have hf3 := fr_put2 w2 pb (.int .u64 (W64 (mixA s l))) (.int .u64 (W64 (mixB s l)))
 have hR3 := row_put2 hR2 (.int .u64 (W64 (mixA s l))) (.int .u64 (W64 (mixB s l)))
 have hT3 := hT2.fr hf3 (by omega)
 have hF3 := hF2.trans hf3 (fun x hx => .inr (by omega))
 clear cq0 cq1 fq0 fq1 hR2 hT2 hF2
 generalize (w2.setCell ⟨pb, 0, none⟩ (.int .u64 (W64 (mixA s l)))).setCell ⟨pb, 1, none⟩ (.int .u64 (W64 (mixB s l))) = w3 at hf3 hR3 hT3 hF3 ⊢
 clear hf3
 refine (spread_any _ _ _).mono ?_
 rintro e w4 ⟨rfl, hf4⟩
 have hR4 := hR3.no hf4
 have hT4 := hT3.no hf4
 have hF4 := hF3.no hf4
 clear hR3 hT3 hF3 hf4
 have cq0 := hR4.c0
 have cq1 := hR4.c1
 have fq0 := hR4.fz 0
 have fq1 := hR4.fz 1
 go_wp2_with fail
 have hf5 := fr_put2 w4 pb (.int .u64 (W64 ((mixA s l ^^^ lo) + (mixB s l ^^^ lo)))) (.int .u64 (W64 ((mixB s l ^^^ lo) + ((mixA s l ^^^ lo) + (mixB s l ^^^ lo)))))
 have hRe := row_put2 hR4 (.int .u64 (W64 ((mixA s l ^^^ lo) + (mixB s l ^^^ lo)))) (.int .u64 (W64 ((mixB s l ^^^ lo) + ((mixA s l ^^^ lo) + (mixB s l ^^^ lo)))))
 have hT5 := hT4.fr hf5 (by omega)
 have hF5 := hF4.trans hf5 (fun x hx => .inr (by omega))
 clear cq0 cq1 fq0 fq1 hR4 hT4 hF4
 generalize (w4.setCell ⟨pb, 0, none⟩ (.int .u64 (W64 ((mixA s l ^^^ lo) + (mixB s l ^^^ lo))))).setCell ⟨pb, 1, none⟩ (.int .u64 (W64 ((mixB s l ^^^ lo) + ((mixA s l ^^^ lo) + (mixB s l ^^^ lo))))) = w5 at hf5 hRe hT5 hF5 ⊢
 clear hf5
 refine wp_region_seq (by kernel_rfl) (fun w' => Fr No w5 w') (fun i => decide (8 ≤ i)) [(0, 1), (1, 1), (3, 1), (4, 1), (2, 0), (5, 0), (6, 1), (7, 0), (8, 0)] (by kernel_rfl) (Fr.refl No w5).drew ?_
 have hv0 : Fr No w5 w5.drew := (Fr.refl No w5).drew
 iterate 4 refine tq _ rfl rfl (by intro w9 h9; have q0 := (hRe.no h9).c0; have q1 := (hRe.no h9).c1; clear h9; go_simp; try with_reducible rfl) ?_; simp only [es1, es2, es3]
 refine wpSeq_next rfl rfl (fun K hK => ?_)
 go_wp2_with fail
 refine (Fmix64_any _ _).mono ?_
 rintro e xhv1 ⟨rfl, hx⟩
 have hv1 := hv0.no hx
 clear hx
 refine hK.out _ _ (fun _ => hv1) ?_
 clear hK K
 refine wpSeq_next rfl rfl (fun K hK => ?_)
 go_wp2_with fail
 refine (Fmix64_any _ _).mono ?_
 rintro e xhv2 ⟨rfl, hx⟩
 have hv2 := hv1.no hx
 clear hx
 refine hK.out _ _ (fun _ => hv2) ?_
 clear hK K
 refine tp _ rfl rfl ?_; simp only [es1, es2, es3]
 refine wpSeq_next rfl rfl (fun K hK => ?_)
 go_wp2_with fail
 refine (spread_any _ _ _).mono ?_
 rintro e xhv3 ⟨rfl, hx⟩
 have hv3 := hv2.no hx
 clear hx
 refine hK.out _ _ (fun _ => hv3) ?_
 clear hK K
 have hRx := hRe.no hv3
 have cx := hRx.c0
 have fx := hRx.fz 0
 have cy := hRx.c1
 have fy := hRx.fz 1
 refine wpSeq_next rfl rfl (fun K hK => ?_)
 go_wp2_with fail
 refine hK.out _ _ (fun h => by simp at h) ?_
 clear hK K
 refine wpSeq_done ?_
 rw [lastF_1, lastF_2]
 have hf6 := fr_put2 xhv3 pb (.int .u64 (W64 (lastLo (mixA s l ^^^ lo) (mixB s l ^^^ lo)))) (.int .u64 (W64 (lastHi (mixA s l ^^^ lo) (mixB s l ^^^ lo))))
 have hR6 := row_put2 hRx (.int .u64 (W64 (lastLo (mixA s l ^^^ lo) (mixB s l ^^^ lo)))) (.int .u64 (W64 (lastHi (mixA s l ^^^ lo) (mixB s l ^^^ lo))))
 have hT6 := (hT5.no hv3).fr hf6 (by omega)
 have hF6 := (hF5.no hv3).trans hf6 (fun x hx => .inr (by omega))
 clear hRx cx fx cy fy hRe hT5 hF5 hv0 hv1 hv2 hv3
 generalize (xhv3.setCell ⟨pb, 0, none⟩ (.int .u64 (W64 (lastLo (mixA s l ^^^ lo) (mixB s l ^^^ lo))))).setCell ⟨pb, 1, none⟩ (.int .u64 (W64 (lastHi (mixA s l ^^^ lo) (mixB s l ^^^ lo)))) = w6 at hf6 hR6 hT6 hF6 ⊢
 clear hf6
 obtain ⟨r1, hr1⟩ : ∃ r, r = lastHi (mixA s l ^^^ lo) (mixB s l ^^^ lo) := ⟨_, rfl⟩
 obtain ⟨r2, hr2⟩ : ∃ r, r = lastLo (mixA s l ^^^ lo) (mixB s l ^^^ lo) := ⟨_, rfl⟩
 rw [← hr1, ← hr2] at hR6 ⊢
 have HR := Lib.hid hr1
 have HR2 := Lib.hid hr2
 clear hr1 hr2
 have cq0 := hR6.c0
 have cq1 := hR6.c1
 have cr0 := hT6.c0
 have cr1 := hT6.c1
 have fr0 := hT6.fz 0
 have fr1 := hT6.fz 1
 go_wp2_with fail
 have hF9 := fr_put2 w6 (pb + 1) (.int .u64 (W64 (r1))) (.int .u64 (W64 (r2)))
 have hR9 := row_put2 hT6 (.int .u64 (W64 (r1))) (.int .u64 (W64 (r2)))
 clear cr0 cr1 fr0 fr1
 generalize (w6.setCell ⟨pb + 1, 0, none⟩ (.int .u64 (W64 (r1)))).setCell ⟨pb + 1, 1, none⟩ (.int .u64 (W64 (r2))) = w9 at hF9 hR9 ⊢
 have cd0 := hR9.c0
 have cd1 := hR9.c1
 refine bodyPost_ret (v := .agg #[.int .u64 (W64 (r1)), .int .u64 (W64 (r2))]) (by simp [results, Tryz.results142, go_sem, cd0, cd1]) rfl ?_
 exact ⟨by rw [HR.out, HR2.out], hF6.trans hF9 (fun x hx => .inr (by omega))⟩
end Go.Proofs.YtidlpihoafnobaaGreatDoor.StM64
namespace Go.Proofs.YtidlpihoafnobaaGreatDoor.StM64
set_option maxRecDepth 100000
open Go.RowKit
theorem steps_any : Hid (Steps (fun _ => True) stepG 16 0) := Lib.hid (fun w s a n c l _ hb hl => step_any s a n c l w hb)
theorem ref_one (k : BitVec 64) (w : World) : Calls Tryz.prog 65 #[.int .u64 (W64 k)] w (Gives (.int .u64 (W64 (wordA k))) w) := by
 go_enter Tryz.func65, Tryz.ntmps65
 go_wp2_with fail
 refine (refRot64_any _ 31 _ (by omega) (by omega)).mono ?_
 rintro e w' ⟨rfl, rfl⟩
 go_wp2_with fail
 rw [wordA_def]
 go_ret
 exact ⟨rfl, rfl⟩
theorem ref_two (k : BitVec 64) (w : World) : Calls Tryz.prog 66 #[.int .u64 (W64 k)] w (Gives (.int .u64 (W64 (wordB k))) w) := by
 go_enter Tryz.func66, Tryz.ntmps66
 go_wp2_with fail
 refine (refRot64_any _ 33 _ (by omega) (by omega)).mono ?_
 rintro e w' ⟨rfl, rfl⟩
 go_wp2_with fail
 rw [wordB_def]
 go_ret
 exact ⟨rfl, rfl⟩
set_option maxHeartbeats 2000000 in
theorem refEnd_any (sv : Value) (s : ST) (v2 v3 : Value) (a : Option Addr) (n c : Nat) (l : Bytes) (lo : BitVec 64) (w : World) (hb : IsBytes w a n c l) :
 Calls Tryz.prog 36 #[sv, .agg #[.int .u64 (W64 (s.1)), .int .u64 (W64 (s.2)), v2, v3], .slice a n c, .int .u64 (W64 lo)] w (GivesNew (.agg #[.int .u64 (W64 (endHi s l lo)), .int .u64 (W64 (endLo s l lo))]) w) := by
 unfold endHi endLo
 have hF1 : Fr No w ((w.alloc (.cells #[.int .u64 (W64 (s.1)), .int .u64 (W64 (s.2)), v2, v3] 31)).alloc (.cells #[.int .u64 0, .int .u64 0] 30)) := ((Fr.refl No w).alloc _).alloc _
 have hR : Row4 ((w.alloc (.cells #[.int .u64 (W64 (s.1)), .int .u64 (W64 (s.2)), v2, v3] 31)).alloc (.cells #[.int .u64 0, .int .u64 0] 30)) w.heap.size 31 (.int .u64 (W64 (s.1))) (.int .u64 (W64 (s.2))) v2 v3 := (row4_new w 31 _ _ _ _).no ((Fr.refl No _).alloc _)
 have hT : Row2 ((w.alloc (.cells #[.int .u64 (W64 (s.1)), .int .u64 (W64 (s.2)), v2, v3] 31)).alloc (.cells #[.int .u64 0, .int .u64 0] 30)) (w.heap.size + 1) 30 (.int .u64 0) (.int .u64 0) := heap_alloc2_new w _ _
 have hb1 := hb.no hF1
 go_enter Tryz.func36, Tryz.ntmps36
 go_wp2_with fail
 obtain ⟨pb, hpb⟩ : ∃ pb, pb = w.heap.size := ⟨_, rfl⟩
 have hpw : w.heap.size ≤ pb := by omega
 rw [← hpb] at hR hT ⊢
 clear hpb
 generalize ((w.alloc (.cells #[.int .u64 (W64 (s.1)), .int .u64 (W64 (s.2)), v2, v3] 31)).alloc (.cells #[.int .u64 0, .int .u64 0] 30)) = w1 at hF1 hR hT hb1 ⊢
 refine rsq (by kernel_rfl) [(0, 1), (1, 1), (2, 1), (6, 1), (3, 0), (4, 0), (5, 1), (7, 1), (8, 1)] (by kernel_rfl) ?_
 have hv0 : Fr No w1 w1.drew := (Fr.refl No w1).drew
 iterate 4 refine tq _ rfl rfl (by intro w9 h9; have q0 := (hR.no h9).c0; have q1 := (hR.no h9).c1; clear h9; go_simp; try with_reducible rfl) ?_; simp only [es1, es2, es3]
 refine wpSeq_next rfl rfl (fun K hK => ?_)
 go_wp2_with fail
 refine (refNum_any _ _ _ l 0 8 _ (hb1.no hv0) (by omega) (by omega) (by omega) (by omega)).mono ?_
 rintro e w' ⟨rfl, rfl⟩
 refine hK.out _ _ (fun _ => hv0) ?_
 clear hK K
 refine wpSeq_next rfl rfl (fun K hK => ?_)
 go_wp2_with fail
 refine (ref_one _ _).mono ?_
 rintro e w' ⟨rfl, rfl⟩
 rw [num8_zero]
 refine hK.out _ _ (fun _ => hv0) ?_
 clear hK K
 iterate 3 refine tp _ rfl rfl ?_; simp only [es1, es2, es3]
 refine wpSeq_done ?_
 rw [mixA_def]
 have hR2 := hR.no hv0
 have hT2 := hT.no hv0
 have hF2 := hF1.no hv0
 clear hR hT hF1 hb1 hv0
 have hR := hR2
 have hb1 := hb.no hF2
 clear hR2
 generalize w1.drew = w2 at hR hT2 hF2 hb1 ⊢
 go_wp2_with fail
 refine rsq (by kernel_rfl) [(0, 1), (1, 1), (2, 1), (6, 1), (3, 0), (4, 0), (5, 1), (7, 1), (8, 1)] (by kernel_rfl) ?_
 have hv0 : Fr No w2 w2.drew := (Fr.refl No w2).drew
 iterate 4 refine tq _ rfl rfl (by intro w9 h9; have q0 := (hR.no h9).c0; have q1 := (hR.no h9).c1; clear h9; go_simp; try with_reducible rfl) ?_; simp only [es1, es2, es3]
 refine wpSeq_next rfl rfl (fun K hK => ?_)
 go_wp2_with fail
 refine (refNum_any _ _ _ l 8 8 _ (hb1.no hv0) (by omega) (by omega) (by omega) (by omega)).mono ?_
 rintro e w' ⟨rfl, rfl⟩
 refine hK.out _ _ (fun _ => hv0) ?_
 clear hK K
 refine wpSeq_next rfl rfl (fun K hK => ?_)
 go_wp2_with fail
 refine (ref_two _ _).mono ?_
 rintro e w' ⟨rfl, rfl⟩
 rw [num8_def]
 refine hK.out _ _ (fun _ => hv0) ?_
 clear hK K
 iterate 3 refine tp _ rfl rfl ?_; simp only [es1, es2, es3]
 refine wpSeq_done ?_
 rw [mixB_def]
 have hT3 := hT2.no hv0
 have hF3 := hF2.no hv0
 clear hR hT2 hF2 hb1 hv0
 generalize w2.drew = w3 at hT3 hF3 ⊢
 go_wp2_with fail
 refine (refFmix64_any _ _).mono ?_
 rintro e w' ⟨rfl, rfl⟩
 go_wp2_with fail
 refine (refFmix64_any _ _).mono ?_
 rintro e w' ⟨rfl, rfl⟩
 have cr0 := hT3.c0
 have cr1 := hT3.c1
 have fr0 := hT3.fz 0
 have fr1 := hT3.fz 1
 go_wp2_with fail
 rw [lastF_1, lastF_2]
 have hF9 := fr_put2 w3 (pb + 1) (.int .u64 (W64 (lastHi (mixA s l ^^^ lo) (mixB s l ^^^ lo)))) (.int .u64 (W64 (lastLo (mixA s l ^^^ lo) (mixB s l ^^^ lo))))
 have hR9 := row_put2 hT3 (.int .u64 (W64 (lastHi (mixA s l ^^^ lo) (mixB s l ^^^ lo)))) (.int .u64 (W64 (lastLo (mixA s l ^^^ lo) (mixB s l ^^^ lo))))
 clear cr0 cr1 fr0 fr1
 generalize (w3.setCell ⟨pb + 1, 0, none⟩ (.int .u64 (W64 (lastHi (mixA s l ^^^ lo) (mixB s l ^^^ lo))))).setCell ⟨pb + 1, 1, none⟩ (.int .u64 (W64 (lastLo (mixA s l ^^^ lo) (mixB s l ^^^ lo)))) = w9 at hF9 hR9 ⊢
 have cd0 := hR9.c0
 have cd1 := hR9.c1
 refine bodyPost_ret (v := .agg #[.int .u64 (W64 (lastHi (mixA s l ^^^ lo) (mixB s l ^^^ lo))), .int .u64 (W64 (lastLo (mixA s l ^^^ lo) (mixB s l ^^^ lo)))]) (by simp [results, Tryz.results36, go_sem, cd0, cd1]) rfl ?_
 exact ⟨rfl, hF3.trans hF9 (fun x hx => .inr (by omega))⟩
end Go.Proofs.YtidlpihoafnobaaGreatDoor.StM64
namespace Go.Proofs.YtidlpihoafnobaaGreatDoor.StM64
set_option maxRecDepth 100000
open Go.RowKit
structure HLive (w0 w : World) (hb sb : Nat) (sd : BitVec 32) (s : ST) (tl : Bytes) (lo : BitVec 64) (tv : Value) : Prop where
 on : Live w0 w sb 16 (firstF sd) s 0 tl lo tv
 hc : w.heap[hb]? = some (.cells #[.pointer (some ⟨sb, 0, none⟩)] 217 (0, 0))
 ge : w0.heap.size ≤ hb
 ne : ¬ Foot sb tv hb
 tlen : tl.length < 16
def HFoot (hb sb : Nat) (tv : Value) (x : Nat) : Prop := x = hb ∨ Foot sb tv x
section
variable {w0 w w' : World} {hb sb : Nat} {sd : BitVec 32} {s : ST} {tl : Bytes} {lo : BitVec 64} {tv : Value}
theorem HLive.lt (h : HLive w0 w hb sb sd s tl lo tv) : ∀ x, HFoot hb sb tv x → x < w.heap.size := fun x hx => by
 rcases hx with rfl | hx
 · exact (Array.getElem?_eq_some_iff.1 h.hc).1
 · exact h.on.lt x hx
theorem HLive.fr (h : HLive w0 w hb sb sd s tl lo tv) : Fr No w0 w := h.on.fr
theorem HLive.keep {F : Nat → Prop} (h : HLive w0 w hb sb sd s tl lo tv) (k : Fr F w w') (hF : ∀ x, F x → ¬ HFoot hb sb tv x) (hA : ∀ x, F x → w0.heap.size ≤ x) : HLive w0 w' hb sb sd s tl lo tv :=
 ⟨h.on.keep k (fun x hx g => hF x hx (.inr g)) hA, k.heap (fun g => hF _ g (.inl rfl)) h.hc, h.ge, h.ne, h.tlen⟩
theorem HLive.no (h : HLive w0 w hb sb sd s tl lo tv) (k : Fr No w w') : HLive w0 w' hb sb sd s tl lo tv := h.keep k (fun _ g => g.elim) (fun _ g => g.elim)
theorem HLive.cell (h : HLive w0 w hb sb sd s tl lo tv) : w.cell? ⟨hb, 0, none⟩ = some (.pointer (some ⟨sb, 0, none⟩)) := by rw [cell_of_row w hb 0 _ _ _ h.hc]; rfl
end
theorem made_h {w0 w : World} {hb sb : Nat} {sd : BitVec 32} {s : ST} {tl : Bytes} {lo : BitVec 64} {tv : Value} (h : HLive w0 w hb sb sd s tl lo tv) : Calls Tryz.prog 144 #[.pointer (some ⟨hb, 0, none⟩)] w (Gives (.bool true) w) := by
 have cc := h.cell
 go_enter Tryz.func144, Tryz.ntmps144
 go_wp2
 go_ret
 exact ⟨rfl, rfl⟩
def GivesHash (w0 w : World) (sd : BitVec 32) (e : Ending) (w' : World) : Prop := ∃ hb sb, e = .returned (.pointer (some ⟨hb, 0, none⟩)) ∧ w.heap.size ≤ hb ∧ w.heap.size ≤ sb ∧ HLive w0 w' hb sb sd (firstF sd) [] 0#64 (.slice none 0 0) ∧ Fr No w w'
set_option maxHeartbeats 400000 in
theorem New_h (sd : BitVec 32) (w0 w : World) (hf : Fr No w0 w) : Calls Tryz.prog 87 #[.int .u32 (W32 sd)] w (GivesHash w0 w sd) := by
 go_enter Tryz.func87, Tryz.ntmps87
 go_wp2_with fail
 refine (both_any sd _).mono ?_
 rintro e w1 ⟨rfl, hW1⟩
 go_wp2_with fail
 refine (New_any 16 (firstF sd) 0 _ (by omega) (by omega)).mono ?_
 rintro e w2 ⟨sb, rfl, hge, hlt, hst, hfr⟩
 have hz : sizeOk 16 = ((16 : Nat) : Int) := rfl
 rw [hz] at hst
 have hW := hW1.no hfr
 have g0 := hf.size
 have g1 := hW1.size
 have g2 := hfr.size
 clear hz
 go_wp2_with fail
 go_ret
 have h3 : Fr No w2 (w2.alloc (.cells #[.pointer (some ⟨sb, 0, none⟩)] 217)) := (Fr.refl No w2).alloc _
 refine ⟨w2.heap.size, sb, rfl, by omega, by omega, ⟨⟨hst.fr h3 (fun h => h), Owns.nil _ _, by omega, (hf.no hW).no h3⟩, heap_alloc_new w2 _, by omega, ?_, by simp⟩, hW.no h3⟩
 rintro (g | g)
 · omega
 · simp [Value.ownBlock] at g
set_option maxHeartbeats 1000000 in
theorem Sum_h {w0 w : World} {hb sb : Nat} {sd : BitVec 32} {s : ST} {tl : Bytes} {lo : BitVec 64} {tv : Value} (h : HLive w0 w hb sb sd s tl lo tv) : Calls Tryz.prog 88 #[.pointer (some ⟨hb, 0, none⟩)] w (GivesNew (.agg #[.int .u64 (W64 ((endHi s tl lo))), .int .u64 (W64 ((endLo s tl lo)))]) w) := by
 have hf1 : Fr No w (w.alloc (.cells #[.int .u64 0, .int .u64 0] 30)) := (Fr.refl No w).alloc _
 have hT : Row2 (w.alloc (.cells #[.int .u64 0, .int .u64 0] 30)) w.heap.size 30 (.int .u64 0) (.int .u64 0) := row2_new w _ _ _
 have h1 := h.no hf1
 go_enter Tryz.func88, Tryz.ntmps88
 go_wp2_with (go_at_call 144; refine (made_h h1).mono ?_; rintro e w' ⟨rfl, rfl⟩)
 obtain ⟨pb, hpb⟩ : ∃ pb, pb = w.heap.size := ⟨_, rfl⟩
 have hpw : w.heap.size ≤ pb := by omega
 rw [← hpb] at hT ⊢
 clear hpb
 generalize w.alloc (.cells #[.int .u64 0, .int .u64 0] 30) = w1 at hf1 hT h1 ⊢
 have cc := h1.cell
 refine wp_region_seq (by kernel_rfl) (fun w' => Fr No w1 w') (fun i => decide (16 ≤ i)) [(0, 1), (1, 1), (2, 1), (3, 1), (5, 1), (6, 1), (7, 1), (8, 1), (10, 1), (11, 1), (12, 1), (13, 1), (4, 0), (9, 0), (14, 0), (15, 0), (16, 0)] (by kernel_rfl) (Fr.refl No w1).drew ?_
 have hv0 : Fr No w1 w1.drew := (Fr.refl No w1).drew
 iterate 12 refine tq _ rfl rfl (by intro w9 h9; have ccc := h9.cell (fun h => h) cc; clear h9; go_simp; try with_reducible rfl) ?_; simp only [es1, es2, es3]
 refine wpSeq_next rfl rfl (fun K hK => ?_)
 go_wp2_with fail
 refine (State_any (h1.no hv0).on.st).mono ?_
 rintro e xhv1 ⟨rfl, hx⟩
 have hv1 := hv0.no hx
 clear hx
 refine hK.out _ _ (fun _ => hv1) ?_
 clear hK K
 refine wpSeq_next rfl rfl (fun K hK => ?_)
 go_wp2_with fail
 refine (Tail_any (h1.no hv1).on.st (h1.no hv1).on.ow (by have := h.tlen; omega)).mono ?_
 rintro e xhv2 ⟨vt, rfl, ho, hx⟩
 have hv2 := hv1.no hx
 obtain ⟨at_, ct, rfl, hbt, _⟩ := ho.bytes
 clear hx
 refine hK.out _ _ (fun _ => hv2) ?_
 clear hK K
 refine wpSeq_next rfl rfl (fun K hK => ?_)
 go_wp2_with fail
 refine (Long_any (h1.no hv2).on.st).mono ?_
 rintro e w' ⟨rfl, rfl⟩
 refine hK.out _ _ (fun _ => hv2) ?_
 clear hK K
 refine wpSeq_next rfl rfl (fun K hK => ?_)
 go_wp2_with fail
 refine (end_any s _ _ _ tl lo _ hbt).mono ?_
 rintro e xhv3 ⟨rfl, hx⟩
 have hv3 := hv2.no hx
 clear hx
 refine hK.out _ _ (fun _ => hv3) ?_
 clear hK K
 have hTx := hT.no hv3
 have cx := hTx.c0
 have fx := hTx.fz 0
 have cy := hTx.c1
 have fy := hTx.fz 1
 refine wpSeq_next rfl rfl (fun K hK => ?_)
 go_wp2_with fail
 refine hK.out _ _ (fun h => by simp at h) ?_
 clear hK K
 refine wpSeq_done ?_
 obtain ⟨z1, hz1⟩ : ∃ z, z = endHi s tl lo := ⟨_, rfl⟩
 obtain ⟨z2, hz2⟩ : ∃ z, z = endLo s tl lo := ⟨_, rfl⟩
 rw [← hz1, ← hz2]
 have HZ1 := Lib.hid hz1
 have HZ2 := Lib.hid hz2
 clear hz1 hz2
 have hF8 := hf1.no hv3
 have hF9 := fr_put2 xhv3 pb (.int .u64 (W64 (z1))) (.int .u64 (W64 (z2)))
 have hR9 := row_put2 hTx (.int .u64 (W64 (z1))) (.int .u64 (W64 (z2)))
 clear hTx cx fx cy fy hT h1 hf1 hv0 hv1 hv2 hv3
 generalize (xhv3.setCell ⟨pb, 0, none⟩ (.int .u64 (W64 (z1)))).setCell ⟨pb, 1, none⟩ (.int .u64 (W64 (z2))) = w9 at hF9 hR9 ⊢
 have cd0 := hR9.c0
 have cd1 := hR9.c1
 go_wp2_with fail
 refine bodyPost_ret (v := .agg #[.int .u64 (W64 (z1)), .int .u64 (W64 (z2))]) (by simp [results, Tryz.results88, go_sem, cd0, cd1]) rfl ?_
 exact ⟨by rw [HZ1.out, HZ2.out], hF8.trans hF9 (fun x hx => .inr (by omega))⟩
def GivesHLanes (s : ST) (tl : Bytes) (lo : BitVec 64) (w : World) (e : Ending) (w' : World) : Prop := ∃ v, e = .returned (.tuple #[lanesV s, .int .u64 (W64 lo), v]) ∧ Owns w' w.heap.size v tl ∧ Fr No w w'
set_option maxHeartbeats 1000000 in
theorem Lanes_h {w0 w : World} {hb sb : Nat} {sd : BitVec 32} {s : ST} {tl : Bytes} {lo : BitVec 64} {tv : Value} (h : HLive w0 w hb sb sd s tl lo tv) : Calls Tryz.prog 286 #[.pointer (some ⟨hb, 0, none⟩)] w (GivesHLanes s tl lo w) := by
 have hlt := h.lt hb (.inl rfl)
 have hF1 : Fr No w (w.alloc (.cells #[.int .u64 0, .int .u64 0, .int .u64 0, .int .u64 0] 31)) := (Fr.refl No w).alloc _
 have h1 := h.no hF1
 have hR := row4_new w 31 (.int .u64 0) (.int .u64 0) (.int .u64 0) (.int .u64 0)
 go_enter Tryz.func286, Tryz.ntmps286
 go_wp2_with (go_at_call 144; refine (made_h h1).mono ?_; rintro e w' ⟨rfl, rfl⟩)
 obtain ⟨rb, hrb⟩ : ∃ rb, rb = w.heap.size := ⟨_, rfl⟩
 have hnb : ¬ hb = rb := by omega
 have hk := Lib.hid (fun (w' : World) (k : Fr (fun x => x = rb) (w.alloc (.cells #[.int .u64 0, .int .u64 0, .int .u64 0, .int .u64 0] 31)) w') => h1.keep k (fun x hx g => by have := h.lt x g; omega) (fun x hx => by have := h.on.fr.size; omega))
 rw [← hrb] at hR ⊢
 have hrg : w.heap.size ≤ rb := by omega
 clear hrb
 generalize w.alloc (.cells #[.int .u64 0, .int .u64 0, .int .u64 0, .int .u64 0] 31) = w1 at hF1 h1 hR hk ⊢
 have hrl := hR.lt
 have cc := h1.cell
 refine wp_region_seq (by kernel_rfl) (fun w' => Fr (fun x => x = rb) w1 w') (fun _ => false) [(0, 1), (1, 1), (2, 1), (3, 1), (6, 1), (7, 1), (8, 1), (9, 1), (11, 1), (12, 1), (13, 1), (14, 1), (4, 0), (5, 0), (10, 0), (15, 0), (16, 0), (17, 1), (18, 1)] (by kernel_rfl) (Fr.refl _ w1).drew ?_
 have hv0 : Fr No w1 w1.drew := (Fr.refl No w1).drew
 iterate 12 refine tq _ rfl rfl (by intro w9 h9; have ccc := h9.cell hnb cc; clear h9; go_simp; try with_reducible rfl) ?_; simp only [es1, es2, es3]
 refine wpSeq_next rfl rfl (fun K hK => ?_)
 go_wp2_with fail
 refine (State_any (hk.out _ (hv0.mono (fun _ _ f => f.elim))).on.st).mono ?_
 rintro e xhv1 ⟨rfl, hx⟩
 have hv1 := hv0.no hx
 clear hx
 refine hK.out _ _ (fun _ => (hv1.mono (fun _ _ f => f.elim))) ?_
 clear hK K
 refine wpSeq_next rfl rfl (fun K hK => ?_)
 go_wp2_with fail
 refine (four_any s _).mono ?_
 rintro e xhv2 ⟨rfl, hx⟩
 have hv2 := hv1.no hx
 clear hx
 unfold lanesV
 refine hK.out _ _ (fun _ => (hv2.mono (fun _ _ f => f.elim))) ?_
 clear hK K
 refine wpSeq_next rfl rfl (fun K hK => ?_)
 go_wp2_with fail
 refine (Long_any (hk.out _ (hv2.mono (fun _ _ f => f.elim))).on.st).mono ?_
 rintro e w' ⟨rfl, rfl⟩
 refine hK.out _ _ (fun _ => (hv2.mono (fun _ _ f => f.elim))) ?_
 clear hK K
 refine wpSeq_next rfl rfl (fun K hK => ?_)
 go_wp2_with fail
 refine (Tail_any (hk.out _ (hv2.mono (fun _ _ f => f.elim))).on.st (hk.out _ (hv2.mono (fun _ _ f => f.elim))).on.ow (by have := h.tlen; omega)).mono ?_
 rintro e xhv3 ⟨vt, rfl, ho, hx⟩
 have hsz := hv2.size
 have hv3 := hv2.no hx
 obtain ⟨at_, ct, rfl, _, _⟩ := ho.bytes
 clear hx
 refine hK.out _ _ (fun _ => (hv3.mono (fun _ _ f => f.elim))) ?_
 clear hK K
 have hRx := hR.no hv3
 have cr0 := hRx.c0
 have cr1 := hRx.c1
 have cr2 := hRx.c2
 have cr3 := hRx.c3
 have fr0 := hRx.fz 0
 have fr1 := hRx.fz 1
 have fr2 := hRx.fz 2
 have fr3 := hRx.fz 3
 refine wpSeq_next rfl rfl (fun K hK => ?_)
 go_wp2_with fail
 have hF3 := fr_put4 xhv3 rb (.int .u64 (W64 s.1)) (.int .u64 (W64 s.2)) (.int .u64 0) (.int .u64 0)
 have hR3 := row_put4 hRx (.int .u64 (W64 s.1)) (.int .u64 (W64 s.2)) (.int .u64 0) (.int .u64 0)
 have hs3 : Fr (fun x => x = rb) w1 _ := (hv3.mono (fun _ _ f => f.elim)).trans hF3 (fun _ h => .inl h)
 refine hK.out _ _ (fun _ => hs3) ?_
 clear hK K
 clear cr0 fr0 cr1 fr1 cr2 fr2 cr3 fr3
 generalize ((((xhv3.setCell ⟨rb, 0, none⟩ (.int .u64 (W64 s.1))).setCell ⟨rb, 1, none⟩ (.int .u64 (W64 s.2))).setCell ⟨rb, 2, none⟩ (.int .u64 0)).setCell ⟨rb, 3, none⟩ (.int .u64 0)) = w3 at hF3 hR3 hs3 ⊢
 iterate 2 refine tp _ rfl rfl ?_; simp only [es1, es2, es3]
 refine wpSeq_done ?_
 have cd0 := hR3.c0
 have cd1 := hR3.c1
 have cd2 := hR3.c2
 have cd3 := hR3.c3
 have g1 := hF1.size
 go_wp2_with fail
 refine bodyPost_ret (v := .tuple #[lanesV s, .int .u64 (W64 lo), .slice at_ tl.length ct]) (by simp [results, Tryz.results286, go_sem, cd0, cd1, cd2, cd3, lanesV]) rfl ?_
 exact ⟨_, rfl, (ho.fr hF3 (fun x hx e => by have := own_ge ho hx; omega)).mono (by omega), hF1.trans hs3 (fun x hx => .inr (by omega))⟩
theorem fits_lt {n : Nat} {lo : BitVec 64} {size : Nat} (h : fitsB n lo size = true) (hn : n ≤ 1099511627776) (h1 : 1 ≤ size) (h2 : size ≤ 64) : n < size := by
 unfold fitsB at h
 have := congrArg BitVec.toNat (beq_iff_eq.1 h)
 simp only [BitVec.toNat_umod, BitVec.toNat_ofNat] at this
 rw [Nat.mod_eq_of_lt (show n < 2 ^ 64 by omega), Nat.mod_eq_of_lt (show size < 2 ^ 64 by omega)] at this
 rw [this]
 exact Nat.mod_lt _ (by omega)
def RightP (x0 x1 x2 x3 : BitVec 64) : Prop := x2 = 0#64 ∧ x3 = 0#64
def stateF (x0 x1 x2 x3 : BitVec 64) : ST := (x0, x1)
def HSets (w0 : World) (hb sb : Nat) (sd : BitVec 32) (s2 : ST) (l : Bytes) (lo2 : BitVec 64) (w : World) (e : Ending) (w' : World) : Prop :=
 ∃ tv2, e = .returned (.bool true) ∧ HLive w0 w' hb sb sd s2 l lo2 tv2 ∧ Fr (fun x => x = sb) w w' ∧ ∀ x, tv2.ownBlock = some x → w.heap.size ≤ x
theorem lanesV_state (x0 x1 x2 x3 : BitVec 64) : lanesV (stateF x0 x1 x2 x3) = .agg #[.int .u64 (W64 (x0)), .int .u64 (W64 (x1)), .int .u64 (W64 (0#64)), .int .u64 (W64 (0#64))] := rfl
set_option maxHeartbeats 800000 in
theorem Set_right {w0 w : World} {hb sb : Nat} {sd : BitVec 32} {s : ST} {tl : Bytes} {lo : BitVec 64} {tv : Value} (h : HLive w0 w hb sb sd s tl lo tv) (x0 x1 x2 x3 : BitVec 64) (lv : Value) (hlv : lv = .agg #[.int .u64 (W64 x0), .int .u64 (W64 x1), .int .u64 (W64 x2), .int .u64 (W64 x3)]) (lo2 : BitVec 64) (a : Option Addr) (n c : Nat) (hw : RightP x0 x1 x2 x3) (hfit : fitsB n lo2 16 = true) (l : Bytes) (hy : IsBytes w a n c l) (hn : n ≤ 1099511627776) : Calls Tryz.prog 288 #[.pointer (some ⟨hb, 0, none⟩), lv, .int .u64 (W64 lo2), .slice a n c] w (HSets w0 hb sb sd (stateF x0 x1 x2 x3) l lo2 w) := by
 subst hlv
 have hF1 : Fr No w (w.alloc (.cells #[.int .u64 (W64 x0), .int .u64 (W64 x1), .int .u64 (W64 x2), .int .u64 (W64 x3)] 31)) := (Fr.refl No w).alloc _
 have hR1 := row4_new w 31 (.int .u64 (W64 x0)) (.int .u64 (W64 x1)) (.int .u64 (W64 x2)) (.int .u64 (W64 x3))
 have h1 := h.no hF1
 have cc := h1.cell
 obtain ⟨pb0, hpb0⟩ : ∃ pb0, pb0 = w.heap.size := ⟨_, rfl⟩
 have hHid := Lib.hid hpb0
 clear hpb0
 go_enter Tryz.func288, Tryz.ntmps288
 go_wp2_with fail
 have hpb0 := hHid.out
 clear hHid
 have g2 := hF1.size
 have hps : ¬ pb0 = sb := by have := h.lt sb (.inr (.inl rfl)); omega
 rw [← hpb0] at hR1 ⊢
 clear hpb0
 obtain ⟨pb, rfl⟩ : ∃ pb, pb = pb0 := ⟨_, rfl⟩
 generalize w.alloc (.cells #[.int .u64 (W64 x0), .int .u64 (W64 x1), .int .u64 (W64 x2), .int .u64 (W64 x3)] 31) = w1 at hF1 hR1 h1 cc g2 ⊢
 have hq : (0#64 == x2 && 0#64 == x3) = true := by
  obtain ⟨e2, e3⟩ := hw
  rw [e2, e3]
  rfl
 refine rsq (by kernel_rfl) [(0, 1), (1, 0), (2, 1), (3, 1), (4, 1), (7, 1), (5, 0), (6, 0), (8, 1), (9, 1)] (by kernel_rfl) ?_
 have hv0 : Fr No w1 w1.drew := (Fr.refl No w1).drew
 refine tp _ rfl rfl ?_; simp only [es1, es2, es3]
 refine wpSeq_next rfl rfl (fun K hK => ?_)
 go_wp2_with fail
 refine (made_h (h1.no hv0)).mono ?_
 rintro e w' ⟨rfl, rfl⟩
 refine hK.out _ _ (fun _ => hv0) ?_
 clear hK K
 iterate 4 refine tq _ rfl rfl (by intro w9 h9; have q0 := (hR1.no h9).c0; have q1 := (hR1.no h9).c1; have q2 := (hR1.no h9).c2; have q3 := (hR1.no h9).c3; have ch := (h1.no h9).cell; clear h9; go_simp; try with_reducible rfl) ?_; simp only [es1, es2, es3]
 refine wpSeq_next rfl rfl (fun K hK => ?_)
 go_wp2_with fail
 refine (two_any x0 x1 x2 x3 _).mono ?_
 rintro e xhv1 ⟨rfl, hx⟩
 have hv1 := hv0.no hx
 clear hx
 refine hK.out _ _ (fun _ => hv1) ?_
 clear hK K
 refine wpSeq_next rfl rfl (fun K hK => ?_)
 go_wp2_with fail
 refine (four_any (stateF x0 x1 x2 x3) _).mono ?_
 rintro e xhv2 ⟨rfl, hx⟩
 have hv2 := hv1.no hx
 clear hx
 rw [lanesV_state]
 refine hK.out _ _ (fun _ => hv2) ?_
 clear hK K
 iterate 2 refine tp _ rfl rfl ?_; simp only [es1, es2, es3]
 refine wpSeq_done ?_
 go_wp2_with fail
 have h2 := h1.no hv2
 have hR2 := hR1.no hv2
 have hF2 := hF1.no hv2
 generalize xhv2 = w2 at h2 hR2 hF2 ⊢
 clear hR1 hv0 cc hv1 hv2
 have hb2 := hy.no hF2
 have cc := h2.cell
 have hnb : ¬ hb = sb := fun e => h2.ne (.inl e)
 refine wp_region_seq (by kernel_rfl) (fun w' => Fr (fun x => x = sb) w2 w') (fun _ => false) [(0, 1), (1, 1), (2, 1), (3, 1), (4, 1), (6, 1), (7, 1), (5, 0), (8, 0), (9, 1)] (by kernel_rfl) (Fr.refl _ w2).drew ?_
 have hv0 : Fr No w2 w2.drew := (Fr.refl No w2).drew
 iterate 7 refine tq _ rfl rfl (by intro w9 h9; have q0 := (hR2.fr h9 hps).c0; have q1 := (hR2.fr h9 hps).c1; have q2 := (hR2.fr h9 hps).c2; have q3 := (hR2.fr h9 hps).c3; have ch := h9.cell hnb cc; clear h9; go_simp; try with_reducible rfl) ?_; simp only [es1, es2, es3]
 refine wpSeq_next rfl rfl (fun K hK => ?_)
 go_wp2_with fail
 refine (two_any x0 x1 x2 x3 _).mono ?_
 rintro e xhv1 ⟨rfl, hx⟩
 have hv1 := hv0.no hx
 clear hx
 refine hK.out _ _ (fun _ => (hv1.mono (fun _ _ f => f.elim))) ?_
 clear hK K
 refine wpSeq_next rfl rfl (fun K hK => ?_)
 go_wp2_with fail
 refine (Set_yes (h2.no hv1).on.st (by omega) (by omega) (stateF x0 x1 x2 x3) lo2 _ n c l (hb2.no hv1) hn hfit).mono ?_
 rintro e w4 ⟨tv2, rfl, hst, hown, hfr⟩
 have hy4 : Fr (fun x => x = sb) w2 w4 := (hv1.mono (fun _ _ f => f.elim)).trans hfr (fun _ h => .inl h)
 refine hK.out _ _ (fun _ => hy4) ?_
 clear hK K
 refine tp _ rfl rfl ?_; simp only [es1, es2, es3]
 refine wpSeq_done ?_
 have h3 := h2.no hv1
 have hF3 := hF2.no hv1
 have hne : hb ≠ sb := fun e => h.ne (.inl e)
 have hlt := h3.lt hb (.inl rfl)
 have g1 := h3.on.fr.size
 have g3 := hF3.size
 have hH : HLive w0 w4 hb sb sd (stateF x0 x1 x2 x3) l lo2 tv2 :=
  ⟨⟨hst, hown.mono (by omega), h.on.ge, h3.on.fr.trans hfr (fun x hx => .inr (by have := h.on.ge; omega))⟩, hfr.heap hne h3.hc, h.ge, (fun g => by rcases g with g | g; exact hne g; have := own_ge hown g; omega), by rw [hy.1]; exact fits_lt hfit hn (by omega) (by omega)⟩
 go_wp2_with fail
 go_ret
 exact ⟨tv2, rfl, hH, (hF3.mono (fun x _ f => f.elim)).trans hfr (fun x h => .inl h), fun x hx => by have := own_ge hown hx; omega⟩
end Go.Proofs.YtidlpihoafnobaaGreatDoor.StM64
