/- murmur64's mixers, mixed, step, spread, end, both, two, four. -/
import Derived.Test.YtdemhnkkohnfladLiveM64
import Derived.Test.YtdemhnkkohnfladM64Plain
import Derived.Test.YtdemhnkkohnfladLoad
import Derived.Test.YtdemhnkkohnfladSeq
import Derived.Test.YtdemhnkkohnfladPut
import Derived.Test.YtdemhnkkohnfladRow4
import Derived.Test.YtdemhnkkohnfladRow2
import Derived.Test.YtdemhnkkohnfladWords2
import Derived.Test.YtdemhnkkohnfladMix64
namespace Go.Proofs.Ytdemhnkkohnflad.StM64
set_option linter.unusedVariables false
set_option linter.unusedSimpArgs false
open Go.RowKit

theorem cS0 (s : ST) : cS s 0 = .int .u64 (W64 s.1) := rfl
theorem cS1 (s : ST) : cS s 1 = .int .u64 (W64 s.2) := rfl
/-- The lanes of a state, as a value. -/
def lanesV (s : ST) : Value := .agg #[.int .u64 (W64 s.1), .int .u64 (W64 s.2), .int .u64 0, .int .u64 0]

theorem ofA_any (k : BitVec 64) (w : World) : Calls Try.prog 54 #[.agg #[.int .u64 9782798678568883157, .int .i64 31, .int .u64 5545529020109919103], .int .u64 (W64 k)] w (GivesNew (.int .u64 (W64 (wordA k))) w) := by
  have hF1 : Fr No w (w.alloc (.cells #[.int .u64 9782798678568883157, .int .i64 31, .int .u64 5545529020109919103] 79)) := (Fr.refl No w).alloc _
  have hH : (w.alloc (.cells #[.int .u64 9782798678568883157, .int .i64 31, .int .u64 5545529020109919103] 79)).heap[w.heap.size]? = some (.cells #[.int .u64 9782798678568883157, .int .i64 31, .int .u64 5545529020109919103] 79 (0, 0)) := heap_alloc_new w _
  have cq0 : (w.alloc (.cells #[.int .u64 9782798678568883157, .int .i64 31, .int .u64 5545529020109919103] 79)).cell? ⟨w.heap.size, 0, none⟩ = some (.int .u64 9782798678568883157) := by rw [cell_of_row _ _ 0 _ _ _ hH]; rfl
  have cq1 : (w.alloc (.cells #[.int .u64 9782798678568883157, .int .i64 31, .int .u64 5545529020109919103] 79)).cell? ⟨w.heap.size, 1, none⟩ = some (.int .i64 31) := by rw [cell_of_row _ _ 1 _ _ _ hH]; rfl
  have cq2 : (w.alloc (.cells #[.int .u64 9782798678568883157, .int .i64 31, .int .u64 5545529020109919103] 79)).cell? ⟨w.heap.size, 2, none⟩ = some (.int .u64 5545529020109919103) := by rw [cell_of_row _ _ 2 _ _ _ hH]; rfl
  clear hH
  go_enter Try.func54, Try.ntmps54
  go_wp2_with fail
  generalize w.heap.size = pb at cq0 cq1 cq2 ⊢
  generalize w.alloc (.cells #[.int .u64 9782798678568883157, .int .i64 31, .int .u64 5545529020109919103] 79) = w1 at hF1 cq0 cq1 cq2 ⊢
  refine wp_region_seq (by kernel_rfl) (fun w' => Fr No w1 w') (fun _ => false) [(0, 1), (1, 1), (2, 1), (3, 1), (4, 1), (5, 1), (7, 1), (8, 1), (6, 0), (9, 1), (10, 1)] (by kernel_rfl) (Fr.refl No w1).drew ?_
  have hv0 : Fr No w1 w1.drew := (Fr.refl No w1).drew
  refine wpSeq_take (v := ?_) 5 rfl rfl (fun _ _ _ h => h) (Or.inl ⟨rfl, ?_⟩) ?_
  rotate_left 1
  · (intro w9 h9; go_simp; try with_reducible rfl)
  simp only [List.setIfInBounds_toArray, List.set_cons_zero, List.set_cons_succ]
  refine wpSeq_take (v := ?_) 6 rfl rfl (fun _ _ _ h => h) (Or.inl ⟨rfl, ?_⟩) ?_
  rotate_left 1
  · (intro w9 h9; go_simp; try with_reducible rfl)
  simp only [List.setIfInBounds_toArray, List.set_cons_zero, List.set_cons_succ]
  refine wpSeq_take (v := ?_) 7 rfl rfl (fun _ _ _ h => h) (Or.inl ⟨rfl, ?_⟩) ?_
  rotate_left 1
  · (intro w9 h9; have q0 := h9.cell (fun h => h) cq0; have q1 := h9.cell (fun h => h) cq1; have q2 := h9.cell (fun h => h) cq2; clear h9; go_simp; try with_reducible rfl)
  simp only [List.setIfInBounds_toArray, List.set_cons_zero, List.set_cons_succ]
  refine wpSeq_take (v := ?_) 8 rfl rfl (fun _ _ _ h => h) (Or.inl ⟨rfl, ?_⟩) ?_
  rotate_left 1
  · (intro w9 h9; go_simp; try with_reducible rfl)
  simp only [List.setIfInBounds_toArray, List.set_cons_zero, List.set_cons_succ]
  refine wpSeq_take (v := ?_) 9 rfl rfl (fun _ _ _ h => h) (Or.inl ⟨rfl, ?_⟩) ?_
  rotate_left 1
  · (intro w9 h9; go_simp; try with_reducible rfl)
  simp only [List.setIfInBounds_toArray, List.set_cons_zero, List.set_cons_succ]
  refine wpSeq_take (v := ?_) 10 rfl rfl (fun _ _ _ h => h) (Or.inl ⟨rfl, ?_⟩) ?_
  rotate_left 1
  · (intro w9 h9; have q0 := h9.cell (fun h => h) cq0; have q1 := h9.cell (fun h => h) cq1; have q2 := h9.cell (fun h => h) cq2; clear h9; go_simp; try with_reducible rfl)
  simp only [List.setIfInBounds_toArray, List.set_cons_zero, List.set_cons_succ]
  refine wpSeq_take (v := ?_) 12 rfl rfl (fun _ _ _ h => h) (Or.inl ⟨rfl, ?_⟩) ?_
  rotate_left 1
  · (intro w9 h9; go_simp; try with_reducible rfl)
  simp only [List.setIfInBounds_toArray, List.set_cons_zero, List.set_cons_succ]
  refine wpSeq_take (v := ?_) 13 rfl rfl (fun _ _ _ h => h) (Or.inl ⟨rfl, ?_⟩) ?_
  rotate_left 1
  · (intro w9 h9; have q0 := h9.cell (fun h => h) cq0; have q1 := h9.cell (fun h => h) cq1; have q2 := h9.cell (fun h => h) cq2; clear h9; go_simp; try with_reducible rfl)
  simp only [List.setIfInBounds_toArray, List.set_cons_zero, List.set_cons_succ]
  refine wpSeq_next rfl rfl (fun K hK => ?_)
  go_wp2_with fail
  refine (Rot64_any _ 31 _).mono ?_
  rintro e w' ⟨rfl, rfl⟩
  refine hK.out _ _ (fun _ => hv0) ?_
  clear hK K
  refine wpSeq_take (v := ?_) 14 rfl rfl (fun _ _ _ h => h) (Or.inl ⟨rfl, ?_⟩) ?_
  rotate_left 1
  · (intro w9 h9; go_simp; try with_reducible rfl)
  simp only [List.setIfInBounds_toArray, List.set_cons_zero, List.set_cons_succ]
  refine wpSeq_take (v := ?_) 4 rfl rfl (fun _ _ _ h => h) (Or.inl ⟨rfl, ?_⟩) ?_
  rotate_left 1
  · (intro w9 h9; go_simp; try with_reducible rfl)
  simp only [List.setIfInBounds_toArray, List.set_cons_zero, List.set_cons_succ]
  refine wpSeq_done ?_
  go_wp2_with fail
  rw [wordA_def]
  go_ret
  exact ⟨rfl, hF1.no hv0⟩

theorem ofB_any (k : BitVec 64) (w : World) : Calls Try.prog 54 #[.agg #[.int .u64 5545529020109919103, .int .i64 33, .int .u64 9782798678568883157], .int .u64 (W64 k)] w (GivesNew (.int .u64 (W64 (wordB k))) w) := by
  have hF1 : Fr No w (w.alloc (.cells #[.int .u64 5545529020109919103, .int .i64 33, .int .u64 9782798678568883157] 79)) := (Fr.refl No w).alloc _
  have hH : (w.alloc (.cells #[.int .u64 5545529020109919103, .int .i64 33, .int .u64 9782798678568883157] 79)).heap[w.heap.size]? = some (.cells #[.int .u64 5545529020109919103, .int .i64 33, .int .u64 9782798678568883157] 79 (0, 0)) := heap_alloc_new w _
  have cq0 : (w.alloc (.cells #[.int .u64 5545529020109919103, .int .i64 33, .int .u64 9782798678568883157] 79)).cell? ⟨w.heap.size, 0, none⟩ = some (.int .u64 5545529020109919103) := by rw [cell_of_row _ _ 0 _ _ _ hH]; rfl
  have cq1 : (w.alloc (.cells #[.int .u64 5545529020109919103, .int .i64 33, .int .u64 9782798678568883157] 79)).cell? ⟨w.heap.size, 1, none⟩ = some (.int .i64 33) := by rw [cell_of_row _ _ 1 _ _ _ hH]; rfl
  have cq2 : (w.alloc (.cells #[.int .u64 5545529020109919103, .int .i64 33, .int .u64 9782798678568883157] 79)).cell? ⟨w.heap.size, 2, none⟩ = some (.int .u64 9782798678568883157) := by rw [cell_of_row _ _ 2 _ _ _ hH]; rfl
  clear hH
  go_enter Try.func54, Try.ntmps54
  go_wp2_with fail
  generalize w.heap.size = pb at cq0 cq1 cq2 ⊢
  generalize w.alloc (.cells #[.int .u64 5545529020109919103, .int .i64 33, .int .u64 9782798678568883157] 79) = w1 at hF1 cq0 cq1 cq2 ⊢
  refine wp_region_seq (by kernel_rfl) (fun w' => Fr No w1 w') (fun _ => false) [(0, 1), (1, 1), (2, 1), (3, 1), (4, 1), (5, 1), (7, 1), (8, 1), (6, 0), (9, 1), (10, 1)] (by kernel_rfl) (Fr.refl No w1).drew ?_
  have hv0 : Fr No w1 w1.drew := (Fr.refl No w1).drew
  refine wpSeq_take (v := ?_) 5 rfl rfl (fun _ _ _ h => h) (Or.inl ⟨rfl, ?_⟩) ?_
  rotate_left 1
  · (intro w9 h9; go_simp; try with_reducible rfl)
  simp only [List.setIfInBounds_toArray, List.set_cons_zero, List.set_cons_succ]
  refine wpSeq_take (v := ?_) 6 rfl rfl (fun _ _ _ h => h) (Or.inl ⟨rfl, ?_⟩) ?_
  rotate_left 1
  · (intro w9 h9; go_simp; try with_reducible rfl)
  simp only [List.setIfInBounds_toArray, List.set_cons_zero, List.set_cons_succ]
  refine wpSeq_take (v := ?_) 7 rfl rfl (fun _ _ _ h => h) (Or.inl ⟨rfl, ?_⟩) ?_
  rotate_left 1
  · (intro w9 h9; have q0 := h9.cell (fun h => h) cq0; have q1 := h9.cell (fun h => h) cq1; have q2 := h9.cell (fun h => h) cq2; clear h9; go_simp; try with_reducible rfl)
  simp only [List.setIfInBounds_toArray, List.set_cons_zero, List.set_cons_succ]
  refine wpSeq_take (v := ?_) 8 rfl rfl (fun _ _ _ h => h) (Or.inl ⟨rfl, ?_⟩) ?_
  rotate_left 1
  · (intro w9 h9; go_simp; try with_reducible rfl)
  simp only [List.setIfInBounds_toArray, List.set_cons_zero, List.set_cons_succ]
  refine wpSeq_take (v := ?_) 9 rfl rfl (fun _ _ _ h => h) (Or.inl ⟨rfl, ?_⟩) ?_
  rotate_left 1
  · (intro w9 h9; go_simp; try with_reducible rfl)
  simp only [List.setIfInBounds_toArray, List.set_cons_zero, List.set_cons_succ]
  refine wpSeq_take (v := ?_) 10 rfl rfl (fun _ _ _ h => h) (Or.inl ⟨rfl, ?_⟩) ?_
  rotate_left 1
  · (intro w9 h9; have q0 := h9.cell (fun h => h) cq0; have q1 := h9.cell (fun h => h) cq1; have q2 := h9.cell (fun h => h) cq2; clear h9; go_simp; try with_reducible rfl)
  simp only [List.setIfInBounds_toArray, List.set_cons_zero, List.set_cons_succ]
  refine wpSeq_take (v := ?_) 12 rfl rfl (fun _ _ _ h => h) (Or.inl ⟨rfl, ?_⟩) ?_
  rotate_left 1
  · (intro w9 h9; go_simp; try with_reducible rfl)
  simp only [List.setIfInBounds_toArray, List.set_cons_zero, List.set_cons_succ]
  refine wpSeq_take (v := ?_) 13 rfl rfl (fun _ _ _ h => h) (Or.inl ⟨rfl, ?_⟩) ?_
  rotate_left 1
  · (intro w9 h9; have q0 := h9.cell (fun h => h) cq0; have q1 := h9.cell (fun h => h) cq1; have q2 := h9.cell (fun h => h) cq2; clear h9; go_simp; try with_reducible rfl)
  simp only [List.setIfInBounds_toArray, List.set_cons_zero, List.set_cons_succ]
  refine wpSeq_next rfl rfl (fun K hK => ?_)
  go_wp2_with fail
  refine (Rot64_any _ 33 _).mono ?_
  rintro e w' ⟨rfl, rfl⟩
  refine hK.out _ _ (fun _ => hv0) ?_
  clear hK K
  refine wpSeq_take (v := ?_) 14 rfl rfl (fun _ _ _ h => h) (Or.inl ⟨rfl, ?_⟩) ?_
  rotate_left 1
  · (intro w9 h9; go_simp; try with_reducible rfl)
  simp only [List.setIfInBounds_toArray, List.set_cons_zero, List.set_cons_succ]
  refine wpSeq_take (v := ?_) 4 rfl rfl (fun _ _ _ h => h) (Or.inl ⟨rfl, ?_⟩) ?_
  rotate_left 1
  · (intro w9 h9; go_simp; try with_reducible rfl)
  simp only [List.setIfInBounds_toArray, List.set_cons_zero, List.set_cons_succ]
  refine wpSeq_done ?_
  go_wp2_with fail
  rw [wordB_def]
  go_ret
  exact ⟨rfl, hF1.no hv0⟩

theorem mixA_def (s : ST) (l : Bytes) : s.1 ^^^ wordA (num8 l 0) = mixA s l := rfl
theorem mixB_def (s : ST) (l : Bytes) : s.2 ^^^ wordB (num8 l 8) = mixB s l := rfl
set_option maxHeartbeats 1000000 in
theorem mixed_long (s : ST) (a : Option Addr) (n c : Nat) (l : Bytes) (w : World) (hb : IsBytes w a n c l) (h8 : 8 < n) :
    Calls Try.prog 46 #[.agg #[.int .u64 (W64 (s.1)), .int .u64 (W64 (s.2))], .slice a n c] w (GivesNew (.agg #[.int .u64 (W64 (mixA s l)), .int .u64 (W64 (mixB s l))]) w) := by
  have hF1 : Fr No w ((w.alloc (.cells #[.int .u64 (W64 (s.1)), .int .u64 (W64 (s.2))] 51)).alloc (.cells #[.int .u64 0, .int .u64 0] 51)) := ((Fr.refl No w).alloc _).alloc _
  have hR : Row2 ((w.alloc (.cells #[.int .u64 (W64 (s.1)), .int .u64 (W64 (s.2))] 51)).alloc (.cells #[.int .u64 0, .int .u64 0] 51)) w.heap.size 51 (.int .u64 (W64 (s.1))) (.int .u64 (W64 (s.2))) := (row2_new w 51 _ _).no ((Fr.refl No _).alloc _)
  have hT : Row2 ((w.alloc (.cells #[.int .u64 (W64 (s.1)), .int .u64 (W64 (s.2))] 51)).alloc (.cells #[.int .u64 0, .int .u64 0] 51)) (w.heap.size + 1) 51 (.int .u64 0) (.int .u64 0) := heap_alloc2_new w _ _
  have hb1 := hb.no hF1
  go_enter Try.func46, Try.ntmps46
  go_wp2_with fail
  obtain ⟨pb, hpb⟩ : ∃ pb, pb = w.heap.size := ⟨_, rfl⟩
  have hpw : w.heap.size ≤ pb := by omega
  rw [← hpb] at hR hT ⊢
  clear hpb
  generalize (w.alloc (.cells #[.int .u64 (W64 (s.1)), .int .u64 (W64 (s.2))] 51)).alloc (.cells #[.int .u64 0, .int .u64 0] 51) = w1 at hF1 hR hT hb1 ⊢
  refine wp_region_seq (by kernel_rfl) (fun w' => Fr No w1 w') (fun i => decide (8 ≤ i)) [(0, 1), (1, 1), (2, 1), (3, 1), (4, 0), (5, 0), (6, 1), (7, 1), (8, 0)] (by kernel_rfl) (Fr.refl No w1).drew ?_
  have hv0 : Fr No w1 w1.drew := (Fr.refl No w1).drew
  refine wpSeq_take (v := ?_) 11 rfl rfl (fun _ _ _ h => h) (Or.inl ⟨rfl, ?_⟩) ?_
  rotate_left 1
  · (intro w9 h9; go_simp; try with_reducible rfl)
  simp only [List.setIfInBounds_toArray, List.set_cons_zero, List.set_cons_succ]
  refine wpSeq_take (v := ?_) 12 rfl rfl (fun _ _ _ h => h) (Or.inl ⟨rfl, ?_⟩) ?_
  rotate_left 1
  · (intro w9 h9; have q0 := (hR.no h9).c0; have q1 := (hR.no h9).c1; clear h9; go_simp; try with_reducible rfl)
  simp only [List.setIfInBounds_toArray, List.set_cons_zero, List.set_cons_succ]
  refine wpSeq_take (v := ?_) 13 rfl rfl (fun _ _ _ h => h) (Or.inl ⟨rfl, ?_⟩) ?_
  rotate_left 1
  · (intro w9 h9; go_simp; try with_reducible rfl)
  simp only [List.setIfInBounds_toArray, List.set_cons_zero, List.set_cons_succ]
  refine wpSeq_take (v := ?_) 14 rfl rfl (fun _ _ _ h => h) (Or.inl ⟨rfl, ?_⟩) ?_
  rotate_left 1
  · (intro w9 h9; go_simp; try with_reducible rfl)
  simp only [List.setIfInBounds_toArray, List.set_cons_zero, List.set_cons_succ]
  refine wpSeq_next rfl rfl (fun K hK => ?_)
  go_wp2_with fail
  refine (Go.Proofs.Ytdemhnkkohnflad.Tail_any _ _ _ l _ (hb1.no hv0)).mono ?_
  rintro e w' ⟨rfl, rfl⟩
  rw [num8_zero]
  refine hK.out _ _ (fun _ => hv0) ?_
  clear hK K
  refine wpSeq_next rfl rfl (fun K hK => ?_)
  go_wp2_with fail
  refine (ofA_any _ _).mono ?_
  rintro e xhv1 ⟨rfl, hx⟩
  have hv1 := hv0.no hx
  clear hx
  refine hK.out _ _ (fun _ => hv1) ?_
  clear hK K
  refine wpSeq_take (v := ?_) 17 rfl rfl (fun _ _ _ h => h) (Or.inl ⟨rfl, ?_⟩) ?_
  rotate_left 1
  · (intro w9 h9; go_simp; try with_reducible rfl)
  simp only [List.setIfInBounds_toArray, List.set_cons_zero, List.set_cons_succ]
  refine wpSeq_take (v := ?_) 18 rfl rfl (fun _ _ _ h => h) (Or.inl ⟨rfl, ?_⟩) ?_
  rotate_left 1
  · (intro w9 h9; go_simp; try with_reducible rfl)
  simp only [List.setIfInBounds_toArray, List.set_cons_zero, List.set_cons_succ]
  have hRx := hR.no hv1
  have cx := hRx.c0
  have fx := hRx.fz 0
  refine wpSeq_next rfl rfl (fun K hK => ?_)
  go_wp2_with fail
  refine hK.out _ _ (fun h => by simp at h) ?_
  clear hK K
  refine wpSeq_done ?_
  have hRb : Row2 xhv1 pb 51 (.int .u64 (W64 (s.1))) (.int .u64 (W64 (s.2))) := hRx
  have hT1 := hT.no hv1
  have hF2 := hF1.no hv1
  have hb2 := hb1.no hv1
  clear hRx cx fx hR hT hF1 hb1 hv0 hv1
  generalize xhv1 = w2 at hRb hT1 hF2 hb2 ⊢
  have hRc := hRb.put0 (.int .u64 (W64 (mixA s l)))
  have hfc := fr_put1 w2 pb 0 (.int .u64 (W64 (mixA s l)))
  rw [mixA_def]
  have hF3 := hF2.trans hfc (fun x hx => .inr (by omega))
  have hb3 := hb.no hF3
  have hT2 := hT1.fr hfc (by omega)
  generalize w2.setCell ⟨pb, 0, none⟩ (.int .u64 (W64 (mixA s l))) = w3 at hRc hfc hF3 hb3 hT2 ⊢
  clear hRb hT1 hF2 hb2 hfc
  have i1 : (8 : Int) < (n : Int) := by omega
  have i3 : (8 : Int) ≤ (n : Int) := by omega
  have i2 : (8 : Int) ≤ (c : Int) := by have := hb3.2.1; omega
  have hc2 : c ≤ 9223372036854775807 := hb3.2.2.1
  have hnc : n ≤ c := hb3.2.1
  have hc1 := hb3.cut_to_end 8 (n' := n - 8) (c' := c - 8) (by omega) rfl rfl
  go_wp2_with fail
  refine wp_region_seq (by kernel_rfl) (fun w' => Fr No w3 w') (fun i => decide (9 ≤ i)) [(0, 1), (1, 1), (2, 1), (3, 1), (4, 1), (5, 0), (6, 0), (7, 1), (8, 1), (9, 0)] (by kernel_rfl) (Fr.refl No w3).drew ?_
  have hv0 : Fr No w3 w3.drew := (Fr.refl No w3).drew
  refine wpSeq_take (v := ?_) 22 rfl rfl (fun _ _ _ h => h) (Or.inl ⟨rfl, ?_⟩) ?_
  rotate_left 1
  · (intro w9 h9; go_simp; try with_reducible rfl)
  simp only [List.setIfInBounds_toArray, List.set_cons_zero, List.set_cons_succ]
  refine wpSeq_take (v := ?_) 23 rfl rfl (fun _ _ _ h => h) (Or.inl ⟨rfl, ?_⟩) ?_
  rotate_left 1
  · (intro w9 h9; have q0 := (hRc.no h9).c0; have q1 := (hRc.no h9).c1; clear h9; go_simp; try with_reducible rfl)
  simp only [List.setIfInBounds_toArray, List.set_cons_zero, List.set_cons_succ]
  refine wpSeq_take (v := ?_) 24 rfl rfl (fun _ _ _ h => h) (Or.inl ⟨rfl, ?_⟩) ?_
  rotate_left 1
  · (intro w9 h9; go_simp; try with_reducible rfl)
  simp only [List.setIfInBounds_toArray, List.set_cons_zero, List.set_cons_succ]
  refine wpSeq_take (v := ?_) 25 rfl rfl (fun _ _ _ h => h) (Or.inl ⟨rfl, ?_⟩) ?_
  rotate_left 1
  · (intro w9 h9; go_simp; try with_reducible rfl)
  simp only [List.setIfInBounds_toArray, List.set_cons_zero, List.set_cons_succ]
  refine wpSeq_take (v := ?_) 26 rfl rfl (fun _ _ _ h => h) (Or.inl ⟨rfl, ?_⟩) ?_
  rotate_left 1
  · (intro w9 h9; go_simp; try with_reducible rfl)
  simp only [List.setIfInBounds_toArray, List.set_cons_zero, List.set_cons_succ]
  refine wpSeq_next rfl rfl (fun K hK => ?_)
  go_wp2_with fail
  refine (Go.Proofs.Ytdemhnkkohnflad.Tail_any _ _ _ (l.drop 8) _ (hc1.no hv0)).mono ?_
  rintro e w' ⟨rfl, rfl⟩
  rw [num8_def]
  refine hK.out _ _ (fun _ => hv0) ?_
  clear hK K
  refine wpSeq_next rfl rfl (fun K hK => ?_)
  go_wp2_with fail
  refine (ofB_any _ _).mono ?_
  rintro e xhv1 ⟨rfl, hx⟩
  have hv1 := hv0.no hx
  clear hx
  refine hK.out _ _ (fun _ => hv1) ?_
  clear hK K
  refine wpSeq_take (v := ?_) 29 rfl rfl (fun _ _ _ h => h) (Or.inl ⟨rfl, ?_⟩) ?_
  rotate_left 1
  · (intro w9 h9; go_simp; try with_reducible rfl)
  simp only [List.setIfInBounds_toArray, List.set_cons_zero, List.set_cons_succ]
  refine wpSeq_take (v := ?_) 30 rfl rfl (fun _ _ _ h => h) (Or.inl ⟨rfl, ?_⟩) ?_
  rotate_left 1
  · (intro w9 h9; go_simp; try with_reducible rfl)
  simp only [List.setIfInBounds_toArray, List.set_cons_zero, List.set_cons_succ]
  have hRx := hRc.no hv1
  have cx := hRx.c1
  have fx := hRx.fz 1
  refine wpSeq_next rfl rfl (fun K hK => ?_)
  go_wp2_with fail
  refine hK.out _ _ (fun h => by simp at h) ?_
  clear hK K
  refine wpSeq_done ?_
  have hRd : Row2 xhv1 pb 51 (.int .u64 (W64 (mixA s l))) (.int .u64 (W64 (s.2))) := hRx
  have hT3 := hT2.no hv1
  have hF4 := hF3.no hv1
  clear hRx cx fx hRc hT2 hF3 hb3 hc1 hv0 hv1
  generalize xhv1 = w4 at hRd hT3 hF4 ⊢
  rw [mixB_def]
  have hRe := hRd.put1 (.int .u64 (W64 (mixB s l)))
  have hfe := fr_put1 w4 pb 1 (.int .u64 (W64 (mixB s l)))
  have hF5 := hF4.trans hfe (fun x hx => .inr (by omega))
  have hT4 := hT3.fr hfe (by omega)
  generalize w4.setCell ⟨pb, 1, none⟩ (.int .u64 (W64 (mixB s l))) = w5 at hRe hfe hF5 hT4 ⊢
  clear hRd hT3 hF4 hfe
  have cq0 := hRe.c0
  have cq1 := hRe.c1
  have cr0 := hT4.c0
  have cr1 := hT4.c1
  have fr0 := hT4.fz 0
  have fr1 := hT4.fz 1
  go_wp2_with fail
  have hF9 := fr_put2 w5 (pb + 1) (.int .u64 (W64 (mixA s l))) (.int .u64 (W64 (mixB s l)))
  have hR9 := row_put2 hT4 (.int .u64 (W64 (mixA s l))) (.int .u64 (W64 (mixB s l)))
  clear cr0 cr1 fr0 fr1 cq0 cq1
  generalize (w5.setCell ⟨pb + 1, 0, none⟩ (.int .u64 (W64 (mixA s l)))).setCell ⟨pb + 1, 1, none⟩ (.int .u64 (W64 (mixB s l))) = w9 at hF9 hR9 ⊢
  have cd0 := hR9.c0
  have cd1 := hR9.c1
  refine bodyPost_ret (v := .agg #[.int .u64 (W64 (mixA s l)), .int .u64 (W64 (mixB s l))]) (by simp [results, Try.results46, go_sem, cd0, cd1]) rfl ?_
  exact ⟨rfl, hF5.trans hF9 (fun x hx => .inr (by omega))⟩
set_option maxHeartbeats 1000000 in
theorem mixed_short (s : ST) (a : Option Addr) (n c : Nat) (l : Bytes) (w : World) (hb : IsBytes w a n c l) (h8 : ¬ 8 < n) :
    Calls Try.prog 46 #[.agg #[.int .u64 (W64 (s.1)), .int .u64 (W64 (s.2))], .slice a n c] w (GivesNew (.agg #[.int .u64 (W64 (mixA s l)), .int .u64 (W64 (mixB s l))]) w) := by
  rw [mixB_short (by have := hb.1; omega)]
  have hF1 : Fr No w ((w.alloc (.cells #[.int .u64 (W64 (s.1)), .int .u64 (W64 (s.2))] 51)).alloc (.cells #[.int .u64 0, .int .u64 0] 51)) := ((Fr.refl No w).alloc _).alloc _
  have hR : Row2 ((w.alloc (.cells #[.int .u64 (W64 (s.1)), .int .u64 (W64 (s.2))] 51)).alloc (.cells #[.int .u64 0, .int .u64 0] 51)) w.heap.size 51 (.int .u64 (W64 (s.1))) (.int .u64 (W64 (s.2))) := (row2_new w 51 _ _).no ((Fr.refl No _).alloc _)
  have hT : Row2 ((w.alloc (.cells #[.int .u64 (W64 (s.1)), .int .u64 (W64 (s.2))] 51)).alloc (.cells #[.int .u64 0, .int .u64 0] 51)) (w.heap.size + 1) 51 (.int .u64 0) (.int .u64 0) := heap_alloc2_new w _ _
  have hb1 := hb.no hF1
  go_enter Try.func46, Try.ntmps46
  go_wp2_with fail
  obtain ⟨pb, hpb⟩ : ∃ pb, pb = w.heap.size := ⟨_, rfl⟩
  have hpw : w.heap.size ≤ pb := by omega
  rw [← hpb] at hR hT ⊢
  clear hpb
  generalize (w.alloc (.cells #[.int .u64 (W64 (s.1)), .int .u64 (W64 (s.2))] 51)).alloc (.cells #[.int .u64 0, .int .u64 0] 51) = w1 at hF1 hR hT hb1 ⊢
  refine wp_region_seq (by kernel_rfl) (fun w' => Fr No w1 w') (fun i => decide (8 ≤ i)) [(0, 1), (1, 1), (2, 1), (3, 1), (4, 0), (5, 0), (6, 1), (7, 1), (8, 0)] (by kernel_rfl) (Fr.refl No w1).drew ?_
  have hv0 : Fr No w1 w1.drew := (Fr.refl No w1).drew
  refine wpSeq_take (v := ?_) 11 rfl rfl (fun _ _ _ h => h) (Or.inl ⟨rfl, ?_⟩) ?_
  rotate_left 1
  · (intro w9 h9; go_simp; try with_reducible rfl)
  simp only [List.setIfInBounds_toArray, List.set_cons_zero, List.set_cons_succ]
  refine wpSeq_take (v := ?_) 12 rfl rfl (fun _ _ _ h => h) (Or.inl ⟨rfl, ?_⟩) ?_
  rotate_left 1
  · (intro w9 h9; have q0 := (hR.no h9).c0; have q1 := (hR.no h9).c1; clear h9; go_simp; try with_reducible rfl)
  simp only [List.setIfInBounds_toArray, List.set_cons_zero, List.set_cons_succ]
  refine wpSeq_take (v := ?_) 13 rfl rfl (fun _ _ _ h => h) (Or.inl ⟨rfl, ?_⟩) ?_
  rotate_left 1
  · (intro w9 h9; go_simp; try with_reducible rfl)
  simp only [List.setIfInBounds_toArray, List.set_cons_zero, List.set_cons_succ]
  refine wpSeq_take (v := ?_) 14 rfl rfl (fun _ _ _ h => h) (Or.inl ⟨rfl, ?_⟩) ?_
  rotate_left 1
  · (intro w9 h9; go_simp; try with_reducible rfl)
  simp only [List.setIfInBounds_toArray, List.set_cons_zero, List.set_cons_succ]
  refine wpSeq_next rfl rfl (fun K hK => ?_)
  go_wp2_with fail
  refine (Go.Proofs.Ytdemhnkkohnflad.Tail_any _ _ _ l _ (hb1.no hv0)).mono ?_
  rintro e w' ⟨rfl, rfl⟩
  rw [num8_zero]
  refine hK.out _ _ (fun _ => hv0) ?_
  clear hK K
  refine wpSeq_next rfl rfl (fun K hK => ?_)
  go_wp2_with fail
  refine (ofA_any _ _).mono ?_
  rintro e xhv1 ⟨rfl, hx⟩
  have hv1 := hv0.no hx
  clear hx
  refine hK.out _ _ (fun _ => hv1) ?_
  clear hK K
  refine wpSeq_take (v := ?_) 17 rfl rfl (fun _ _ _ h => h) (Or.inl ⟨rfl, ?_⟩) ?_
  rotate_left 1
  · (intro w9 h9; go_simp; try with_reducible rfl)
  simp only [List.setIfInBounds_toArray, List.set_cons_zero, List.set_cons_succ]
  refine wpSeq_take (v := ?_) 18 rfl rfl (fun _ _ _ h => h) (Or.inl ⟨rfl, ?_⟩) ?_
  rotate_left 1
  · (intro w9 h9; go_simp; try with_reducible rfl)
  simp only [List.setIfInBounds_toArray, List.set_cons_zero, List.set_cons_succ]
  have hRx := hR.no hv1
  have cx := hRx.c0
  have fx := hRx.fz 0
  refine wpSeq_next rfl rfl (fun K hK => ?_)
  go_wp2_with fail
  refine hK.out _ _ (fun h => by simp at h) ?_
  clear hK K
  refine wpSeq_done ?_
  have hRb : Row2 xhv1 pb 51 (.int .u64 (W64 (s.1))) (.int .u64 (W64 (s.2))) := hRx
  have hT1 := hT.no hv1
  have hF2 := hF1.no hv1
  have hb2 := hb1.no hv1
  clear hRx cx fx hR hT hF1 hb1 hv0 hv1
  generalize xhv1 = w2 at hRb hT1 hF2 hb2 ⊢
  have hRc := hRb.put0 (.int .u64 (W64 (mixA s l)))
  have hfc := fr_put1 w2 pb 0 (.int .u64 (W64 (mixA s l)))
  rw [mixA_def]
  have hF3 := hF2.trans hfc (fun x hx => .inr (by omega))
  have hb3 := hb.no hF3
  have hT2 := hT1.fr hfc (by omega)
  generalize w2.setCell ⟨pb, 0, none⟩ (.int .u64 (W64 (mixA s l))) = w3 at hRc hfc hF3 hb3 hT2 ⊢
  clear hRb hT1 hF2 hb2 hfc
  have i1 : (n : Int) ≤ 8 := by omega
  have cq0 := hRc.c0
  have cq1 := hRc.c1
  have cr0 := hT2.c0
  have cr1 := hT2.c1
  have fr0 := hT2.fz 0
  have fr1 := hT2.fz 1
  go_wp2_with fail
  have hF9 := fr_put2 w3 (pb + 1) (.int .u64 (W64 (mixA s l))) (.int .u64 (W64 (s.2)))
  have hR9 := row_put2 hT2 (.int .u64 (W64 (mixA s l))) (.int .u64 (W64 (s.2)))
  clear cr0 cr1 fr0 fr1 cq0 cq1
  generalize (w3.setCell ⟨pb + 1, 0, none⟩ (.int .u64 (W64 (mixA s l)))).setCell ⟨pb + 1, 1, none⟩ (.int .u64 (W64 (s.2))) = w9 at hF9 hR9 ⊢
  have cd0 := hR9.c0
  have cd1 := hR9.c1
  refine bodyPost_ret (v := .agg #[.int .u64 (W64 (mixA s l)), .int .u64 (W64 (s.2))]) (by simp [results, Try.results46, go_sem, cd0, cd1]) rfl ?_
  exact ⟨rfl, hF3.trans hF9 (fun x hx => .inr (by omega))⟩
theorem mixed_any (s : ST) (a : Option Addr) (n c : Nat) (l : Bytes) (w : World) (hb : IsBytes w a n c l) :
    Calls Try.prog 46 #[.agg #[.int .u64 (W64 (s.1)), .int .u64 (W64 (s.2))], .slice a n c] w (GivesNew (.agg #[.int .u64 (W64 (mixA s l)), .int .u64 (W64 (mixB s l))]) w) := by
  by_cases h8 : 8 < n
  · exact mixed_long s a n c l w hb h8
  · exact mixed_short s a n c l w hb h8
end Go.Proofs.Ytdemhnkkohnflad.StM64
