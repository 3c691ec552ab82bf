/- The reference of murmur64. -/
import Derived.Test.YtdemhnkkohnfladEndM64
namespace Go.Proofs.Ytdemhnkkohnflad.StM64
set_option linter.unusedVariables false
set_option linter.unusedSimpArgs false
open Go.RowKit
theorem steps_any : Hid (Steps (fun _ => True) stepG 16 0) := Lib.hid (fun w s a n c l _ hb hl => step_any s a n c l w hb)

theorem ref_one (k : BitVec 64) (w : World) : Calls Try.prog 39 #[.int .u64 (W64 k)] w (Gives (.int .u64 (W64 (wordA k))) w) := by
  go_enter Try.func39, Try.ntmps39
  go_wp2_with fail
  refine (refRot64_any _ 31 _ (by omega) (by omega)).mono ?_
  rintro e w' ⟨rfl, rfl⟩
  go_wp2_with fail
  rw [wordA_def]
  go_ret
  exact ⟨rfl, rfl⟩

theorem ref_two (k : BitVec 64) (w : World) : Calls Try.prog 41 #[.int .u64 (W64 k)] w (Gives (.int .u64 (W64 (wordB k))) w) := by
  go_enter Try.func41, Try.ntmps41
  go_wp2_with fail
  refine (refRot64_any _ 33 _ (by omega) (by omega)).mono ?_
  rintro e w' ⟨rfl, rfl⟩
  go_wp2_with fail
  rw [wordB_def]
  go_ret
  exact ⟨rfl, rfl⟩

/-- It returns lanes, and a part of the bytes that are there. -/
def GivesLanes (a : Option Addr) (n c : Nat) (l : Bytes) (r : ST × Bytes) (w : World) (e : Ending) (w' : World) : Prop :=
  ∃ a' n' c', e = .returned (.tuple #[lanesV r.1, .slice a' n' c']) ∧ IsBytes w' a' n' c' r.2 ∧ (∀ w2, IsBytes w2 a n c l → IsBytes w2 a' n' c' r.2) ∧ Fr No w w'
set_option maxHeartbeats 2000000 in
theorem refFrom_any (s : ST) (v2 v3 : Value) (a : Option Addr) (n c : Nat) (l : Bytes) (w : World) (h : IsBytes w a n c l) (hn : n ≤ 1099511627776) :
    Calls Try.prog 35 #[.agg #[.int .u64 (W64 (s.1)), .int .u64 (W64 (s.2)), v2, v3], .slice a n c] w (GivesLanes a n c l (foldF stepG 16 s l) w) := by
  obtain ⟨r, hr⟩ : ∃ r, r = foldF stepG 16 s l := ⟨_, rfl⟩
  rw [← hr]
  have HR := Lib.hid hr
  clear hr
  have hF : Fr No w ((w.alloc (.cells #[.int .u64 (W64 (s.1)), .int .u64 (W64 (s.2)), v2, v3] 38)).alloc (.cells #[.int .u64 0, .int .u64 0, .int .u64 0, .int .u64 0] 38)) := ((Fr.refl No w).alloc _).alloc _
  go_enter Try.func35, Try.ntmps35
  go_wp2
  go_loop [1, 6, 7] (fun v u x => ∃ m a' c' l' s', v = .slice a' m c' ∧ u = .int .u64 (W64 s'.1) ∧ x = .int .u64 (W64 s'.2) ∧ IsBytes w a' m c' l' ∧ (∀ w2, IsBytes w2 a n c l → IsBytes w2 a' m c' l') ∧ Hid (foldF stepG 16 s' l' = r)) (fun v _ _ => match v with | .slice _ m _ => m | _ => 0)
  case atStart => exact ⟨n, a, c, l, s, rfl, rfl, rfl, h, fun _ h => h, HR.out.symm⟩
  case round =>
    obtain ⟨m, a', c', l', s', rfl, rfl, rfl, hb, hst, hr'⟩ := hrel
    have hlen := Lib.hid hb.1
    have hc : m ≤ c' := hb.2.1
    have hc2 : c' ≤ 9223372036854775807 := hb.2.2.1
    by_cases hlt : 16 ≤ m
    · have i1 : (16 : Int) ≤ (m : Int) := by omega
      have i2 : (16 : Int) ≤ (c' : Int) := by omega
      have hy := hb.no hF
      have hcut := hb.cut_to_end 16 (n' := m - 16) (c' := c' - 16) hlt rfl rfl
      go_wp2_with fail
      refine (refNum_any _ _ _ l' 0 8 _ hy (by omega) (by omega) (by omega) (by omega)).mono ?_
      rintro e w' ⟨rfl, rfl⟩
      go_wp2_with fail
      refine (ref_one _ _).mono ?_
      rintro e w' ⟨rfl, rfl⟩
      rw [num8_zero]
      go_wp2_with fail
      rw [mixA_def]
      refine (refRot64_any _ 27 _ (by omega) (by omega)).mono ?_
      rintro e w' ⟨rfl, rfl⟩
      go_wp2_with fail
      refine (refNum_any _ _ _ l' 8 8 _ hy (by omega) (by omega) (by omega) (by omega)).mono ?_
      rintro e w' ⟨rfl, rfl⟩
      clear hy
      go_wp2_with fail
      refine (ref_two _ _).mono ?_
      rintro e w' ⟨rfl, rfl⟩
      rw [num8_def]
      go_wp2_with fail
      rw [mixB_def]
      refine (refRot64_any _ 31 _ (by omega) (by omega)).mono ?_
      rintro e w' ⟨rfl, rfl⟩
      go_wp2_with fail
      refine ⟨⟨m - 16, _, _, _, stepG s' l', rfl, rfl, rfl, hcut, fun w2 h2 => (hst w2 h2).cut_to_end 16 hlt rfl rfl, ?_⟩, by simp; omega⟩
      show _ = _
      rw [← hr'.out, foldF_step (s := s') (l := l') (by omega) (by rw [hlen.out]; exact hlt), stepG_take]
    · have i1 : (m : Int) < 16 := by omega
      have HS := Lib.hid (foldF_short (F := stepG) (size := 16) (s := s') (l := l') (by rw [hlen.out]; omega))
      have hR := heap_alloc2_new w (.cells #[.int .u64 (W64 (s.1)), .int .u64 (W64 (s.2)), v2, v3] 38) (.cells #[.int .u64 (W64 (s'.1)), .int .u64 (W64 (s'.2)), .int .u64 0, .int .u64 0] 38)
      have hF2 : Fr No w ((w.alloc (.cells #[.int .u64 (W64 (s.1)), .int .u64 (W64 (s.2)), v2, v3] 38)).alloc (.cells #[.int .u64 (W64 (s'.1)), .int .u64 (W64 (s'.2)), .int .u64 0, .int .u64 0] 38)) := ((Fr.refl No w).alloc _).alloc _
      go_wp2_with fail
      generalize ((w.alloc (.cells #[.int .u64 (W64 (s.1)), .int .u64 (W64 (s.2)), v2, v3] 38)).alloc (.cells #[.int .u64 (W64 (s'.1)), .int .u64 (W64 (s'.2)), .int .u64 0, .int .u64 0] 38)) = w3 at hR hF2 ⊢
      have cd0 : w3.cell? ⟨w.heap.size + 1, 0, none⟩ = some (.int .u64 (W64 (s'.1))) := by rw [cell_of_row w3 _ 0 _ _ _ hR]; rfl
      have cd1 : w3.cell? ⟨w.heap.size + 1, 1, none⟩ = some (.int .u64 (W64 (s'.2))) := by rw [cell_of_row w3 _ 1 _ _ _ hR]; rfl
      have cd2 : w3.cell? ⟨w.heap.size + 1, 2, none⟩ = some (.int .u64 0) := by rw [cell_of_row w3 _ 2 _ _ _ hR]; rfl
      have cd3 : w3.cell? ⟨w.heap.size + 1, 3, none⟩ = some (.int .u64 0) := by rw [cell_of_row w3 _ 3 _ _ _ hR]; rfl
      refine bodyPost_ret (v := .tuple #[lanesV s', .slice a' m c']) (by simp [results, Try.results35, go_sem, cd0, cd1, cd2, cd3, lanesV]) rfl ?_
      refine ⟨a', m, c', by rw [← hr'.out, HS.out], ?_, ?_, hF2⟩
      · rw [← hr'.out, HS.out]; exact hb.no hF2
      · rw [← hr'.out, HS.out]; exact hst

set_option maxHeartbeats 1000000 in
theorem refBlocks_any (sd : BitVec 32) (a : Option Addr) (n c : Nat) (l : Bytes) (w : World) (h : IsBytes w a n c l) (hn : n ≤ 1099511627776) :
    Calls Try.prog 16 #[.int .u32 (W32 sd), .slice a n c] w (GivesLanes a n c l (foldF stepG 16 (firstF sd) l) w) := by
  have hF1 := (Fr.refl No w).alloc (.cells #[.int .u64 0, .int .u64 0, .int .u64 0, .int .u64 0] 38)
  have hA := row4_new w 38 (.int .u64 0) (.int .u64 0) (.int .u64 0) (.int .u64 0)
  generalize hr : foldF stepG 16 (firstF sd) l = r
  have HR := Lib.hid hr
  clear hr
  have h1 := h.no hF1
  go_enter Try.func16, Try.ntmps16
  go_wp2_with fail
  refine (refFrom_any (firstF sd) _ _ _ _ _ l _ h1 hn).mono ?_
  rintro e w2 ⟨a', n', c', rfl, hb, hst, hf⟩
  rw [HR.out] at hb hst ⊢
  have hR := hA.no hf
  have hF := hF1.no hf
  clear hf h1 hA hF1
  have cr0 := hR.c0
  have cr1 := hR.c1
  have cr2 := hR.c2
  have cr3 := hR.c3
  have fr0 := hR.fz 0
  have fr1 := hR.fz 1
  have fr2 := hR.fz 2
  have fr3 := hR.fz 3
  unfold lanesV
  go_wp2_with fail
  have hF3 := fr_put4 w2 (w.heap.size) (.int .u64 (W64 (r.1.1))) (.int .u64 (W64 (r.1.2))) (.int .u64 0) (.int .u64 0)
  have hR3 := row_put4 hR (.int .u64 (W64 (r.1.1))) (.int .u64 (W64 (r.1.2))) (.int .u64 0) (.int .u64 0)
  clear cr0 cr1 cr2 cr3 fr0 fr1 fr2 fr3
  generalize (((w2.setCell ⟨w.heap.size, 0, none⟩ (.int .u64 (W64 (r.1.1)))).setCell ⟨w.heap.size, 1, none⟩ (.int .u64 (W64 (r.1.2)))).setCell ⟨w.heap.size, 2, none⟩ (.int .u64 0)).setCell ⟨w.heap.size, 3, none⟩ (.int .u64 0) = w3 at hF3 hR3 ⊢
  have cd0 := hR3.c0
  have cd1 := hR3.c1
  have cd2 := hR3.c2
  have cd3 := hR3.c3
  have hFe : Fr No w w3 := hF.trans hF3 (fun x hx => .inr (by omega))
  refine bodyPost_ret (v := .tuple #[lanesV r.1, .slice a' n' c']) (by simp [results, Try.results16, go_sem, cd0, cd1, cd2, cd3, lanesV]) rfl ?_
  exact ⟨a', n', c', rfl, (hst _ (h.no hFe)), hst, hFe⟩

set_option maxHeartbeats 2000000 in
theorem refEnd_any (sv : Value) (s : ST) (v2 v3 : Value) (a : Option Addr) (n c : Nat) (l : Bytes) (lo : BitVec 64) (w : World) (hb : IsBytes w a n c l) :
    Calls Try.prog 22 #[sv, .agg #[.int .u64 (W64 (s.1)), .int .u64 (W64 (s.2)), v2, v3], .slice a n c, .int .u64 (W64 lo)] w (GivesNew (.agg #[.int .u64 (W64 (endHi s l lo)), .int .u64 (W64 (endLo s l lo))]) w) := by
  unfold endHi endLo
  have hF1 : Fr No w ((w.alloc (.cells #[.int .u64 (W64 (s.1)), .int .u64 (W64 (s.2)), v2, v3] 38)).alloc (.cells #[.int .u64 0, .int .u64 0] 27)) := ((Fr.refl No w).alloc _).alloc _
  have hR : Row4 ((w.alloc (.cells #[.int .u64 (W64 (s.1)), .int .u64 (W64 (s.2)), v2, v3] 38)).alloc (.cells #[.int .u64 0, .int .u64 0] 27)) w.heap.size 38 (.int .u64 (W64 (s.1))) (.int .u64 (W64 (s.2))) v2 v3 := (row4_new w 38 _ _ _ _).no ((Fr.refl No _).alloc _)
  have hT : Row2 ((w.alloc (.cells #[.int .u64 (W64 (s.1)), .int .u64 (W64 (s.2)), v2, v3] 38)).alloc (.cells #[.int .u64 0, .int .u64 0] 27)) (w.heap.size + 1) 27 (.int .u64 0) (.int .u64 0) := heap_alloc2_new w _ _
  have hb1 := hb.no hF1
  go_enter Try.func22, Try.ntmps22
  go_wp2_with fail
  obtain ⟨pb, hpb⟩ : ∃ pb, pb = w.heap.size := ⟨_, rfl⟩
  have hpw : w.heap.size ≤ pb := by omega
  rw [← hpb] at hR hT ⊢
  clear hpb
  generalize ((w.alloc (.cells #[.int .u64 (W64 (s.1)), .int .u64 (W64 (s.2)), v2, v3] 38)).alloc (.cells #[.int .u64 0, .int .u64 0] 27)) = w1 at hF1 hR hT hb1 ⊢
  refine wp_region_seq (by kernel_rfl) (fun w' => Fr No w1 w') (fun _ => false) [(0, 1), (1, 1), (2, 1), (6, 1), (3, 0), (4, 0), (5, 1), (7, 1), (8, 1)] (by kernel_rfl) (Fr.refl No w1).drew ?_
  have hv0 : Fr No w1 w1.drew := (Fr.refl No w1).drew
  refine wpSeq_take (v := ?_) 11 rfl rfl (fun _ _ _ h => h) (Or.inl ⟨rfl, ?_⟩) ?_
  rotate_left 1
  · (intro w9 h9; go_simp; try with_reducible rfl)
  simp only [List.setIfInBounds_toArray, List.set_cons_zero, List.set_cons_succ]
  refine wpSeq_take (v := ?_) 12 rfl rfl (fun _ _ _ h => h) (Or.inl ⟨rfl, ?_⟩) ?_
  rotate_left 1
  · (intro w9 h9; have q0 := (hR.no h9).c0; have q1 := (hR.no h9).c1; clear h9; go_simp; try with_reducible rfl)
  simp only [List.setIfInBounds_toArray, List.set_cons_zero, List.set_cons_succ]
  refine wpSeq_take (v := ?_) 13 rfl rfl (fun _ _ _ h => h) (Or.inl ⟨rfl, ?_⟩) ?_
  rotate_left 1
  · (intro w9 h9; go_simp; try with_reducible rfl)
  simp only [List.setIfInBounds_toArray, List.set_cons_zero, List.set_cons_succ]
  refine wpSeq_take (v := ?_) 17 rfl rfl (fun _ _ _ h => h) (Or.inl ⟨rfl, ?_⟩) ?_
  rotate_left 1
  · (intro w9 h9; go_simp; try with_reducible rfl)
  simp only [List.setIfInBounds_toArray, List.set_cons_zero, List.set_cons_succ]
  refine wpSeq_next rfl rfl (fun K hK => ?_)
  go_wp2_with fail
  refine (refNum_any _ _ _ l 0 8 _ (hb1.no hv0) (by omega) (by omega) (by omega) (by omega)).mono ?_
  rintro e w' ⟨rfl, rfl⟩
  refine hK.out _ _ (fun _ => hv0) ?_
  clear hK K
  refine wpSeq_next rfl rfl (fun K hK => ?_)
  go_wp2_with fail
  refine (ref_one _ _).mono ?_
  rintro e w' ⟨rfl, rfl⟩
  rw [num8_zero]
  refine hK.out _ _ (fun _ => hv0) ?_
  clear hK K
  refine wpSeq_take (v := ?_) 16 rfl rfl (fun _ _ _ h => h) (Or.inl ⟨rfl, ?_⟩) ?_
  rotate_left 1
  · (intro w9 h9; go_simp; try with_reducible rfl)
  simp only [List.setIfInBounds_toArray, List.set_cons_zero, List.set_cons_succ]
  refine wpSeq_take (v := ?_) 18 rfl rfl (fun _ _ _ h => h) (Or.inl ⟨rfl, ?_⟩) ?_
  rotate_left 1
  · (intro w9 h9; go_simp; try with_reducible rfl)
  simp only [List.setIfInBounds_toArray, List.set_cons_zero, List.set_cons_succ]
  refine wpSeq_take (v := ?_) 9 rfl rfl (fun _ _ _ h => h) (Or.inl ⟨rfl, ?_⟩) ?_
  rotate_left 1
  · (intro w9 h9; go_simp; try with_reducible rfl)
  simp only [List.setIfInBounds_toArray, List.set_cons_zero, List.set_cons_succ]
  refine wpSeq_done ?_
  rw [mixA_def]
  have hR2 := hR.no hv0
  have hT2 := hT.no hv0
  have hF2 := hF1.no hv0
  clear hR hT hF1 hb1 hv0
  have hR := hR2
  have hb1 := hb.no hF2
  clear hR2
  generalize w1.drew = w2 at hR hT2 hF2 hb1 ⊢
  go_wp2_with fail
  refine wp_region_seq (by kernel_rfl) (fun w' => Fr No w2 w') (fun _ => false) [(0, 1), (1, 1), (2, 1), (6, 1), (3, 0), (4, 0), (5, 1), (7, 1), (8, 1)] (by kernel_rfl) (Fr.refl No w2).drew ?_
  have hv0 : Fr No w2 w2.drew := (Fr.refl No w2).drew
  refine wpSeq_take (v := ?_) 19 rfl rfl (fun _ _ _ h => h) (Or.inl ⟨rfl, ?_⟩) ?_
  rotate_left 1
  · (intro w9 h9; go_simp; try with_reducible rfl)
  simp only [List.setIfInBounds_toArray, List.set_cons_zero, List.set_cons_succ]
  refine wpSeq_take (v := ?_) 20 rfl rfl (fun _ _ _ h => h) (Or.inl ⟨rfl, ?_⟩) ?_
  rotate_left 1
  · (intro w9 h9; have q0 := (hR.no h9).c0; have q1 := (hR.no h9).c1; clear h9; go_simp; try with_reducible rfl)
  simp only [List.setIfInBounds_toArray, List.set_cons_zero, List.set_cons_succ]
  refine wpSeq_take (v := ?_) 21 rfl rfl (fun _ _ _ h => h) (Or.inl ⟨rfl, ?_⟩) ?_
  rotate_left 1
  · (intro w9 h9; go_simp; try with_reducible rfl)
  simp only [List.setIfInBounds_toArray, List.set_cons_zero, List.set_cons_succ]
  refine wpSeq_take (v := ?_) 25 rfl rfl (fun _ _ _ h => h) (Or.inl ⟨rfl, ?_⟩) ?_
  rotate_left 1
  · (intro w9 h9; go_simp; try with_reducible rfl)
  simp only [List.setIfInBounds_toArray, List.set_cons_zero, List.set_cons_succ]
  refine wpSeq_next rfl rfl (fun K hK => ?_)
  go_wp2_with fail
  refine (refNum_any _ _ _ l 8 8 _ (hb1.no hv0) (by omega) (by omega) (by omega) (by omega)).mono ?_
  rintro e w' ⟨rfl, rfl⟩
  refine hK.out _ _ (fun _ => hv0) ?_
  clear hK K
  refine wpSeq_next rfl rfl (fun K hK => ?_)
  go_wp2_with fail
  refine (ref_two _ _).mono ?_
  rintro e w' ⟨rfl, rfl⟩
  rw [num8_def]
  refine hK.out _ _ (fun _ => hv0) ?_
  clear hK K
  refine wpSeq_take (v := ?_) 24 rfl rfl (fun _ _ _ h => h) (Or.inl ⟨rfl, ?_⟩) ?_
  rotate_left 1
  · (intro w9 h9; go_simp; try with_reducible rfl)
  simp only [List.setIfInBounds_toArray, List.set_cons_zero, List.set_cons_succ]
  refine wpSeq_take (v := ?_) 26 rfl rfl (fun _ _ _ h => h) (Or.inl ⟨rfl, ?_⟩) ?_
  rotate_left 1
  · (intro w9 h9; go_simp; try with_reducible rfl)
  simp only [List.setIfInBounds_toArray, List.set_cons_zero, List.set_cons_succ]
  refine wpSeq_take (v := ?_) 10 rfl rfl (fun _ _ _ h => h) (Or.inl ⟨rfl, ?_⟩) ?_
  rotate_left 1
  · (intro w9 h9; go_simp; try with_reducible rfl)
  simp only [List.setIfInBounds_toArray, List.set_cons_zero, List.set_cons_succ]
  refine wpSeq_done ?_
  rw [mixB_def]
  have hT3 := hT2.no hv0
  have hF3 := hF2.no hv0
  clear hR hT2 hF2 hb1 hv0
  generalize w2.drew = w3 at hT3 hF3 ⊢
  go_wp2_with fail
  refine (refFmix64_any _ _).mono ?_
  rintro e w' ⟨rfl, rfl⟩
  go_wp2_with fail
  refine (refFmix64_any _ _).mono ?_
  rintro e w' ⟨rfl, rfl⟩
  have cr0 := hT3.c0
  have cr1 := hT3.c1
  have fr0 := hT3.fz 0
  have fr1 := hT3.fz 1
  go_wp2_with fail
  rw [lastF_1, lastF_2]
  have hF9 := fr_put2 w3 (pb + 1) (.int .u64 (W64 (lastHi (mixA s l ^^^ lo) (mixB s l ^^^ lo)))) (.int .u64 (W64 (lastLo (mixA s l ^^^ lo) (mixB s l ^^^ lo))))
  have hR9 := row_put2 hT3 (.int .u64 (W64 (lastHi (mixA s l ^^^ lo) (mixB s l ^^^ lo)))) (.int .u64 (W64 (lastLo (mixA s l ^^^ lo) (mixB s l ^^^ lo))))
  clear cr0 cr1 fr0 fr1
  generalize (w3.setCell ⟨pb + 1, 0, none⟩ (.int .u64 (W64 (lastHi (mixA s l ^^^ lo) (mixB s l ^^^ lo))))).setCell ⟨pb + 1, 1, none⟩ (.int .u64 (W64 (lastLo (mixA s l ^^^ lo) (mixB s l ^^^ lo)))) = w9 at hF9 hR9 ⊢
  have cd0 := hR9.c0
  have cd1 := hR9.c1
  refine bodyPost_ret (v := .agg #[.int .u64 (W64 (lastHi (mixA s l ^^^ lo) (mixB s l ^^^ lo))), .int .u64 (W64 (lastLo (mixA s l ^^^ lo) (mixB s l ^^^ lo)))]) (by simp [results, Try.results22, go_sem, cd0, cd1]) rfl ?_
  exact ⟨rfl, hF3.trans hF9 (fun x hx => .inr (by omega))⟩

set_option maxHeartbeats 1000000 in
theorem refOne_any (sd : BitVec 32) (a : Option Addr) (n c : Nat) (l : Bytes) (w : World) (h : IsBytes w a n c l) (hn : n ≤ 1099511627776) :
    Calls Try.prog 9 #[.int .u32 (W32 sd), .slice a n c] w (GivesNew (.agg #[.int .u64 (W64 (oneHi sd l)), .int .u64 (W64 (oneLo sd l))]) w) := by
  have hlen := Lib.hid h.1
  unfold oneHi oneLo
  rw [hlen.out]
  generalize hr : foldF stepG 16 (firstF sd) l = r
  have HR := Lib.hid hr
  clear hr
  have hF0 : Fr No w (w.alloc (.cells #[.int .u64 0, .int .u64 0] 27)) := (Fr.refl No w).alloc _
  have hT : Row2 (w.alloc (.cells #[.int .u64 0, .int .u64 0] 27)) w.heap.size 27 (.int .u64 0) (.int .u64 0) := row2_new w _ _ _
  have h1 := h.no hF0
  go_enter Try.func9, Try.ntmps9
  go_wp2_with fail
  refine (refBlocks_any sd _ _ _ l _ h1 hn).mono ?_
  rw [HR.out]
  rintro e w2 ⟨a', n', c', rfl, hb, hst, hf⟩
  have hF2 := (hF0.no hf).alloc (.cells #[.int .u64 (W64 (r.1.1)), .int .u64 (W64 (r.1.2)), .int .u64 0, .int .u64 0] 38)
  have hT2 := (hT.no hf).no ((Fr.refl No _).alloc (.cells #[.int .u64 (W64 (r.1.1)), .int .u64 (W64 (r.1.2)), .int .u64 0, .int .u64 0] 38))
  have hb2 := hst _ (h.no hF2)
  unfold lanesV
  go_wp2_with fail
  refine (refEnd_any _ r.1 _ _ _ _ _ r.2 _ _ hb2).mono ?_
  rintro e w3 ⟨rfl, hf3⟩
  have hT3 := hT2.no hf3
  have hF3 := hF2.no hf3
  obtain ⟨z1, hz1⟩ : ∃ z, z = endHi r.1 r.2 (BitVec.ofNat 64 n) := ⟨_, rfl⟩
  obtain ⟨z2, hz2⟩ : ∃ z, z = endLo r.1 r.2 (BitVec.ofNat 64 n) := ⟨_, rfl⟩
  rw [← hz1, ← hz2]
  have HZ1 := Lib.hid hz1
  have HZ2 := Lib.hid hz2
  clear hz1 hz2
  have cr0 := hT3.c0
  have cr1 := hT3.c1
  have fr0 := hT3.fz 0
  have fr1 := hT3.fz 1
  go_wp2_with fail
  have hF9 := fr_put2 w3 (w.heap.size) (.int .u64 (W64 (z1))) (.int .u64 (W64 (z2)))
  have hR9 := row_put2 hT3 (.int .u64 (W64 (z1))) (.int .u64 (W64 (z2)))
  clear cr0 cr1 fr0 fr1
  generalize (w3.setCell ⟨w.heap.size, 0, none⟩ (.int .u64 (W64 (z1)))).setCell ⟨w.heap.size, 1, none⟩ (.int .u64 (W64 (z2))) = w9 at hF9 hR9 ⊢
  have cd0 := hR9.c0
  have cd1 := hR9.c1
  refine bodyPost_ret (v := .agg #[.int .u64 (W64 (z1)), .int .u64 (W64 (z2))]) (by simp [results, Try.results9, go_sem, cd0, cd1]) rfl ?_
  exact ⟨by rw [HZ1.out, HZ2.out], (hF3).trans hF9 (fun x hx => .inr (by omega))⟩
end Go.Proofs.Ytdemhnkkohnflad.StM64
