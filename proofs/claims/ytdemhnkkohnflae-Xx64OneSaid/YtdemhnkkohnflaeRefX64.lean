/- The reference of xx64: round, From, Blocks. -/
import Derived.Test.YtdemhnkkohnflaeEndX64
namespace Go.Proofs.Ytdemhnkkohnflae.StX64
set_option linter.unusedVariables false
set_option linter.unusedSimpArgs false
open Go.RowKit

theorem refRound_any (v k : BitVec 64) (w : World) : Calls Try.prog 38 #[.int .u64 (W64 v), .int .u64 (W64 k)] w (Gives (.int .u64 (W64 (roundF v k))) w) := by
  go_enter Try.func38, Try.ntmps38
  go_wp2_with fail
  refine (refRot64_any _ 31 _ (by omega) (by omega)).mono ?_
  rintro e w' ⟨rfl, rfl⟩
  go_wp2_with fail
  go_ret
  exact ⟨by rw [roundF_def]; rfl, rfl⟩
/-- It returns lanes, and a part of the bytes that are there. -/
def GivesLanes (a : Option Addr) (n c : Nat) (l : Bytes) (r : ST × Bytes) (w : World) (e : Ending) (w' : World) : Prop :=
  ∃ a' n' c', e = .returned (.tuple #[lanesV r.1, .slice a' n' c']) ∧ IsBytes w' a' n' c' r.2 ∧ (∀ w2, IsBytes w2 a n c l → IsBytes w2 a' n' c' r.2) ∧ Fr No w w'
set_option maxHeartbeats 4000000 in
theorem refFrom_any (s : ST) (a : Option Addr) (n c : Nat) (l : Bytes) (w : World) (h : IsBytes w a n c l) (hn : n ≤ 1099511627776) :
    Calls Try.prog 34 #[.agg #[.int .u64 (W64 s.1), .int .u64 (W64 s.2.1), .int .u64 (W64 s.2.2.1), .int .u64 (W64 s.2.2.2)], .slice a n c] w (GivesLanes a n c l (foldF stepG 32 s l) w) := by
  obtain ⟨r, hr⟩ : ∃ r, r = foldF stepG 32 s l := ⟨_, rfl⟩
  rw [← hr]
  have HR := Lib.hid hr
  clear hr
  have hF : Fr No w ((w.alloc (.cells #[.int .u64 (W64 s.1), .int .u64 (W64 s.2.1), .int .u64 (W64 s.2.2.1), .int .u64 (W64 s.2.2.2)] 35)).alloc (.cells #[.int .u64 0, .int .u64 0, .int .u64 0, .int .u64 0] 35)) := ((Fr.refl No w).alloc _).alloc _
  have hB0 : BoxAt ((w.alloc (.cells #[.int .u64 (W64 s.1), .int .u64 (W64 s.2.1), .int .u64 (W64 s.2.2.1), .int .u64 (W64 s.2.2.2)] 35)).alloc (.cells #[.int .u64 0, .int .u64 0, .int .u64 0, .int .u64 0] 35)) w.heap.size s := BoxAt.fr (row_box (row4_new w 35 (.int .u64 (W64 s.1)) (.int .u64 (W64 s.2.1)) (.int .u64 (W64 s.2.2.1)) (.int .u64 (W64 s.2.2.2)))) ((Fr.refl No _).alloc _) (fun h => h)
  have hR0 : Row4 ((w.alloc (.cells #[.int .u64 (W64 s.1), .int .u64 (W64 s.2.1), .int .u64 (W64 s.2.2.1), .int .u64 (W64 s.2.2.2)] 35)).alloc (.cells #[.int .u64 0, .int .u64 0, .int .u64 0, .int .u64 0] 35)) (w.heap.size + 1) 35 (.int .u64 0) (.int .u64 0) (.int .u64 0) (.int .u64 0) := heap_alloc2_new w _ _
  go_enter Try.func34, Try.ntmps34
  go_wp2
  go_loopw [1] (fun v wr => ∃ m a' c' l' s', v = .slice a' m c' ∧ IsBytes w a' m c' l' ∧ (∀ w2, IsBytes w2 a n c l → IsBytes w2 a' m c' l') ∧ BoxAt wr w.heap.size s' ∧ Row4 wr (w.heap.size + 1) 35 (.int .u64 0) (.int .u64 0) (.int .u64 0) (.int .u64 0) ∧ Fr No w wr ∧ Hid (foldF stepG 32 s' l' = r)) (fun v _ => match v with | .slice _ m _ => m | _ => 0)
  case atStart => exact ⟨n, a, c, l, s, rfl, h, fun _ h => h, hB0, hR0, hF, HR.out.symm⟩
  case round =>
    obtain ⟨m, a', c', l', s', rfl, hb, hst, hBx, hRx, hfx, hr'⟩ := hrel
    clear hF hB0 hR0
    have hlen := Lib.hid hb.1
    have hc : m ≤ c' := hb.2.1
    have hc2 : c' ≤ 9223372036854775807 := hb.2.2.1
    by_cases hlt : 32 ≤ m
    · have i1 : (32 : Int) ≤ (m : Int) := by omega
      have i2 : (32 : Int) ≤ (c' : Int) := by omega
      go_wp2_with fail
      obtain ⟨wo, rfl⟩ : ∃ wo : World, wo = wr := ⟨_, rfl⟩
      go_loopw [6] (fun i wi => ∃ (k : Nat) (s'' : ST), k ≤ 4 ∧ i = .int .i64 k ∧ BoxAt wi w.heap.size s'' ∧ Hid (s'' = stepTo s' l' k) ∧ Row4 wi (w.heap.size + 1) 35 (.int .u64 0) (.int .u64 0) (.int .u64 0) (.int .u64 0) ∧ Fr No w wi) (fun i _ => 4 - (intOf i).toNat)
      case atStart => exact ⟨0, s', by omega, rfl, hBx, rfl, hRx, hfx⟩
      case round =>
        obtain ⟨k, s'', hk, rfl, hB, hs2, hR2, hf2⟩ := hrel
        clear hBx hRx hfx
        obtain ⟨wi, rfl⟩ : ∃ wi : World, wi = wr := ⟨_, rfl⟩
        rcases (show k = 0 ∨ k = 1 ∨ k = 2 ∨ k = 3 ∨ k = 4 by omega) with rfl | rfl | rfl | rfl | rfl
        · have hy := (hb.no hf2)
          have cq0 := (box_row hB).c0
          have hBd : BoxAt wi.drew w.heap.size s'' := hB.fr (Fr.refl No wi).drew (fun h => h)
          go_wp2_with fail
          refine wp_region_seq (by kernel_rfl) (fun w' => Fr No wi w') (fun i => decide (10 ≤ i)) [(0, 1), (1, 1), (2, 1), (3, 1), (4, 1), (5, 1), (6, 1), (7, 0), (8, 0), (9, 1), (10, 0)] (by kernel_rfl) (Fr.refl No wi).drew ?_
          have hs0 : Fr No wi wi.drew := (Fr.refl No wi).drew
          refine wpSeq_take (v := ?_) 14 rfl rfl (fun _ _ _ h => h) (Or.inl ⟨rfl, ?_⟩) ?_
          rotate_left 1
          · (intro w9 h9; go_simp; try with_reducible rfl)
          simp only [List.setIfInBounds_toArray, List.set_cons_zero, List.set_cons_succ]
          refine wpSeq_take (v := ?_) 15 rfl rfl (fun _ _ _ h => h) (Or.inl ⟨rfl, ?_⟩) ?_
          rotate_left 1
          · (intro w9 h9; go_simp; try with_reducible rfl)
          simp only [List.setIfInBounds_toArray, List.set_cons_zero, List.set_cons_succ]
          refine wpSeq_take (v := ?_) 16 rfl rfl (fun _ _ _ h => h) (Or.inl ⟨rfl, ?_⟩) ?_
          rotate_left 1
          · (intro w9 h9; go_simp; try with_reducible rfl)
          simp only [List.setIfInBounds_toArray, List.set_cons_zero, List.set_cons_succ]
          refine wpSeq_take (v := ?_) 17 rfl rfl (fun _ _ _ h => h) (Or.inl ⟨rfl, ?_⟩) ?_
          rotate_left 1
          · (intro w9 h9; have cq := h9.cell (fun h => h) cq0; clear h9; go_simp; try with_reducible rfl)
          simp only [List.setIfInBounds_toArray, List.set_cons_zero, List.set_cons_succ]
          refine wpSeq_take (v := ?_) 18 rfl rfl (fun _ _ _ h => h) (Or.inl ⟨rfl, ?_⟩) ?_
          rotate_left 1
          · (intro w9 h9; go_simp; try with_reducible rfl)
          simp only [List.setIfInBounds_toArray, List.set_cons_zero, List.set_cons_succ]
          refine wpSeq_take (v := ?_) 19 rfl rfl (fun _ _ _ h => h) (Or.inl ⟨rfl, ?_⟩) ?_
          rotate_left 1
          · (intro w9 h9; go_simp; try with_reducible rfl)
          simp only [List.setIfInBounds_toArray, List.set_cons_zero, List.set_cons_succ]
          refine wpSeq_take (v := ?_) 20 rfl rfl (fun _ _ _ h => h) (Or.inl ⟨rfl, ?_⟩) ?_
          rotate_left 1
          · (intro w9 h9; go_simp; try with_reducible rfl)
          simp only [List.setIfInBounds_toArray, List.set_cons_zero, List.set_cons_succ]
          refine wpSeq_next rfl rfl (fun K hK => ?_)
          go_wp2_with fail
          refine (refNum_any _ _ _ l' 0 8 _ (hy.no hs0) (by omega) (by omega) (by omega) (by omega)).mono ?_
          rintro e w' ⟨rfl, rfl⟩
          refine hK.out _ _ (fun _ => hs0) ?_
          clear hK K
          refine wpSeq_next rfl rfl (fun K hK => ?_)
          go_wp2_with fail
          refine (refRound_any _ _ _).mono ?_
          rintro e w' ⟨rfl, rfl⟩
          rw [num8_zero]
          obtain ⟨yy, hyy⟩ : ∃ yy, yy = roundF (s''.1) (num8 l' 0) := ⟨_, rfl⟩
          rw [← hyy]
          have HYY := Lib.hid hyy
          clear hyy
          refine hK.out _ _ (fun _ => hs0) ?_
          clear hK K
          refine wpSeq_take (v := ?_) 23 rfl rfl (fun _ _ _ h => h) (Or.inl ⟨rfl, ?_⟩) ?_
          rotate_left 1
          · (intro w9 h9; go_simp; try with_reducible rfl)
          simp only [List.setIfInBounds_toArray, List.set_cons_zero, List.set_cons_succ]
          have hRow := box_row hBd
          have cx := hRow.c0
          have fx := hRow.fz 0
          refine wpSeq_next rfl rfl (fun K hK => ?_)
          go_wp2_with fail
          refine hK.out _ _ (fun h => by simp at h) ?_
          clear hK K
          refine wpSeq_done ?_
          have hB3 := BoxAt.fr (box_put0 hB yy) (Fr.refl No _).drew (fun h => h)
          have hf3 := ((Fr.refl (fun x => x = w.heap.size) wi).setCell (p := ⟨w.heap.size, 0, none⟩) (.inl rfl) (.int .u64 (W64 yy))).no (Fr.refl No _).drew
          have hR3 := hR2.fr hf3 (by omega)
          have hf4 := hf2.trans hf3 (fun x hx => .inr (by omega))
          clear hs0 cq0 cx fx hRow hBd hy
          go_wp2_with fail
          go_roundw
          case rel =>
            refine ⟨1, (yy, s''.2.1, s''.2.2.1, s''.2.2.2), by omega, rfl, hB3, ?_, hR3, hf4⟩
            show _ = _
            rw [HYY.out, hs2.out]
            simp only [stepTo]
          case measure => simp [intOf]
        · have hy := (hb.no hf2)
          have cq0 := (box_row hB).c1
          have hBd : BoxAt wi.drew w.heap.size s'' := hB.fr (Fr.refl No wi).drew (fun h => h)
          go_wp2_with fail
          refine wp_region_seq (by kernel_rfl) (fun w' => Fr No wi w') (fun i => decide (10 ≤ i)) [(0, 1), (1, 1), (2, 1), (3, 1), (4, 1), (5, 1), (6, 1), (7, 0), (8, 0), (9, 1), (10, 0)] (by kernel_rfl) (Fr.refl No wi).drew ?_
          have hs0 : Fr No wi wi.drew := (Fr.refl No wi).drew
          refine wpSeq_take (v := ?_) 14 rfl rfl (fun _ _ _ h => h) (Or.inl ⟨rfl, ?_⟩) ?_
          rotate_left 1
          · (intro w9 h9; go_simp; try with_reducible rfl)
          simp only [List.setIfInBounds_toArray, List.set_cons_zero, List.set_cons_succ]
          refine wpSeq_take (v := ?_) 15 rfl rfl (fun _ _ _ h => h) (Or.inl ⟨rfl, ?_⟩) ?_
          rotate_left 1
          · (intro w9 h9; go_simp; try with_reducible rfl)
          simp only [List.setIfInBounds_toArray, List.set_cons_zero, List.set_cons_succ]
          refine wpSeq_take (v := ?_) 16 rfl rfl (fun _ _ _ h => h) (Or.inl ⟨rfl, ?_⟩) ?_
          rotate_left 1
          · (intro w9 h9; go_simp; try with_reducible rfl)
          simp only [List.setIfInBounds_toArray, List.set_cons_zero, List.set_cons_succ]
          refine wpSeq_take (v := ?_) 17 rfl rfl (fun _ _ _ h => h) (Or.inl ⟨rfl, ?_⟩) ?_
          rotate_left 1
          · (intro w9 h9; have cq := h9.cell (fun h => h) cq0; clear h9; go_simp; try with_reducible rfl)
          simp only [List.setIfInBounds_toArray, List.set_cons_zero, List.set_cons_succ]
          refine wpSeq_take (v := ?_) 18 rfl rfl (fun _ _ _ h => h) (Or.inl ⟨rfl, ?_⟩) ?_
          rotate_left 1
          · (intro w9 h9; go_simp; try with_reducible rfl)
          simp only [List.setIfInBounds_toArray, List.set_cons_zero, List.set_cons_succ]
          refine wpSeq_take (v := ?_) 19 rfl rfl (fun _ _ _ h => h) (Or.inl ⟨rfl, ?_⟩) ?_
          rotate_left 1
          · (intro w9 h9; go_simp; try with_reducible rfl)
          simp only [List.setIfInBounds_toArray, List.set_cons_zero, List.set_cons_succ]
          refine wpSeq_take (v := ?_) 20 rfl rfl (fun _ _ _ h => h) (Or.inl ⟨rfl, ?_⟩) ?_
          rotate_left 1
          · (intro w9 h9; go_simp; try with_reducible rfl)
          simp only [List.setIfInBounds_toArray, List.set_cons_zero, List.set_cons_succ]
          refine wpSeq_next rfl rfl (fun K hK => ?_)
          go_wp2_with fail
          refine (refNum_any _ _ _ l' 8 8 _ (hy.no hs0) (by omega) (by omega) (by omega) (by omega)).mono ?_
          rintro e w' ⟨rfl, rfl⟩
          refine hK.out _ _ (fun _ => hs0) ?_
          clear hK K
          refine wpSeq_next rfl rfl (fun K hK => ?_)
          go_wp2_with fail
          refine (refRound_any _ _ _).mono ?_
          rintro e w' ⟨rfl, rfl⟩
          rw [num8_def]
          obtain ⟨yy, hyy⟩ : ∃ yy, yy = roundF (s''.2.1) (num8 l' 8) := ⟨_, rfl⟩
          rw [← hyy]
          have HYY := Lib.hid hyy
          clear hyy
          refine hK.out _ _ (fun _ => hs0) ?_
          clear hK K
          refine wpSeq_take (v := ?_) 23 rfl rfl (fun _ _ _ h => h) (Or.inl ⟨rfl, ?_⟩) ?_
          rotate_left 1
          · (intro w9 h9; go_simp; try with_reducible rfl)
          simp only [List.setIfInBounds_toArray, List.set_cons_zero, List.set_cons_succ]
          have hRow := box_row hBd
          have cx := hRow.c1
          have fx := hRow.fz 1
          refine wpSeq_next rfl rfl (fun K hK => ?_)
          go_wp2_with fail
          refine hK.out _ _ (fun h => by simp at h) ?_
          clear hK K
          refine wpSeq_done ?_
          have hB3 := BoxAt.fr (box_put1 hB yy) (Fr.refl No _).drew (fun h => h)
          have hf3 := ((Fr.refl (fun x => x = w.heap.size) wi).setCell (p := ⟨w.heap.size, 1, none⟩) (.inl rfl) (.int .u64 (W64 yy))).no (Fr.refl No _).drew
          have hR3 := hR2.fr hf3 (by omega)
          have hf4 := hf2.trans hf3 (fun x hx => .inr (by omega))
          clear hs0 cq0 cx fx hRow hBd hy
          go_wp2_with fail
          go_roundw
          case rel =>
            refine ⟨2, (s''.1, yy, s''.2.2.1, s''.2.2.2), by omega, rfl, hB3, ?_, hR3, hf4⟩
            show _ = _
            rw [HYY.out, hs2.out]
            simp only [stepTo]
          case measure => simp [intOf]
        · have hy := (hb.no hf2)
          have cq0 := (box_row hB).c2
          have hBd : BoxAt wi.drew w.heap.size s'' := hB.fr (Fr.refl No wi).drew (fun h => h)
          go_wp2_with fail
          refine wp_region_seq (by kernel_rfl) (fun w' => Fr No wi w') (fun i => decide (10 ≤ i)) [(0, 1), (1, 1), (2, 1), (3, 1), (4, 1), (5, 1), (6, 1), (7, 0), (8, 0), (9, 1), (10, 0)] (by kernel_rfl) (Fr.refl No wi).drew ?_
          have hs0 : Fr No wi wi.drew := (Fr.refl No wi).drew
          refine wpSeq_take (v := ?_) 14 rfl rfl (fun _ _ _ h => h) (Or.inl ⟨rfl, ?_⟩) ?_
          rotate_left 1
          · (intro w9 h9; go_simp; try with_reducible rfl)
          simp only [List.setIfInBounds_toArray, List.set_cons_zero, List.set_cons_succ]
          refine wpSeq_take (v := ?_) 15 rfl rfl (fun _ _ _ h => h) (Or.inl ⟨rfl, ?_⟩) ?_
          rotate_left 1
          · (intro w9 h9; go_simp; try with_reducible rfl)
          simp only [List.setIfInBounds_toArray, List.set_cons_zero, List.set_cons_succ]
          refine wpSeq_take (v := ?_) 16 rfl rfl (fun _ _ _ h => h) (Or.inl ⟨rfl, ?_⟩) ?_
          rotate_left 1
          · (intro w9 h9; go_simp; try with_reducible rfl)
          simp only [List.setIfInBounds_toArray, List.set_cons_zero, List.set_cons_succ]
          refine wpSeq_take (v := ?_) 17 rfl rfl (fun _ _ _ h => h) (Or.inl ⟨rfl, ?_⟩) ?_
          rotate_left 1
          · (intro w9 h9; have cq := h9.cell (fun h => h) cq0; clear h9; go_simp; try with_reducible rfl)
          simp only [List.setIfInBounds_toArray, List.set_cons_zero, List.set_cons_succ]
          refine wpSeq_take (v := ?_) 18 rfl rfl (fun _ _ _ h => h) (Or.inl ⟨rfl, ?_⟩) ?_
          rotate_left 1
          · (intro w9 h9; go_simp; try with_reducible rfl)
          simp only [List.setIfInBounds_toArray, List.set_cons_zero, List.set_cons_succ]
          refine wpSeq_take (v := ?_) 19 rfl rfl (fun _ _ _ h => h) (Or.inl ⟨rfl, ?_⟩) ?_
          rotate_left 1
          · (intro w9 h9; go_simp; try with_reducible rfl)
          simp only [List.setIfInBounds_toArray, List.set_cons_zero, List.set_cons_succ]
          refine wpSeq_take (v := ?_) 20 rfl rfl (fun _ _ _ h => h) (Or.inl ⟨rfl, ?_⟩) ?_
          rotate_left 1
          · (intro w9 h9; go_simp; try with_reducible rfl)
          simp only [List.setIfInBounds_toArray, List.set_cons_zero, List.set_cons_succ]
          refine wpSeq_next rfl rfl (fun K hK => ?_)
          go_wp2_with fail
          refine (refNum_any _ _ _ l' 16 8 _ (hy.no hs0) (by omega) (by omega) (by omega) (by omega)).mono ?_
          rintro e w' ⟨rfl, rfl⟩
          refine hK.out _ _ (fun _ => hs0) ?_
          clear hK K
          refine wpSeq_next rfl rfl (fun K hK => ?_)
          go_wp2_with fail
          refine (refRound_any _ _ _).mono ?_
          rintro e w' ⟨rfl, rfl⟩
          rw [num8_def]
          obtain ⟨yy, hyy⟩ : ∃ yy, yy = roundF (s''.2.2.1) (num8 l' 16) := ⟨_, rfl⟩
          rw [← hyy]
          have HYY := Lib.hid hyy
          clear hyy
          refine hK.out _ _ (fun _ => hs0) ?_
          clear hK K
          refine wpSeq_take (v := ?_) 23 rfl rfl (fun _ _ _ h => h) (Or.inl ⟨rfl, ?_⟩) ?_
          rotate_left 1
          · (intro w9 h9; go_simp; try with_reducible rfl)
          simp only [List.setIfInBounds_toArray, List.set_cons_zero, List.set_cons_succ]
          have hRow := box_row hBd
          have cx := hRow.c2
          have fx := hRow.fz 2
          refine wpSeq_next rfl rfl (fun K hK => ?_)
          go_wp2_with fail
          refine hK.out _ _ (fun h => by simp at h) ?_
          clear hK K
          refine wpSeq_done ?_
          have hB3 := BoxAt.fr (box_put2 hB yy) (Fr.refl No _).drew (fun h => h)
          have hf3 := ((Fr.refl (fun x => x = w.heap.size) wi).setCell (p := ⟨w.heap.size, 2, none⟩) (.inl rfl) (.int .u64 (W64 yy))).no (Fr.refl No _).drew
          have hR3 := hR2.fr hf3 (by omega)
          have hf4 := hf2.trans hf3 (fun x hx => .inr (by omega))
          clear hs0 cq0 cx fx hRow hBd hy
          go_wp2_with fail
          go_roundw
          case rel =>
            refine ⟨3, (s''.1, s''.2.1, yy, s''.2.2.2), by omega, rfl, hB3, ?_, hR3, hf4⟩
            show _ = _
            rw [HYY.out, hs2.out]
            simp only [stepTo]
          case measure => simp [intOf]
        · have hy := (hb.no hf2)
          have cq0 := (box_row hB).c3
          have hBd : BoxAt wi.drew w.heap.size s'' := hB.fr (Fr.refl No wi).drew (fun h => h)
          go_wp2_with fail
          refine wp_region_seq (by kernel_rfl) (fun w' => Fr No wi w') (fun i => decide (10 ≤ i)) [(0, 1), (1, 1), (2, 1), (3, 1), (4, 1), (5, 1), (6, 1), (7, 0), (8, 0), (9, 1), (10, 0)] (by kernel_rfl) (Fr.refl No wi).drew ?_
          have hs0 : Fr No wi wi.drew := (Fr.refl No wi).drew
          refine wpSeq_take (v := ?_) 14 rfl rfl (fun _ _ _ h => h) (Or.inl ⟨rfl, ?_⟩) ?_
          rotate_left 1
          · (intro w9 h9; go_simp; try with_reducible rfl)
          simp only [List.setIfInBounds_toArray, List.set_cons_zero, List.set_cons_succ]
          refine wpSeq_take (v := ?_) 15 rfl rfl (fun _ _ _ h => h) (Or.inl ⟨rfl, ?_⟩) ?_
          rotate_left 1
          · (intro w9 h9; go_simp; try with_reducible rfl)
          simp only [List.setIfInBounds_toArray, List.set_cons_zero, List.set_cons_succ]
          refine wpSeq_take (v := ?_) 16 rfl rfl (fun _ _ _ h => h) (Or.inl ⟨rfl, ?_⟩) ?_
          rotate_left 1
          · (intro w9 h9; go_simp; try with_reducible rfl)
          simp only [List.setIfInBounds_toArray, List.set_cons_zero, List.set_cons_succ]
          refine wpSeq_take (v := ?_) 17 rfl rfl (fun _ _ _ h => h) (Or.inl ⟨rfl, ?_⟩) ?_
          rotate_left 1
          · (intro w9 h9; have cq := h9.cell (fun h => h) cq0; clear h9; go_simp; try with_reducible rfl)
          simp only [List.setIfInBounds_toArray, List.set_cons_zero, List.set_cons_succ]
          refine wpSeq_take (v := ?_) 18 rfl rfl (fun _ _ _ h => h) (Or.inl ⟨rfl, ?_⟩) ?_
          rotate_left 1
          · (intro w9 h9; go_simp; try with_reducible rfl)
          simp only [List.setIfInBounds_toArray, List.set_cons_zero, List.set_cons_succ]
          refine wpSeq_take (v := ?_) 19 rfl rfl (fun _ _ _ h => h) (Or.inl ⟨rfl, ?_⟩) ?_
          rotate_left 1
          · (intro w9 h9; go_simp; try with_reducible rfl)
          simp only [List.setIfInBounds_toArray, List.set_cons_zero, List.set_cons_succ]
          refine wpSeq_take (v := ?_) 20 rfl rfl (fun _ _ _ h => h) (Or.inl ⟨rfl, ?_⟩) ?_
          rotate_left 1
          · (intro w9 h9; go_simp; try with_reducible rfl)
          simp only [List.setIfInBounds_toArray, List.set_cons_zero, List.set_cons_succ]
          refine wpSeq_next rfl rfl (fun K hK => ?_)
          go_wp2_with fail
          refine (refNum_any _ _ _ l' 24 8 _ (hy.no hs0) (by omega) (by omega) (by omega) (by omega)).mono ?_
          rintro e w' ⟨rfl, rfl⟩
          refine hK.out _ _ (fun _ => hs0) ?_
          clear hK K
          refine wpSeq_next rfl rfl (fun K hK => ?_)
          go_wp2_with fail
          refine (refRound_any _ _ _).mono ?_
          rintro e w' ⟨rfl, rfl⟩
          rw [num8_def]
          obtain ⟨yy, hyy⟩ : ∃ yy, yy = roundF (s''.2.2.2) (num8 l' 24) := ⟨_, rfl⟩
          rw [← hyy]
          have HYY := Lib.hid hyy
          clear hyy
          refine hK.out _ _ (fun _ => hs0) ?_
          clear hK K
          refine wpSeq_take (v := ?_) 23 rfl rfl (fun _ _ _ h => h) (Or.inl ⟨rfl, ?_⟩) ?_
          rotate_left 1
          · (intro w9 h9; go_simp; try with_reducible rfl)
          simp only [List.setIfInBounds_toArray, List.set_cons_zero, List.set_cons_succ]
          have hRow := box_row hBd
          have cx := hRow.c3
          have fx := hRow.fz 3
          refine wpSeq_next rfl rfl (fun K hK => ?_)
          go_wp2_with fail
          refine hK.out _ _ (fun h => by simp at h) ?_
          clear hK K
          refine wpSeq_done ?_
          have hB3 := BoxAt.fr (box_put3 hB yy) (Fr.refl No _).drew (fun h => h)
          have hf3 := ((Fr.refl (fun x => x = w.heap.size) wi).setCell (p := ⟨w.heap.size, 3, none⟩) (.inl rfl) (.int .u64 (W64 yy))).no (Fr.refl No _).drew
          have hR3 := hR2.fr hf3 (by omega)
          have hf4 := hf2.trans hf3 (fun x hx => .inr (by omega))
          clear hs0 cq0 cx fx hRow hBd hy
          go_wp2_with fail
          go_roundw
          case rel =>
            refine ⟨4, (s''.1, s''.2.1, s''.2.2.1, yy), by omega, rfl, hB3, ?_, hR3, hf4⟩
            show _ = _
            rw [HYY.out, hs2.out]
            simp only [stepTo]
          case measure => simp [intOf]
        · have hcut := hb.cut_to_end 32 (n' := m - 32) (c' := c' - 32) hlt rfl rfl
          go_wp2_with fail
          go_roundw
          case rel =>
            refine ⟨m - 32, _, _, _, s'', rfl, hcut, fun w2 h2 => (hst w2 h2).cut_to_end 32 hlt rfl rfl, hB, hR2, hf2, ?_⟩
            show _ = _
            rw [← hr'.out, foldF_step (s := s') (l := l') (by omega) (by rw [hlen.out]; exact hlt), hs2.out, stepG_take]
          case measure => simp; omega
    · have i1 : (m : Int) < 32 := by omega
      have HS := Lib.hid (foldF_short (F := stepG) (size := 32) (s := s') (l := l') (by rw [hlen.out]; omega))
      have hRow := box_row hBx
      have cb0 := hRow.c0
      have cb1 := hRow.c1
      have cb2 := hRow.c2
      have cb3 := hRow.c3
      have cr0 := hRx.c0
      have cr1 := hRx.c1
      have cr2 := hRx.c2
      have cr3 := hRx.c3
      have fr0 := hRx.fz 0
      have fr1 := hRx.fz 1
      have fr2 := hRx.fz 2
      have fr3 := hRx.fz 3
      go_wp2_with fail
      have hF3 := fr_put4 wr (w.heap.size + 1) (.int .u64 (W64 s'.1)) (.int .u64 (W64 s'.2.1)) (.int .u64 (W64 s'.2.2.1)) (.int .u64 (W64 s'.2.2.2))
      have hR3 := row_put4 hRx (.int .u64 (W64 s'.1)) (.int .u64 (W64 s'.2.1)) (.int .u64 (W64 s'.2.2.1)) (.int .u64 (W64 s'.2.2.2))
      clear cr0 cr1 cr2 cr3 fr0 fr1 fr2 fr3
      generalize (((wr.setCell ⟨w.heap.size + 1, 0, none⟩ (.int .u64 (W64 s'.1))).setCell ⟨w.heap.size + 1, 1, none⟩ (.int .u64 (W64 s'.2.1))).setCell ⟨w.heap.size + 1, 2, none⟩ (.int .u64 (W64 s'.2.2.1))).setCell ⟨w.heap.size + 1, 3, none⟩ (.int .u64 (W64 s'.2.2.2)) = w3 at hF3 hR3 ⊢
      have cd0 := hR3.c0
      have cd1 := hR3.c1
      have cd2 := hR3.c2
      have cd3 := hR3.c3
      have hFe : Fr No w w3 := hfx.trans hF3 (fun x hx => .inr (by omega))
      refine bodyPost_ret (v := .tuple #[lanesV s', .slice a' m c']) (by simp [results, Try.results34, go_sem, cd0, cd1, cd2, cd3, lanesV]) rfl ?_
      refine ⟨a', m, c', by rw [← hr'.out, HS.out], ?_, ?_, hFe⟩
      · rw [← hr'.out, HS.out]; exact hb.no hFe
      · rw [← hr'.out, HS.out]; exact hst
set_option maxHeartbeats 1000000 in
theorem refBlocks_any (sd : BitVec 64) (a : Option Addr) (n c : Nat) (l : Bytes) (w : World) (h : IsBytes w a n c l) (hn : n ≤ 1099511627776) :
    Calls Try.prog 16 #[.int .u64 (W64 sd), .slice a n c] w (GivesLanes a n c l (foldF stepG 32 (firstF sd) l) w) := by
  have hF1 := (Fr.refl No w).alloc (.cells #[.int .u64 0, .int .u64 0, .int .u64 0, .int .u64 0] 35)
  have hA := row4_new w 35 (.int .u64 0) (.int .u64 0) (.int .u64 0) (.int .u64 0)
  generalize hr : foldF stepG 32 (firstF sd) l = r
  have HR := Lib.hid hr
  clear hr
  have hF2 : Fr No w ((w.alloc (.cells #[.int .u64 0, .int .u64 0, .int .u64 0, .int .u64 0] 35)).alloc (.cells #[.int .u64 (W64 (firstF sd).1), .int .u64 (W64 (firstF sd).2.1), .int .u64 (W64 (firstF sd).2.2.1), .int .u64 (W64 (firstF sd).2.2.2)] 35)) := hF1.alloc _
  have hA2 := hA.no ((Fr.refl No (w.alloc (.cells #[.int .u64 0, .int .u64 0, .int .u64 0, .int .u64 0] 35))).alloc (.cells #[.int .u64 (W64 (firstF sd).1), .int .u64 (W64 (firstF sd).2.1), .int .u64 (W64 (firstF sd).2.2.1), .int .u64 (W64 (firstF sd).2.2.2)] 35))
  have h1 := h.no hF2
  go_enter Try.func16, Try.ntmps16
  go_wp2_with fail
  refine (refFrom_any (firstF sd) _ _ _ l _ h1 hn).mono ?_
  rintro e w2 ⟨a', n', c', rfl, hb, hst, hf⟩
  rw [HR.out] at hb hst ⊢
  have hR := hA2.no hf
  have hF := hF2.no hf
  clear hf h1 hA hA2 hF1 hF2
  have cr0 := hR.c0
  have cr1 := hR.c1
  have cr2 := hR.c2
  have cr3 := hR.c3
  have fr0 := hR.fz 0
  have fr1 := hR.fz 1
  have fr2 := hR.fz 2
  have fr3 := hR.fz 3
  unfold lanesV
  go_wp2_with fail
  have hF3 := fr_put4 w2 (w.heap.size) (.int .u64 (W64 r.1.1)) (.int .u64 (W64 r.1.2.1)) (.int .u64 (W64 r.1.2.2.1)) (.int .u64 (W64 r.1.2.2.2))
  have hR3 := row_put4 hR (.int .u64 (W64 r.1.1)) (.int .u64 (W64 r.1.2.1)) (.int .u64 (W64 r.1.2.2.1)) (.int .u64 (W64 r.1.2.2.2))
  clear cr0 cr1 cr2 cr3 fr0 fr1 fr2 fr3
  generalize (((w2.setCell ⟨w.heap.size, 0, none⟩ (.int .u64 (W64 r.1.1))).setCell ⟨w.heap.size, 1, none⟩ (.int .u64 (W64 r.1.2.1))).setCell ⟨w.heap.size, 2, none⟩ (.int .u64 (W64 r.1.2.2.1))).setCell ⟨w.heap.size, 3, none⟩ (.int .u64 (W64 r.1.2.2.2)) = w3 at hF3 hR3 ⊢
  have cd0 := hR3.c0
  have cd1 := hR3.c1
  have cd2 := hR3.c2
  have cd3 := hR3.c3
  have hFe : Fr No w w3 := hF.trans hF3 (fun x hx => .inr (by omega))
  refine bodyPost_ret (v := .tuple #[lanesV r.1, .slice a' n' c']) (by simp [results, Try.results16, go_sem, cd0, cd1, cd2, cd3, lanesV]) rfl ?_
  exact ⟨a', n', c', rfl, (hst _ (h.no hFe)), hst, hFe⟩
end Go.Proofs.Ytdemhnkkohnflae.StX64
