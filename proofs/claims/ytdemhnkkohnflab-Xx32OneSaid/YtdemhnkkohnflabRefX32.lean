/- The reference of xx32: From, Blocks, End, One. -/
import Derived.Test.YtdemhnkkohnflabEndX32
namespace Go.Proofs.Ytdemhnkkohnflab.StX32
set_option linter.unusedVariables false
set_option linter.unusedSimpArgs false
open Go.RowKit

/-- It returns lanes, and a part of the bytes that are there. -/
def GivesLanes (a : Option Addr) (n c : Nat) (l : Bytes) (r : ST × Bytes) (w : World) (e : Ending) (w' : World) : Prop :=
  ∃ a' n' c', e = .returned (.tuple #[lanesV r.1, .slice a' n' c']) ∧ IsBytes w' a' n' c' r.2 ∧ (∀ w2, IsBytes w2 a n c l → IsBytes w2 a' n' c' r.2) ∧ Fr No w w'
set_option maxHeartbeats 4000000 in
theorem refFrom_any (x0 x1 x2 x3 : BitVec 64) (s : ST) (a : Option Addr) (n c : Nat) (l : Bytes) (w : World) (hs : Hid (s = (x0.setWidth 32, x1.setWidth 32, x2.setWidth 32, x3.setWidth 32))) (h : IsBytes w a n c l) (hn : n ≤ 1099511627776) :
    Calls Try.prog 35 #[.agg #[.int .u64 (W64 x0), .int .u64 (W64 x1), .int .u64 (W64 x2), .int .u64 (W64 x3)], .slice a n c] w (GivesLanes a n c l (foldF stepG 16 s l) w) := by
  obtain ⟨r, hr⟩ : ∃ r, r = foldF stepG 16 s l := ⟨_, rfl⟩
  rw [← hr]
  have HR := Lib.hid hr
  clear hr
  have hF : Fr No w (((w.alloc (.cells #[.int .u64 (W64 x0), .int .u64 (W64 x1), .int .u64 (W64 x2), .int .u64 (W64 x3)] 36)).alloc (.cells #[.int .u64 0, .int .u64 0, .int .u64 0, .int .u64 0] 36)).alloc (.cells #[.int .u32 (W32 (x0.setWidth 32)), .int .u32 (W32 (x1.setWidth 32)), .int .u32 (W32 (x2.setWidth 32)), .int .u32 (W32 (x3.setWidth 32))] 49)) := (((Fr.refl No w).alloc _).alloc _).alloc _
  have hB0 : BoxAt (((w.alloc (.cells #[.int .u64 (W64 x0), .int .u64 (W64 x1), .int .u64 (W64 x2), .int .u64 (W64 x3)] 36)).alloc (.cells #[.int .u64 0, .int .u64 0, .int .u64 0, .int .u64 0] 36)).alloc (.cells #[.int .u32 (W32 (x0.setWidth 32)), .int .u32 (W32 (x1.setWidth 32)), .int .u32 (W32 (x2.setWidth 32)), .int .u32 (W32 (x3.setWidth 32))] 49)) (w.heap.size + 2) s := by
    have h0 := row4_new ((w.alloc (.cells #[.int .u64 (W64 x0), .int .u64 (W64 x1), .int .u64 (W64 x2), .int .u64 (W64 x3)] 36)).alloc (.cells #[.int .u64 0, .int .u64 0, .int .u64 0, .int .u64 0] 36)) 49 (.int .u32 (W32 (x0.setWidth 32))) (.int .u32 (W32 (x1.setWidth 32))) (.int .u32 (W32 (x2.setWidth 32))) (.int .u32 (W32 (x3.setWidth 32)))
    have e : ((w.alloc (.cells #[.int .u64 (W64 x0), .int .u64 (W64 x1), .int .u64 (W64 x2), .int .u64 (W64 x3)] 36)).alloc (.cells #[.int .u64 0, .int .u64 0, .int .u64 0, .int .u64 0] 36)).heap.size = w.heap.size + 2 := by simp
    rw [e] at h0
    rw [hs.out]
    exact row_box h0
  have hR0 : Row4 (((w.alloc (.cells #[.int .u64 (W64 x0), .int .u64 (W64 x1), .int .u64 (W64 x2), .int .u64 (W64 x3)] 36)).alloc (.cells #[.int .u64 0, .int .u64 0, .int .u64 0, .int .u64 0] 36)).alloc (.cells #[.int .u32 (W32 (x0.setWidth 32)), .int .u32 (W32 (x1.setWidth 32)), .int .u32 (W32 (x2.setWidth 32)), .int .u32 (W32 (x3.setWidth 32))] 49)) (w.heap.size + 1) 36 (.int .u64 0) (.int .u64 0) (.int .u64 0) (.int .u64 0) := Row4.no (heap_alloc2_new w _ _) ((Fr.refl No _).alloc _)
  go_enter Try.func35, Try.ntmps35
  go_wp2
  go_loopw [1] (fun v wr => ∃ m a' c' l' s', v = .slice a' m c' ∧ IsBytes w a' m c' l' ∧ (∀ w2, IsBytes w2 a n c l → IsBytes w2 a' m c' l') ∧ BoxAt wr (w.heap.size + 2) s' ∧ Row4 wr (w.heap.size + 1) 36 (.int .u64 0) (.int .u64 0) (.int .u64 0) (.int .u64 0) ∧ Fr No w wr ∧ Hid (foldF stepG 16 s' l' = r)) (fun v _ => match v with | .slice _ m _ => m | _ => 0)
  case atStart => exact ⟨n, a, c, l, s, rfl, h, fun _ h => h, hB0, hR0, hF, HR.out.symm⟩
  case round =>
    obtain ⟨m, a', c', l', s', rfl, hb, hst, hBx, hRx, hfx, hr'⟩ := hrel
    clear hF hB0 hR0
    have hlen := Lib.hid hb.1
    have hc : m ≤ c' := hb.2.1
    have hc2 : c' ≤ 9223372036854775807 := hb.2.2.1
    by_cases hlt : 16 ≤ m
    · have i1 : (16 : Int) ≤ (m : Int) := by omega
      have i2 : (16 : Int) ≤ (c' : Int) := by omega
      go_wp2_with fail
      obtain ⟨wo, rfl⟩ : ∃ wo : World, wo = wr := ⟨_, rfl⟩
      go_loopw [7] (fun i wi => ∃ (k : Nat) (s'' : ST), k ≤ 4 ∧ i = .int .i64 k ∧ BoxAt wi (w.heap.size + 2) s'' ∧ Hid (s'' = stepTo s' l' k) ∧ Row4 wi (w.heap.size + 1) 36 (.int .u64 0) (.int .u64 0) (.int .u64 0) (.int .u64 0) ∧ Fr No w wi) (fun i _ => 4 - (intOf i).toNat)
      case atStart => exact ⟨0, s', by omega, rfl, hBx, rfl, hRx, hfx⟩
      case round =>
        obtain ⟨k, s'', hk, rfl, hB, hs2, hR2, hf2⟩ := hrel
        clear hBx hRx hfx
        obtain ⟨wi, rfl⟩ : ∃ wi : World, wi = wr := ⟨_, rfl⟩
        rcases (show k = 0 ∨ k = 1 ∨ k = 2 ∨ k = 3 ∨ k = 4 by omega) with rfl | rfl | rfl | rfl | rfl
        · have hy := (hb.no hf2)
          have cq0 := (box_row hB).c0
          have hBd : BoxAt wi.drew (w.heap.size + 2) s'' := hB.fr (Fr.refl No wi).drew (fun h => h)
          go_wp2_with fail
          refine wp_region_seq (by kernel_rfl) (fun w' => Fr No wi w') (fun i => decide (14 ≤ i)) [(0, 1), (1, 1), (2, 1), (3, 1), (4, 1), (5, 1), (6, 1), (7, 0), (8, 1), (9, 1), (10, 1), (11, 0), (12, 1), (13, 1), (14, 0)] (by kernel_rfl) (Fr.refl No wi).drew ?_
          have hs0 : Fr No wi wi.drew := (Fr.refl No wi).drew
          refine wpSeq_take (v := ?_) 28 rfl rfl (fun _ _ _ h => h) (Or.inl ⟨rfl, ?_⟩) ?_
          rotate_left 1
          · (intro w9 h9; go_simp; try with_reducible rfl)
          simp only [List.setIfInBounds_toArray, List.set_cons_zero, List.set_cons_succ]
          refine wpSeq_take (v := ?_) 29 rfl rfl (fun _ _ _ h => h) (Or.inl ⟨rfl, ?_⟩) ?_
          rotate_left 1
          · (intro w9 h9; go_simp; try with_reducible rfl)
          simp only [List.setIfInBounds_toArray, List.set_cons_zero, List.set_cons_succ]
          refine wpSeq_take (v := ?_) 30 rfl rfl (fun _ _ _ h => h) (Or.inl ⟨rfl, ?_⟩) ?_
          rotate_left 1
          · (intro w9 h9; go_simp; try with_reducible rfl)
          simp only [List.setIfInBounds_toArray, List.set_cons_zero, List.set_cons_succ]
          refine wpSeq_take (v := ?_) 31 rfl rfl (fun _ _ _ h => h) (Or.inl ⟨rfl, ?_⟩) ?_
          rotate_left 1
          · (intro w9 h9; have cq := h9.cell (fun h => h) cq0; clear h9; go_simp; try with_reducible rfl)
          simp only [List.setIfInBounds_toArray, List.set_cons_zero, List.set_cons_succ]
          refine wpSeq_take (v := ?_) 32 rfl rfl (fun _ _ _ h => h) (Or.inl ⟨rfl, ?_⟩) ?_
          rotate_left 1
          · (intro w9 h9; go_simp; try with_reducible rfl)
          simp only [List.setIfInBounds_toArray, List.set_cons_zero, List.set_cons_succ]
          refine wpSeq_take (v := ?_) 33 rfl rfl (fun _ _ _ h => h) (Or.inl ⟨rfl, ?_⟩) ?_
          rotate_left 1
          · (intro w9 h9; go_simp; try with_reducible rfl)
          simp only [List.setIfInBounds_toArray, List.set_cons_zero, List.set_cons_succ]
          refine wpSeq_take (v := ?_) 34 rfl rfl (fun _ _ _ h => h) (Or.inl ⟨rfl, ?_⟩) ?_
          rotate_left 1
          · (intro w9 h9; go_simp; try with_reducible rfl)
          simp only [List.setIfInBounds_toArray, List.set_cons_zero, List.set_cons_succ]
          refine wpSeq_next rfl rfl (fun K hK => ?_)
          go_wp2_with fail
          refine (refNum_any _ _ _ l' 0 4 _ (hy.no hs0) (by omega) (by omega) (by omega) (by omega)).mono ?_
          rintro e w' ⟨rfl, rfl⟩
          refine hK.out _ _ (fun _ => hs0) ?_
          clear hK K
          refine wpSeq_take (v := ?_) 36 rfl rfl (fun _ _ _ h => h) (Or.inl ⟨rfl, ?_⟩) ?_
          rotate_left 1
          · (intro w9 h9; go_simp; try with_reducible rfl)
          simp only [List.setIfInBounds_toArray, List.set_cons_zero, List.set_cons_succ]
          refine wpSeq_take (v := ?_) 37 rfl rfl (fun _ _ _ h => h) (Or.inl ⟨rfl, ?_⟩) ?_
          rotate_left 1
          · (intro w9 h9; go_simp; try with_reducible rfl)
          simp only [List.setIfInBounds_toArray, List.set_cons_zero, List.set_cons_succ]
          refine wpSeq_take (v := ?_) 38 rfl rfl (fun _ _ _ h => h) (Or.inl ⟨rfl, ?_⟩) ?_
          rotate_left 1
          · (intro w9 h9; go_simp; try with_reducible rfl)
          simp only [List.setIfInBounds_toArray, List.set_cons_zero, List.set_cons_succ]
          refine wpSeq_next rfl rfl (fun K hK => ?_)
          go_wp2_with fail
          refine (refRot32_any _ 13 _ (by omega) (by omega)).mono ?_
          rintro e w' ⟨rfl, rfl⟩
          refine hK.out _ _ (fun _ => hs0) ?_
          clear hK K
          refine wpSeq_take (v := ?_) 40 rfl rfl (fun _ _ _ h => h) (Or.inl ⟨rfl, ?_⟩) ?_
          rotate_left 1
          · (intro w9 h9; go_simp; try with_reducible rfl)
          simp only [List.setIfInBounds_toArray, List.set_cons_zero, List.set_cons_succ]
          refine wpSeq_take (v := ?_) 41 rfl rfl (fun _ _ _ h => h) (Or.inl ⟨rfl, ?_⟩) ?_
          rotate_left 1
          · (intro w9 h9; go_simp; try with_reducible rfl)
          simp only [List.setIfInBounds_toArray, List.set_cons_zero, List.set_cons_succ]
          have hRow := box_row hBd
          have cx := hRow.c0
          have fx := hRow.fz 0
          refine wpSeq_next rfl rfl (fun K hK => ?_)
          go_wp2_with fail
          rw [roundF_def, num4_zero]
          obtain ⟨yy, hyy⟩ : ∃ yy, yy = roundF (s''.1) (num4 l' 0) := ⟨_, rfl⟩
          rw [← hyy]
          have HYY := Lib.hid hyy
          clear hyy
          refine hK.out _ _ (fun h => by simp at h) ?_
          clear hK K
          refine wpSeq_done ?_
          have hB3 := BoxAt.fr (box_put0 hB yy) (Fr.refl No _).drew (fun h => h)
          have hf3 := ((Fr.refl (fun x => x = w.heap.size + 2) wi).setCell (p := ⟨w.heap.size + 2, 0, none⟩) (.inl rfl) (.int .u32 (W32 yy))).no (Fr.refl No _).drew
          have hR3 := hR2.fr hf3 (by omega)
          have hf4 := hf2.trans hf3 (fun x hx => .inr (by omega))
          clear hs0 cq0 cx fx hRow hBd hy
          go_wp2_with fail
          go_roundw
          case rel =>
            refine ⟨1, (yy, s''.2.1, s''.2.2.1, s''.2.2.2), by omega, rfl, hB3, ?_, hR3, hf4⟩
            show _ = _
            rw [HYY.out, hs2.out]
            simp only [stepTo]
          case measure => simp [intOf]
        · have hy := (hb.no hf2)
          have cq0 := (box_row hB).c1
          have hBd : BoxAt wi.drew (w.heap.size + 2) s'' := hB.fr (Fr.refl No wi).drew (fun h => h)
          go_wp2_with fail
          refine wp_region_seq (by kernel_rfl) (fun w' => Fr No wi w') (fun i => decide (14 ≤ i)) [(0, 1), (1, 1), (2, 1), (3, 1), (4, 1), (5, 1), (6, 1), (7, 0), (8, 1), (9, 1), (10, 1), (11, 0), (12, 1), (13, 1), (14, 0)] (by kernel_rfl) (Fr.refl No wi).drew ?_
          have hs0 : Fr No wi wi.drew := (Fr.refl No wi).drew
          refine wpSeq_take (v := ?_) 28 rfl rfl (fun _ _ _ h => h) (Or.inl ⟨rfl, ?_⟩) ?_
          rotate_left 1
          · (intro w9 h9; go_simp; try with_reducible rfl)
          simp only [List.setIfInBounds_toArray, List.set_cons_zero, List.set_cons_succ]
          refine wpSeq_take (v := ?_) 29 rfl rfl (fun _ _ _ h => h) (Or.inl ⟨rfl, ?_⟩) ?_
          rotate_left 1
          · (intro w9 h9; go_simp; try with_reducible rfl)
          simp only [List.setIfInBounds_toArray, List.set_cons_zero, List.set_cons_succ]
          refine wpSeq_take (v := ?_) 30 rfl rfl (fun _ _ _ h => h) (Or.inl ⟨rfl, ?_⟩) ?_
          rotate_left 1
          · (intro w9 h9; go_simp; try with_reducible rfl)
          simp only [List.setIfInBounds_toArray, List.set_cons_zero, List.set_cons_succ]
          refine wpSeq_take (v := ?_) 31 rfl rfl (fun _ _ _ h => h) (Or.inl ⟨rfl, ?_⟩) ?_
          rotate_left 1
          · (intro w9 h9; have cq := h9.cell (fun h => h) cq0; clear h9; go_simp; try with_reducible rfl)
          simp only [List.setIfInBounds_toArray, List.set_cons_zero, List.set_cons_succ]
          refine wpSeq_take (v := ?_) 32 rfl rfl (fun _ _ _ h => h) (Or.inl ⟨rfl, ?_⟩) ?_
          rotate_left 1
          · (intro w9 h9; go_simp; try with_reducible rfl)
          simp only [List.setIfInBounds_toArray, List.set_cons_zero, List.set_cons_succ]
          refine wpSeq_take (v := ?_) 33 rfl rfl (fun _ _ _ h => h) (Or.inl ⟨rfl, ?_⟩) ?_
          rotate_left 1
          · (intro w9 h9; go_simp; try with_reducible rfl)
          simp only [List.setIfInBounds_toArray, List.set_cons_zero, List.set_cons_succ]
          refine wpSeq_take (v := ?_) 34 rfl rfl (fun _ _ _ h => h) (Or.inl ⟨rfl, ?_⟩) ?_
          rotate_left 1
          · (intro w9 h9; go_simp; try with_reducible rfl)
          simp only [List.setIfInBounds_toArray, List.set_cons_zero, List.set_cons_succ]
          refine wpSeq_next rfl rfl (fun K hK => ?_)
          go_wp2_with fail
          refine (refNum_any _ _ _ l' 4 4 _ (hy.no hs0) (by omega) (by omega) (by omega) (by omega)).mono ?_
          rintro e w' ⟨rfl, rfl⟩
          refine hK.out _ _ (fun _ => hs0) ?_
          clear hK K
          refine wpSeq_take (v := ?_) 36 rfl rfl (fun _ _ _ h => h) (Or.inl ⟨rfl, ?_⟩) ?_
          rotate_left 1
          · (intro w9 h9; go_simp; try with_reducible rfl)
          simp only [List.setIfInBounds_toArray, List.set_cons_zero, List.set_cons_succ]
          refine wpSeq_take (v := ?_) 37 rfl rfl (fun _ _ _ h => h) (Or.inl ⟨rfl, ?_⟩) ?_
          rotate_left 1
          · (intro w9 h9; go_simp; try with_reducible rfl)
          simp only [List.setIfInBounds_toArray, List.set_cons_zero, List.set_cons_succ]
          refine wpSeq_take (v := ?_) 38 rfl rfl (fun _ _ _ h => h) (Or.inl ⟨rfl, ?_⟩) ?_
          rotate_left 1
          · (intro w9 h9; go_simp; try with_reducible rfl)
          simp only [List.setIfInBounds_toArray, List.set_cons_zero, List.set_cons_succ]
          refine wpSeq_next rfl rfl (fun K hK => ?_)
          go_wp2_with fail
          refine (refRot32_any _ 13 _ (by omega) (by omega)).mono ?_
          rintro e w' ⟨rfl, rfl⟩
          refine hK.out _ _ (fun _ => hs0) ?_
          clear hK K
          refine wpSeq_take (v := ?_) 40 rfl rfl (fun _ _ _ h => h) (Or.inl ⟨rfl, ?_⟩) ?_
          rotate_left 1
          · (intro w9 h9; go_simp; try with_reducible rfl)
          simp only [List.setIfInBounds_toArray, List.set_cons_zero, List.set_cons_succ]
          refine wpSeq_take (v := ?_) 41 rfl rfl (fun _ _ _ h => h) (Or.inl ⟨rfl, ?_⟩) ?_
          rotate_left 1
          · (intro w9 h9; go_simp; try with_reducible rfl)
          simp only [List.setIfInBounds_toArray, List.set_cons_zero, List.set_cons_succ]
          have hRow := box_row hBd
          have cx := hRow.c1
          have fx := hRow.fz 1
          refine wpSeq_next rfl rfl (fun K hK => ?_)
          go_wp2_with fail
          rw [roundF_def, num4_def]
          obtain ⟨yy, hyy⟩ : ∃ yy, yy = roundF (s''.2.1) (num4 l' 4) := ⟨_, rfl⟩
          rw [← hyy]
          have HYY := Lib.hid hyy
          clear hyy
          refine hK.out _ _ (fun h => by simp at h) ?_
          clear hK K
          refine wpSeq_done ?_
          have hB3 := BoxAt.fr (box_put1 hB yy) (Fr.refl No _).drew (fun h => h)
          have hf3 := ((Fr.refl (fun x => x = w.heap.size + 2) wi).setCell (p := ⟨w.heap.size + 2, 1, none⟩) (.inl rfl) (.int .u32 (W32 yy))).no (Fr.refl No _).drew
          have hR3 := hR2.fr hf3 (by omega)
          have hf4 := hf2.trans hf3 (fun x hx => .inr (by omega))
          clear hs0 cq0 cx fx hRow hBd hy
          go_wp2_with fail
          go_roundw
          case rel =>
            refine ⟨2, (s''.1, yy, s''.2.2.1, s''.2.2.2), by omega, rfl, hB3, ?_, hR3, hf4⟩
            show _ = _
            rw [HYY.out, hs2.out]
            simp only [stepTo]
          case measure => simp [intOf]
        · have hy := (hb.no hf2)
          have cq0 := (box_row hB).c2
          have hBd : BoxAt wi.drew (w.heap.size + 2) s'' := hB.fr (Fr.refl No wi).drew (fun h => h)
          go_wp2_with fail
          refine wp_region_seq (by kernel_rfl) (fun w' => Fr No wi w') (fun i => decide (14 ≤ i)) [(0, 1), (1, 1), (2, 1), (3, 1), (4, 1), (5, 1), (6, 1), (7, 0), (8, 1), (9, 1), (10, 1), (11, 0), (12, 1), (13, 1), (14, 0)] (by kernel_rfl) (Fr.refl No wi).drew ?_
          have hs0 : Fr No wi wi.drew := (Fr.refl No wi).drew
          refine wpSeq_take (v := ?_) 28 rfl rfl (fun _ _ _ h => h) (Or.inl ⟨rfl, ?_⟩) ?_
          rotate_left 1
          · (intro w9 h9; go_simp; try with_reducible rfl)
          simp only [List.setIfInBounds_toArray, List.set_cons_zero, List.set_cons_succ]
          refine wpSeq_take (v := ?_) 29 rfl rfl (fun _ _ _ h => h) (Or.inl ⟨rfl, ?_⟩) ?_
          rotate_left 1
          · (intro w9 h9; go_simp; try with_reducible rfl)
          simp only [List.setIfInBounds_toArray, List.set_cons_zero, List.set_cons_succ]
          refine wpSeq_take (v := ?_) 30 rfl rfl (fun _ _ _ h => h) (Or.inl ⟨rfl, ?_⟩) ?_
          rotate_left 1
          · (intro w9 h9; go_simp; try with_reducible rfl)
          simp only [List.setIfInBounds_toArray, List.set_cons_zero, List.set_cons_succ]
          refine wpSeq_take (v := ?_) 31 rfl rfl (fun _ _ _ h => h) (Or.inl ⟨rfl, ?_⟩) ?_
          rotate_left 1
          · (intro w9 h9; have cq := h9.cell (fun h => h) cq0; clear h9; go_simp; try with_reducible rfl)
          simp only [List.setIfInBounds_toArray, List.set_cons_zero, List.set_cons_succ]
          refine wpSeq_take (v := ?_) 32 rfl rfl (fun _ _ _ h => h) (Or.inl ⟨rfl, ?_⟩) ?_
          rotate_left 1
          · (intro w9 h9; go_simp; try with_reducible rfl)
          simp only [List.setIfInBounds_toArray, List.set_cons_zero, List.set_cons_succ]
          refine wpSeq_take (v := ?_) 33 rfl rfl (fun _ _ _ h => h) (Or.inl ⟨rfl, ?_⟩) ?_
          rotate_left 1
          · (intro w9 h9; go_simp; try with_reducible rfl)
          simp only [List.setIfInBounds_toArray, List.set_cons_zero, List.set_cons_succ]
          refine wpSeq_take (v := ?_) 34 rfl rfl (fun _ _ _ h => h) (Or.inl ⟨rfl, ?_⟩) ?_
          rotate_left 1
          · (intro w9 h9; go_simp; try with_reducible rfl)
          simp only [List.setIfInBounds_toArray, List.set_cons_zero, List.set_cons_succ]
          refine wpSeq_next rfl rfl (fun K hK => ?_)
          go_wp2_with fail
          refine (refNum_any _ _ _ l' 8 4 _ (hy.no hs0) (by omega) (by omega) (by omega) (by omega)).mono ?_
          rintro e w' ⟨rfl, rfl⟩
          refine hK.out _ _ (fun _ => hs0) ?_
          clear hK K
          refine wpSeq_take (v := ?_) 36 rfl rfl (fun _ _ _ h => h) (Or.inl ⟨rfl, ?_⟩) ?_
          rotate_left 1
          · (intro w9 h9; go_simp; try with_reducible rfl)
          simp only [List.setIfInBounds_toArray, List.set_cons_zero, List.set_cons_succ]
          refine wpSeq_take (v := ?_) 37 rfl rfl (fun _ _ _ h => h) (Or.inl ⟨rfl, ?_⟩) ?_
          rotate_left 1
          · (intro w9 h9; go_simp; try with_reducible rfl)
          simp only [List.setIfInBounds_toArray, List.set_cons_zero, List.set_cons_succ]
          refine wpSeq_take (v := ?_) 38 rfl rfl (fun _ _ _ h => h) (Or.inl ⟨rfl, ?_⟩) ?_
          rotate_left 1
          · (intro w9 h9; go_simp; try with_reducible rfl)
          simp only [List.setIfInBounds_toArray, List.set_cons_zero, List.set_cons_succ]
          refine wpSeq_next rfl rfl (fun K hK => ?_)
          go_wp2_with fail
          refine (refRot32_any _ 13 _ (by omega) (by omega)).mono ?_
          rintro e w' ⟨rfl, rfl⟩
          refine hK.out _ _ (fun _ => hs0) ?_
          clear hK K
          refine wpSeq_take (v := ?_) 40 rfl rfl (fun _ _ _ h => h) (Or.inl ⟨rfl, ?_⟩) ?_
          rotate_left 1
          · (intro w9 h9; go_simp; try with_reducible rfl)
          simp only [List.setIfInBounds_toArray, List.set_cons_zero, List.set_cons_succ]
          refine wpSeq_take (v := ?_) 41 rfl rfl (fun _ _ _ h => h) (Or.inl ⟨rfl, ?_⟩) ?_
          rotate_left 1
          · (intro w9 h9; go_simp; try with_reducible rfl)
          simp only [List.setIfInBounds_toArray, List.set_cons_zero, List.set_cons_succ]
          have hRow := box_row hBd
          have cx := hRow.c2
          have fx := hRow.fz 2
          refine wpSeq_next rfl rfl (fun K hK => ?_)
          go_wp2_with fail
          rw [roundF_def, num4_def]
          obtain ⟨yy, hyy⟩ : ∃ yy, yy = roundF (s''.2.2.1) (num4 l' 8) := ⟨_, rfl⟩
          rw [← hyy]
          have HYY := Lib.hid hyy
          clear hyy
          refine hK.out _ _ (fun h => by simp at h) ?_
          clear hK K
          refine wpSeq_done ?_
          have hB3 := BoxAt.fr (box_put2 hB yy) (Fr.refl No _).drew (fun h => h)
          have hf3 := ((Fr.refl (fun x => x = w.heap.size + 2) wi).setCell (p := ⟨w.heap.size + 2, 2, none⟩) (.inl rfl) (.int .u32 (W32 yy))).no (Fr.refl No _).drew
          have hR3 := hR2.fr hf3 (by omega)
          have hf4 := hf2.trans hf3 (fun x hx => .inr (by omega))
          clear hs0 cq0 cx fx hRow hBd hy
          go_wp2_with fail
          go_roundw
          case rel =>
            refine ⟨3, (s''.1, s''.2.1, yy, s''.2.2.2), by omega, rfl, hB3, ?_, hR3, hf4⟩
            show _ = _
            rw [HYY.out, hs2.out]
            simp only [stepTo]
          case measure => simp [intOf]
        · have hy := (hb.no hf2)
          have cq0 := (box_row hB).c3
          have hBd : BoxAt wi.drew (w.heap.size + 2) s'' := hB.fr (Fr.refl No wi).drew (fun h => h)
          go_wp2_with fail
          refine wp_region_seq (by kernel_rfl) (fun w' => Fr No wi w') (fun i => decide (14 ≤ i)) [(0, 1), (1, 1), (2, 1), (3, 1), (4, 1), (5, 1), (6, 1), (7, 0), (8, 1), (9, 1), (10, 1), (11, 0), (12, 1), (13, 1), (14, 0)] (by kernel_rfl) (Fr.refl No wi).drew ?_
          have hs0 : Fr No wi wi.drew := (Fr.refl No wi).drew
          refine wpSeq_take (v := ?_) 28 rfl rfl (fun _ _ _ h => h) (Or.inl ⟨rfl, ?_⟩) ?_
          rotate_left 1
          · (intro w9 h9; go_simp; try with_reducible rfl)
          simp only [List.setIfInBounds_toArray, List.set_cons_zero, List.set_cons_succ]
          refine wpSeq_take (v := ?_) 29 rfl rfl (fun _ _ _ h => h) (Or.inl ⟨rfl, ?_⟩) ?_
          rotate_left 1
          · (intro w9 h9; go_simp; try with_reducible rfl)
          simp only [List.setIfInBounds_toArray, List.set_cons_zero, List.set_cons_succ]
          refine wpSeq_take (v := ?_) 30 rfl rfl (fun _ _ _ h => h) (Or.inl ⟨rfl, ?_⟩) ?_
          rotate_left 1
          · (intro w9 h9; go_simp; try with_reducible rfl)
          simp only [List.setIfInBounds_toArray, List.set_cons_zero, List.set_cons_succ]
          refine wpSeq_take (v := ?_) 31 rfl rfl (fun _ _ _ h => h) (Or.inl ⟨rfl, ?_⟩) ?_
          rotate_left 1
          · (intro w9 h9; have cq := h9.cell (fun h => h) cq0; clear h9; go_simp; try with_reducible rfl)
          simp only [List.setIfInBounds_toArray, List.set_cons_zero, List.set_cons_succ]
          refine wpSeq_take (v := ?_) 32 rfl rfl (fun _ _ _ h => h) (Or.inl ⟨rfl, ?_⟩) ?_
          rotate_left 1
          · (intro w9 h9; go_simp; try with_reducible rfl)
          simp only [List.setIfInBounds_toArray, List.set_cons_zero, List.set_cons_succ]
          refine wpSeq_take (v := ?_) 33 rfl rfl (fun _ _ _ h => h) (Or.inl ⟨rfl, ?_⟩) ?_
          rotate_left 1
          · (intro w9 h9; go_simp; try with_reducible rfl)
          simp only [List.setIfInBounds_toArray, List.set_cons_zero, List.set_cons_succ]
          refine wpSeq_take (v := ?_) 34 rfl rfl (fun _ _ _ h => h) (Or.inl ⟨rfl, ?_⟩) ?_
          rotate_left 1
          · (intro w9 h9; go_simp; try with_reducible rfl)
          simp only [List.setIfInBounds_toArray, List.set_cons_zero, List.set_cons_succ]
          refine wpSeq_next rfl rfl (fun K hK => ?_)
          go_wp2_with fail
          refine (refNum_any _ _ _ l' 12 4 _ (hy.no hs0) (by omega) (by omega) (by omega) (by omega)).mono ?_
          rintro e w' ⟨rfl, rfl⟩
          refine hK.out _ _ (fun _ => hs0) ?_
          clear hK K
          refine wpSeq_take (v := ?_) 36 rfl rfl (fun _ _ _ h => h) (Or.inl ⟨rfl, ?_⟩) ?_
          rotate_left 1
          · (intro w9 h9; go_simp; try with_reducible rfl)
          simp only [List.setIfInBounds_toArray, List.set_cons_zero, List.set_cons_succ]
          refine wpSeq_take (v := ?_) 37 rfl rfl (fun _ _ _ h => h) (Or.inl ⟨rfl, ?_⟩) ?_
          rotate_left 1
          · (intro w9 h9; go_simp; try with_reducible rfl)
          simp only [List.setIfInBounds_toArray, List.set_cons_zero, List.set_cons_succ]
          refine wpSeq_take (v := ?_) 38 rfl rfl (fun _ _ _ h => h) (Or.inl ⟨rfl, ?_⟩) ?_
          rotate_left 1
          · (intro w9 h9; go_simp; try with_reducible rfl)
          simp only [List.setIfInBounds_toArray, List.set_cons_zero, List.set_cons_succ]
          refine wpSeq_next rfl rfl (fun K hK => ?_)
          go_wp2_with fail
          refine (refRot32_any _ 13 _ (by omega) (by omega)).mono ?_
          rintro e w' ⟨rfl, rfl⟩
          refine hK.out _ _ (fun _ => hs0) ?_
          clear hK K
          refine wpSeq_take (v := ?_) 40 rfl rfl (fun _ _ _ h => h) (Or.inl ⟨rfl, ?_⟩) ?_
          rotate_left 1
          · (intro w9 h9; go_simp; try with_reducible rfl)
          simp only [List.setIfInBounds_toArray, List.set_cons_zero, List.set_cons_succ]
          refine wpSeq_take (v := ?_) 41 rfl rfl (fun _ _ _ h => h) (Or.inl ⟨rfl, ?_⟩) ?_
          rotate_left 1
          · (intro w9 h9; go_simp; try with_reducible rfl)
          simp only [List.setIfInBounds_toArray, List.set_cons_zero, List.set_cons_succ]
          have hRow := box_row hBd
          have cx := hRow.c3
          have fx := hRow.fz 3
          refine wpSeq_next rfl rfl (fun K hK => ?_)
          go_wp2_with fail
          rw [roundF_def, num4_def]
          obtain ⟨yy, hyy⟩ : ∃ yy, yy = roundF (s''.2.2.2) (num4 l' 12) := ⟨_, rfl⟩
          rw [← hyy]
          have HYY := Lib.hid hyy
          clear hyy
          refine hK.out _ _ (fun h => by simp at h) ?_
          clear hK K
          refine wpSeq_done ?_
          have hB3 := BoxAt.fr (box_put3 hB yy) (Fr.refl No _).drew (fun h => h)
          have hf3 := ((Fr.refl (fun x => x = w.heap.size + 2) wi).setCell (p := ⟨w.heap.size + 2, 3, none⟩) (.inl rfl) (.int .u32 (W32 yy))).no (Fr.refl No _).drew
          have hR3 := hR2.fr hf3 (by omega)
          have hf4 := hf2.trans hf3 (fun x hx => .inr (by omega))
          clear hs0 cq0 cx fx hRow hBd hy
          go_wp2_with fail
          go_roundw
          case rel =>
            refine ⟨4, (s''.1, s''.2.1, s''.2.2.1, yy), by omega, rfl, hB3, ?_, hR3, hf4⟩
            show _ = _
            rw [HYY.out, hs2.out]
            simp only [stepTo]
          case measure => simp [intOf]
        · have hcut := hb.cut_to_end 16 (n' := m - 16) (c' := c' - 16) hlt rfl rfl
          go_wp2_with fail
          go_roundw
          case rel =>
            refine ⟨m - 16, _, _, _, s'', rfl, hcut, fun w2 h2 => (hst w2 h2).cut_to_end 16 hlt rfl rfl, hB, hR2, hf2, ?_⟩
            show _ = _
            rw [← hr'.out, foldF_step (s := s') (l := l') (by omega) (by rw [hlen.out]; exact hlt), hs2.out, stepG_take]
          case measure => simp; omega
    · have i1 : (m : Int) < 16 := by omega
      have HS := Lib.hid (foldF_short (F := stepG) (size := 16) (s := s') (l := l') (by rw [hlen.out]; omega))
      have hRow := box_row hBx
      have cb0 := hRow.c0
      have cb1 := hRow.c1
      have cb2 := hRow.c2
      have cb3 := hRow.c3
      have cr0 := hRx.c0
      have cr1 := hRx.c1
      have cr2 := hRx.c2
      have cr3 := hRx.c3
      have fr0 := hRx.fz 0
      have fr1 := hRx.fz 1
      have fr2 := hRx.fz 2
      have fr3 := hRx.fz 3
      go_wp2_with fail
      have hF3 := fr_put4 wr (w.heap.size + 1) (.int .u64 (W64 (s'.1.setWidth 64))) (.int .u64 (W64 (s'.2.1.setWidth 64))) (.int .u64 (W64 (s'.2.2.1.setWidth 64))) (.int .u64 (W64 (s'.2.2.2.setWidth 64)))
      have hR3 := row_put4 hRx (.int .u64 (W64 (s'.1.setWidth 64))) (.int .u64 (W64 (s'.2.1.setWidth 64))) (.int .u64 (W64 (s'.2.2.1.setWidth 64))) (.int .u64 (W64 (s'.2.2.2.setWidth 64)))
      clear cr0 cr1 cr2 cr3 fr0 fr1 fr2 fr3
      generalize (((wr.setCell ⟨w.heap.size + 1, 0, none⟩ (.int .u64 (W64 (s'.1.setWidth 64)))).setCell ⟨w.heap.size + 1, 1, none⟩ (.int .u64 (W64 (s'.2.1.setWidth 64)))).setCell ⟨w.heap.size + 1, 2, none⟩ (.int .u64 (W64 (s'.2.2.1.setWidth 64)))).setCell ⟨w.heap.size + 1, 3, none⟩ (.int .u64 (W64 (s'.2.2.2.setWidth 64))) = w3 at hF3 hR3 ⊢
      have cd0 := hR3.c0
      have cd1 := hR3.c1
      have cd2 := hR3.c2
      have cd3 := hR3.c3
      have hFe : Fr No w w3 := hfx.trans hF3 (fun x hx => .inr (by omega))
      refine bodyPost_ret (v := .tuple #[lanesV s', .slice a' m c']) (by simp [results, Try.results35, go_sem, cd0, cd1, cd2, cd3, lanesV]) rfl ?_
      refine ⟨a', m, c', by rw [← hr'.out, HS.out], ?_, ?_, hFe⟩
      · rw [← hr'.out, HS.out]; exact hb.no hFe
      · rw [← hr'.out, HS.out]; exact hst
end Go.Proofs.Ytdemhnkkohnflab.StX32
