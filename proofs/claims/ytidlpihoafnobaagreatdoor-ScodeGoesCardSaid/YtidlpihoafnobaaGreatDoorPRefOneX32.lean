/- RefX32 RefEndX32 RefOneX32 -/
import Derived.Test.YtidlpihoafnobaaGreatDoorPEndX32
set_option linter.unusedVariables false
set_option linter.unusedSimpArgs false
namespace Go.Proofs.YtidlpihoafnobaaGreatDoor.StX32
set_option maxRecDepth 100000
open Go.Proofs.YtidlpihoafnobaaGreatDoor.StG32
open Go.RowKit
def GivesLanes (a : Option Addr) (n c : Nat) (l : Bytes) (r : ST × Bytes) (w : World) (e : Ending) (w' : World) : Prop :=
 ∃ a' n' c', e = .returned (.tuple #[lanesV r.1, .slice a' n' c']) ∧ IsBytes w' a' n' c' r.2 ∧ (∀ w2, IsBytes w2 a n c l → IsBytes w2 a' n' c' r.2) ∧ Fr No w w'
set_option maxHeartbeats 4000000 in
theorem refFrom_any (x0 x1 x2 x3 : BitVec 64) (s : ST) (a : Option Addr) (n c : Nat) (l : Bytes) (w : World) (hs : Hid (s = (x0.setWidth 32, x1.setWidth 32, x2.setWidth 32, x3.setWidth 32))) (h : IsBytes w a n c l) (hn : n ≤ 1099511627776) :
 Calls Tryz.prog 175 #[.agg #[.int .u64 (W64 x0), .int .u64 (W64 x1), .int .u64 (W64 x2), .int .u64 (W64 x3)], .slice a n c] w (GivesLanes a n c l (foldF stepG 16 s l) w) := by
 obtain ⟨r, hr⟩ : ∃ r, r = foldF stepG 16 s l := ⟨_, rfl⟩
 rw [← hr]
 have HR := Lib.hid hr
 clear hr
 have hF : Fr No w (((w.alloc (.cells #[.int .u64 (W64 x0), .int .u64 (W64 x1), .int .u64 (W64 x2), .int .u64 (W64 x3)] 31)).alloc (.cells #[.int .u64 0, .int .u64 0, .int .u64 0, .int .u64 0] 31)).alloc (.cells #[.int .u32 (W32 (x0.setWidth 32)), .int .u32 (W32 (x1.setWidth 32)), .int .u32 (W32 (x2.setWidth 32)), .int .u32 (W32 (x3.setWidth 32))] 123)) := (((Fr.refl No w).alloc _).alloc _).alloc _
 have hB0 : BoxAt (((w.alloc (.cells #[.int .u64 (W64 x0), .int .u64 (W64 x1), .int .u64 (W64 x2), .int .u64 (W64 x3)] 31)).alloc (.cells #[.int .u64 0, .int .u64 0, .int .u64 0, .int .u64 0] 31)).alloc (.cells #[.int .u32 (W32 (x0.setWidth 32)), .int .u32 (W32 (x1.setWidth 32)), .int .u32 (W32 (x2.setWidth 32)), .int .u32 (W32 (x3.setWidth 32))] 123)) (w.heap.size + 2) s := by
  have h0 := row4_new ((w.alloc (.cells #[.int .u64 (W64 x0), .int .u64 (W64 x1), .int .u64 (W64 x2), .int .u64 (W64 x3)] 31)).alloc (.cells #[.int .u64 0, .int .u64 0, .int .u64 0, .int .u64 0] 31)) 123 (.int .u32 (W32 (x0.setWidth 32))) (.int .u32 (W32 (x1.setWidth 32))) (.int .u32 (W32 (x2.setWidth 32))) (.int .u32 (W32 (x3.setWidth 32)))
  have e : ((w.alloc (.cells #[.int .u64 (W64 x0), .int .u64 (W64 x1), .int .u64 (W64 x2), .int .u64 (W64 x3)] 31)).alloc (.cells #[.int .u64 0, .int .u64 0, .int .u64 0, .int .u64 0] 31)).heap.size = w.heap.size + 2 := by simp
  rw [e] at h0
  rw [hs.out]
  exact row_box h0
 have hR0 : Row4 (((w.alloc (.cells #[.int .u64 (W64 x0), .int .u64 (W64 x1), .int .u64 (W64 x2), .int .u64 (W64 x3)] 31)).alloc (.cells #[.int .u64 0, .int .u64 0, .int .u64 0, .int .u64 0] 31)).alloc (.cells #[.int .u32 (W32 (x0.setWidth 32)), .int .u32 (W32 (x1.setWidth 32)), .int .u32 (W32 (x2.setWidth 32)), .int .u32 (W32 (x3.setWidth 32))] 123)) (w.heap.size + 1) 31 (.int .u64 0) (.int .u64 0) (.int .u64 0) (.int .u64 0) := Row4.no (heap_alloc2_new w _ _) ((Fr.refl No _).alloc _)
 go_enter Tryz.func175, Tryz.ntmps175
 go_wp2
 go_loopw [1] (fun v wr => ∃ m a' c' l' s', v = .slice a' m c' ∧ IsBytes w a' m c' l' ∧ (∀ w2, IsBytes w2 a n c l → IsBytes w2 a' m c' l') ∧ BoxAt wr (w.heap.size + 2) s' ∧ Row4 wr (w.heap.size + 1) 31 (.int .u64 0) (.int .u64 0) (.int .u64 0) (.int .u64 0) ∧ Fr No w wr ∧ Hid (foldF stepG 16 s' l' = r)) (fun v _ => match v with | .slice _ m _ => m | _ => 0)
 case atStart => exact ⟨n, a, c, l, s, rfl, h, fun _ h => h, hB0, hR0, hF, HR.out.symm⟩
 case round =>
  obtain ⟨m, a', c', l', s', rfl, hb, hst, hBx, hRx, hfx, hr'⟩ := hrel
  clear hF hB0 hR0
  have hlen := Lib.hid hb.1
  have hc : m ≤ c' := hb.2.1
  have hc2 : c' ≤ 9223372036854775807 := hb.2.2.1
  by_cases hlt : 16 ≤ m
  · have i1 : (16 : Int) ≤ (m : Int) := by omega
    have i2 : (16 : Int) ≤ (c' : Int) := by omega
    go_wp2_with fail
    obtain ⟨wo, rfl⟩ : ∃ wo : World, wo = wr := ⟨_, rfl⟩
    go_loopw [7] (fun i wi => ∃ (k : Nat) (s'' : ST), k ≤ 4 ∧ i = .int .i64 k ∧ BoxAt wi (w.heap.size + 2) s'' ∧ Hid (s'' = stepTo s' l' k) ∧ Row4 wi (w.heap.size + 1) 31 (.int .u64 0) (.int .u64 0) (.int .u64 0) (.int .u64 0) ∧ Fr No w wi) (fun i _ => 4 - (intOf i).toNat)
    case atStart => exact ⟨0, s', by omega, rfl, hBx, rfl, hRx, hfx⟩
    case round =>
     obtain ⟨k, s'', hk, rfl, hB, hs2, hR2, hf2⟩ := hrel
     clear hBx hRx hfx
     obtain ⟨wi, rfl⟩ : ∃ wi : World, wi = wr := ⟨_, rfl⟩
     rcases (show k = 0 ∨ k = 1 ∨ k = 2 ∨ k = 3 ∨ k = 4 by omega) with rfl | rfl | rfl | rfl | rfl
     · have hy := (hb.no hf2)
       have cq0 := (box_row hB).c0
       have hBd : BoxAt wi.drew (w.heap.size + 2) s'' := hB.fr (Fr.refl No wi).drew (fun h => h)
       go_wp2_with fail
       refine wp_region_seq (by kernel_rfl) (fun w' => Fr No wi w') (fun i => decide (14 ≤ i)) [(0, 1), (1, 1), (2, 1), (3, 1), (4, 1), (5, 1), (6, 1), (7, 0), (8, 1), (9, 1), (10, 1), (11, 0), (12, 1), (13, 1), (14, 0)] (by kernel_rfl) (Fr.refl No wi).drew ?_
       have hs0 : Fr No wi wi.drew := (Fr.refl No wi).drew
       iterate 7 refine tq _ rfl rfl (by intro w9 h9; have cq := h9.cell (fun h => h) cq0; clear h9; go_simp; try with_reducible rfl) ?_; simp only [es1, es2, es3]
       refine wpSeq_next rfl rfl (fun K hK => ?_)
       go_wp2_with fail
       refine (refNum_any _ _ _ l' 0 4 _ (hy.no hs0) (by omega) (by omega) (by omega) (by omega)).mono ?_
       rintro e w' ⟨rfl, rfl⟩
       refine hK.out _ _ (fun _ => hs0) ?_
       clear hK K
       iterate 3 refine tp _ rfl rfl ?_; simp only [es1, es2, es3]
       refine wpSeq_next rfl rfl (fun K hK => ?_)
       go_wp2_with fail
       refine (refRot32_any _ 13 _ (by omega) (by omega)).mono ?_
       rintro e w' ⟨rfl, rfl⟩
       refine hK.out _ _ (fun _ => hs0) ?_
       clear hK K
       iterate 2 refine tp _ rfl rfl ?_; simp only [es1, es2, es3]
       have hRow := box_row hBd
       have cx := hRow.c0
       have fx := hRow.fz 0
       refine wpSeq_next rfl rfl (fun K hK => ?_)
       go_wp2_with fail
       rw [roundF_def, num4_zero]
       obtain ⟨yy, hyy⟩ : ∃ yy, yy = roundF (s''.1) (num4 l' 0) := ⟨_, rfl⟩
       rw [← hyy]
       have HYY := Lib.hid hyy
       clear hyy
       refine hK.out _ _ (fun h => by simp at h) ?_
       clear hK K
       refine wpSeq_done ?_
       have hB3 := BoxAt.fr (box_put0 hB yy) (Fr.refl No _).drew (fun h => h)
       have hf3 := ((Fr.refl (fun x => x = w.heap.size + 2) wi).setCell (p := ⟨w.heap.size + 2, 0, none⟩) (.inl rfl) (.int .u32 (W32 yy))).no (Fr.refl No _).drew
       have hR3 := hR2.fr hf3 (by omega)
       have hf4 := hf2.trans hf3 (fun x hx => .inr (by omega))
       clear hs0 cq0 cx fx hRow hBd hy
       go_wp2_with fail
       go_roundw
       case rel =>
        refine ⟨1, (yy, s''.2.1, s''.2.2.1, s''.2.2.2), by omega, rfl, hB3, ?_, hR3, hf4⟩
        show _ = _
        rw [HYY.out, hs2.out]
        simp only [stepTo]
       case measure => simp [intOf]
     · have hy := (hb.no hf2)
       have cq0 := (box_row hB).c1
       have hBd : BoxAt wi.drew (w.heap.size + 2) s'' := hB.fr (Fr.refl No wi).drew (fun h => h)
       go_wp2_with fail
       refine wp_region_seq (by kernel_rfl) (fun w' => Fr No wi w') (fun i => decide (14 ≤ i)) [(0, 1), (1, 1), (2, 1), (3, 1), (4, 1), (5, 1), (6, 1), (7, 0), (8, 1), (9, 1), (10, 1), (11, 0), (12, 1), (13, 1), (14, 0)] (by kernel_rfl) (Fr.refl No wi).drew ?_
       have hs0 : Fr No wi wi.drew := (Fr.refl No wi).drew
       iterate 7 refine tq _ rfl rfl (by intro w9 h9; have cq := h9.cell (fun h => h) cq0; clear h9; go_simp; try with_reducible rfl) ?_; simp only [es1, es2, es3]
       refine wpSeq_next rfl rfl (fun K hK => ?_)
       go_wp2_with fail
       refine (refNum_any _ _ _ l' 4 4 _ (hy.no hs0) (by omega) (by omega) (by omega) (by omega)).mono ?_
       rintro e w' ⟨rfl, rfl⟩
       refine hK.out _ _ (fun _ => hs0) ?_
       clear hK K
       iterate 3 refine tp _ rfl rfl ?_; simp only [es1, es2, es3]
       refine wpSeq_next rfl rfl (fun K hK => ?_)
       go_wp2_with fail
       refine (refRot32_any _ 13 _ (by omega) (by omega)).mono ?_
       rintro e w' ⟨rfl, rfl⟩
       refine hK.out _ _ (fun _ => hs0) ?_
       clear hK K
       iterate 2 refine tp _ rfl rfl ?_; simp only [es1, es2, es3]
       have hRow := box_row hBd
       have cx := hRow.c1
       have fx := hRow.fz 1
       refine wpSeq_next rfl rfl (fun K hK => ?_)
       go_wp2_with fail
       rw [roundF_def, num4_def]
       obtain ⟨yy, hyy⟩ : ∃ yy, yy = roundF (s''.2.1) (num4 l' 4) := ⟨_, rfl⟩
       rw [← hyy]
       have HYY := Lib.hid hyy
       clear hyy
       refine hK.out _ _ (fun h => by simp at h) ?_
       clear hK K
       refine wpSeq_done ?_
       have hB3 := BoxAt.fr (box_put1 hB yy) (Fr.refl No _).drew (fun h => h)
       have hf3 := ((Fr.refl (fun x => x = w.heap.size + 2) wi).setCell (p := ⟨w.heap.size + 2, 1, none⟩) (.inl rfl) (.int .u32 (W32 yy))).no (Fr.refl No _).drew
       have hR3 := hR2.fr hf3 (by omega)
       have hf4 := hf2.trans hf3 (fun x hx => .inr (by omega))
       clear hs0 cq0 cx fx hRow hBd hy
       go_wp2_with fail
       go_roundw
       case rel =>
        refine ⟨2, (s''.1, yy, s''.2.2.1, s''.2.2.2), by omega, rfl, hB3, ?_, hR3, hf4⟩
        show _ = _
        rw [HYY.out, hs2.out]
        simp only [stepTo]
       case measure => simp [intOf]
     · have hy := (hb.no hf2)
       have cq0 := (box_row hB).c2
       have hBd : BoxAt wi.drew (w.heap.size + 2) s'' := hB.fr (Fr.refl No wi).drew (fun h => h)
       go_wp2_with fail
       refine wp_region_seq (by kernel_rfl) (fun w' => Fr No wi w') (fun i => decide (14 ≤ i)) [(0, 1), (1, 1), (2, 1), (3, 1), (4, 1), (5, 1), (6, 1), (7, 0), (8, 1), (9, 1), (10, 1), (11, 0), (12, 1), (13, 1), (14, 0)] (by kernel_rfl) (Fr.refl No wi).drew ?_
       have hs0 : Fr No wi wi.drew := (Fr.refl No wi).drew
       iterate 7 refine tq _ rfl rfl (by intro w9 h9; have cq := h9.cell (fun h => h) cq0; clear h9; go_simp; try with_reducible rfl) ?_; simp only [es1, es2, es3]
       refine wpSeq_next rfl rfl (fun K hK => ?_)
       go_wp2_with fail
       refine (refNum_any _ _ _ l' 8 4 _ (hy.no hs0) (by omega) (by omega) (by omega) (by omega)).mono ?_
       rintro e w' ⟨rfl, rfl⟩
       refine hK.out _ _ (fun _ => hs0) ?_
       clear hK K
       iterate 3 refine tp _ rfl rfl ?_; simp only [es1, es2, es3]
       refine wpSeq_next rfl rfl (fun K hK => ?_)
       go_wp2_with fail
       refine (refRot32_any _ 13 _ (by omega) (by omega)).mono ?_
       rintro e w' ⟨rfl, rfl⟩
       refine hK.out _ _ (fun _ => hs0) ?_
       clear hK K
       iterate 2 refine tp _ rfl rfl ?_; simp only [es1, es2, es3]
       have hRow := box_row hBd
       have cx := hRow.c2
       have fx := hRow.fz 2
       refine wpSeq_next rfl rfl (fun K hK => ?_)
       go_wp2_with fail
       rw [roundF_def, num4_def]
       obtain ⟨yy, hyy⟩ : ∃ yy, yy = roundF (s''.2.2.1) (num4 l' 8) := ⟨_, rfl⟩
       rw [← hyy]
       have HYY := Lib.hid hyy
       clear hyy
       refine hK.out _ _ (fun h => by simp at h) ?_
       clear hK K
       refine wpSeq_done ?_
       have hB3 := BoxAt.fr (box_put2 hB yy) (Fr.refl No _).drew (fun h => h)
       have hf3 := ((Fr.refl (fun x => x = w.heap.size + 2) wi).setCell (p := ⟨w.heap.size + 2, 2, none⟩) (.inl rfl) (.int .u32 (W32 yy))).no (Fr.refl No _).drew
       have hR3 := hR2.fr hf3 (by omega)
       have hf4 := hf2.trans hf3 (fun x hx => .inr (by omega))
       clear hs0 cq0 cx fx hRow hBd hy
       go_wp2_with fail
       go_roundw
       case rel =>
        refine ⟨3, (s''.1, s''.2.1, yy, s''.2.2.2), by omega, rfl, hB3, ?_, hR3, hf4⟩
        show _ = _
        rw [HYY.out, hs2.out]
        simp only [stepTo]
       case measure => simp [intOf]
     · have hy := (hb.no hf2)
       have cq0 := (box_row hB).c3
       have hBd : BoxAt wi.drew (w.heap.size + 2) s'' := hB.fr (Fr.refl No wi).drew (fun h => h)
       go_wp2_with fail
       refine wp_region_seq (by kernel_rfl) (fun w' => Fr No wi w') (fun i => decide (14 ≤ i)) [(0, 1), (1, 1), (2, 1), (3, 1), (4, 1), (5, 1), (6, 1), (7, 0), (8, 1), (9, 1), (10, 1), (11, 0), (12, 1), (13, 1), (14, 0)] (by kernel_rfl) (Fr.refl No wi).drew ?_
       have hs0 : Fr No wi wi.drew := (Fr.refl No wi).drew
       iterate 7 refine tq _ rfl rfl (by intro w9 h9; have cq := h9.cell (fun h => h) cq0; clear h9; go_simp; try with_reducible rfl) ?_; simp only [es1, es2, es3]
       refine wpSeq_next rfl rfl (fun K hK => ?_)
       go_wp2_with fail
       refine (refNum_any _ _ _ l' 12 4 _ (hy.no hs0) (by omega) (by omega) (by omega) (by omega)).mono ?_
       rintro e w' ⟨rfl, rfl⟩
       refine hK.out _ _ (fun _ => hs0) ?_
       clear hK K
       iterate 3 refine tp _ rfl rfl ?_; simp only [es1, es2, es3]
       refine wpSeq_next rfl rfl (fun K hK => ?_)
       go_wp2_with fail
       refine (refRot32_any _ 13 _ (by omega) (by omega)).mono ?_
       rintro e w' ⟨rfl, rfl⟩
       refine hK.out _ _ (fun _ => hs0) ?_
       clear hK K
       iterate 2 refine tp _ rfl rfl ?_; simp only [es1, es2, es3]
       have hRow := box_row hBd
       have cx := hRow.c3
       have fx := hRow.fz 3
       refine wpSeq_next rfl rfl (fun K hK => ?_)
       go_wp2_with fail
       rw [roundF_def, num4_def]
       obtain ⟨yy, hyy⟩ : ∃ yy, yy = roundF (s''.2.2.2) (num4 l' 12) := ⟨_, rfl⟩
       rw [← hyy]
       have HYY := Lib.hid hyy
       clear hyy
       refine hK.out _ _ (fun h => by simp at h) ?_
       clear hK K
       refine wpSeq_done ?_
       have hB3 := BoxAt.fr (box_put3 hB yy) (Fr.refl No _).drew (fun h => h)
       have hf3 := ((Fr.refl (fun x => x = w.heap.size + 2) wi).setCell (p := ⟨w.heap.size + 2, 3, none⟩) (.inl rfl) (.int .u32 (W32 yy))).no (Fr.refl No _).drew
       have hR3 := hR2.fr hf3 (by omega)
       have hf4 := hf2.trans hf3 (fun x hx => .inr (by omega))
       clear hs0 cq0 cx fx hRow hBd hy
       go_wp2_with fail
       go_roundw
       case rel =>
        refine ⟨4, (s''.1, s''.2.1, s''.2.2.1, yy), by omega, rfl, hB3, ?_, hR3, hf4⟩
        show _ = _
        rw [HYY.out, hs2.out]
        simp only [stepTo]
       case measure => simp [intOf]
     · have hcut := hb.cut_to_end 16 (n' := m - 16) (c' := c' - 16) hlt rfl rfl
       go_wp2_with fail
       go_roundw
       case rel =>
        refine ⟨m - 16, _, _, _, s'', rfl, hcut, fun w2 h2 => (hst w2 h2).cut_to_end 16 hlt rfl rfl, hB, hR2, hf2, ?_⟩
        show _ = _
        rw [← hr'.out, foldF_step (s := s') (l := l') (by omega) (by rw [hlen.out]; exact hlt), hs2.out, stepG_take]
       case measure => simp; omega
  · have i1 : (m : Int) < 16 := by omega
    have HS := Lib.hid (foldF_short (F := stepG) (size := 16) (s := s') (l := l') (by rw [hlen.out]; omega))
    have hRow := box_row hBx
    have cb0 := hRow.c0
    have cb1 := hRow.c1
    have cb2 := hRow.c2
    have cb3 := hRow.c3
    have cr0 := hRx.c0
    have cr1 := hRx.c1
    have cr2 := hRx.c2
    have cr3 := hRx.c3
    have fr0 := hRx.fz 0
    have fr1 := hRx.fz 1
    have fr2 := hRx.fz 2
    have fr3 := hRx.fz 3
    go_wp2_with fail
    have hF3 := fr_put4 wr (w.heap.size + 1) (.int .u64 (W64 (s'.1.setWidth 64))) (.int .u64 (W64 (s'.2.1.setWidth 64))) (.int .u64 (W64 (s'.2.2.1.setWidth 64))) (.int .u64 (W64 (s'.2.2.2.setWidth 64)))
    have hR3 := row_put4 hRx (.int .u64 (W64 (s'.1.setWidth 64))) (.int .u64 (W64 (s'.2.1.setWidth 64))) (.int .u64 (W64 (s'.2.2.1.setWidth 64))) (.int .u64 (W64 (s'.2.2.2.setWidth 64)))
    clear cr0 cr1 cr2 cr3 fr0 fr1 fr2 fr3
    generalize (((wr.setCell ⟨w.heap.size + 1, 0, none⟩ (.int .u64 (W64 (s'.1.setWidth 64)))).setCell ⟨w.heap.size + 1, 1, none⟩ (.int .u64 (W64 (s'.2.1.setWidth 64)))).setCell ⟨w.heap.size + 1, 2, none⟩ (.int .u64 (W64 (s'.2.2.1.setWidth 64)))).setCell ⟨w.heap.size + 1, 3, none⟩ (.int .u64 (W64 (s'.2.2.2.setWidth 64))) = w3 at hF3 hR3 ⊢
    have cd0 := hR3.c0
    have cd1 := hR3.c1
    have cd2 := hR3.c2
    have cd3 := hR3.c3
    have hFe : Fr No w w3 := hfx.trans hF3 (fun x hx => .inr (by omega))
    refine bodyPost_ret (v := .tuple #[lanesV s', .slice a' m c']) (by simp [results, Tryz.results175, go_sem, cd0, cd1, cd2, cd3, lanesV]) rfl ?_
    refine ⟨a', m, c', by rw [← hr'.out, HS.out], ?_, ?_, hFe⟩
    · rw [← hr'.out, HS.out]; exact hb.no hFe
    · rw [← hr'.out, HS.out]; exact hst
end Go.Proofs.YtidlpihoafnobaaGreatDoor.StX32
namespace Go.Proofs.YtidlpihoafnobaaGreatDoor.StX32
set_option maxRecDepth 100000
open Go.Proofs.YtidlpihoafnobaaGreatDoor.StG32
open Go.RowKit
theorem g1_def2 (h : BitVec 32) (b : BitVec 8) : rotl32 (h + BitVec.setWidth 32 b * 374761393#32) 11 * 2654435761#32 = g1 h b := rfl
set_option maxHeartbeats 2000000 in
theorem refEnd_short (sd : BitVec 32) (x0 x1 x2 x3 : BitVec 64) (s : ST) (a : Option Addr) (n c : Nat) (l : Bytes) (lo : BitVec 64) (w : World) (hs : Hid (s = (x0.setWidth 32, x1.setWidth 32, x2.setWidth 32, x3.setWidth 32))) (hb : IsBytes w a n c l) (hlo : W64 lo < 16) : Calls Tryz.prog 37 #[.int .u32 (W32 sd), .agg #[.int .u64 (W64 x0), .int .u64 (W64 x1), .int .u64 (W64 x2), .int .u64 (W64 x3)], .slice a n c, .int .u64 (W64 lo)] w (GivesNew (.int .u32 (W32 (endF sd s l lo))) w) := by
 have hf0 : Fr No w (w.alloc (.cells #[.int .u64 (W64 x0), .int .u64 (W64 x1), .int .u64 (W64 x2), .int .u64 (W64 x3)] 31)) := (Fr.refl No w).alloc _
 have hR := row4_new w 31 (.int .u64 (W64 x0)) (.int .u64 (W64 x1)) (.int .u64 (W64 x2)) (.int .u64 (W64 x3))
 have hH : headF sd s lo = sd + 374761393#32 := by unfold headF; rw [if_neg (by omega)]
 unfold endF
 rw [hH]
 generalize hr : restF (sd + 374761393#32 + lo.setWidth 32) l = r
 have HR := Lib.hid hr
 clear hr hH
 go_enter Tryz.func37, Tryz.ntmps37
 go_wp2_with fail
 generalize w.heap.size = pb at hR ⊢
 generalize w.alloc (.cells #[.int .u64 (W64 x0), .int .u64 (W64 x1), .int .u64 (W64 x2), .int .u64 (W64 x3)] 31) = w0 at hf0 hR ⊢
 have hf1 := hf0
 go_loopw [2, 9] (fun v u wr => ∃ m a' c' l' h', v = .slice a' m c' ∧ u = .int .u32 (W32 h') ∧ IsBytes w a' m c' l' ∧ Fr No w wr ∧ Hid (restF h' l' = r)) (fun v _ _ => match v with | .slice _ m _ => m | _ => 0)
 case atStart => exact ⟨n, a, c, l, _, rfl, by first | rfl | rw [mod32], hb, hf1, HR⟩
 case round =>
  obtain ⟨m, a', c', l', h', rfl, rfl, hb', hfr, hr'⟩ := hrel
  have hlen := Lib.hid hb'.1
  have hc : m ≤ c' := hb'.2.1
  have hc2 : c' ≤ 9223372036854775807 := hb'.2.2.1
  have hy := hb'.no hfr
  by_cases hlt : 4 ≤ m
  · have i2 : (4 : Int) ≤ (c' : Int) := by omega
    have i3 : (4 : Int) ≤ (m : Int) := by omega
    have hbig := Lib.hid (restF_big (h := h') (l := l') (by rw [hlen.out]; exact hlt))
    have hcut := hb'.cut_to_end 4 (n' := m - 4) (c' := c' - 4) hlt rfl rfl
    go_wp2_with fail
    refine (refNum_any _ _ _ l' 0 4 _ hy (by omega) (by omega) (by omega) (by omega)).mono ?_
    rintro e w' ⟨rfl, rfl⟩
    go_wp2_with fail
    refine (refRot32_any _ 17 _ (by omega) (by omega)).mono ?_
    rintro e w' ⟨rfl, rfl⟩
    go_wp2_with fail
    go_roundw
    case rel =>
     refine ⟨m - 4, _, _, _, g4 h' (l'.take 4), rfl, ?_, hcut, hfr, (by show _ = _; rw [← hr'.out, hbig.out])⟩
     rw [g4_take, ← g4_def]
    case measure => simp; omega
  · have hbl : Hid (l'.foldl g1 h' = r) := by show _ = _; rw [← restF_small (by rw [hlen.out]; omega), hr'.out]
    have i3 : (m : Int) < 4 := by omega
    clear hr'
    go_wp2_with fail
    obtain ⟨wo, rfl⟩ : ∃ wo : World, wo = wr := ⟨_, rfl⟩
    go_loopw [9, 52] (fun u i wr => ∃ (k : Nat) (h2 : BitVec 32), k ≤ m ∧ i = .int .i64 k ∧ u = .int .u32 (W32 h2) ∧ Fr No w wr ∧ Hid ((l'.drop k).foldl g1 h2 = r)) (fun _ i _ => m - (intOf i).toNat)
    case atStart => exact ⟨0, h', by omega, rfl, rfl, hfr, by show _ = _; rw [List.drop_zero]; exact hbl.out⟩
    case round =>
     obtain ⟨k, h2, hk, rfl, rfl, hf2, hr2⟩ := hrel
     clear hfr hbl
     by_cases hkm : k < m
     · have i4 : (k : Int) < (m : Int) := by omega
       have hkl : k < l'.length := by rw [hlen.out]; exact hkm
       obtain ⟨b, off, rfl, hcell⟩ := (hb'.no hf2).known (by omega)
       have hc0 := hcell k hkm
       have hd := Lib.hid (List.drop_eq_getElem_cons hkl)
       clear hcell
       go_wp2_with fail
       refine (refRot32_any _ 11 _ (by omega) (by omega)).mono ?_
       rintro e w' ⟨rfl, rfl⟩
       go_wp2_with fail
       go_roundw
       case rel =>
        refine ⟨k + 1, g1 h2 l'[k], by omega, rfl, by rw [g1_def2], hf2, ?_⟩
        show _ = _
        rw [← hr2.out, hd.out, List.foldl_cons]
       case measure => simp only [intOf, Int.toNat_natCast]; omega
     · have hkm2 : k = m := by omega
       subst hkm2
       have i4 : ¬ (k : Int) < (k : Int) := by omega
       have hh : h2 = r := by have := hr2.out; rw [List.drop_eq_nil_of_le (by rw [hlen.out]; exact Nat.le_refl _)] at this; exact this
       rw [hh]
       clear hh hr2
       go_wp2_with fail
       go_ret
       exact ⟨by unfold avalF; rfl, hf2⟩
def sumTo (s : ST) : Nat → BitVec 32
 | 0 => 0#32
 | 1 => rotl32 s.1 1
 | 2 => rotl32 s.1 1 + rotl32 s.2.1 7
 | 3 => rotl32 s.1 1 + rotl32 s.2.1 7 + rotl32 s.2.2.1 12
 | _ => rotl32 s.1 1 + rotl32 s.2.1 7 + rotl32 s.2.2.1 12 + rotl32 s.2.2.2 18
set_option maxHeartbeats 2000000 in
theorem refEnd_long (sd : BitVec 32) (x0 x1 x2 x3 : BitVec 64) (s : ST) (a : Option Addr) (n c : Nat) (l : Bytes) (lo : BitVec 64) (w : World) (hs : Hid (s = (x0.setWidth 32, x1.setWidth 32, x2.setWidth 32, x3.setWidth 32))) (hb : IsBytes w a n c l) (hlo : 16 ≤ W64 lo) : Calls Tryz.prog 37 #[.int .u32 (W32 sd), .agg #[.int .u64 (W64 x0), .int .u64 (W64 x1), .int .u64 (W64 x2), .int .u64 (W64 x3)], .slice a n c, .int .u64 (W64 lo)] w (GivesNew (.int .u32 (W32 (endF sd s l lo))) w) := by
 have hf0 : Fr No w (w.alloc (.cells #[.int .u64 (W64 x0), .int .u64 (W64 x1), .int .u64 (W64 x2), .int .u64 (W64 x3)] 31)) := (Fr.refl No w).alloc _
 have hR := row4_new w 31 (.int .u64 (W64 x0)) (.int .u64 (W64 x1)) (.int .u64 (W64 x2)) (.int .u64 (W64 x3))
 have hH : headF sd s lo = sumF s := by unfold headF; rw [if_pos hlo]
 unfold endF
 rw [hH]
 generalize hr : restF (sumF s + lo.setWidth 32) l = r
 have HR := Lib.hid hr
 clear hr hH
 go_enter Tryz.func37, Tryz.ntmps37
 go_wp2_with fail
 generalize w.heap.size = pb at hR ⊢
 generalize w.alloc (.cells #[.int .u64 (W64 x0), .int .u64 (W64 x1), .int .u64 (W64 x2), .int .u64 (W64 x3)] 31) = w0 at hf0 hR ⊢
 go_loopw [9, 10] (fun u i wr => ∃ k : Nat, k ≤ 4 ∧ i = .int .i64 k ∧ u = .int .u32 (W32 (sumTo s k)) ∧ Fr No w0 wr) (fun _ i _ => 4 - (intOf i).toNat)
 case atStart => exact ⟨0, by omega, rfl, rfl, Fr.refl No w0⟩
 case round =>
  obtain ⟨k, hk, rfl, rfl, hfi⟩ := hrel
  obtain ⟨wi, rfl⟩ : ∃ wi : World, wi = wr := ⟨_, rfl⟩
  rcases (show k = 0 ∨ k = 1 ∨ k = 2 ∨ k = 3 ∨ k = 4 by omega) with rfl | rfl | rfl | rfl | rfl
  · have hRw := hR.no hfi
    go_wp2_with fail
    refine rsq (by kernel_rfl) [(0, 1), (1, 1), (2, 1), (3, 1), (4, 1), (6, 1), (5, 0), (7, 1), (8, 0), (9, 0), (10, 1), (11, 1)] (by kernel_rfl) ?_
    have hv0 : Fr No wi wi.drew := (Fr.refl No wi).drew
    iterate 6 refine tq _ rfl rfl (by intro w9 h9; have q0 := (hRw.no h9).c0; clear h9; go_simp; try with_reducible rfl) ?_; simp only [es1, es2, es3]
    have hv1 : Fr No wi (wi.alloc (.cells #[.int .i64 1, .int .i64 7, .int .i64 12, .int .i64 18] 3)).drew := ((Fr.refl No wi).alloc _).drew
    refine wpSeq_next rfl rfl (fun K hK => ?_)
    go_wp2_with fail
    refine hK.out _ _ (fun _ => hv1) ?_
    clear hK K
    refine tp _ rfl rfl ?_; simp only [es1, es2, es3]
    refine wpSeq_next rfl rfl (fun K hK => ?_)
    go_wp2_with fail
    refine hK.out _ _ (fun _ => hv1) ?_
    clear hK K
    refine wpSeq_next rfl rfl (fun K hK => ?_)
    go_wp2_with fail
    refine (refRot32_any _ 1 _ (by omega) (by omega)).mono ?_
    rintro e w' ⟨rfl, rfl⟩
    refine hK.out _ _ (fun _ => hv1) ?_
    clear hK K
    iterate 2 refine tp _ rfl rfl ?_; simp only [es1, es2, es3]
    refine wpSeq_done ?_
    clear hRw
    go_wp2_with fail
    go_roundw
    case rel =>
     refine ⟨1, by omega, by simp, ?_, hfi.no hv1⟩
     simp only [sumTo]
     rw [hs.out]
     try simp
    case measure => simp [intOf]
  · have hRw := hR.no hfi
    go_wp2_with fail
    refine rsq (by kernel_rfl) [(0, 1), (1, 1), (2, 1), (3, 1), (4, 1), (6, 1), (5, 0), (7, 1), (8, 0), (9, 0), (10, 1), (11, 1)] (by kernel_rfl) ?_
    have hv0 : Fr No wi wi.drew := (Fr.refl No wi).drew
    iterate 6 refine tq _ rfl rfl (by intro w9 h9; have q1 := (hRw.no h9).c1; clear h9; go_simp; try with_reducible rfl) ?_; simp only [es1, es2, es3]
    have hv1 : Fr No wi (wi.alloc (.cells #[.int .i64 1, .int .i64 7, .int .i64 12, .int .i64 18] 3)).drew := ((Fr.refl No wi).alloc _).drew
    refine wpSeq_next rfl rfl (fun K hK => ?_)
    go_wp2_with fail
    refine hK.out _ _ (fun _ => hv1) ?_
    clear hK K
    refine tp _ rfl rfl ?_; simp only [es1, es2, es3]
    refine wpSeq_next rfl rfl (fun K hK => ?_)
    go_wp2_with fail
    refine hK.out _ _ (fun _ => hv1) ?_
    clear hK K
    refine wpSeq_next rfl rfl (fun K hK => ?_)
    go_wp2_with fail
    refine (refRot32_any _ 7 _ (by omega) (by omega)).mono ?_
    rintro e w' ⟨rfl, rfl⟩
    refine hK.out _ _ (fun _ => hv1) ?_
    clear hK K
    iterate 2 refine tp _ rfl rfl ?_; simp only [es1, es2, es3]
    refine wpSeq_done ?_
    clear hRw
    go_wp2_with fail
    go_roundw
    case rel =>
     refine ⟨2, by omega, by simp, ?_, hfi.no hv1⟩
     simp only [sumTo]
     rw [hs.out]
     try simp
    case measure => simp [intOf]
  · have hRw := hR.no hfi
    go_wp2_with fail
    refine rsq (by kernel_rfl) [(0, 1), (1, 1), (2, 1), (3, 1), (4, 1), (6, 1), (5, 0), (7, 1), (8, 0), (9, 0), (10, 1), (11, 1)] (by kernel_rfl) ?_
    have hv0 : Fr No wi wi.drew := (Fr.refl No wi).drew
    iterate 6 refine tq _ rfl rfl (by intro w9 h9; have q2 := (hRw.no h9).c2; clear h9; go_simp; try with_reducible rfl) ?_; simp only [es1, es2, es3]
    have hv1 : Fr No wi (wi.alloc (.cells #[.int .i64 1, .int .i64 7, .int .i64 12, .int .i64 18] 3)).drew := ((Fr.refl No wi).alloc _).drew
    refine wpSeq_next rfl rfl (fun K hK => ?_)
    go_wp2_with fail
    refine hK.out _ _ (fun _ => hv1) ?_
    clear hK K
    refine tp _ rfl rfl ?_; simp only [es1, es2, es3]
    refine wpSeq_next rfl rfl (fun K hK => ?_)
    go_wp2_with fail
    refine hK.out _ _ (fun _ => hv1) ?_
    clear hK K
    refine wpSeq_next rfl rfl (fun K hK => ?_)
    go_wp2_with fail
    refine (refRot32_any _ 12 _ (by omega) (by omega)).mono ?_
    rintro e w' ⟨rfl, rfl⟩
    refine hK.out _ _ (fun _ => hv1) ?_
    clear hK K
    iterate 2 refine tp _ rfl rfl ?_; simp only [es1, es2, es3]
    refine wpSeq_done ?_
    clear hRw
    go_wp2_with fail
    go_roundw
    case rel =>
     refine ⟨3, by omega, by simp, ?_, hfi.no hv1⟩
     simp only [sumTo]
     rw [hs.out]
     try simp
    case measure => simp [intOf]
  · have hRw := hR.no hfi
    go_wp2_with fail
    refine rsq (by kernel_rfl) [(0, 1), (1, 1), (2, 1), (3, 1), (4, 1), (6, 1), (5, 0), (7, 1), (8, 0), (9, 0), (10, 1), (11, 1)] (by kernel_rfl) ?_
    have hv0 : Fr No wi wi.drew := (Fr.refl No wi).drew
    iterate 6 refine tq _ rfl rfl (by intro w9 h9; have q3 := (hRw.no h9).c3; clear h9; go_simp; try with_reducible rfl) ?_; simp only [es1, es2, es3]
    have hv1 : Fr No wi (wi.alloc (.cells #[.int .i64 1, .int .i64 7, .int .i64 12, .int .i64 18] 3)).drew := ((Fr.refl No wi).alloc _).drew
    refine wpSeq_next rfl rfl (fun K hK => ?_)
    go_wp2_with fail
    refine hK.out _ _ (fun _ => hv1) ?_
    clear hK K
    refine tp _ rfl rfl ?_; simp only [es1, es2, es3]
    refine wpSeq_next rfl rfl (fun K hK => ?_)
    go_wp2_with fail
    refine hK.out _ _ (fun _ => hv1) ?_
    clear hK K
    refine wpSeq_next rfl rfl (fun K hK => ?_)
    go_wp2_with fail
    refine (refRot32_any _ 18 _ (by omega) (by omega)).mono ?_
    rintro e w' ⟨rfl, rfl⟩
    refine hK.out _ _ (fun _ => hv1) ?_
    clear hK K
    iterate 2 refine tp _ rfl rfl ?_; simp only [es1, es2, es3]
    refine wpSeq_done ?_
    clear hRw
    go_wp2_with fail
    go_roundw
    case rel =>
     refine ⟨4, by omega, by simp, ?_, hfi.no hv1⟩
     simp only [sumTo]
     rw [hs.out]
     try simp
    case measure => simp [intOf]
  · have hf1 := hf0.no hfi
    have hsum : sumTo s 4 = sumF s := rfl
    rw [hsum, show ((4 : Nat) : Int) = 4 from rfl]
    clear hsum hR hfi hf0
    go_wp2_with fail
    go_loopw [2, 9] (fun v u wr => ∃ m a' c' l' h', v = .slice a' m c' ∧ u = .int .u32 (W32 h') ∧ IsBytes w a' m c' l' ∧ Fr No w wr ∧ Hid (restF h' l' = r)) (fun v _ _ => match v with | .slice _ m _ => m | _ => 0)
    case atStart => exact ⟨n, a, c, l, _, rfl, by first | rfl | rw [mod32], hb, hf1, HR⟩
    case round =>
     obtain ⟨m, a', c', l', h', rfl, rfl, hb', hfr, hr'⟩ := hrel
     have hlen := Lib.hid hb'.1
     have hc : m ≤ c' := hb'.2.1
     have hc2 : c' ≤ 9223372036854775807 := hb'.2.2.1
     have hy := hb'.no hfr
     by_cases hlt : 4 ≤ m
     · have i2 : (4 : Int) ≤ (c' : Int) := by omega
       have i3 : (4 : Int) ≤ (m : Int) := by omega
       have hbig := Lib.hid (restF_big (h := h') (l := l') (by rw [hlen.out]; exact hlt))
       have hcut := hb'.cut_to_end 4 (n' := m - 4) (c' := c' - 4) hlt rfl rfl
       go_wp2_with fail
       refine (refNum_any _ _ _ l' 0 4 _ hy (by omega) (by omega) (by omega) (by omega)).mono ?_
       rintro e w' ⟨rfl, rfl⟩
       go_wp2_with fail
       refine (refRot32_any _ 17 _ (by omega) (by omega)).mono ?_
       rintro e w' ⟨rfl, rfl⟩
       go_wp2_with fail
       go_roundw
       case rel =>
        refine ⟨m - 4, _, _, _, g4 h' (l'.take 4), rfl, ?_, hcut, hfr, (by show _ = _; rw [← hr'.out, hbig.out])⟩
        rw [g4_take, ← g4_def]
       case measure => simp; omega
     · have hbl : Hid (l'.foldl g1 h' = r) := by show _ = _; rw [← restF_small (by rw [hlen.out]; omega), hr'.out]
       have i3 : (m : Int) < 4 := by omega
       clear hr'
       go_wp2_with fail
       obtain ⟨wo, rfl⟩ : ∃ wo : World, wo = wr := ⟨_, rfl⟩
       go_loopw [9, 52] (fun u i wr => ∃ (k : Nat) (h2 : BitVec 32), k ≤ m ∧ i = .int .i64 k ∧ u = .int .u32 (W32 h2) ∧ Fr No w wr ∧ Hid ((l'.drop k).foldl g1 h2 = r)) (fun _ i _ => m - (intOf i).toNat)
       case atStart => exact ⟨0, h', by omega, rfl, rfl, hfr, by show _ = _; rw [List.drop_zero]; exact hbl.out⟩
       case round =>
        obtain ⟨k, h2, hk, rfl, rfl, hf2, hr2⟩ := hrel
        clear hfr hbl
        by_cases hkm : k < m
        · have i4 : (k : Int) < (m : Int) := by omega
          have hkl : k < l'.length := by rw [hlen.out]; exact hkm
          obtain ⟨b, off, rfl, hcell⟩ := (hb'.no hf2).known (by omega)
          have hc0 := hcell k hkm
          have hd := Lib.hid (List.drop_eq_getElem_cons hkl)
          clear hcell
          go_wp2_with fail
          refine (refRot32_any _ 11 _ (by omega) (by omega)).mono ?_
          rintro e w' ⟨rfl, rfl⟩
          go_wp2_with fail
          go_roundw
          case rel =>
           refine ⟨k + 1, g1 h2 l'[k], by omega, rfl, by rw [g1_def2], hf2, ?_⟩
           show _ = _
           rw [← hr2.out, hd.out, List.foldl_cons]
          case measure => simp only [intOf, Int.toNat_natCast]; omega
        · have hkm2 : k = m := by omega
          subst hkm2
          have i4 : ¬ (k : Int) < (k : Int) := by omega
          have hh : h2 = r := by have := hr2.out; rw [List.drop_eq_nil_of_le (by rw [hlen.out]; exact Nat.le_refl _)] at this; exact this
          rw [hh]
          clear hh hr2
          go_wp2_with fail
          go_ret
          exact ⟨by unfold avalF; rfl, hf2⟩
theorem refEnd_any (sd : BitVec 32) (x0 x1 x2 x3 : BitVec 64) (s : ST) (a : Option Addr) (n c : Nat) (l : Bytes) (lo : BitVec 64) (w : World) (hs : Hid (s = (x0.setWidth 32, x1.setWidth 32, x2.setWidth 32, x3.setWidth 32))) (hb : IsBytes w a n c l) : Calls Tryz.prog 37 #[.int .u32 (W32 sd), .agg #[.int .u64 (W64 x0), .int .u64 (W64 x1), .int .u64 (W64 x2), .int .u64 (W64 x3)], .slice a n c, .int .u64 (W64 lo)] w (GivesNew (.int .u32 (W32 (endF sd s l lo))) w) := by
 by_cases h : 16 ≤ W64 lo
 · exact refEnd_long sd x0 x1 x2 x3 s a n c l lo w hs hb h
 · exact refEnd_short sd x0 x1 x2 x3 s a n c l lo w hs hb (by omega)
end Go.Proofs.YtidlpihoafnobaaGreatDoor.StX32
namespace Go.Proofs.YtidlpihoafnobaaGreatDoor.StX32
set_option maxRecDepth 100000
open Go.Proofs.YtidlpihoafnobaaGreatDoor.StG32
open Go.RowKit
theorem back32 (x : BitVec 32) : BitVec.setWidth 32 (BitVec.setWidth 64 x) = x := by simp
theorem first_add (sd : BitVec 32) : sd + 2654435761#32 + 2246822519#32 = sd + 606290984#32 := by rw [BitVec.add_assoc]; rfl
set_option maxHeartbeats 1000000 in
theorem refBlocks_any (sd : BitVec 32) (a : Option Addr) (n c : Nat) (l : Bytes) (w : World) (h : IsBytes w a n c l) (hn : n ≤ 1099511627776) :
 Calls Tryz.prog 100 #[.int .u32 (W32 sd), .slice a n c] w (GivesLanes a n c l (foldF stepG 16 (firstF sd) l) w) := by
 have hF1 := (Fr.refl No w).alloc (.cells #[.int .u64 0, .int .u64 0, .int .u64 0, .int .u64 0] 31)
 have hA := row4_new w 31 (.int .u64 0) (.int .u64 0) (.int .u64 0) (.int .u64 0)
 have hpl : w.heap.size < (w.alloc (.cells #[.int .u64 0, .int .u64 0, .int .u64 0, .int .u64 0] 31)).heap.size := hA.lt
 generalize hr : foldF stepG 16 (firstF sd) l = r
 have HR := Lib.hid hr
 clear hr
 go_enter Tryz.func100, Tryz.ntmps100
 go_wp2_with fail
 have hF2 : Fr No w ((w.alloc (.cells #[.int .u64 0, .int .u64 0, .int .u64 0, .int .u64 0] 31)).alloc (.cells #[.int .u32 (W32 (sd + 2654435761#32 + 2246822519#32)), .int .u32 (W32 (sd + 2246822519#32)), .int .u32 (W32 sd), .int .u32 (W32 (sd - 2654435761#32))] 123)) := hF1.alloc _
 have hA2 := hA.no ((Fr.refl No (w.alloc (.cells #[.int .u64 0, .int .u64 0, .int .u64 0, .int .u64 0] 31))).alloc (.cells #[.int .u32 (W32 (sd + 2654435761#32 + 2246822519#32)), .int .u32 (W32 (sd + 2246822519#32)), .int .u32 (W32 sd), .int .u32 (W32 (sd - 2654435761#32))] 123))
 have h1 := h.no hF2
 have hs : Hid (firstF sd = (BitVec.setWidth 32 (BitVec.setWidth 64 (sd + 2654435761#32 + 2246822519#32)), BitVec.setWidth 32 (BitVec.setWidth 64 (sd + 2246822519#32)), BitVec.setWidth 32 (BitVec.setWidth 64 sd), BitVec.setWidth 32 (BitVec.setWidth 64 (sd - 2654435761#32)))) := by
  show _ = _
  simp only [back32, first_add, firstF]
 generalize (w.alloc (.cells #[.int .u64 0, .int .u64 0, .int .u64 0, .int .u64 0] 31)).alloc (.cells #[.int .u32 (W32 (sd + 2654435761#32 + 2246822519#32)), .int .u32 (W32 (sd + 2246822519#32)), .int .u32 (W32 sd), .int .u32 (W32 (sd - 2654435761#32))] 123) = w1 at hF2 hA2 h1 ⊢
 refine (refFrom_any _ _ _ _ (firstF sd) _ _ _ l _ hs h1 hn).mono ?_
 rintro e w2 ⟨a', n', c', rfl, hb, hst, hf⟩
 rw [HR.out] at hb hst ⊢
 have hR := hA2.no hf
 have hF := hF2.no hf
 clear hf h1 hA hA2 hF1 hF2 hpl hs
 have cr0 := hR.c0
 have cr1 := hR.c1
 have cr2 := hR.c2
 have cr3 := hR.c3
 have fr0 := hR.fz 0
 have fr1 := hR.fz 1
 have fr2 := hR.fz 2
 have fr3 := hR.fz 3
 unfold lanesV
 go_wp2_with fail
 have hF3 := fr_put4 w2 w.heap.size (.int .u64 (W64 (r.1.1.setWidth 64))) (.int .u64 (W64 (r.1.2.1.setWidth 64))) (.int .u64 (W64 (r.1.2.2.1.setWidth 64))) (.int .u64 (W64 (r.1.2.2.2.setWidth 64)))
 have hR3 := row_put4 hR (.int .u64 (W64 (r.1.1.setWidth 64))) (.int .u64 (W64 (r.1.2.1.setWidth 64))) (.int .u64 (W64 (r.1.2.2.1.setWidth 64))) (.int .u64 (W64 (r.1.2.2.2.setWidth 64)))
 clear cr0 cr1 cr2 cr3 fr0 fr1 fr2 fr3
 generalize (((w2.setCell ⟨w.heap.size, 0, none⟩ (.int .u64 (W64 (r.1.1.setWidth 64)))).setCell ⟨w.heap.size, 1, none⟩ (.int .u64 (W64 (r.1.2.1.setWidth 64)))).setCell ⟨w.heap.size, 2, none⟩ (.int .u64 (W64 (r.1.2.2.1.setWidth 64)))).setCell ⟨w.heap.size, 3, none⟩ (.int .u64 (W64 (r.1.2.2.2.setWidth 64))) = w3 at hF3 hR3 ⊢
 have cd0 := hR3.c0
 have cd1 := hR3.c1
 have cd2 := hR3.c2
 have cd3 := hR3.c3
 have hFe : Fr No w w3 := hF.trans hF3 (fun x hx => .inr (by omega))
 refine bodyPost_ret (v := .tuple #[lanesV r.1, .slice a' n' c']) (by simp [results, Tryz.results100, go_sem, cd0, cd1, cd2, cd3, lanesV]) rfl ?_
 exact ⟨a', n', c', rfl, (hst _ (h.no hFe)), hst, hFe⟩
end Go.Proofs.YtidlpihoafnobaaGreatDoor.StX32
