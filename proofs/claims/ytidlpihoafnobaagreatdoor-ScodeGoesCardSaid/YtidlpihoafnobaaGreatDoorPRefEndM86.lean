/- RefEndM86 -/
import Derived.Test.YtidlpihoafnobaaGreatDoorPRefM86
set_option linter.unusedVariables false
set_option linter.unusedSimpArgs false
namespace Go.Proofs.YtidlpihoafnobaaGreatDoor.StM86
set_option maxRecDepth 100000
open Go.Proofs.YtidlpihoafnobaaGreatDoor.StG32
open Go.RowKit
theorem back32 (x : BitVec 32) : BitVec.setWidth 32 (BitVec.setWidth 64 x) = x := by simp
set_option maxHeartbeats 1000000 in
theorem refBlocks_any (sd : BitVec 32) (a : Option Addr) (n c : Nat) (l : Bytes) (w : World) (h : IsBytes w a n c l) (hn : n ≤ 1099511627776) :
 Calls Tryz.prog 98 #[.int .u32 (W32 sd), .slice a n c] w (GivesLanes a n c l (foldF stepG 16 (firstF sd) l) w) := by
 have hF1 := (Fr.refl No w).alloc (.cells #[.int .u64 0, .int .u64 0, .int .u64 0, .int .u64 0] 31)
 have hA := row4_new w 31 (.int .u64 0) (.int .u64 0) (.int .u64 0) (.int .u64 0)
 have hs : Hid ((BitVec.setWidth 32 (BitVec.setWidth 64 sd), BitVec.setWidth 32 (BitVec.setWidth 64 sd), BitVec.setWidth 32 (BitVec.setWidth 64 sd), BitVec.setWidth 32 (BitVec.setWidth 64 sd)) = firstF sd) := by
  show _ = _
  rw [back32]; rfl
 generalize hr : foldF stepG 16 (firstF sd) l = r
 have HR := Lib.hid hr
 clear hr
 have h1 := h.no hF1
 go_enter Tryz.func98, Tryz.ntmps98
 go_wp2_with fail
 refine (refFrom_any _ _ _ _ (firstF sd) _ _ _ l _ hs h1 hn).mono ?_
 rintro e w2 ⟨a', n', c', rfl, hb, hst, hf⟩
 rw [HR.out] at hb hst ⊢
 have hR := hA.no hf
 have hF := hF1.no hf
 clear hf h1 hA hF1
 have cr0 := hR.c0
 have cr1 := hR.c1
 have cr2 := hR.c2
 have cr3 := hR.c3
 have fr0 := hR.fz 0
 have fr1 := hR.fz 1
 have fr2 := hR.fz 2
 have fr3 := hR.fz 3
 unfold lanesV
 go_wp2_with fail
 have hF3 := fr_put4 w2 (w.heap.size) (.int .u64 (W64 (r.1.1.setWidth 64))) (.int .u64 (W64 (r.1.2.1.setWidth 64))) (.int .u64 (W64 (r.1.2.2.1.setWidth 64))) (.int .u64 (W64 (r.1.2.2.2.setWidth 64)))
 have hR3 := row_put4 hR (.int .u64 (W64 (r.1.1.setWidth 64))) (.int .u64 (W64 (r.1.2.1.setWidth 64))) (.int .u64 (W64 (r.1.2.2.1.setWidth 64))) (.int .u64 (W64 (r.1.2.2.2.setWidth 64)))
 clear cr0 cr1 cr2 cr3 fr0 fr1 fr2 fr3
 generalize (((w2.setCell ⟨w.heap.size, 0, none⟩ (.int .u64 (W64 (r.1.1.setWidth 64)))).setCell ⟨w.heap.size, 1, none⟩ (.int .u64 (W64 (r.1.2.1.setWidth 64)))).setCell ⟨w.heap.size, 2, none⟩ (.int .u64 (W64 (r.1.2.2.1.setWidth 64)))).setCell ⟨w.heap.size, 3, none⟩ (.int .u64 (W64 (r.1.2.2.2.setWidth 64))) = w3 at hF3 hR3 ⊢
 have cd0 := hR3.c0
 have cd1 := hR3.c1
 have cd2 := hR3.c2
 have cd3 := hR3.c3
 have hFe : Fr No w w3 := hF.trans hF3 (fun x hx => .inr (by omega))
 refine bodyPost_ret (v := .tuple #[lanesV r.1, .slice a' n' c']) (by simp [results, Tryz.results98, go_sem, cd0, cd1, cd2, cd3, lanesV]) rfl ?_
 exact ⟨a', n', c', rfl, (hst _ (h.no hFe)), hst, hFe⟩
def beginTo (s : S4) (l : Bytes) (lo : BitVec 64) : Nat → S4
 | 0 => (0#32, 0#32, 0#32, 0#32)
 | 1 => (mix0 s l ^^^ lo.setWidth 32, 0#32, 0#32, 0#32)
 | 2 => (mix0 s l ^^^ lo.setWidth 32, mix1 s l ^^^ lo.setWidth 32, 0#32, 0#32)
 | 3 => (mix0 s l ^^^ lo.setWidth 32, mix1 s l ^^^ lo.setWidth 32, mix2 s l ^^^ lo.setWidth 32, 0#32)
 | _ => (mix0 s l ^^^ lo.setWidth 32, mix1 s l ^^^ lo.setWidth 32, mix2 s l ^^^ lo.setWidth 32, mix3 s l ^^^ lo.setWidth 32)
theorem begin_def (s : S4) (l : Bytes) (lo : BitVec 64) : beginTo s l lo 4 = mapTo (fun x => x ^^^ BitVec.setWidth 32 lo) (mixTo s l 4) 4 := rfl
def outTo (s : S4) : Nat → S4
 | 0 => s
 | 1 => mapTo fmix32 (spreadF s) 4
 | _ => spreadF (mapTo fmix32 (spreadF s) 4)
theorem out_def (s : S4) (l : Bytes) (lo : BitVec 64) : outTo (mapTo (fun x => x ^^^ BitVec.setWidth 32 lo) (mixTo s l 4) 4) 2 = endS s l lo := rfl
set_option maxHeartbeats 4000000 in
theorem refEnd_any (sv : Value) (x0 x1 x2 x3 : BitVec 64) (s : ST) (a : Option Addr) (n c : Nat) (l : Bytes) (lo : BitVec 64) (w : World) (hs0 : Hid ((x0.setWidth 32, x1.setWidth 32, x2.setWidth 32, x3.setWidth 32) = s)) (hb : IsBytes w a n c l) :
 Calls Tryz.prog 35 #[sv, .agg #[.int .u64 (W64 (x0)), .int .u64 (W64 (x1)), .int .u64 (W64 (x2)), .int .u64 (W64 (x3))], .slice a n c, .int .u64 (W64 lo)] w (GivesNew (.agg #[.int .u64 (W64 (endHi s l lo)), .int .u64 (W64 (endLo s l lo))]) w) := by
 have hl0 : Hid (x0.setWidth 32 = s.1) := by show _ = _; rw [← hs0.out]
 have hl1 : Hid (x1.setWidth 32 = s.2.1) := by show _ = _; rw [← hs0.out]
 have hl2 : Hid (x2.setWidth 32 = s.2.2.1) := by show _ = _; rw [← hs0.out]
 have hl3 : Hid (x3.setWidth 32 = s.2.2.2) := by show _ = _; rw [← hs0.out]
 have hF1 : Fr No w (((w.alloc (.cells #[.int .u64 (W64 (x0)), .int .u64 (W64 (x1)), .int .u64 (W64 (x2)), .int .u64 (W64 (x3))] 31)).alloc (.cells #[.int .u64 0, .int .u64 0] 30)).alloc (.cells #[.int .u32 0, .int .u32 0, .int .u32 0, .int .u32 0] 123)) := (((Fr.refl No w).alloc _).alloc _).alloc _
 have hX0 : Row4 (((w.alloc (.cells #[.int .u64 (W64 (x0)), .int .u64 (W64 (x1)), .int .u64 (W64 (x2)), .int .u64 (W64 (x3))] 31)).alloc (.cells #[.int .u64 0, .int .u64 0] 30)).alloc (.cells #[.int .u32 0, .int .u32 0, .int .u32 0, .int .u32 0] 123)) w.heap.size 31 (.int .u64 (W64 (x0))) (.int .u64 (W64 (x1))) (.int .u64 (W64 (x2))) (.int .u64 (W64 (x3))) := (row4_new w 31 (.int .u64 (W64 (x0))) (.int .u64 (W64 (x1))) (.int .u64 (W64 (x2))) (.int .u64 (W64 (x3)))).no (((Fr.refl No _).alloc _).alloc _)
 have hU0 : Row2 (((w.alloc (.cells #[.int .u64 (W64 (x0)), .int .u64 (W64 (x1)), .int .u64 (W64 (x2)), .int .u64 (W64 (x3))] 31)).alloc (.cells #[.int .u64 0, .int .u64 0] 30)).alloc (.cells #[.int .u32 0, .int .u32 0, .int .u32 0, .int .u32 0] 123)) (w.heap.size + 1) 30 (.int .u64 0) (.int .u64 0) := Row2.no (show Row2 ((w.alloc (.cells #[.int .u64 (W64 (x0)), .int .u64 (W64 (x1)), .int .u64 (W64 (x2)), .int .u64 (W64 (x3))] 31)).alloc (.cells #[.int .u64 0, .int .u64 0] 30)) (w.heap.size + 1) 30 (.int .u64 0) (.int .u64 0) from heap_alloc2_new w _ _) ((Fr.refl No _).alloc _)
 have hB0 : BoxAt (((w.alloc (.cells #[.int .u64 (W64 (x0)), .int .u64 (W64 (x1)), .int .u64 (W64 (x2)), .int .u64 (W64 (x3))] 31)).alloc (.cells #[.int .u64 0, .int .u64 0] 30)).alloc (.cells #[.int .u32 0, .int .u32 0, .int .u32 0, .int .u32 0] 123)) (w.heap.size + 2) ((0#32, 0#32, 0#32, 0#32) : S4) := heap_alloc3_new w _ _ _
 go_enter Tryz.func35, Tryz.ntmps35
 go_wp2_with fail
 try rw [show w.heap.size + 1 + 1 = w.heap.size + 2 from rfl]
 obtain ⟨pb, hpb⟩ : ∃ pb, pb = w.heap.size := ⟨_, rfl⟩
 have hpw : w.heap.size ≤ pb := by omega
 rw [← hpb] at hX0 hU0 hB0 ⊢
 clear hpb
 generalize (((w.alloc (.cells #[.int .u64 (W64 (x0)), .int .u64 (W64 (x1)), .int .u64 (W64 (x2)), .int .u64 (W64 (x3))] 31)).alloc (.cells #[.int .u64 0, .int .u64 0] 30)).alloc (.cells #[.int .u32 0, .int .u32 0, .int .u32 0, .int .u32 0] 123)) = w1 at hF1 hX0 hU0 hB0 ⊢
 go_loopw [10] (fun i wr => ∃ (k : Nat) (s' : ST), k ≤ 4 ∧ i = .int .i64 k ∧ BoxAt wr (pb + 2) s' ∧ Hid (s' = beginTo s l lo k) ∧ Fr (fun x => x = pb + 2) w1 wr) (fun i _ => 4 - (intOf i).toNat)
 case atStart => exact ⟨0, _, by omega, rfl, hB0, rfl, Fr.refl _ _⟩
 case round =>
  obtain ⟨k, s', hk, rfl, hB, hs, hf⟩ := hrel
  clear hB0
  rcases (show k = 0 ∨ k = 1 ∨ k = 2 ∨ k = 3 ∨ k = 4 by omega) with rfl | rfl | rfl | rfl | rfl
  · have hX := hX0.fr hf (by omega)
    have hy := hb.no (hF1.trans hf (fun x hx => .inr (by omega)))
    go_wp2_with fail
    refine wp_region_seq (by kernel_rfl) (fun w' => Fr No wr w') (fun i => decide (17 ≤ i)) [(0, 1), (1, 1), (2, 1), (3, 1), (4, 1), (5, 1), (6, 1), (7, 1), (9, 1), (12, 1), (13, 1), (14, 1), (8, 0), (10, 0), (11, 1), (15, 1), (16, 1), (17, 0)] (by kernel_rfl) (Fr.refl No wr).drew ?_
    have hv0 : Fr No wr wr.drew := (Fr.refl No wr).drew
    iterate 7 refine tq _ rfl rfl (by intro w9 h9; have q0 := (hX.no h9).c0; clear h9; go_simp; try with_reducible rfl) ?_; simp only [es1, es2, es3]
    iterate 5 refine tq _ rfl rfl (by intro w9 h9; have em : IntKind.i64.wrap 0 = 0 := (by decide); clear h9; go_simp; try with_reducible rfl) ?_; simp only [es1, es2, es3]
    refine wpSeq_next rfl rfl (fun K hK => ?_)
    go_wp2_with fail
    refine (refNum_any _ _ _ l 0 4 _ (hy.no hv0) (by omega) (by omega) (by omega) (by omega)).mono ?_
    rintro e w' ⟨rfl, rfl⟩
    refine hK.out _ _ (fun _ => hv0) ?_
    clear hK K
    refine wpSeq_next rfl rfl (fun K hK => ?_)
    go_wp2_with fail
    refine (refWord0 _ _).mono ?_
    rw [num4_zero]
    rintro e xhv1 ⟨rfl, hx⟩
    have hv1 := hv0.no hx
    clear hx
    refine hK.out _ _ (fun _ => hv1) ?_
    clear hK K
    iterate 3 refine tp _ rfl rfl ?_; simp only [es1, es2, es3]
    rw [mod32]
    rw [show BitVec.setWidth 32 x0 ^^^ StM86.w0 (num4 l 0) ^^^ BitVec.setWidth 32 lo = mix0 s l ^^^ BitVec.setWidth 32 lo by rw [hl0.out, mix0_def]]
    obtain ⟨y, hy⟩ : ∃ y, y = mix0 s l ^^^ BitVec.setWidth 32 lo := ⟨_, rfl⟩
    rw [← hy]
    have Hy := Lib.hid hy
    clear hy
    have hBx := hB.fr hv1 (fun h => h)
    have cx := (box_row hBx).c0
    have fx := (box_row hBx).fz 0
    refine wpSeq_next rfl rfl (fun K hK => ?_)
    go_wp2_with fail
    refine hK.out _ _ (fun h => by simp at h) ?_
    clear hK K
    refine wpSeq_done ?_
    have hB6 : BoxAt _ (pb + 2) ((y, s'.2.1, s'.2.2.1, s'.2.2.2) : S4) := box_put0 hBx y
    have hf6 := (hf.trans (hv1.mono (fun _ _ f => f.elim)) (fun x hx => .inl hx)).trans ((Fr.refl (fun x => x = pb + 2) xhv1).setCell (p := ⟨pb + 2, 0, none⟩) (.inl rfl) (.int .u32 (W32 (y)))) (fun x hx => .inl hx)
    clear hBx cx fx hB hX hy hf hv0 hv1
    go_wp2_with fail
    go_roundw
    case rel => exact ⟨1, (y, s'.2.1, s'.2.2.1, s'.2.2.2), by omega, rfl, hB6, (by show _ = _; rw [Hy.out, hs.out]; rfl), hf6⟩
    case measure => simp [intOf]
  · have hX := hX0.fr hf (by omega)
    have hy := hb.no (hF1.trans hf (fun x hx => .inr (by omega)))
    go_wp2_with fail
    refine wp_region_seq (by kernel_rfl) (fun w' => Fr No wr w') (fun i => decide (17 ≤ i)) [(0, 1), (1, 1), (2, 1), (3, 1), (4, 1), (5, 1), (6, 1), (7, 1), (9, 1), (12, 1), (13, 1), (14, 1), (8, 0), (10, 0), (11, 1), (15, 1), (16, 1), (17, 0)] (by kernel_rfl) (Fr.refl No wr).drew ?_
    have hv0 : Fr No wr wr.drew := (Fr.refl No wr).drew
    iterate 7 refine tq _ rfl rfl (by intro w9 h9; have q0 := (hX.no h9).c1; clear h9; go_simp; try with_reducible rfl) ?_; simp only [es1, es2, es3]
    iterate 5 refine tq _ rfl rfl (by intro w9 h9; have em : IntKind.i64.wrap 4 = 4 := (by decide); clear h9; go_simp; try with_reducible rfl) ?_; simp only [es1, es2, es3]
    refine wpSeq_next rfl rfl (fun K hK => ?_)
    go_wp2_with fail
    refine (refNum_any _ _ _ l 4 4 _ (hy.no hv0) (by omega) (by omega) (by omega) (by omega)).mono ?_
    rintro e w' ⟨rfl, rfl⟩
    refine hK.out _ _ (fun _ => hv0) ?_
    clear hK K
    refine wpSeq_next rfl rfl (fun K hK => ?_)
    go_wp2_with fail
    refine (refWord1 _ _).mono ?_
    rw [num4_def]
    rintro e xhv1 ⟨rfl, hx⟩
    have hv1 := hv0.no hx
    clear hx
    refine hK.out _ _ (fun _ => hv1) ?_
    clear hK K
    iterate 3 refine tp _ rfl rfl ?_; simp only [es1, es2, es3]
    rw [mod32]
    rw [show BitVec.setWidth 32 x1 ^^^ StM86.w1 (num4 l 4) ^^^ BitVec.setWidth 32 lo = mix1 s l ^^^ BitVec.setWidth 32 lo by rw [hl1.out, mix1_def]]
    obtain ⟨y, hy⟩ : ∃ y, y = mix1 s l ^^^ BitVec.setWidth 32 lo := ⟨_, rfl⟩
    rw [← hy]
    have Hy := Lib.hid hy
    clear hy
    have hBx := hB.fr hv1 (fun h => h)
    have cx := (box_row hBx).c1
    have fx := (box_row hBx).fz 1
    refine wpSeq_next rfl rfl (fun K hK => ?_)
    go_wp2_with fail
    refine hK.out _ _ (fun h => by simp at h) ?_
    clear hK K
    refine wpSeq_done ?_
    have hB6 : BoxAt _ (pb + 2) ((s'.1, y, s'.2.2.1, s'.2.2.2) : S4) := box_put1 hBx y
    have hf6 := (hf.trans (hv1.mono (fun _ _ f => f.elim)) (fun x hx => .inl hx)).trans ((Fr.refl (fun x => x = pb + 2) xhv1).setCell (p := ⟨pb + 2, 1, none⟩) (.inl rfl) (.int .u32 (W32 (y)))) (fun x hx => .inl hx)
    clear hBx cx fx hB hX hy hf hv0 hv1
    go_wp2_with fail
    go_roundw
    case rel => exact ⟨2, (s'.1, y, s'.2.2.1, s'.2.2.2), by omega, rfl, hB6, (by show _ = _; rw [Hy.out, hs.out]; rfl), hf6⟩
    case measure => simp [intOf]
  · have hX := hX0.fr hf (by omega)
    have hy := hb.no (hF1.trans hf (fun x hx => .inr (by omega)))
    go_wp2_with fail
    refine wp_region_seq (by kernel_rfl) (fun w' => Fr No wr w') (fun i => decide (17 ≤ i)) [(0, 1), (1, 1), (2, 1), (3, 1), (4, 1), (5, 1), (6, 1), (7, 1), (9, 1), (12, 1), (13, 1), (14, 1), (8, 0), (10, 0), (11, 1), (15, 1), (16, 1), (17, 0)] (by kernel_rfl) (Fr.refl No wr).drew ?_
    have hv0 : Fr No wr wr.drew := (Fr.refl No wr).drew
    iterate 7 refine tq _ rfl rfl (by intro w9 h9; have q0 := (hX.no h9).c2; clear h9; go_simp; try with_reducible rfl) ?_; simp only [es1, es2, es3]
    iterate 5 refine tq _ rfl rfl (by intro w9 h9; have em : IntKind.i64.wrap 8 = 8 := (by decide); clear h9; go_simp; try with_reducible rfl) ?_; simp only [es1, es2, es3]
    refine wpSeq_next rfl rfl (fun K hK => ?_)
    go_wp2_with fail
    refine (refNum_any _ _ _ l 8 4 _ (hy.no hv0) (by omega) (by omega) (by omega) (by omega)).mono ?_
    rintro e w' ⟨rfl, rfl⟩
    refine hK.out _ _ (fun _ => hv0) ?_
    clear hK K
    refine wpSeq_next rfl rfl (fun K hK => ?_)
    go_wp2_with fail
    refine (refWord2 _ _).mono ?_
    rw [num4_def]
    rintro e xhv1 ⟨rfl, hx⟩
    have hv1 := hv0.no hx
    clear hx
    refine hK.out _ _ (fun _ => hv1) ?_
    clear hK K
    iterate 3 refine tp _ rfl rfl ?_; simp only [es1, es2, es3]
    rw [mod32]
    rw [show BitVec.setWidth 32 x2 ^^^ StM86.w2 (num4 l 8) ^^^ BitVec.setWidth 32 lo = mix2 s l ^^^ BitVec.setWidth 32 lo by rw [hl2.out, mix2_def]]
    obtain ⟨y, hy⟩ : ∃ y, y = mix2 s l ^^^ BitVec.setWidth 32 lo := ⟨_, rfl⟩
    rw [← hy]
    have Hy := Lib.hid hy
    clear hy
    have hBx := hB.fr hv1 (fun h => h)
    have cx := (box_row hBx).c2
    have fx := (box_row hBx).fz 2
    refine wpSeq_next rfl rfl (fun K hK => ?_)
    go_wp2_with fail
    refine hK.out _ _ (fun h => by simp at h) ?_
    clear hK K
    refine wpSeq_done ?_
    have hB6 : BoxAt _ (pb + 2) ((s'.1, s'.2.1, y, s'.2.2.2) : S4) := box_put2 hBx y
    have hf6 := (hf.trans (hv1.mono (fun _ _ f => f.elim)) (fun x hx => .inl hx)).trans ((Fr.refl (fun x => x = pb + 2) xhv1).setCell (p := ⟨pb + 2, 2, none⟩) (.inl rfl) (.int .u32 (W32 (y)))) (fun x hx => .inl hx)
    clear hBx cx fx hB hX hy hf hv0 hv1
    go_wp2_with fail
    go_roundw
    case rel => exact ⟨3, (s'.1, s'.2.1, y, s'.2.2.2), by omega, rfl, hB6, (by show _ = _; rw [Hy.out, hs.out]; rfl), hf6⟩
    case measure => simp [intOf]
  · have hX := hX0.fr hf (by omega)
    have hy := hb.no (hF1.trans hf (fun x hx => .inr (by omega)))
    go_wp2_with fail
    refine wp_region_seq (by kernel_rfl) (fun w' => Fr No wr w') (fun i => decide (17 ≤ i)) [(0, 1), (1, 1), (2, 1), (3, 1), (4, 1), (5, 1), (6, 1), (7, 1), (9, 1), (12, 1), (13, 1), (14, 1), (8, 0), (10, 0), (11, 1), (15, 1), (16, 1), (17, 0)] (by kernel_rfl) (Fr.refl No wr).drew ?_
    have hv0 : Fr No wr wr.drew := (Fr.refl No wr).drew
    iterate 7 refine tq _ rfl rfl (by intro w9 h9; have q0 := (hX.no h9).c3; clear h9; go_simp; try with_reducible rfl) ?_; simp only [es1, es2, es3]
    iterate 5 refine tq _ rfl rfl (by intro w9 h9; have em : IntKind.i64.wrap 12 = 12 := (by decide); clear h9; go_simp; try with_reducible rfl) ?_; simp only [es1, es2, es3]
    refine wpSeq_next rfl rfl (fun K hK => ?_)
    go_wp2_with fail
    refine (refNum_any _ _ _ l 12 4 _ (hy.no hv0) (by omega) (by omega) (by omega) (by omega)).mono ?_
    rintro e w' ⟨rfl, rfl⟩
    refine hK.out _ _ (fun _ => hv0) ?_
    clear hK K
    refine wpSeq_next rfl rfl (fun K hK => ?_)
    go_wp2_with fail
    refine (refWord3 _ _).mono ?_
    rw [num4_def]
    rintro e xhv1 ⟨rfl, hx⟩
    have hv1 := hv0.no hx
    clear hx
    refine hK.out _ _ (fun _ => hv1) ?_
    clear hK K
    iterate 3 refine tp _ rfl rfl ?_; simp only [es1, es2, es3]
    rw [mod32]
    rw [show BitVec.setWidth 32 x3 ^^^ StM86.w3 (num4 l 12) ^^^ BitVec.setWidth 32 lo = mix3 s l ^^^ BitVec.setWidth 32 lo by rw [hl3.out, mix3_def]]
    obtain ⟨y, hy⟩ : ∃ y, y = mix3 s l ^^^ BitVec.setWidth 32 lo := ⟨_, rfl⟩
    rw [← hy]
    have Hy := Lib.hid hy
    clear hy
    have hBx := hB.fr hv1 (fun h => h)
    have cx := (box_row hBx).c3
    have fx := (box_row hBx).fz 3
    refine wpSeq_next rfl rfl (fun K hK => ?_)
    go_wp2_with fail
    refine hK.out _ _ (fun h => by simp at h) ?_
    clear hK K
    refine wpSeq_done ?_
    have hB6 : BoxAt _ (pb + 2) ((s'.1, s'.2.1, s'.2.2.1, y) : S4) := box_put3 hBx y
    have hf6 := (hf.trans (hv1.mono (fun _ _ f => f.elim)) (fun x hx => .inl hx)).trans ((Fr.refl (fun x => x = pb + 2) xhv1).setCell (p := ⟨pb + 2, 3, none⟩) (.inl rfl) (.int .u32 (W32 (y)))) (fun x hx => .inl hx)
    clear hBx cx fx hB hX hy hf hv0 hv1
    go_wp2_with fail
    go_roundw
    case rel => exact ⟨4, (s'.1, s'.2.1, s'.2.2.1, y), by omega, rfl, hB6, (by show _ = _; rw [Hy.out, hs.out]; rfl), hf6⟩
    case measure => simp [intOf]
  · rw [show ((4 : Nat) : Int) = 4 from rfl]
    go_wp2_with fail
    rw [begin_def] at hs
    obtain ⟨s3, hs3⟩ : ∃ y, y = mapTo (fun x => x ^^^ BitVec.setWidth 32 lo) (mixTo s l 4) 4 := ⟨_, rfl⟩
    rw [← hs3] at hs
    have HS3 := Lib.hid hs3
    clear hs3
    have hBs := hB
    have hfs := hf
    clear hB hf hX0
    go_loopw [11] (fun i wr => ∃ (k : Nat) (t' : ST), k ≤ 2 ∧ i = .int .i64 k ∧ BoxAt wr (pb + 2) t' ∧ Hid (t' = outTo s3 k) ∧ Fr (fun x => x = pb + 2) w1 wr) (fun i _ => 2 - (intOf i).toNat)
    case atStart => exact ⟨0, s', by omega, rfl, hBs, (by show _ = _; rw [hs.out]; rfl), hfs⟩
    case round =>
    obtain ⟨k, t', hk, rfl, hB, ht, hf⟩ := hrel
    clear hBs hfs hs
    rcases (show k = 0 ∨ k = 1 ∨ k = 2 by omega) with rfl | rfl | rfl
    · skip
      have cb0 := (box_row hB).c0
      have cb1 := (box_row hB).c1
      have cb2 := (box_row hB).c2
      have cb3 := (box_row hB).c3
      have fz0 := (box_row hB).fz 0
      rw [show ((0 : Nat) : Int) = 0 from rfl]
      go_wp2_with fail
      obtain ⟨x, hx⟩ : ∃ y, y = t'.1 + t'.2.1 + t'.2.2.1 + t'.2.2.2 := ⟨_, rfl⟩
      rw [← hx]
      have Hx := Lib.hid hx
      clear hx
      have hB1 : BoxAt _ (pb + 2) ((x, t'.2.1, t'.2.2.1, t'.2.2.2) : S4) := box_put0 hB x
      have hf1 := hf.trans ((Fr.refl (fun x => x = pb + 2) wr).setCell (p := ⟨pb + 2, 0, none⟩) (.inl rfl) (.int .u32 (W32 (x)))) (fun x hx => .inl hx)
      clear cb0 cb1 cb2 cb3 fz0 hB hf
      generalize wr.setCell ⟨pb + 2, 0, none⟩ (.int .u32 (W32 (x))) = wo at hB1 hf1 ⊢
      go_loopw [12] (fun i wr => ∃ (k : Nat) (v' : ST), 1 ≤ k ∧ k ≤ 4 ∧ i = .int .i64 k ∧ BoxAt wr (pb + 2) v' ∧ Hid (v' = spreadTo t' (k - 1)) ∧ Fr (fun x => x = pb + 2) w1 wr) (fun i _ => 4 - (intOf i).toNat)
      case atStart => exact ⟨1, _, by omega, by omega, rfl, hB1, (by show _ = _; rw [Hx.out]; rfl), hf1⟩
      case round =>
      obtain ⟨k, v', hk1, hk4, rfl, hBi, hv, hfi⟩ := hrel
      clear hB1 hf1 Hx
      rcases (show k = 1 ∨ k = 2 ∨ k = 3 ∨ k = 4 by omega) with rfl | rfl | rfl | rfl
      · obtain ⟨wi, rfl⟩ : ∃ wi : World, wi = wr := ⟨_, rfl⟩
        go_wp2_with fail
        refine wp_region_seq (by kernel_rfl) (fun w' => Fr No wi w') (fun i => decide (7 ≤ i)) [(0, 1), (1, 1), (2, 1), (3, 1), (4, 1), (5, 1), (6, 1), (7, 0)] (by kernel_rfl) (Fr.refl No wi).drew ?_
        have hv0 : Fr No wi wi.drew := (Fr.refl No wi).drew
        iterate 7 refine tq _ rfl rfl (by intro w9 h9; have q0 := (box_row (hBi.fr h9 (fun h => h))).c0; have q1 := (box_row (hBi.fr h9 (fun h => h))).c1; clear h9; go_simp; try with_reducible rfl) ?_; simp only [es1, es2, es3]
        obtain ⟨y, hy⟩ : ∃ y, y = v'.2.1 + v'.1 := ⟨_, rfl⟩
        rw [← hy]
        have Hy := Lib.hid hy
        clear hy
        have hBx := hBi.fr hv0 (fun h => h)
        have cx := (box_row hBx).c1
        have fx := (box_row hBx).fz 1
        refine wpSeq_next rfl rfl (fun K hK => ?_)
        go_wp2_with fail
        refine hK.out _ _ (fun h => by simp at h) ?_
        clear hK K
        refine wpSeq_done ?_
        have hB6 : BoxAt _ (pb + 2) ((v'.1, y, v'.2.2.1, v'.2.2.2) : S4) := BoxAt.fr (show BoxAt _ (pb + 2) ((v'.1, y, v'.2.2.1, v'.2.2.2) : S4) from box_put1 hBi y) (Fr.refl No _).drew (fun h => h)
        have hf6 := (hfi.trans ((Fr.refl (fun x => x = pb + 2) wi).setCell (p := ⟨pb + 2, 1, none⟩) (.inl rfl) (.int .u32 (W32 (y)))) (fun x hx => .inl hx)).drew
        clear hBx cx fx hBi hfi hv0
        go_wp2_with fail
        go_roundw
        case rel => exact ⟨2, (v'.1, y, v'.2.2.1, v'.2.2.2), by omega, by omega, rfl, hB6, (by show _ = _; rw [Hy.out, hv.out]; rfl), hf6⟩
        case measure => simp [intOf]
      · obtain ⟨wi, rfl⟩ : ∃ wi : World, wi = wr := ⟨_, rfl⟩
        go_wp2_with fail
        refine wp_region_seq (by kernel_rfl) (fun w' => Fr No wi w') (fun i => decide (7 ≤ i)) [(0, 1), (1, 1), (2, 1), (3, 1), (4, 1), (5, 1), (6, 1), (7, 0)] (by kernel_rfl) (Fr.refl No wi).drew ?_
        have hv0 : Fr No wi wi.drew := (Fr.refl No wi).drew
        iterate 7 refine tq _ rfl rfl (by intro w9 h9; have q0 := (box_row (hBi.fr h9 (fun h => h))).c0; have q1 := (box_row (hBi.fr h9 (fun h => h))).c2; clear h9; go_simp; try with_reducible rfl) ?_; simp only [es1, es2, es3]
        obtain ⟨y, hy⟩ : ∃ y, y = v'.2.2.1 + v'.1 := ⟨_, rfl⟩
        rw [← hy]
        have Hy := Lib.hid hy
        clear hy
        have hBx := hBi.fr hv0 (fun h => h)
        have cx := (box_row hBx).c2
        have fx := (box_row hBx).fz 2
        refine wpSeq_next rfl rfl (fun K hK => ?_)
        go_wp2_with fail
        refine hK.out _ _ (fun h => by simp at h) ?_
        clear hK K
        refine wpSeq_done ?_
        have hB6 : BoxAt _ (pb + 2) ((v'.1, v'.2.1, y, v'.2.2.2) : S4) := BoxAt.fr (show BoxAt _ (pb + 2) ((v'.1, v'.2.1, y, v'.2.2.2) : S4) from box_put2 hBi y) (Fr.refl No _).drew (fun h => h)
        have hf6 := (hfi.trans ((Fr.refl (fun x => x = pb + 2) wi).setCell (p := ⟨pb + 2, 2, none⟩) (.inl rfl) (.int .u32 (W32 (y)))) (fun x hx => .inl hx)).drew
        clear hBx cx fx hBi hfi hv0
        go_wp2_with fail
        go_roundw
        case rel => exact ⟨3, (v'.1, v'.2.1, y, v'.2.2.2), by omega, by omega, rfl, hB6, (by show _ = _; rw [Hy.out, hv.out]; rfl), hf6⟩
        case measure => simp [intOf]
      · obtain ⟨wi, rfl⟩ : ∃ wi : World, wi = wr := ⟨_, rfl⟩
        go_wp2_with fail
        refine wp_region_seq (by kernel_rfl) (fun w' => Fr No wi w') (fun i => decide (7 ≤ i)) [(0, 1), (1, 1), (2, 1), (3, 1), (4, 1), (5, 1), (6, 1), (7, 0)] (by kernel_rfl) (Fr.refl No wi).drew ?_
        have hv0 : Fr No wi wi.drew := (Fr.refl No wi).drew
        iterate 7 refine tq _ rfl rfl (by intro w9 h9; have q0 := (box_row (hBi.fr h9 (fun h => h))).c0; have q1 := (box_row (hBi.fr h9 (fun h => h))).c3; clear h9; go_simp; try with_reducible rfl) ?_; simp only [es1, es2, es3]
        obtain ⟨y, hy⟩ : ∃ y, y = v'.2.2.2 + v'.1 := ⟨_, rfl⟩
        rw [← hy]
        have Hy := Lib.hid hy
        clear hy
        have hBx := hBi.fr hv0 (fun h => h)
        have cx := (box_row hBx).c3
        have fx := (box_row hBx).fz 3
        refine wpSeq_next rfl rfl (fun K hK => ?_)
        go_wp2_with fail
        refine hK.out _ _ (fun h => by simp at h) ?_
        clear hK K
        refine wpSeq_done ?_
        have hB6 : BoxAt _ (pb + 2) ((v'.1, v'.2.1, v'.2.2.1, y) : S4) := BoxAt.fr (show BoxAt _ (pb + 2) ((v'.1, v'.2.1, v'.2.2.1, y) : S4) from box_put3 hBi y) (Fr.refl No _).drew (fun h => h)
        have hf6 := (hfi.trans ((Fr.refl (fun x => x = pb + 2) wi).setCell (p := ⟨pb + 2, 3, none⟩) (.inl rfl) (.int .u32 (W32 (y)))) (fun x hx => .inl hx)).drew
        clear hBx cx fx hBi hfi hv0
        go_wp2_with fail
        go_roundw
        case rel => exact ⟨4, (v'.1, v'.2.1, v'.2.2.1, y), by omega, by omega, rfl, hB6, (by show _ = _; rw [Hy.out, hv.out]; rfl), hf6⟩
        case measure => simp [intOf]
      · rw [show ((4 : Nat) : Int) = 4 from rfl]
        go_wp2_with fail
        obtain ⟨wq, rfl⟩ : ∃ wq : World, wq = wr := ⟨_, rfl⟩
        go_loopw [13] (fun i wr => ∃ (k : Nat) (z' : ST), k ≤ 4 ∧ i = .int .i64 k ∧ BoxAt wr (pb + 2) z' ∧ Hid (z' = mapTo fmix32 v' k) ∧ Fr (fun x => x = pb + 2) w1 wr) (fun i _ => 4 - (intOf i).toNat)
        case atStart => exact ⟨0, v', by omega, rfl, hBi, rfl, hfi⟩
        case round =>
        obtain ⟨k, z', hk4, rfl, hBj, hz, hfj⟩ := hrel
        clear hBi hfi
        rcases (show k = 0 ∨ k = 1 ∨ k = 2 ∨ k = 3 ∨ k = 4 by omega) with rfl | rfl | rfl | rfl | rfl
        · have cb0 := (box_row hBj).c0
          go_wp2_with fail
          refine (refFmix32_any _ _).mono ?_
          rintro e w' ⟨rfl, rfl⟩
          obtain ⟨y, hy⟩ : ∃ y, y = fmix32 z'.1 := ⟨_, rfl⟩
          rw [← hy]
          have Hy := Lib.hid hy
          clear hy
          have fz0 := (box_row hBj).fz 0
          go_wp2_with fail
          go_roundw
          case rel => exact ⟨1, (y, z'.2.1, z'.2.2.1, z'.2.2.2), by omega, rfl, box_put0 hBj y, (by show _ = _; rw [Hy.out, hz.out]; exact mapTo_1 fmix32 v'), hfj.trans ((Fr.refl (fun x => x = pb + 2) wr).setCell (p := ⟨pb + 2, 0, none⟩) (.inl rfl) _) (fun x hx => .inl hx)⟩
          case measure => simp [intOf]
        · have cb1 := (box_row hBj).c1
          go_wp2_with fail
          refine (refFmix32_any _ _).mono ?_
          rintro e w' ⟨rfl, rfl⟩
          obtain ⟨y, hy⟩ : ∃ y, y = fmix32 z'.2.1 := ⟨_, rfl⟩
          rw [← hy]
          have Hy := Lib.hid hy
          clear hy
          have fz1 := (box_row hBj).fz 1
          go_wp2_with fail
          go_roundw
          case rel => exact ⟨2, (z'.1, y, z'.2.2.1, z'.2.2.2), by omega, rfl, box_put1 hBj y, (by show _ = _; rw [Hy.out, hz.out]; exact mapTo_2 fmix32 v'), hfj.trans ((Fr.refl (fun x => x = pb + 2) wr).setCell (p := ⟨pb + 2, 1, none⟩) (.inl rfl) _) (fun x hx => .inl hx)⟩
          case measure => simp [intOf]
        · have cb2 := (box_row hBj).c2
          go_wp2_with fail
          refine (refFmix32_any _ _).mono ?_
          rintro e w' ⟨rfl, rfl⟩
          obtain ⟨y, hy⟩ : ∃ y, y = fmix32 z'.2.2.1 := ⟨_, rfl⟩
          rw [← hy]
          have Hy := Lib.hid hy
          clear hy
          have fz2 := (box_row hBj).fz 2
          go_wp2_with fail
          go_roundw
          case rel => exact ⟨3, (z'.1, z'.2.1, y, z'.2.2.2), by omega, rfl, box_put2 hBj y, (by show _ = _; rw [Hy.out, hz.out]; exact mapTo_3 fmix32 v'), hfj.trans ((Fr.refl (fun x => x = pb + 2) wr).setCell (p := ⟨pb + 2, 2, none⟩) (.inl rfl) _) (fun x hx => .inl hx)⟩
          case measure => simp [intOf]
        · have cb3 := (box_row hBj).c3
          go_wp2_with fail
          refine (refFmix32_any _ _).mono ?_
          rintro e w' ⟨rfl, rfl⟩
          obtain ⟨y, hy⟩ : ∃ y, y = fmix32 z'.2.2.2 := ⟨_, rfl⟩
          rw [← hy]
          have Hy := Lib.hid hy
          clear hy
          have fz3 := (box_row hBj).fz 3
          go_wp2_with fail
          go_roundw
          case rel => exact ⟨4, (z'.1, z'.2.1, z'.2.2.1, y), by omega, rfl, box_put3 hBj y, (by show _ = _; rw [Hy.out, hz.out]; exact mapTo_4 fmix32 v'), hfj.trans ((Fr.refl (fun x => x = pb + 2) wr).setCell (p := ⟨pb + 2, 3, none⟩) (.inl rfl) _) (fun x hx => .inl hx)⟩
          case measure => simp [intOf]
        · rw [show ((4 : Nat) : Int) = 4 from rfl]
          go_wp2_with fail
          go_roundw
          case rel => exact ⟨1, z', by omega, rfl, hBj, (by show _ = _; rw [hz.out, hv.out, ht.out]; rfl), hfj⟩
          case measure => simp [intOf]
    · skip
      have cb0 := (box_row hB).c0
      have cb1 := (box_row hB).c1
      have cb2 := (box_row hB).c2
      have cb3 := (box_row hB).c3
      have fz0 := (box_row hB).fz 0
      rw [show ((1 : Nat) : Int) = 1 from rfl]
      go_wp2_with fail
      obtain ⟨x, hx⟩ : ∃ y, y = t'.1 + t'.2.1 + t'.2.2.1 + t'.2.2.2 := ⟨_, rfl⟩
      rw [← hx]
      have Hx := Lib.hid hx
      clear hx
      have hB1 : BoxAt _ (pb + 2) ((x, t'.2.1, t'.2.2.1, t'.2.2.2) : S4) := box_put0 hB x
      have hf1 := hf.trans ((Fr.refl (fun x => x = pb + 2) wr).setCell (p := ⟨pb + 2, 0, none⟩) (.inl rfl) (.int .u32 (W32 (x)))) (fun x hx => .inl hx)
      clear cb0 cb1 cb2 cb3 fz0 hB hf
      generalize wr.setCell ⟨pb + 2, 0, none⟩ (.int .u32 (W32 (x))) = wo at hB1 hf1 ⊢
      go_loopw [12] (fun i wr => ∃ (k : Nat) (v' : ST), 1 ≤ k ∧ k ≤ 4 ∧ i = .int .i64 k ∧ BoxAt wr (pb + 2) v' ∧ Hid (v' = spreadTo t' (k - 1)) ∧ Fr (fun x => x = pb + 2) w1 wr) (fun i _ => 4 - (intOf i).toNat)
      case atStart => exact ⟨1, _, by omega, by omega, rfl, hB1, (by show _ = _; rw [Hx.out]; rfl), hf1⟩
      case round =>
      obtain ⟨k, v', hk1, hk4, rfl, hBi, hv, hfi⟩ := hrel
      clear hB1 hf1 Hx
      rcases (show k = 1 ∨ k = 2 ∨ k = 3 ∨ k = 4 by omega) with rfl | rfl | rfl | rfl
      · obtain ⟨wi, rfl⟩ : ∃ wi : World, wi = wr := ⟨_, rfl⟩
        go_wp2_with fail
        refine wp_region_seq (by kernel_rfl) (fun w' => Fr No wi w') (fun i => decide (7 ≤ i)) [(0, 1), (1, 1), (2, 1), (3, 1), (4, 1), (5, 1), (6, 1), (7, 0)] (by kernel_rfl) (Fr.refl No wi).drew ?_
        have hv0 : Fr No wi wi.drew := (Fr.refl No wi).drew
        iterate 7 refine tq _ rfl rfl (by intro w9 h9; have q0 := (box_row (hBi.fr h9 (fun h => h))).c0; have q1 := (box_row (hBi.fr h9 (fun h => h))).c1; clear h9; go_simp; try with_reducible rfl) ?_; simp only [es1, es2, es3]
        obtain ⟨y, hy⟩ : ∃ y, y = v'.2.1 + v'.1 := ⟨_, rfl⟩
        rw [← hy]
        have Hy := Lib.hid hy
        clear hy
        have hBx := hBi.fr hv0 (fun h => h)
        have cx := (box_row hBx).c1
        have fx := (box_row hBx).fz 1
        refine wpSeq_next rfl rfl (fun K hK => ?_)
        go_wp2_with fail
        refine hK.out _ _ (fun h => by simp at h) ?_
        clear hK K
        refine wpSeq_done ?_
        have hB6 : BoxAt _ (pb + 2) ((v'.1, y, v'.2.2.1, v'.2.2.2) : S4) := BoxAt.fr (show BoxAt _ (pb + 2) ((v'.1, y, v'.2.2.1, v'.2.2.2) : S4) from box_put1 hBi y) (Fr.refl No _).drew (fun h => h)
        have hf6 := (hfi.trans ((Fr.refl (fun x => x = pb + 2) wi).setCell (p := ⟨pb + 2, 1, none⟩) (.inl rfl) (.int .u32 (W32 (y)))) (fun x hx => .inl hx)).drew
        clear hBx cx fx hBi hfi hv0
        go_wp2_with fail
        go_roundw
        case rel => exact ⟨2, (v'.1, y, v'.2.2.1, v'.2.2.2), by omega, by omega, rfl, hB6, (by show _ = _; rw [Hy.out, hv.out]; rfl), hf6⟩
        case measure => simp [intOf]
      · obtain ⟨wi, rfl⟩ : ∃ wi : World, wi = wr := ⟨_, rfl⟩
        go_wp2_with fail
        refine wp_region_seq (by kernel_rfl) (fun w' => Fr No wi w') (fun i => decide (7 ≤ i)) [(0, 1), (1, 1), (2, 1), (3, 1), (4, 1), (5, 1), (6, 1), (7, 0)] (by kernel_rfl) (Fr.refl No wi).drew ?_
        have hv0 : Fr No wi wi.drew := (Fr.refl No wi).drew
        iterate 7 refine tq _ rfl rfl (by intro w9 h9; have q0 := (box_row (hBi.fr h9 (fun h => h))).c0; have q1 := (box_row (hBi.fr h9 (fun h => h))).c2; clear h9; go_simp; try with_reducible rfl) ?_; simp only [es1, es2, es3]
        obtain ⟨y, hy⟩ : ∃ y, y = v'.2.2.1 + v'.1 := ⟨_, rfl⟩
        rw [← hy]
        have Hy := Lib.hid hy
        clear hy
        have hBx := hBi.fr hv0 (fun h => h)
        have cx := (box_row hBx).c2
        have fx := (box_row hBx).fz 2
        refine wpSeq_next rfl rfl (fun K hK => ?_)
        go_wp2_with fail
        refine hK.out _ _ (fun h => by simp at h) ?_
        clear hK K
        refine wpSeq_done ?_
        have hB6 : BoxAt _ (pb + 2) ((v'.1, v'.2.1, y, v'.2.2.2) : S4) := BoxAt.fr (show BoxAt _ (pb + 2) ((v'.1, v'.2.1, y, v'.2.2.2) : S4) from box_put2 hBi y) (Fr.refl No _).drew (fun h => h)
        have hf6 := (hfi.trans ((Fr.refl (fun x => x = pb + 2) wi).setCell (p := ⟨pb + 2, 2, none⟩) (.inl rfl) (.int .u32 (W32 (y)))) (fun x hx => .inl hx)).drew
        clear hBx cx fx hBi hfi hv0
        go_wp2_with fail
        go_roundw
        case rel => exact ⟨3, (v'.1, v'.2.1, y, v'.2.2.2), by omega, by omega, rfl, hB6, (by show _ = _; rw [Hy.out, hv.out]; rfl), hf6⟩
        case measure => simp [intOf]
      · obtain ⟨wi, rfl⟩ : ∃ wi : World, wi = wr := ⟨_, rfl⟩
        go_wp2_with fail
        refine wp_region_seq (by kernel_rfl) (fun w' => Fr No wi w') (fun i => decide (7 ≤ i)) [(0, 1), (1, 1), (2, 1), (3, 1), (4, 1), (5, 1), (6, 1), (7, 0)] (by kernel_rfl) (Fr.refl No wi).drew ?_
        have hv0 : Fr No wi wi.drew := (Fr.refl No wi).drew
        iterate 7 refine tq _ rfl rfl (by intro w9 h9; have q0 := (box_row (hBi.fr h9 (fun h => h))).c0; have q1 := (box_row (hBi.fr h9 (fun h => h))).c3; clear h9; go_simp; try with_reducible rfl) ?_; simp only [es1, es2, es3]
        obtain ⟨y, hy⟩ : ∃ y, y = v'.2.2.2 + v'.1 := ⟨_, rfl⟩
        rw [← hy]
        have Hy := Lib.hid hy
        clear hy
        have hBx := hBi.fr hv0 (fun h => h)
        have cx := (box_row hBx).c3
        have fx := (box_row hBx).fz 3
        refine wpSeq_next rfl rfl (fun K hK => ?_)
        go_wp2_with fail
        refine hK.out _ _ (fun h => by simp at h) ?_
        clear hK K
        refine wpSeq_done ?_
        have hB6 : BoxAt _ (pb + 2) ((v'.1, v'.2.1, v'.2.2.1, y) : S4) := BoxAt.fr (show BoxAt _ (pb + 2) ((v'.1, v'.2.1, v'.2.2.1, y) : S4) from box_put3 hBi y) (Fr.refl No _).drew (fun h => h)
        have hf6 := (hfi.trans ((Fr.refl (fun x => x = pb + 2) wi).setCell (p := ⟨pb + 2, 3, none⟩) (.inl rfl) (.int .u32 (W32 (y)))) (fun x hx => .inl hx)).drew
        clear hBx cx fx hBi hfi hv0
        go_wp2_with fail
        go_roundw
        case rel => exact ⟨4, (v'.1, v'.2.1, v'.2.2.1, y), by omega, by omega, rfl, hB6, (by show _ = _; rw [Hy.out, hv.out]; rfl), hf6⟩
        case measure => simp [intOf]
      · rw [show ((4 : Nat) : Int) = 4 from rfl]
        go_wp2_with fail
        obtain ⟨wq, rfl⟩ : ∃ wq : World, wq = wr := ⟨_, rfl⟩
        go_loopw [13] (fun i wr => i = .int .i64 0 ∧ BoxAt wr (pb + 2) v' ∧ Fr (fun x => x = pb + 2) w1 wr) (fun i _ => 4 - (intOf i).toNat)
        case atStart => exact ⟨rfl, hBi, hfi⟩
        case round =>
        obtain ⟨rfl, hBj, hfj⟩ := hrel
        clear hBi hfi
        go_wp2_with fail
        go_roundw
        case rel => exact ⟨2, v', by omega, rfl, hBj, (by show _ = _; rw [hv.out, ht.out]; rfl), hfj⟩
        case measure => simp [intOf]
    · have cb0 := (box_row hB).c0
      have cb1 := (box_row hB).c1
      have cb2 := (box_row hB).c2
      have cb3 := (box_row hB).c3
      have hU := hU0.fr hf (by omega)
      have cr0 := hU.c0
      have cr1 := hU.c1
      have fr0 := hU.fz 0
      have fr1 := hU.fz 1
      rw [show ((2 : Nat) : Int) = 2 from rfl]
      go_wp2_with fail
      rw [joinF_def, joinF_def]
      have hE : t' = endS s l lo := by rw [ht.out, HS3.out, out_def]
      have e1 : joinF t'.2.2.2 t'.2.2.1 = endHi s l lo := by
       show lastHi t' = lastHi (endS s l lo)
       rw [hE]
      have e2 : joinF t'.2.1 t'.1 = endLo s l lo := by
       show lastLo t' = lastLo (endS s l lo)
       rw [hE]
      have E1 := Lib.hid e1
      have E2 := Lib.hid e2
      clear hE e1 e2 cr0 cr1 fr0 fr1
      have hF9 := fr_put2 wr (pb + 1) (.int .u64 (W64 (joinF t'.2.2.2 t'.2.2.1))) (.int .u64 (W64 (joinF t'.2.1 t'.1)))
      have hR9 := row_put2 hU (.int .u64 (W64 (joinF t'.2.2.2 t'.2.2.1))) (.int .u64 (W64 (joinF t'.2.1 t'.1)))
      generalize (wr.setCell ⟨pb + 1, 0, none⟩ (.int .u64 (W64 (joinF t'.2.2.2 t'.2.2.1)))).setCell ⟨pb + 1, 1, none⟩ (.int .u64 (W64 (joinF t'.2.1 t'.1))) = w9 at hF9 hR9 ⊢
      have cd0 := hR9.c0
      have cd1 := hR9.c1
      refine bodyPost_ret (v := .agg #[.int .u64 (W64 (joinF t'.2.2.2 t'.2.2.1)), .int .u64 (W64 (joinF t'.2.1 t'.1))]) (by simp [results, Tryz.results35, go_sem, cd0, cd1]) rfl ?_
      exact ⟨by rw [E1.out, E2.out], (hF1.trans hf (fun x hx => .inr (by omega))).trans hF9 (fun x hx => .inr (by omega))⟩
end Go.Proofs.YtidlpihoafnobaaGreatDoor.StM86
