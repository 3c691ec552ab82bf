/- EndM86 -/
import Derived.Test.YtidlpihoafnobaaGreatDoorPStepM86
set_option linter.unusedVariables false
set_option linter.unusedSimpArgs false
namespace Go.Proofs.YtidlpihoafnobaaGreatDoor.StM86
set_option maxRecDepth 100000
open Go.Proofs.YtidlpihoafnobaaGreatDoor.StG32
open Go.RowKit
set_option maxHeartbeats 2000000 in
theorem spread_any (s : ST) (w : World) : Calls Tryz.prog 195 #[.agg #[.int .u32 (W32 (s.1)), .int .u32 (W32 (s.2.1)), .int .u32 (W32 (s.2.2.1)), .int .u32 (W32 (s.2.2.2))]] w (fun e w' => ∃ r, Hid (r = spreadF s) ∧ e = .returned (.agg #[.int .u32 (W32 (r.1)), .int .u32 (W32 (r.2.1)), .int .u32 (W32 (r.2.2.1)), .int .u32 (W32 (r.2.2.2))]) ∧ Fr No w w') := by
 have hF0 : Fr No w ((w.alloc (.cells #[.int .u32 (W32 (s.1)), .int .u32 (W32 (s.2.1)), .int .u32 (W32 (s.2.2.1)), .int .u32 (W32 (s.2.2.2))] 123)).alloc (.cells #[.int .u32 0, .int .u32 0, .int .u32 0, .int .u32 0] 123)) := ((Fr.refl No w).alloc _).alloc _
 have hB0 : BoxAt ((w.alloc (.cells #[.int .u32 (W32 (s.1)), .int .u32 (W32 (s.2.1)), .int .u32 (W32 (s.2.2.1)), .int .u32 (W32 (s.2.2.2))] 123)).alloc (.cells #[.int .u32 0, .int .u32 0, .int .u32 0, .int .u32 0] 123)) w.heap.size s := BoxAt.fr (row_box (row4_new w 123 (.int .u32 (W32 (s.1))) (.int .u32 (W32 (s.2.1))) (.int .u32 (W32 (s.2.2.1))) (.int .u32 (W32 (s.2.2.2))))) ((Fr.refl No _).alloc _) (fun h => h)
 have hZ0 : Row4 ((w.alloc (.cells #[.int .u32 (W32 (s.1)), .int .u32 (W32 (s.2.1)), .int .u32 (W32 (s.2.2.1)), .int .u32 (W32 (s.2.2.2))] 123)).alloc (.cells #[.int .u32 0, .int .u32 0, .int .u32 0, .int .u32 0] 123)) (w.heap.size + 1) 123 (.int .u32 0) (.int .u32 0) (.int .u32 0) (.int .u32 0) := heap_alloc2_new w _ _
 go_enter Tryz.func195, Tryz.ntmps195
 go_wp2
 generalize (w.alloc (.cells #[.int .u32 (W32 (s.1)), .int .u32 (W32 (s.2.1)), .int .u32 (W32 (s.2.2.1)), .int .u32 (W32 (s.2.2.2))] 123)).alloc (.cells #[.int .u32 0, .int .u32 0, .int .u32 0, .int .u32 0] 123) = w1 at hF0 hB0 hZ0 ⊢
 go_loopw [8] (fun i wr => ∃ (k : Nat) (x : BitVec 32), k ≤ 3 ∧ i = .int .i64 k ∧ BoxAt wr w.heap.size ((x, s.2.1, s.2.2.1, s.2.2.2) : S4) ∧ Hid (x = sumTo s k) ∧ Fr (fun x => x = w.heap.size) w1 wr) (fun i _ => 3 - (intOf i).toNat)
 case atStart => exact ⟨0, s.1, by omega, rfl, hB0, rfl, Fr.refl _ _⟩
 case round =>
  obtain ⟨k, x, hk, rfl, hB, hx, hf⟩ := hrel
  clear hB0
  rcases (show k = 0 ∨ k = 1 ∨ k = 2 ∨ k = 3 by omega) with rfl | rfl | rfl | rfl
  · have hRow := box_row hB
    have cb0 := hRow.c0
    have cb1 := hRow.c1
    have fz0 := hRow.fz 0
    go_wp2_with fail
    go_roundw
    case rel =>
     obtain ⟨y, hy⟩ : ∃ y, y = x + s.2.1 := ⟨_, rfl⟩
     rw [← hy]
     have Hy := Lib.hid hy
     clear hy
     exact ⟨1, y, by omega, rfl, box_put0 hB y, (by show _ = _; rw [Hy.out, hx.out]; rfl), hf.trans ((Fr.refl (fun x => x = w.heap.size) wr).setCell (p := ⟨w.heap.size, 0, none⟩) (.inl rfl) _) (fun x hx => .inl hx)⟩
    case measure => simp [intOf]
  · have hRow := box_row hB
    have cb0 := hRow.c0
    have cb2 := hRow.c2
    have fz0 := hRow.fz 0
    go_wp2_with fail
    go_roundw
    case rel =>
     obtain ⟨y, hy⟩ : ∃ y, y = x + s.2.2.1 := ⟨_, rfl⟩
     rw [← hy]
     have Hy := Lib.hid hy
     clear hy
     exact ⟨2, y, by omega, rfl, box_put0 hB y, (by show _ = _; rw [Hy.out, hx.out]; rfl), hf.trans ((Fr.refl (fun x => x = w.heap.size) wr).setCell (p := ⟨w.heap.size, 0, none⟩) (.inl rfl) _) (fun x hx => .inl hx)⟩
    case measure => simp [intOf]
  · have hRow := box_row hB
    have cb0 := hRow.c0
    have cb3 := hRow.c3
    have fz0 := hRow.fz 0
    go_wp2_with fail
    go_roundw
    case rel =>
     obtain ⟨y, hy⟩ : ∃ y, y = x + s.2.2.2 := ⟨_, rfl⟩
     rw [← hy]
     have Hy := Lib.hid hy
     clear hy
     exact ⟨3, y, by omega, rfl, box_put0 hB y, (by show _ = _; rw [Hy.out, hx.out]; rfl), hf.trans ((Fr.refl (fun x => x = w.heap.size) wr).setCell (p := ⟨w.heap.size, 0, none⟩) (.inl rfl) _) (fun x hx => .inl hx)⟩
    case measure => simp [intOf]
  · rw [show ((3 : Nat) : Int) = 3 from rfl]
    go_wp2_with fail
    have hB1 : BoxAt wr w.heap.size ((x, s.2.1, s.2.2.1, s.2.2.2) : S4) := hB
    clear hB
    obtain ⟨wo, rfl⟩ : ∃ wo : World, wo = wr := ⟨_, rfl⟩
    go_loopw [20] (fun i wr => ∃ (k : Nat) (s' : ST), k ≤ 3 ∧ i = .int .i64 k ∧ BoxAt wr w.heap.size s' ∧ Hid (s' = spreadTo s k) ∧ Fr (fun x => x = w.heap.size) w1 wr) (fun i _ => 3 - (intOf i).toNat)
    case atStart => exact ⟨0, _, by omega, rfl, hB1, (by show _ = _; rw [hx.out]; rfl), hf⟩
    case round =>
    clear hB1 hf hx
    obtain ⟨k, s', hk, rfl, hB, hs, hf⟩ := hrel
    rcases (show k = 0 ∨ k = 1 ∨ k = 2 ∨ k = 3 by omega) with rfl | rfl | rfl | rfl
    · go_wp2_with fail
      refine wp_region_seq (by kernel_rfl) (fun w' => Fr No wr w') (fun i => decide (8 ≤ i)) [(0, 1), (1, 1), (2, 1), (3, 1), (4, 1), (5, 1), (6, 1), (7, 1), (8, 0)] (by kernel_rfl) (Fr.refl No wr).drew ?_
      have hv0 : Fr No wr wr.drew := (Fr.refl No wr).drew
      iterate 3 refine tq _ rfl rfl (by intro w9 h9; have em : IntKind.i64.wrap 1 = 1 := (by decide); clear h9; go_simp; try with_reducible rfl) ?_; simp only [es1, es2, es3]
      iterate 5 refine tq _ rfl rfl (by intro w9 h9; have q0 := (box_row (hB.fr h9 (fun h => h))).c0; have q1 := (box_row (hB.fr h9 (fun h => h))).c1; clear h9; go_simp; try with_reducible rfl) ?_; simp only [es1, es2, es3]
      obtain ⟨y, hy⟩ : ∃ y, y = s'.2.1 + s'.1 := ⟨_, rfl⟩
      rw [← hy]
      have Hy := Lib.hid hy
      clear hy
      have hBx := hB.fr hv0 (fun h => h)
      have cx := (box_row hBx).c1
      have fx := (box_row hBx).fz 1
      refine wpSeq_next rfl rfl (fun K hK => ?_)
      go_wp2_with fail
      refine hK.out _ _ (fun h => by simp at h) ?_
      clear hK K
      refine wpSeq_done ?_
      have hB6 : BoxAt _ w.heap.size ((s'.1, y, s'.2.2.1, s'.2.2.2) : S4) := BoxAt.fr (show BoxAt _ w.heap.size ((s'.1, y, s'.2.2.1, s'.2.2.2) : S4) from box_put1 hB y) (Fr.refl No _).drew (fun h => h)
      have hf6 := (hf.trans ((Fr.refl (fun x => x = w.heap.size) wr).setCell (p := ⟨w.heap.size, 1, none⟩) (.inl rfl) (.int .u32 (W32 (y)))) (fun x hx => .inl hx)).drew
      clear hBx cx fx hB hf hv0
      go_wp2_with fail
      go_roundw
      case rel => exact ⟨1, (s'.1, y, s'.2.2.1, s'.2.2.2), by omega, rfl, hB6, (by show _ = _; rw [Hy.out, hs.out]; rfl), hf6⟩
      case measure => simp [intOf]
    · go_wp2_with fail
      refine wp_region_seq (by kernel_rfl) (fun w' => Fr No wr w') (fun i => decide (8 ≤ i)) [(0, 1), (1, 1), (2, 1), (3, 1), (4, 1), (5, 1), (6, 1), (7, 1), (8, 0)] (by kernel_rfl) (Fr.refl No wr).drew ?_
      have hv0 : Fr No wr wr.drew := (Fr.refl No wr).drew
      iterate 3 refine tq _ rfl rfl (by intro w9 h9; have em : IntKind.i64.wrap 2 = 2 := (by decide); clear h9; go_simp; try with_reducible rfl) ?_; simp only [es1, es2, es3]
      iterate 5 refine tq _ rfl rfl (by intro w9 h9; have q0 := (box_row (hB.fr h9 (fun h => h))).c0; have q1 := (box_row (hB.fr h9 (fun h => h))).c2; clear h9; go_simp; try with_reducible rfl) ?_; simp only [es1, es2, es3]
      obtain ⟨y, hy⟩ : ∃ y, y = s'.2.2.1 + s'.1 := ⟨_, rfl⟩
      rw [← hy]
      have Hy := Lib.hid hy
      clear hy
      have hBx := hB.fr hv0 (fun h => h)
      have cx := (box_row hBx).c2
      have fx := (box_row hBx).fz 2
      refine wpSeq_next rfl rfl (fun K hK => ?_)
      go_wp2_with fail
      refine hK.out _ _ (fun h => by simp at h) ?_
      clear hK K
      refine wpSeq_done ?_
      have hB6 : BoxAt _ w.heap.size ((s'.1, s'.2.1, y, s'.2.2.2) : S4) := BoxAt.fr (show BoxAt _ w.heap.size ((s'.1, s'.2.1, y, s'.2.2.2) : S4) from box_put2 hB y) (Fr.refl No _).drew (fun h => h)
      have hf6 := (hf.trans ((Fr.refl (fun x => x = w.heap.size) wr).setCell (p := ⟨w.heap.size, 2, none⟩) (.inl rfl) (.int .u32 (W32 (y)))) (fun x hx => .inl hx)).drew
      clear hBx cx fx hB hf hv0
      go_wp2_with fail
      go_roundw
      case rel => exact ⟨2, (s'.1, s'.2.1, y, s'.2.2.2), by omega, rfl, hB6, (by show _ = _; rw [Hy.out, hs.out]; rfl), hf6⟩
      case measure => simp [intOf]
    · go_wp2_with fail
      refine wp_region_seq (by kernel_rfl) (fun w' => Fr No wr w') (fun i => decide (8 ≤ i)) [(0, 1), (1, 1), (2, 1), (3, 1), (4, 1), (5, 1), (6, 1), (7, 1), (8, 0)] (by kernel_rfl) (Fr.refl No wr).drew ?_
      have hv0 : Fr No wr wr.drew := (Fr.refl No wr).drew
      iterate 3 refine tq _ rfl rfl (by intro w9 h9; have em : IntKind.i64.wrap 3 = 3 := (by decide); clear h9; go_simp; try with_reducible rfl) ?_; simp only [es1, es2, es3]
      iterate 5 refine tq _ rfl rfl (by intro w9 h9; have q0 := (box_row (hB.fr h9 (fun h => h))).c0; have q1 := (box_row (hB.fr h9 (fun h => h))).c3; clear h9; go_simp; try with_reducible rfl) ?_; simp only [es1, es2, es3]
      obtain ⟨y, hy⟩ : ∃ y, y = s'.2.2.2 + s'.1 := ⟨_, rfl⟩
      rw [← hy]
      have Hy := Lib.hid hy
      clear hy
      have hBx := hB.fr hv0 (fun h => h)
      have cx := (box_row hBx).c3
      have fx := (box_row hBx).fz 3
      refine wpSeq_next rfl rfl (fun K hK => ?_)
      go_wp2_with fail
      refine hK.out _ _ (fun h => by simp at h) ?_
      clear hK K
      refine wpSeq_done ?_
      have hB6 : BoxAt _ w.heap.size ((s'.1, s'.2.1, s'.2.2.1, y) : S4) := BoxAt.fr (show BoxAt _ w.heap.size ((s'.1, s'.2.1, s'.2.2.1, y) : S4) from box_put3 hB y) (Fr.refl No _).drew (fun h => h)
      have hf6 := (hf.trans ((Fr.refl (fun x => x = w.heap.size) wr).setCell (p := ⟨w.heap.size, 3, none⟩) (.inl rfl) (.int .u32 (W32 (y)))) (fun x hx => .inl hx)).drew
      clear hBx cx fx hB hf hv0
      go_wp2_with fail
      go_roundw
      case rel => exact ⟨3, (s'.1, s'.2.1, s'.2.2.1, y), by omega, rfl, hB6, (by show _ = _; rw [Hy.out, hs.out]; rfl), hf6⟩
      case measure => simp [intOf]
    · have hRow := box_row hB
      have cb0 := hRow.c0
      have cb1 := hRow.c1
      have cb2 := hRow.c2
      have cb3 := hRow.c3
      have hZ := hZ0.fr hf (by omega)
      have cr0 := hZ.c0
      have cr1 := hZ.c1
      have cr2 := hZ.c2
      have cr3 := hZ.c3
      have fr0 := hZ.fz 0
      have fr1 := hZ.fz 1
      have fr2 := hZ.fz 2
      have fr3 := hZ.fz 3
      go_wp2_with fail
      have hF3 := fr_put4 wr (w.heap.size + 1) (.int .u32 (W32 (s'.1))) (.int .u32 (W32 (s'.2.1))) (.int .u32 (W32 (s'.2.2.1))) (.int .u32 (W32 (s'.2.2.2)))
      have hR3 := row_put4 hZ (.int .u32 (W32 (s'.1))) (.int .u32 (W32 (s'.2.1))) (.int .u32 (W32 (s'.2.2.1))) (.int .u32 (W32 (s'.2.2.2)))
      clear cr0 fr0 cr1 fr1 cr2 fr2 cr3 fr3
      generalize (((wr.setCell ⟨w.heap.size + 1, 0, none⟩ (.int .u32 (W32 (s'.1)))).setCell ⟨w.heap.size + 1, 1, none⟩ (.int .u32 (W32 (s'.2.1)))).setCell ⟨w.heap.size + 1, 2, none⟩ (.int .u32 (W32 (s'.2.2.1)))).setCell ⟨w.heap.size + 1, 3, none⟩ (.int .u32 (W32 (s'.2.2.2))) = w3 at hF3 hR3 ⊢
      have cd0 := hR3.c0
      have cd1 := hR3.c1
      have cd2 := hR3.c2
      have cd3 := hR3.c3
      refine bodyPost_ret (v := .agg #[.int .u32 (W32 (s'.1)), .int .u32 (W32 (s'.2.1)), .int .u32 (W32 (s'.2.2.1)), .int .u32 (W32 (s'.2.2.2))]) (by simp [results, Tryz.results195, go_sem, cd0, cd1, cd2, cd3, lanesV, cS0, cS1, cS2, cS3]) rfl ?_
      exact ⟨s', hs, rfl, (hF0.trans hf (fun x hx => .inr (by omega))).trans hF3 (fun x hx => .inr (by omega))⟩
theorem mapTo_1 (f : BitVec 32 → BitVec 32) (s : S4) : ((f (mapTo f s 0).1, (mapTo f s 0).2.1, (mapTo f s 0).2.2.1, (mapTo f s 0).2.2.2) : S4) = mapTo f s 1 := rfl
theorem mapTo_2 (f : BitVec 32 → BitVec 32) (s : S4) : (((mapTo f s 1).1, f (mapTo f s 1).2.1, (mapTo f s 1).2.2.1, (mapTo f s 1).2.2.2) : S4) = mapTo f s 2 := rfl
theorem mapTo_3 (f : BitVec 32 → BitVec 32) (s : S4) : (((mapTo f s 2).1, (mapTo f s 2).2.1, f (mapTo f s 2).2.2.1, (mapTo f s 2).2.2.2) : S4) = mapTo f s 3 := rfl
theorem mapTo_4 (f : BitVec 32 → BitVec 32) (s : S4) : (((mapTo f s 3).1, (mapTo f s 3).2.1, (mapTo f s 3).2.2.1, f (mapTo f s 3).2.2.2) : S4) = mapTo f s 4 := rfl
set_option maxHeartbeats 1000000 in
theorem clo2_0 (s : ST) (pb : Nat) (tb xb nb : Nat) (a : Option Addr) (n c : Nat) (l : Bytes) (w : World) (hB : BoxAt w pb s) (ht : Hid (w.heap[tb]? = some (.cells #[.slice a n c] 22 (0, 0)))) (hx : M12 w xb 4) (hnw : Row4 w nb 123 (.int .u32 (W32 (num4 l 0))) (.int .u32 (W32 (num4 l 4))) (.int .u32 (W32 (num4 l 8))) (.int .u32 (W32 (num4 l 12)))) (hlen : Hid (l.length = n)) : Calls Tryz.prog 193 #[.int .i64 0, .pointer (some ⟨tb, 0, none⟩), .pointer (some ⟨pb, 0, none⟩), .pointer (some ⟨xb, 0, none⟩), .pointer (some ⟨nb, 0, none⟩)] w (GivesNew (.int .u32 (W32 (mix0 s l))) w) := by
 have ct : w.cell? ⟨tb, 0, none⟩ = some (.slice a n c) := by rw [cell_of_row w tb 0 _ _ _ ht.out]; rfl
 have hRow := box_row hB
 have cb0 := hRow.c0
 by_cases hn : 0 < n
 · have i1 : (0 : Int) < (n : Int) := by omega
   clear hRow cb0
   go_enter Tryz.func193, Tryz.ntmps193
   go_wp2_with fail
   refine rsq (by kernel_rfl) [(0, 1), (1, 1), (2, 1), (3, 1), (4, 1), (5, 1), (6, 1), (7, 1), (8, 1), (9, 0), (10, 1), (11, 1)] (by kernel_rfl) ?_
   have hv0 : Fr No w w.drew := (Fr.refl No w).drew
   iterate 9 refine tq _ rfl rfl (by intro w9 h9; have q0 := (box_row (hB.fr h9 (fun h => h))).c0; have qm0 := (hx.no h9).c 0 (v := .int .u32 597399067) rfl; have qm1 := (hx.no h9).c 1 (v := .int .i64 15) rfl; have qm2 := (hx.no h9).c 2 (v := .int .u32 2869860233) rfl; have q1 := (hnw.no h9).c0; clear h9; go_simp; try with_reducible rfl) ?_; simp only [es1, es2, es3]
   refine wpSeq_next rfl rfl (fun K hK => ?_)
   go_wp2_with fail
   refine (of0_any _ _).mono ?_
   rintro e xhv1 ⟨rfl, hx⟩
   have hv1 := hv0.no hx
   clear hx
   refine hK.out _ _ (fun _ => hv1) ?_
   clear hK K
   iterate 2 refine tp _ rfl rfl ?_; simp only [es1, es2, es3]
   refine wpSeq_done ?_
   rw [mix0_def]
   go_wp2_with fail
   go_ret
   exact ⟨rfl, hv1⟩
 · rw [mix0_none (by rw [hlen.out]; omega)]
   have i1 : (n : Int) ≤ 0 := by omega
   go_enter Tryz.func193, Tryz.ntmps193
   go_wp2_with fail
   go_ret
   exact ⟨rfl, Fr.refl No w⟩
set_option maxHeartbeats 1000000 in
theorem clo2_1 (s : ST) (pb : Nat) (tb xb nb : Nat) (a : Option Addr) (n c : Nat) (l : Bytes) (w : World) (hB : BoxAt w pb s) (ht : Hid (w.heap[tb]? = some (.cells #[.slice a n c] 22 (0, 0)))) (hx : M12 w xb 4) (hnw : Row4 w nb 123 (.int .u32 (W32 (num4 l 0))) (.int .u32 (W32 (num4 l 4))) (.int .u32 (W32 (num4 l 8))) (.int .u32 (W32 (num4 l 12)))) (hlen : Hid (l.length = n)) : Calls Tryz.prog 193 #[.int .i64 1, .pointer (some ⟨tb, 0, none⟩), .pointer (some ⟨pb, 0, none⟩), .pointer (some ⟨xb, 0, none⟩), .pointer (some ⟨nb, 0, none⟩)] w (GivesNew (.int .u32 (W32 (mix1 s l))) w) := by
 have ct : w.cell? ⟨tb, 0, none⟩ = some (.slice a n c) := by rw [cell_of_row w tb 0 _ _ _ ht.out]; rfl
 have hRow := box_row hB
 have cb1 := hRow.c1
 by_cases hn : 4 < n
 · have i1 : (4 : Int) < (n : Int) := by omega
   clear hRow cb1
   go_enter Tryz.func193, Tryz.ntmps193
   go_wp2_with fail
   refine rsq (by kernel_rfl) [(0, 1), (1, 1), (2, 1), (3, 1), (4, 1), (5, 1), (6, 1), (7, 1), (8, 1), (9, 0), (10, 1), (11, 1)] (by kernel_rfl) ?_
   have hv0 : Fr No w w.drew := (Fr.refl No w).drew
   iterate 9 refine tq _ rfl rfl (by intro w9 h9; have q0 := (box_row (hB.fr h9 (fun h => h))).c1; have qm0 := (hx.no h9).c 3 (v := .int .u32 2869860233) rfl; have qm1 := (hx.no h9).c 4 (v := .int .i64 16) rfl; have qm2 := (hx.no h9).c 5 (v := .int .u32 951274213) rfl; have q1 := (hnw.no h9).c1; clear h9; go_simp; try with_reducible rfl) ?_; simp only [es1, es2, es3]
   refine wpSeq_next rfl rfl (fun K hK => ?_)
   go_wp2_with fail
   refine (of1_any _ _).mono ?_
   rintro e xhv1 ⟨rfl, hx⟩
   have hv1 := hv0.no hx
   clear hx
   refine hK.out _ _ (fun _ => hv1) ?_
   clear hK K
   iterate 2 refine tp _ rfl rfl ?_; simp only [es1, es2, es3]
   refine wpSeq_done ?_
   rw [mix1_def]
   go_wp2_with fail
   go_ret
   exact ⟨rfl, hv1⟩
 · rw [mix1_none (by rw [hlen.out]; omega)]
   have i1 : (n : Int) ≤ 4 := by omega
   go_enter Tryz.func193, Tryz.ntmps193
   go_wp2_with fail
   go_ret
   exact ⟨rfl, Fr.refl No w⟩
set_option maxHeartbeats 1000000 in
theorem clo2_2 (s : ST) (pb : Nat) (tb xb nb : Nat) (a : Option Addr) (n c : Nat) (l : Bytes) (w : World) (hB : BoxAt w pb s) (ht : Hid (w.heap[tb]? = some (.cells #[.slice a n c] 22 (0, 0)))) (hx : M12 w xb 4) (hnw : Row4 w nb 123 (.int .u32 (W32 (num4 l 0))) (.int .u32 (W32 (num4 l 4))) (.int .u32 (W32 (num4 l 8))) (.int .u32 (W32 (num4 l 12)))) (hlen : Hid (l.length = n)) : Calls Tryz.prog 193 #[.int .i64 2, .pointer (some ⟨tb, 0, none⟩), .pointer (some ⟨pb, 0, none⟩), .pointer (some ⟨xb, 0, none⟩), .pointer (some ⟨nb, 0, none⟩)] w (GivesNew (.int .u32 (W32 (mix2 s l))) w) := by
 have ct : w.cell? ⟨tb, 0, none⟩ = some (.slice a n c) := by rw [cell_of_row w tb 0 _ _ _ ht.out]; rfl
 have hRow := box_row hB
 have cb2 := hRow.c2
 by_cases hn : 8 < n
 · have i1 : (8 : Int) < (n : Int) := by omega
   clear hRow cb2
   go_enter Tryz.func193, Tryz.ntmps193
   go_wp2_with fail
   refine rsq (by kernel_rfl) [(0, 1), (1, 1), (2, 1), (3, 1), (4, 1), (5, 1), (6, 1), (7, 1), (8, 1), (9, 0), (10, 1), (11, 1)] (by kernel_rfl) ?_
   have hv0 : Fr No w w.drew := (Fr.refl No w).drew
   iterate 9 refine tq _ rfl rfl (by intro w9 h9; have q0 := (box_row (hB.fr h9 (fun h => h))).c2; have qm0 := (hx.no h9).c 6 (v := .int .u32 951274213) rfl; have qm1 := (hx.no h9).c 7 (v := .int .i64 17) rfl; have qm2 := (hx.no h9).c 8 (v := .int .u32 2716044179) rfl; have q1 := (hnw.no h9).c2; clear h9; go_simp; try with_reducible rfl) ?_; simp only [es1, es2, es3]
   refine wpSeq_next rfl rfl (fun K hK => ?_)
   go_wp2_with fail
   refine (of2_any _ _).mono ?_
   rintro e xhv1 ⟨rfl, hx⟩
   have hv1 := hv0.no hx
   clear hx
   refine hK.out _ _ (fun _ => hv1) ?_
   clear hK K
   iterate 2 refine tp _ rfl rfl ?_; simp only [es1, es2, es3]
   refine wpSeq_done ?_
   rw [mix2_def]
   go_wp2_with fail
   go_ret
   exact ⟨rfl, hv1⟩
 · rw [mix2_none (by rw [hlen.out]; omega)]
   have i1 : (n : Int) ≤ 8 := by omega
   go_enter Tryz.func193, Tryz.ntmps193
   go_wp2_with fail
   go_ret
   exact ⟨rfl, Fr.refl No w⟩
set_option maxHeartbeats 1000000 in
theorem clo2_3 (s : ST) (pb : Nat) (tb xb nb : Nat) (a : Option Addr) (n c : Nat) (l : Bytes) (w : World) (hB : BoxAt w pb s) (ht : Hid (w.heap[tb]? = some (.cells #[.slice a n c] 22 (0, 0)))) (hx : M12 w xb 4) (hnw : Row4 w nb 123 (.int .u32 (W32 (num4 l 0))) (.int .u32 (W32 (num4 l 4))) (.int .u32 (W32 (num4 l 8))) (.int .u32 (W32 (num4 l 12)))) (hlen : Hid (l.length = n)) : Calls Tryz.prog 193 #[.int .i64 3, .pointer (some ⟨tb, 0, none⟩), .pointer (some ⟨pb, 0, none⟩), .pointer (some ⟨xb, 0, none⟩), .pointer (some ⟨nb, 0, none⟩)] w (GivesNew (.int .u32 (W32 (mix3 s l))) w) := by
 have ct : w.cell? ⟨tb, 0, none⟩ = some (.slice a n c) := by rw [cell_of_row w tb 0 _ _ _ ht.out]; rfl
 have hRow := box_row hB
 have cb3 := hRow.c3
 by_cases hn : 12 < n
 · have i1 : (12 : Int) < (n : Int) := by omega
   clear hRow cb3
   go_enter Tryz.func193, Tryz.ntmps193
   go_wp2_with fail
   refine rsq (by kernel_rfl) [(0, 1), (1, 1), (2, 1), (3, 1), (4, 1), (5, 1), (6, 1), (7, 1), (8, 1), (9, 0), (10, 1), (11, 1)] (by kernel_rfl) ?_
   have hv0 : Fr No w w.drew := (Fr.refl No w).drew
   iterate 9 refine tq _ rfl rfl (by intro w9 h9; have q0 := (box_row (hB.fr h9 (fun h => h))).c3; have qm0 := (hx.no h9).c 9 (v := .int .u32 2716044179) rfl; have qm1 := (hx.no h9).c 10 (v := .int .i64 18) rfl; have qm2 := (hx.no h9).c 11 (v := .int .u32 597399067) rfl; have q1 := (hnw.no h9).c3; clear h9; go_simp; try with_reducible rfl) ?_; simp only [es1, es2, es3]
   refine wpSeq_next rfl rfl (fun K hK => ?_)
   go_wp2_with fail
   refine (of3_any _ _).mono ?_
   rintro e xhv1 ⟨rfl, hx⟩
   have hv1 := hv0.no hx
   clear hx
   refine hK.out _ _ (fun _ => hv1) ?_
   clear hK K
   iterate 2 refine tp _ rfl rfl ?_; simp only [es1, es2, es3]
   refine wpSeq_done ?_
   rw [mix3_def]
   go_wp2_with fail
   go_ret
   exact ⟨rfl, hv1⟩
 · rw [mix3_none (by rw [hlen.out]; omega)]
   have i1 : (n : Int) ≤ 12 := by omega
   go_enter Tryz.func193, Tryz.ntmps193
   go_wp2_with fail
   go_ret
   exact ⟨rfl, Fr.refl No w⟩
set_option maxHeartbeats 2000000 in
theorem each2 (s : ST) (pb : Nat) (tb xb nb : Nat) (a : Option Addr) (n c : Nat) (l : Bytes) (w : World) (hB0 : BoxAt w pb s) (ht : Hid (w.heap[tb]? = some (.cells #[.slice a n c] 22 (0, 0)))) (hx : M12 w xb 4) (hnw : Row4 w nb 123 (.int .u32 (W32 (num4 l 0))) (.int .u32 (W32 (num4 l 4))) (.int .u32 (W32 (num4 l 8))) (.int .u32 (W32 (num4 l 12)))) (hlen : Hid (l.length = n)) (e1 : ¬ tb = pb) (e2 : ¬ xb = pb) (e3 : ¬ nb = pb) :
 Calls Tryz.prog 192 #[.func (.func 193) #[] #[.pointer (some ⟨tb, 0, none⟩), .pointer (some ⟨pb, 0, none⟩), .pointer (some ⟨xb, 0, none⟩), .pointer (some ⟨nb, 0, none⟩)], .pointer (some ⟨pb, 0, none⟩)] w (fun e w' => ∃ r, Hid (r = mixTo s l 4) ∧ e = .returned (.tuple #[]) ∧ BoxAt w' pb r ∧ Fr (fun x => x = pb) w w') := by
 go_enter Tryz.func192, Tryz.ntmps192
 go_wp2
 go_loopw [4] (fun i wr => ∃ (k : Nat) (s' : ST), k ≤ 4 ∧ i = .int .i64 k ∧ BoxAt wr pb s' ∧ Hid (s' = mixTo s l k) ∧ Fr (fun x => x = pb) w wr) (fun i _ => 4 - (intOf i).toNat)
 case atStart => exact ⟨0, s, by omega, rfl, hB0, rfl, Fr.refl _ _⟩
 case round =>
  obtain ⟨k, s', hk, rfl, hB, hs, hf⟩ := hrel
  clear hB0
  rcases (show k = 0 ∨ k = 1 ∨ k = 2 ∨ k = 3 ∨ k = 4 by omega) with rfl | rfl | rfl | rfl | rfl
  · go_wp2_with fail
    refine (clo2_0 s' pb tb xb nb a n c l wr hB (Lib.hid (hf.heap e1 ht.out)) (hx.fr hf e2) (hnw.fr hf e3) hlen).mono ?_
    rintro e w5 ⟨rfl, hf5⟩
    obtain ⟨y, hy⟩ : ∃ y, y = mix0 s' l := ⟨_, rfl⟩
    rw [← hy]
    have Hy := Lib.hid hy
    clear hy
    have hBx := hB.fr hf5 (fun h => h)
    have cx := (box_row hBx).c0
    have fx := (box_row hBx).fz 0
    go_wp2_with fail
    go_roundw
    case rel => exact ⟨1, (y, s'.2.1, s'.2.2.1, s'.2.2.2), by omega, rfl, box_put0 hBx y, (by show _ = _; rw [Hy.out, hs.out]; exact rfl), (hf.trans (hf5.mono (fun _ _ f => f.elim)) (fun x hx => .inl hx)).trans ((Fr.refl (fun x => x = pb) w5).setCell (p := ⟨pb, 0, none⟩) (.inl rfl) _) (fun x hx => .inl hx)⟩
    case measure => simp [intOf]
  · go_wp2_with fail
    refine (clo2_1 s' pb tb xb nb a n c l wr hB (Lib.hid (hf.heap e1 ht.out)) (hx.fr hf e2) (hnw.fr hf e3) hlen).mono ?_
    rintro e w5 ⟨rfl, hf5⟩
    obtain ⟨y, hy⟩ : ∃ y, y = mix1 s' l := ⟨_, rfl⟩
    rw [← hy]
    have Hy := Lib.hid hy
    clear hy
    have hBx := hB.fr hf5 (fun h => h)
    have cx := (box_row hBx).c1
    have fx := (box_row hBx).fz 1
    go_wp2_with fail
    go_roundw
    case rel => exact ⟨2, (s'.1, y, s'.2.2.1, s'.2.2.2), by omega, rfl, box_put1 hBx y, (by show _ = _; rw [Hy.out, hs.out]; exact rfl), (hf.trans (hf5.mono (fun _ _ f => f.elim)) (fun x hx => .inl hx)).trans ((Fr.refl (fun x => x = pb) w5).setCell (p := ⟨pb, 1, none⟩) (.inl rfl) _) (fun x hx => .inl hx)⟩
    case measure => simp [intOf]
  · go_wp2_with fail
    refine (clo2_2 s' pb tb xb nb a n c l wr hB (Lib.hid (hf.heap e1 ht.out)) (hx.fr hf e2) (hnw.fr hf e3) hlen).mono ?_
    rintro e w5 ⟨rfl, hf5⟩
    obtain ⟨y, hy⟩ : ∃ y, y = mix2 s' l := ⟨_, rfl⟩
    rw [← hy]
    have Hy := Lib.hid hy
    clear hy
    have hBx := hB.fr hf5 (fun h => h)
    have cx := (box_row hBx).c2
    have fx := (box_row hBx).fz 2
    go_wp2_with fail
    go_roundw
    case rel => exact ⟨3, (s'.1, s'.2.1, y, s'.2.2.2), by omega, rfl, box_put2 hBx y, (by show _ = _; rw [Hy.out, hs.out]; exact rfl), (hf.trans (hf5.mono (fun _ _ f => f.elim)) (fun x hx => .inl hx)).trans ((Fr.refl (fun x => x = pb) w5).setCell (p := ⟨pb, 2, none⟩) (.inl rfl) _) (fun x hx => .inl hx)⟩
    case measure => simp [intOf]
  · go_wp2_with fail
    refine (clo2_3 s' pb tb xb nb a n c l wr hB (Lib.hid (hf.heap e1 ht.out)) (hx.fr hf e2) (hnw.fr hf e3) hlen).mono ?_
    rintro e w5 ⟨rfl, hf5⟩
    obtain ⟨y, hy⟩ : ∃ y, y = mix3 s' l := ⟨_, rfl⟩
    rw [← hy]
    have Hy := Lib.hid hy
    clear hy
    have hBx := hB.fr hf5 (fun h => h)
    have cx := (box_row hBx).c3
    have fx := (box_row hBx).fz 3
    go_wp2_with fail
    go_roundw
    case rel => exact ⟨4, (s'.1, s'.2.1, s'.2.2.1, y), by omega, rfl, box_put3 hBx y, (by show _ = _; rw [Hy.out, hs.out]; exact rfl), (hf.trans (hf5.mono (fun _ _ f => f.elim)) (fun x hx => .inl hx)).trans ((Fr.refl (fun x => x = pb) w5).setCell (p := ⟨pb, 3, none⟩) (.inl rfl) _) (fun x hx => .inl hx)⟩
    case measure => simp [intOf]
  · go_wp2_with fail
    go_end0
    exact ⟨s', hs, rfl, hB, hf⟩
set_option maxHeartbeats 1000000 in
theorem clo3_0 (s : ST) (pb : Nat) (lb : Nat) (lo : BitVec 64) (w : World) (hB : BoxAt w pb s) (hl : Hid (w.heap[lb]? = some (.cells #[.int .u64 (W64 lo)] 28 (0, 0)))) : Calls Tryz.prog 194 #[.int .i64 0, .pointer (some ⟨pb, 0, none⟩), .pointer (some ⟨lb, 0, none⟩)] w (GivesNew (.int .u32 (W32 (s.1 ^^^ lo.setWidth 32))) w) := by
 have cl : w.cell? ⟨lb, 0, none⟩ = some (.int .u64 (W64 lo)) := by rw [cell_of_row w lb 0 _ _ _ hl.out]; rfl
 go_enter Tryz.func194, Tryz.ntmps194
 go_wp2_with fail
 refine rsq (by kernel_rfl) [(0, 1), (1, 1), (2, 1), (3, 1), (4, 1), (5, 1), (6, 1)] (by kernel_rfl) ?_
 have hv0 : Fr No w w.drew := (Fr.refl No w).drew
 iterate 7 refine tq _ rfl rfl (by intro w9 h9; have q0 := (box_row (hB.fr h9 (fun h => h))).c0; have q1 := h9.cell (fun h => h) cl; clear h9; go_simp; try with_reducible rfl) ?_; simp only [es1, es2, es3]
 refine wpSeq_done ?_
 go_wp2_with fail
 go_ret
 exact ⟨rfl, hv0⟩
set_option maxHeartbeats 1000000 in
theorem clo3_1 (s : ST) (pb : Nat) (lb : Nat) (lo : BitVec 64) (w : World) (hB : BoxAt w pb s) (hl : Hid (w.heap[lb]? = some (.cells #[.int .u64 (W64 lo)] 28 (0, 0)))) : Calls Tryz.prog 194 #[.int .i64 1, .pointer (some ⟨pb, 0, none⟩), .pointer (some ⟨lb, 0, none⟩)] w (GivesNew (.int .u32 (W32 (s.2.1 ^^^ lo.setWidth 32))) w) := by
 have cl : w.cell? ⟨lb, 0, none⟩ = some (.int .u64 (W64 lo)) := by rw [cell_of_row w lb 0 _ _ _ hl.out]; rfl
 go_enter Tryz.func194, Tryz.ntmps194
 go_wp2_with fail
 refine rsq (by kernel_rfl) [(0, 1), (1, 1), (2, 1), (3, 1), (4, 1), (5, 1), (6, 1)] (by kernel_rfl) ?_
 have hv0 : Fr No w w.drew := (Fr.refl No w).drew
 iterate 7 refine tq _ rfl rfl (by intro w9 h9; have q0 := (box_row (hB.fr h9 (fun h => h))).c1; have q1 := h9.cell (fun h => h) cl; clear h9; go_simp; try with_reducible rfl) ?_; simp only [es1, es2, es3]
 refine wpSeq_done ?_
 go_wp2_with fail
 go_ret
 exact ⟨rfl, hv0⟩
set_option maxHeartbeats 1000000 in
theorem clo3_2 (s : ST) (pb : Nat) (lb : Nat) (lo : BitVec 64) (w : World) (hB : BoxAt w pb s) (hl : Hid (w.heap[lb]? = some (.cells #[.int .u64 (W64 lo)] 28 (0, 0)))) : Calls Tryz.prog 194 #[.int .i64 2, .pointer (some ⟨pb, 0, none⟩), .pointer (some ⟨lb, 0, none⟩)] w (GivesNew (.int .u32 (W32 (s.2.2.1 ^^^ lo.setWidth 32))) w) := by
 have cl : w.cell? ⟨lb, 0, none⟩ = some (.int .u64 (W64 lo)) := by rw [cell_of_row w lb 0 _ _ _ hl.out]; rfl
 go_enter Tryz.func194, Tryz.ntmps194
 go_wp2_with fail
 refine rsq (by kernel_rfl) [(0, 1), (1, 1), (2, 1), (3, 1), (4, 1), (5, 1), (6, 1)] (by kernel_rfl) ?_
 have hv0 : Fr No w w.drew := (Fr.refl No w).drew
 iterate 7 refine tq _ rfl rfl (by intro w9 h9; have q0 := (box_row (hB.fr h9 (fun h => h))).c2; have q1 := h9.cell (fun h => h) cl; clear h9; go_simp; try with_reducible rfl) ?_; simp only [es1, es2, es3]
 refine wpSeq_done ?_
 go_wp2_with fail
 go_ret
 exact ⟨rfl, hv0⟩
set_option maxHeartbeats 1000000 in
theorem clo3_3 (s : ST) (pb : Nat) (lb : Nat) (lo : BitVec 64) (w : World) (hB : BoxAt w pb s) (hl : Hid (w.heap[lb]? = some (.cells #[.int .u64 (W64 lo)] 28 (0, 0)))) : Calls Tryz.prog 194 #[.int .i64 3, .pointer (some ⟨pb, 0, none⟩), .pointer (some ⟨lb, 0, none⟩)] w (GivesNew (.int .u32 (W32 (s.2.2.2 ^^^ lo.setWidth 32))) w) := by
 have cl : w.cell? ⟨lb, 0, none⟩ = some (.int .u64 (W64 lo)) := by rw [cell_of_row w lb 0 _ _ _ hl.out]; rfl
 go_enter Tryz.func194, Tryz.ntmps194
 go_wp2_with fail
 refine rsq (by kernel_rfl) [(0, 1), (1, 1), (2, 1), (3, 1), (4, 1), (5, 1), (6, 1)] (by kernel_rfl) ?_
 have hv0 : Fr No w w.drew := (Fr.refl No w).drew
 iterate 7 refine tq _ rfl rfl (by intro w9 h9; have q0 := (box_row (hB.fr h9 (fun h => h))).c3; have q1 := h9.cell (fun h => h) cl; clear h9; go_simp; try with_reducible rfl) ?_; simp only [es1, es2, es3]
 refine wpSeq_done ?_
 go_wp2_with fail
 go_ret
 exact ⟨rfl, hv0⟩
set_option maxHeartbeats 2000000 in
theorem each3 (s : ST) (pb : Nat) (lb : Nat) (lo : BitVec 64) (w : World) (hB0 : BoxAt w pb s) (hl : Hid (w.heap[lb]? = some (.cells #[.int .u64 (W64 lo)] 28 (0, 0)))) (e1 : ¬ lb = pb) :
 Calls Tryz.prog 192 #[.func (.func 194) #[] #[.pointer (some ⟨pb, 0, none⟩), .pointer (some ⟨lb, 0, none⟩)], .pointer (some ⟨pb, 0, none⟩)] w (fun e w' => ∃ r, Hid (r = mapTo (fun x => x ^^^ lo.setWidth 32) s 4) ∧ e = .returned (.tuple #[]) ∧ BoxAt w' pb r ∧ Fr (fun x => x = pb) w w') := by
 go_enter Tryz.func192, Tryz.ntmps192
 go_wp2
 go_loopw [4] (fun i wr => ∃ (k : Nat) (s' : ST), k ≤ 4 ∧ i = .int .i64 k ∧ BoxAt wr pb s' ∧ Hid (s' = mapTo (fun x => x ^^^ lo.setWidth 32) s k) ∧ Fr (fun x => x = pb) w wr) (fun i _ => 4 - (intOf i).toNat)
 case atStart => exact ⟨0, s, by omega, rfl, hB0, rfl, Fr.refl _ _⟩
 case round =>
  obtain ⟨k, s', hk, rfl, hB, hs, hf⟩ := hrel
  clear hB0
  rcases (show k = 0 ∨ k = 1 ∨ k = 2 ∨ k = 3 ∨ k = 4 by omega) with rfl | rfl | rfl | rfl | rfl
  · go_wp2_with fail
    refine (clo3_0 s' pb lb lo wr hB (Lib.hid (hf.heap e1 hl.out))).mono ?_
    rintro e w5 ⟨rfl, hf5⟩
    obtain ⟨y, hy⟩ : ∃ y, y = s'.1 ^^^ lo.setWidth 32 := ⟨_, rfl⟩
    rw [← hy]
    have Hy := Lib.hid hy
    clear hy
    have hBx := hB.fr hf5 (fun h => h)
    have cx := (box_row hBx).c0
    have fx := (box_row hBx).fz 0
    go_wp2_with fail
    go_roundw
    case rel => exact ⟨1, (y, s'.2.1, s'.2.2.1, s'.2.2.2), by omega, rfl, box_put0 hBx y, (by show _ = _; rw [Hy.out, hs.out]; exact rfl), (hf.trans (hf5.mono (fun _ _ f => f.elim)) (fun x hx => .inl hx)).trans ((Fr.refl (fun x => x = pb) w5).setCell (p := ⟨pb, 0, none⟩) (.inl rfl) _) (fun x hx => .inl hx)⟩
    case measure => simp [intOf]
  · go_wp2_with fail
    refine (clo3_1 s' pb lb lo wr hB (Lib.hid (hf.heap e1 hl.out))).mono ?_
    rintro e w5 ⟨rfl, hf5⟩
    obtain ⟨y, hy⟩ : ∃ y, y = s'.2.1 ^^^ lo.setWidth 32 := ⟨_, rfl⟩
    rw [← hy]
    have Hy := Lib.hid hy
    clear hy
    have hBx := hB.fr hf5 (fun h => h)
    have cx := (box_row hBx).c1
    have fx := (box_row hBx).fz 1
    go_wp2_with fail
    go_roundw
    case rel => exact ⟨2, (s'.1, y, s'.2.2.1, s'.2.2.2), by omega, rfl, box_put1 hBx y, (by show _ = _; rw [Hy.out, hs.out]; exact rfl), (hf.trans (hf5.mono (fun _ _ f => f.elim)) (fun x hx => .inl hx)).trans ((Fr.refl (fun x => x = pb) w5).setCell (p := ⟨pb, 1, none⟩) (.inl rfl) _) (fun x hx => .inl hx)⟩
    case measure => simp [intOf]
  · go_wp2_with fail
    refine (clo3_2 s' pb lb lo wr hB (Lib.hid (hf.heap e1 hl.out))).mono ?_
    rintro e w5 ⟨rfl, hf5⟩
    obtain ⟨y, hy⟩ : ∃ y, y = s'.2.2.1 ^^^ lo.setWidth 32 := ⟨_, rfl⟩
    rw [← hy]
    have Hy := Lib.hid hy
    clear hy
    have hBx := hB.fr hf5 (fun h => h)
    have cx := (box_row hBx).c2
    have fx := (box_row hBx).fz 2
    go_wp2_with fail
    go_roundw
    case rel => exact ⟨3, (s'.1, s'.2.1, y, s'.2.2.2), by omega, rfl, box_put2 hBx y, (by show _ = _; rw [Hy.out, hs.out]; exact rfl), (hf.trans (hf5.mono (fun _ _ f => f.elim)) (fun x hx => .inl hx)).trans ((Fr.refl (fun x => x = pb) w5).setCell (p := ⟨pb, 2, none⟩) (.inl rfl) _) (fun x hx => .inl hx)⟩
    case measure => simp [intOf]
  · go_wp2_with fail
    refine (clo3_3 s' pb lb lo wr hB (Lib.hid (hf.heap e1 hl.out))).mono ?_
    rintro e w5 ⟨rfl, hf5⟩
    obtain ⟨y, hy⟩ : ∃ y, y = s'.2.2.2 ^^^ lo.setWidth 32 := ⟨_, rfl⟩
    rw [← hy]
    have Hy := Lib.hid hy
    clear hy
    have hBx := hB.fr hf5 (fun h => h)
    have cx := (box_row hBx).c3
    have fx := (box_row hBx).fz 3
    go_wp2_with fail
    go_roundw
    case rel => exact ⟨4, (s'.1, s'.2.1, s'.2.2.1, y), by omega, rfl, box_put3 hBx y, (by show _ = _; rw [Hy.out, hs.out]; exact rfl), (hf.trans (hf5.mono (fun _ _ f => f.elim)) (fun x hx => .inl hx)).trans ((Fr.refl (fun x => x = pb) w5).setCell (p := ⟨pb, 3, none⟩) (.inl rfl) _) (fun x hx => .inl hx)⟩
    case measure => simp [intOf]
  · go_wp2_with fail
    go_end0
    exact ⟨s', hs, rfl, hB, hf⟩
set_option maxHeartbeats 1000000 in
theorem clo4_0 (s : ST) (pb : Nat)  (w : World) (hB : BoxAt w pb s)  : Calls Tryz.prog 196 #[.int .i64 0, .pointer (some ⟨pb, 0, none⟩)] w (GivesNew (.int .u32 (W32 (fmix32 s.1))) w) := by
 have hRow := box_row hB
 have cb0 := hRow.c0
 go_enter Tryz.func196, Tryz.ntmps196
 go_wp2_with fail
 refine (Fmix32_any _ _).mono ?_
 rintro e w' ⟨rfl, rfl⟩
 go_wp2_with fail
 go_ret
 exact ⟨rfl, Fr.refl No _⟩
set_option maxHeartbeats 1000000 in
theorem clo4_1 (s : ST) (pb : Nat)  (w : World) (hB : BoxAt w pb s)  : Calls Tryz.prog 196 #[.int .i64 1, .pointer (some ⟨pb, 0, none⟩)] w (GivesNew (.int .u32 (W32 (fmix32 s.2.1))) w) := by
 have hRow := box_row hB
 have cb1 := hRow.c1
 go_enter Tryz.func196, Tryz.ntmps196
 go_wp2_with fail
 refine (Fmix32_any _ _).mono ?_
 rintro e w' ⟨rfl, rfl⟩
 go_wp2_with fail
 go_ret
 exact ⟨rfl, Fr.refl No _⟩
set_option maxHeartbeats 1000000 in
theorem clo4_2 (s : ST) (pb : Nat)  (w : World) (hB : BoxAt w pb s)  : Calls Tryz.prog 196 #[.int .i64 2, .pointer (some ⟨pb, 0, none⟩)] w (GivesNew (.int .u32 (W32 (fmix32 s.2.2.1))) w) := by
 have hRow := box_row hB
 have cb2 := hRow.c2
 go_enter Tryz.func196, Tryz.ntmps196
 go_wp2_with fail
 refine (Fmix32_any _ _).mono ?_
 rintro e w' ⟨rfl, rfl⟩
 go_wp2_with fail
 go_ret
 exact ⟨rfl, Fr.refl No _⟩
set_option maxHeartbeats 1000000 in
theorem clo4_3 (s : ST) (pb : Nat)  (w : World) (hB : BoxAt w pb s)  : Calls Tryz.prog 196 #[.int .i64 3, .pointer (some ⟨pb, 0, none⟩)] w (GivesNew (.int .u32 (W32 (fmix32 s.2.2.2))) w) := by
 have hRow := box_row hB
 have cb3 := hRow.c3
 go_enter Tryz.func196, Tryz.ntmps196
 go_wp2_with fail
 refine (Fmix32_any _ _).mono ?_
 rintro e w' ⟨rfl, rfl⟩
 go_wp2_with fail
 go_ret
 exact ⟨rfl, Fr.refl No _⟩
set_option maxHeartbeats 2000000 in
theorem each4 (s : ST) (pb : Nat)  (w : World) (hB0 : BoxAt w pb s)   :
 Calls Tryz.prog 192 #[.func (.func 196) #[] #[.pointer (some ⟨pb, 0, none⟩)], .pointer (some ⟨pb, 0, none⟩)] w (fun e w' => ∃ r, Hid (r = mapTo fmix32 s 4) ∧ e = .returned (.tuple #[]) ∧ BoxAt w' pb r ∧ Fr (fun x => x = pb) w w') := by
 go_enter Tryz.func192, Tryz.ntmps192
 go_wp2
 go_loopw [4] (fun i wr => ∃ (k : Nat) (s' : ST), k ≤ 4 ∧ i = .int .i64 k ∧ BoxAt wr pb s' ∧ Hid (s' = mapTo fmix32 s k) ∧ Fr (fun x => x = pb) w wr) (fun i _ => 4 - (intOf i).toNat)
 case atStart => exact ⟨0, s, by omega, rfl, hB0, rfl, Fr.refl _ _⟩
 case round =>
  obtain ⟨k, s', hk, rfl, hB, hs, hf⟩ := hrel
  clear hB0
  rcases (show k = 0 ∨ k = 1 ∨ k = 2 ∨ k = 3 ∨ k = 4 by omega) with rfl | rfl | rfl | rfl | rfl
  · go_wp2_with fail
    refine (clo4_0 s' pb  wr hB ).mono ?_
    rintro e w5 ⟨rfl, hf5⟩
    obtain ⟨y, hy⟩ : ∃ y, y = fmix32 s'.1 := ⟨_, rfl⟩
    rw [← hy]
    have Hy := Lib.hid hy
    clear hy
    have hBx := hB.fr hf5 (fun h => h)
    have cx := (box_row hBx).c0
    have fx := (box_row hBx).fz 0
    go_wp2_with fail
    go_roundw
    case rel => exact ⟨1, (y, s'.2.1, s'.2.2.1, s'.2.2.2), by omega, rfl, box_put0 hBx y, (by show _ = _; rw [Hy.out, hs.out]; exact mapTo_1 fmix32 s), (hf.trans (hf5.mono (fun _ _ f => f.elim)) (fun x hx => .inl hx)).trans ((Fr.refl (fun x => x = pb) w5).setCell (p := ⟨pb, 0, none⟩) (.inl rfl) _) (fun x hx => .inl hx)⟩
    case measure => simp [intOf]
  · go_wp2_with fail
    refine (clo4_1 s' pb  wr hB ).mono ?_
    rintro e w5 ⟨rfl, hf5⟩
    obtain ⟨y, hy⟩ : ∃ y, y = fmix32 s'.2.1 := ⟨_, rfl⟩
    rw [← hy]
    have Hy := Lib.hid hy
    clear hy
    have hBx := hB.fr hf5 (fun h => h)
    have cx := (box_row hBx).c1
    have fx := (box_row hBx).fz 1
    go_wp2_with fail
    go_roundw
    case rel => exact ⟨2, (s'.1, y, s'.2.2.1, s'.2.2.2), by omega, rfl, box_put1 hBx y, (by show _ = _; rw [Hy.out, hs.out]; exact mapTo_2 fmix32 s), (hf.trans (hf5.mono (fun _ _ f => f.elim)) (fun x hx => .inl hx)).trans ((Fr.refl (fun x => x = pb) w5).setCell (p := ⟨pb, 1, none⟩) (.inl rfl) _) (fun x hx => .inl hx)⟩
    case measure => simp [intOf]
  · go_wp2_with fail
    refine (clo4_2 s' pb  wr hB ).mono ?_
    rintro e w5 ⟨rfl, hf5⟩
    obtain ⟨y, hy⟩ : ∃ y, y = fmix32 s'.2.2.1 := ⟨_, rfl⟩
    rw [← hy]
    have Hy := Lib.hid hy
    clear hy
    have hBx := hB.fr hf5 (fun h => h)
    have cx := (box_row hBx).c2
    have fx := (box_row hBx).fz 2
    go_wp2_with fail
    go_roundw
    case rel => exact ⟨3, (s'.1, s'.2.1, y, s'.2.2.2), by omega, rfl, box_put2 hBx y, (by show _ = _; rw [Hy.out, hs.out]; exact mapTo_3 fmix32 s), (hf.trans (hf5.mono (fun _ _ f => f.elim)) (fun x hx => .inl hx)).trans ((Fr.refl (fun x => x = pb) w5).setCell (p := ⟨pb, 2, none⟩) (.inl rfl) _) (fun x hx => .inl hx)⟩
    case measure => simp [intOf]
  · go_wp2_with fail
    refine (clo4_3 s' pb  wr hB ).mono ?_
    rintro e w5 ⟨rfl, hf5⟩
    obtain ⟨y, hy⟩ : ∃ y, y = fmix32 s'.2.2.2 := ⟨_, rfl⟩
    rw [← hy]
    have Hy := Lib.hid hy
    clear hy
    have hBx := hB.fr hf5 (fun h => h)
    have cx := (box_row hBx).c3
    have fx := (box_row hBx).fz 3
    go_wp2_with fail
    go_roundw
    case rel => exact ⟨4, (s'.1, s'.2.1, s'.2.2.1, y), by omega, rfl, box_put3 hBx y, (by show _ = _; rw [Hy.out, hs.out]; exact mapTo_4 fmix32 s), (hf.trans (hf5.mono (fun _ _ f => f.elim)) (fun x hx => .inl hx)).trans ((Fr.refl (fun x => x = pb) w5).setCell (p := ⟨pb, 3, none⟩) (.inl rfl) _) (fun x hx => .inl hx)⟩
    case measure => simp [intOf]
  · go_wp2_with fail
    go_end0
    exact ⟨s', hs, rfl, hB, hf⟩
end Go.Proofs.YtidlpihoafnobaaGreatDoor.StM86
