/- The reference of sip: End, One. -/
import Derived.Test.YtcbbllfgelnpjaaRefSip
import Derived.Deep.DeepCutAuto
namespace Go.Proofs.Ytcbbllfgelnpjaa.StSip
set_option linter.unusedVariables false
set_option linter.unusedSimpArgs false
open Go.RowKit

/-- A state in the block b, a result of two numbers in the block rb. -/
structure AtR (w0 w : World) (b rb : Nat) (s : ST) : Prop where
  row : Row4 w b 38 (.int .u64 (W64 s.1)) (.int .u64 (W64 s.2.1)) (.int .u64 (W64 s.2.2.1)) (.int .u64 (W64 s.2.2.2))
  res : Row2 w rb 24 (.int .u64 0) (.int .u64 0)
  fr : Fr No w0 w
  ge : w0.heap.size ≤ b
  ge2 : w0.heap.size ≤ rb
  ne : rb ≠ b
theorem AtR.no {w0 w w' : World} {b rb : Nat} {s : ST} (h : AtR w0 w b rb s) (k : Fr No w w') : AtR w0 w' b rb s := ⟨h.row.no k, h.res.no k, h.fr.no k, h.ge, h.ge2, h.ne⟩
theorem AtR.of {w0 w w' : World} {b rb : Nat} {s s' : ST} (h : AtR w0 w b rb s) (k : Fr (fun x => x = b) w w') (hr : Row4 w' b 38 (.int .u64 (W64 s'.1)) (.int .u64 (W64 s'.2.1)) (.int .u64 (W64 s'.2.2.1)) (.int .u64 (W64 s'.2.2.2))) : AtR w0 w' b rb s' :=
  ⟨hr, h.res.fr k h.ne, h.fr.trans k (fun x hx => .inr (by have := h.ge; omega)), h.ge, h.ge2, h.ne⟩
theorem AtR.put1 {w0 w : World} {b rb : Nat} {s : ST} (h : AtR w0 w b rb s) (c : BitVec 64) : AtR w0 (w.setCell ⟨b, 1, none⟩ (.int .u64 (W64 (s.2.1 ^^^ c)))) b rb (x1F c s) := h.of (fr_cell w b 1 _) (h.row.put1 _)
theorem AtR.put2 {w0 w : World} {b rb : Nat} {s : ST} (h : AtR w0 w b rb s) (c : BitVec 64) : AtR w0 (w.setCell ⟨b, 2, none⟩ (.int .u64 (W64 (s.2.2.1 ^^^ c)))) b rb (x2F c s) := h.of (fr_cell w b 2 _) (h.row.put2 _)
theorem AtR.put {w0 w : World} {b rb : Nat} {s : ST} (h : AtR w0 w b rb s) (t : ST) : AtR w0 ((((w.setCell ⟨b, 0, none⟩ (.int .u64 (W64 t.1))).setCell ⟨b, 1, none⟩ (.int .u64 (W64 t.2.1))).setCell ⟨b, 2, none⟩ (.int .u64 (W64 t.2.2.1))).setCell ⟨b, 3, none⟩ (.int .u64 (W64 t.2.2.2))) b rb t := h.of (fr_put4 w b (.int .u64 (W64 t.1)) (.int .u64 (W64 t.2.1)) (.int .u64 (W64 t.2.2.1)) (.int .u64 (W64 t.2.2.2))) (row_put4 h.row (.int .u64 (W64 t.1)) (.int .u64 (W64 t.2.1)) (.int .u64 (W64 t.2.2.1)) (.int .u64 (W64 t.2.2.2)))

theorem midF_add (kd : Int) (s : ST) (l : Bytes) (lo : BitVec 64) (hl : l.length < 8) : midF kd s l lo = wordF (cOf kd) s (le (l.take 8) + lo % 256#64 * 72057594037927936#64) := by unfold midF; rw [or_add l lo hl]
set_option maxHeartbeats 2000000 in
theorem refEnd_any (kd : Int) (hk : IsK kd) (hi lw : BitVec 64) (s : ST) (a : Option Addr) (n c : Nat) (l : Bytes) (lo : BitVec 64) (w : World) (hb : IsBytes w a n c l) (hl : l.length < 8) :
    Calls Try.prog 23 #[.int .i64 kd, .agg #[.int .u64 (W64 hi), .int .u64 (W64 lw)], lanesV s, .slice a n c, .int .u64 (W64 lo)] w (GivesNew (.agg #[.int .u64 (W64 (endHi kd s l lo)), .int .u64 (W64 (endLo kd s l lo))]) w) := by
  unfold lanesV
  obtain ⟨t, ht⟩ : ∃ z, z = wordF (cOf kd) s (le (l.take 8) + lo % 256#64 * 72057594037927936#64) := ⟨_, rfl⟩
  have HT := Lib.hid ht.symm
  clear ht
  have hR : Row4 (((w.alloc (.cells #[.int .u64 (W64 hi), .int .u64 (W64 lw)] 24)).alloc (.cells #[.int .u64 (W64 s.1), .int .u64 (W64 s.2.1), .int .u64 (W64 s.2.2.1), .int .u64 (W64 s.2.2.2)] 38)).alloc (.cells #[.int .u64 0, .int .u64 0] 24)) (w.heap.size + 1) 38 (.int .u64 (W64 s.1)) (.int .u64 (W64 s.2.1)) (.int .u64 (W64 s.2.2.1)) (.int .u64 (W64 s.2.2.2)) := Row4.no (show Row4 ((w.alloc (.cells #[.int .u64 (W64 hi), .int .u64 (W64 lw)] 24)).alloc (.cells #[.int .u64 (W64 s.1), .int .u64 (W64 s.2.1), .int .u64 (W64 s.2.2.1), .int .u64 (W64 s.2.2.2)] 38)) (w.heap.size + 1) 38 (.int .u64 (W64 s.1)) (.int .u64 (W64 s.2.1)) (.int .u64 (W64 s.2.2.1)) (.int .u64 (W64 s.2.2.2)) from heap_alloc2_new w _ _) ((Fr.refl No _).alloc _)
  have hU : Row2 (((w.alloc (.cells #[.int .u64 (W64 hi), .int .u64 (W64 lw)] 24)).alloc (.cells #[.int .u64 (W64 s.1), .int .u64 (W64 s.2.1), .int .u64 (W64 s.2.2.1), .int .u64 (W64 s.2.2.2)] 38)).alloc (.cells #[.int .u64 0, .int .u64 0] 24)) (w.heap.size + 2) 24 (.int .u64 0) (.int .u64 0) := heap_alloc3_new w _ _ _
  have hF : Fr No w (((w.alloc (.cells #[.int .u64 (W64 hi), .int .u64 (W64 lw)] 24)).alloc (.cells #[.int .u64 (W64 s.1), .int .u64 (W64 s.2.1), .int .u64 (W64 s.2.2.1), .int .u64 (W64 s.2.2.2)] 38)).alloc (.cells #[.int .u64 0, .int .u64 0] 24)) := (((Fr.refl No w).alloc _).alloc _).alloc _
  have hb1 := hb.no hF
  clear hb
  go_enter Try.func23, Try.ntmps23
  go_upto_region 1 with fail
  try rw [show w.heap.size + 1 + 1 = w.heap.size + 2 from rfl]
  obtain ⟨pb, hpb⟩ : ∃ pb, pb = w.heap.size + 1 := ⟨_, rfl⟩
  obtain ⟨rb, hrb⟩ : ∃ rb, rb = w.heap.size + 2 := ⟨_, rfl⟩
  have hrw : w.heap.size ≤ rb := by omega
  rw [← hpb] at hR ⊢
  rw [← hrb] at hU ⊢
  clear hpb hrb
  generalize (((w.alloc (.cells #[.int .u64 (W64 hi), .int .u64 (W64 lw)] 24)).alloc (.cells #[.int .u64 (W64 s.1), .int .u64 (W64 s.2.1), .int .u64 (W64 s.2.2.1), .int .u64 (W64 s.2.2.2)] 38)).alloc (.cells #[.int .u64 0, .int .u64 0] 24)) = w1 at hR hU hF hb1 ⊢
  go_cut [11] (fun s11 wx => ∃ nb, s11 = .pointer (some ⟨nb, 0, none⟩) ∧ AtR w wx nb rb t)
  case first =>
    refine wp_region_late (by kernel_rfl) (fun w' => Fr No w1 w') (fun _ => false) (Fr.refl No w1).drew (fun hv0 => ?_)
    refine wpLate_seg [(0, 1), (1, 1), (2, 1), (4, 1), (5, 1), (6, 1)] 5 #[true, true, true, false, true, true, true, false, false, false, false] (by kernel_rfl) rfl hv0 ?_
    refine wpSeq_take (v := ?_) 13 rfl rfl (fun _ _ _ h => h) (Or.inl ⟨rfl, ?_⟩) ?_
    rotate_left 1
    · (intro w9 h9; go_simp; try with_reducible rfl)
    simp only [List.setIfInBounds_toArray, List.set_cons_zero, List.set_cons_succ]
    refine wpSeq_take (v := ?_) 14 rfl rfl (fun _ _ _ h => h) (Or.inl ⟨rfl, ?_⟩) ?_
    rotate_left 1
    · (intro w9 h9; have q0 := (hR.no h9).c0; have q1 := (hR.no h9).c1; have q2 := (hR.no h9).c2; have q3 := (hR.no h9).c3; clear h9; go_simp; try with_reducible rfl)
    simp only [List.setIfInBounds_toArray, List.set_cons_zero, List.set_cons_succ]
    refine wpSeq_take (v := ?_) 15 rfl rfl (fun _ _ _ h => h) (Or.inl ⟨rfl, ?_⟩) ?_
    rotate_left 1
    · (intro w9 h9; go_simp; try with_reducible rfl)
    simp only [List.setIfInBounds_toArray, List.set_cons_zero, List.set_cons_succ]
    refine wpSeq_take (v := ?_) 17 rfl rfl (fun _ _ _ h => h) (Or.inl ⟨rfl, ?_⟩) ?_
    rotate_left 1
    · (intro w9 h9; go_simp; try with_reducible rfl)
    simp only [List.setIfInBounds_toArray, List.set_cons_zero, List.set_cons_succ]
    refine wpSeq_take (v := ?_) 18 rfl rfl (fun _ _ _ h => h) (Or.inl ⟨rfl, ?_⟩) ?_
    rotate_left 1
    · (intro w9 h9; go_simp; try with_reducible rfl)
    simp only [List.setIfInBounds_toArray, List.set_cons_zero, List.set_cons_succ]
    refine wpSeq_take (v := ?_) 19 rfl rfl (fun _ _ _ h => h) (Or.inl ⟨rfl, ?_⟩) ?_
    rotate_left 1
    · (intro w9 h9; go_simp; try with_reducible rfl)
    simp only [List.setIfInBounds_toArray, List.set_cons_zero, List.set_cons_succ]
    refine wpSeq_done ?_
    refine wpLate_two (i := 3) (j := 9) (by kernel_rfl) rfl rfl rfl rfl (fun K hK => ?_) (fun K hK => ?_)
    · go_wp2_with fail
      refine (refNum_any _ _ _ l 0 8 _ (hb1.no hv0) (by omega) (by omega) (by omega) (by omega)).mono ?_
      rintro e w' ⟨rfl, rfl⟩
      refine hK.out _ _ (fun _ => hv0) ?_
      clear hK K
      refine wpLate_seg [(7, 1)] 3 #[true, true, true, true, true, true, true, true, false, false, false] (by kernel_rfl) rfl hv0 ?_
      refine wpSeq_take (v := ?_) 20 rfl rfl (fun _ _ _ h => h) (Or.inl ⟨rfl, ?_⟩) ?_
      rotate_left 1
      · (intro w9 h9; go_simp; try with_reducible rfl)
      simp only [List.setIfInBounds_toArray, List.set_cons_zero, List.set_cons_succ]
      refine wpSeq_done ?_
      refine wpLate_two (i := 8) (j := 9) (by kernel_rfl) rfl rfl rfl rfl (fun K hK => ?_) (fun K hK => ?_)
      · go_wp2_with fail
        refine (refWord_any kd hk s (le (l.take 8) + lo % 256#64 * 72057594037927936#64) _).mono ?_
        rw [HT.out]
        rintro e y1 ⟨rfl, hx⟩
        have hy1 := hv0.no hx
        clear hx
        unfold lanesV
        refine hK.out _ _ (fun _ => hy1) ?_
        clear hK K
        refine wpLate_seg [(9, 0), (10, 0)] 0 #[true, true, true, true, true, true, true, true, true, true, true] (by kernel_rfl) rfl hy1 ?_
        refine wpSeq_next rfl rfl (fun K hK => ?_)
        go_wp2_with fail
        have hy2 : Fr No w1 (y1.alloc (.cells #[.int .u64 0, .int .u64 0, .int .u64 0, .int .u64 0] 38)) := hy1.alloc _
        refine hK.out _ _ (fun _ => hy2) ?_
        clear hK K
        have hZ : Row4 (y1.alloc (.cells #[.int .u64 0, .int .u64 0, .int .u64 0, .int .u64 0] 38)) y1.heap.size 38 (.int .u64 0) (.int .u64 0) (.int .u64 0) (.int .u64 0) := row4_new y1 38 (.int .u64 0) (.int .u64 0) (.int .u64 0) (.int .u64 0)
        obtain ⟨nb, hnb⟩ : ∃ nb, nb = y1.heap.size := ⟨_, rfl⟩
        have hrl : w1.heap.size ≤ nb := by rw [hnb]; exact hy1.size
        rw [← hnb] at hZ ⊢
        clear hnb
        generalize y1.alloc (.cells #[.int .u64 0, .int .u64 0, .int .u64 0, .int .u64 0] 38) = wz at hy2 hZ ⊢
        have cr0 := hZ.c0
        have cr1 := hZ.c1
        have cr2 := hZ.c2
        have cr3 := hZ.c3
        have fr0 := hZ.fz 0
        have fr1 := hZ.fz 1
        have fr2 := hZ.fz 2
        have fr3 := hZ.fz 3
        refine wpSeq_next rfl rfl (fun K hK => ?_)
        go_wp2_with fail
        have hvB : Fr No w1 ((((wz.setCell ⟨nb, 0, none⟩ (.int .u64 (W64 t.1))).setCell ⟨nb, 1, none⟩ (.int .u64 (W64 t.2.1))).setCell ⟨nb, 2, none⟩ (.int .u64 (W64 t.2.2.1))).setCell ⟨nb, 3, none⟩ (.int .u64 (W64 t.2.2.2))) := hy2.trans (fr_put4 wz nb (.int .u64 (W64 t.1)) (.int .u64 (W64 t.2.1)) (.int .u64 (W64 t.2.2.1)) (.int .u64 (W64 t.2.2.2))) (fun x hx => .inr (by omega))
        refine hK.out _ _ (fun _ => hvB) ?_
        clear hK K
        have hZF := row_put4 hZ (.int .u64 (W64 t.1)) (.int .u64 (W64 t.2.1)) (.int .u64 (W64 t.2.2.1)) (.int .u64 (W64 t.2.2.2))
        clear cr0 cr1 cr2 cr3 fr0 fr1 fr2 fr3
        refine wpSeq_done ?_
        refine wpLate_done (by kernel_rfl) ?_ _
        go_wp2_with fail
        go_meet
        exact ⟨nb, rfl, hZF, hU.no hvB, hF.no hvB, by have := hF.size; omega, by omega, by have := hU.lt; omega⟩
      · go_wp2_with fail
        have hy1 : Fr No w1 (w1.alloc (.cells #[.int .u64 0, .int .u64 0, .int .u64 0, .int .u64 0] 38)).drew := ((Fr.refl No w1).alloc _).drew
        refine hK.out _ _ (fun _ => hy1) ?_
        clear hK K
        have hZ : Row4 (w1.alloc (.cells #[.int .u64 0, .int .u64 0, .int .u64 0, .int .u64 0] 38)).drew w1.heap.size 38 (.int .u64 0) (.int .u64 0) (.int .u64 0) (.int .u64 0) := (row4_new w1 38 (.int .u64 0) (.int .u64 0) (.int .u64 0) (.int .u64 0)).no (Fr.refl No _).drew
        obtain ⟨nb, hnb⟩ : ∃ nb, nb = w1.heap.size := ⟨_, rfl⟩
        have hrl : w1.heap.size ≤ nb := by rw [hnb]; exact hv0.size
        rw [← hnb] at hZ ⊢
        clear hnb
        generalize (w1.alloc (.cells #[.int .u64 0, .int .u64 0, .int .u64 0, .int .u64 0] 38)).drew = wz at hy1 hZ ⊢
        refine wpLate_seg [(8, 0), (10, 0)] 0 #[true, true, true, true, true, true, true, true, true, true, true] (by kernel_rfl) rfl hy1 ?_
        refine wpSeq_next rfl rfl (fun K hK => ?_)
        go_wp2_with fail
        refine (refWord_any kd hk s (le (l.take 8) + lo % 256#64 * 72057594037927936#64) _).mono ?_
        rw [HT.out]
        rintro e y2 ⟨rfl, hx⟩
        have hy2 := hy1.no hx
        replace hZ := hZ.no hx
        clear hx
        unfold lanesV
        refine hK.out _ _ (fun _ => hy2) ?_
        clear hK K
        have cr0 := hZ.c0
        have cr1 := hZ.c1
        have cr2 := hZ.c2
        have cr3 := hZ.c3
        have fr0 := hZ.fz 0
        have fr1 := hZ.fz 1
        have fr2 := hZ.fz 2
        have fr3 := hZ.fz 3
        refine wpSeq_next rfl rfl (fun K hK => ?_)
        go_wp2_with fail
        have hvB : Fr No w1 ((((y2.setCell ⟨nb, 0, none⟩ (.int .u64 (W64 t.1))).setCell ⟨nb, 1, none⟩ (.int .u64 (W64 t.2.1))).setCell ⟨nb, 2, none⟩ (.int .u64 (W64 t.2.2.1))).setCell ⟨nb, 3, none⟩ (.int .u64 (W64 t.2.2.2))) := hy2.trans (fr_put4 y2 nb (.int .u64 (W64 t.1)) (.int .u64 (W64 t.2.1)) (.int .u64 (W64 t.2.2.1)) (.int .u64 (W64 t.2.2.2))) (fun x hx => .inr (by omega))
        refine hK.out _ _ (fun _ => hvB) ?_
        clear hK K
        have hZF := row_put4 hZ (.int .u64 (W64 t.1)) (.int .u64 (W64 t.2.1)) (.int .u64 (W64 t.2.2.1)) (.int .u64 (W64 t.2.2.2))
        clear cr0 cr1 cr2 cr3 fr0 fr1 fr2 fr3
        refine wpSeq_done ?_
        refine wpLate_done (by kernel_rfl) ?_ _
        go_wp2_with fail
        go_meet
        exact ⟨nb, rfl, hZF, hU.no hvB, hF.no hvB, by have := hF.size; omega, by omega, by have := hU.lt; omega⟩
    · go_wp2_with fail
      have hy1 : Fr No w1 (w1.alloc (.cells #[.int .u64 0, .int .u64 0, .int .u64 0, .int .u64 0] 38)).drew := ((Fr.refl No w1).alloc _).drew
      refine hK.out _ _ (fun _ => hy1) ?_
      clear hK K
      have hZ : Row4 (w1.alloc (.cells #[.int .u64 0, .int .u64 0, .int .u64 0, .int .u64 0] 38)).drew w1.heap.size 38 (.int .u64 0) (.int .u64 0) (.int .u64 0) (.int .u64 0) := (row4_new w1 38 (.int .u64 0) (.int .u64 0) (.int .u64 0) (.int .u64 0)).no (Fr.refl No _).drew
      obtain ⟨nb, hnb⟩ : ∃ nb, nb = w1.heap.size := ⟨_, rfl⟩
      have hrl : w1.heap.size ≤ nb := by rw [hnb]; exact hv0.size
      rw [← hnb] at hZ ⊢
      clear hnb
      generalize (w1.alloc (.cells #[.int .u64 0, .int .u64 0, .int .u64 0, .int .u64 0] 38)).drew = wz at hy1 hZ ⊢
      refine wpLate_seg [(3, 0), (7, 1), (8, 0), (10, 0)] 0 #[true, true, true, true, true, true, true, true, true, true, true] (by kernel_rfl) rfl hy1 ?_
      refine wpSeq_next rfl rfl (fun K hK => ?_)
      go_wp2_with fail
      refine (refNum_any _ _ _ l 0 8 _ (hb1.no hy1) (by omega) (by omega) (by omega) (by omega)).mono ?_
      rintro e w' ⟨rfl, rfl⟩
      refine hK.out _ _ (fun _ => hy1) ?_
      clear hK K
      refine wpSeq_take (v := ?_) 20 rfl rfl (fun _ _ _ h => h) (Or.inl ⟨rfl, ?_⟩) ?_
      rotate_left 1
      · (intro w9 h9; go_simp; try with_reducible rfl)
      simp only [List.setIfInBounds_toArray, List.set_cons_zero, List.set_cons_succ]
      refine wpSeq_next rfl rfl (fun K hK => ?_)
      go_wp2_with fail
      refine (refWord_any kd hk s (le (l.take 8) + lo % 256#64 * 72057594037927936#64) _).mono ?_
      rw [HT.out]
      rintro e y2 ⟨rfl, hx⟩
      have hy2 := hy1.no hx
      replace hZ := hZ.no hx
      clear hx
      unfold lanesV
      refine hK.out _ _ (fun _ => hy2) ?_
      clear hK K
      have cr0 := hZ.c0
      have cr1 := hZ.c1
      have cr2 := hZ.c2
      have cr3 := hZ.c3
      have fr0 := hZ.fz 0
      have fr1 := hZ.fz 1
      have fr2 := hZ.fz 2
      have fr3 := hZ.fz 3
      refine wpSeq_next rfl rfl (fun K hK => ?_)
      go_wp2_with fail
      have hvB : Fr No w1 ((((y2.setCell ⟨nb, 0, none⟩ (.int .u64 (W64 t.1))).setCell ⟨nb, 1, none⟩ (.int .u64 (W64 t.2.1))).setCell ⟨nb, 2, none⟩ (.int .u64 (W64 t.2.2.1))).setCell ⟨nb, 3, none⟩ (.int .u64 (W64 t.2.2.2))) := hy2.trans (fr_put4 y2 nb (.int .u64 (W64 t.1)) (.int .u64 (W64 t.2.1)) (.int .u64 (W64 t.2.2.1)) (.int .u64 (W64 t.2.2.2))) (fun x hx => .inr (by omega))
      refine hK.out _ _ (fun _ => hvB) ?_
      clear hK K
      have hZF := row_put4 hZ (.int .u64 (W64 t.1)) (.int .u64 (W64 t.2.1)) (.int .u64 (W64 t.2.2.1)) (.int .u64 (W64 t.2.2.2))
      clear cr0 cr1 cr2 cr3 fr0 fr1 fr2 fr3
      refine wpSeq_done ?_
      refine wpLate_done (by kernel_rfl) ?_ _
      go_wp2_with fail
      go_meet
      exact ⟨nb, rfl, hZF, hU.no hvB, hF.no hvB, by have := hF.size; omega, by omega, by have := hU.lt; omega⟩
  case rest =>
  obtain ⟨nb, rfl, hA⟩ := hcut
  clear hR hU hF hb1
  rcases hk with rfl | rfl | rfl
  · have HK : Hid (¬ (6 : Int) = 8) := Lib.hid (by omega)
    have q0 := hA.row.c0
    have q1 := hA.row.c1
    have q2 := hA.row.c2
    have q3 := hA.row.c3
    have z0 := hA.row.fz 0
    have z1 := hA.row.fz 1
    have z2 := hA.row.fz 2
    have z3 := hA.row.fz 3
    go_upto_region 4 with fail
    have hA3 := hA.put2 255#64
    clear q0 q1 q2 q3 z0 z1 z2 z3 hA
    generalize wc.setCell ⟨nb, 2, none⟩ (.int .u64 (W64 (t.2.2.1 ^^^ 255#64))) = w3 at hA3 ⊢
    obtain ⟨s3, hs3⟩ : ∃ z : ST, z = x2F 255#64 t := ⟨_, rfl⟩
    rw [← hs3] at hA3
    have Hs3 := Lib.hid hs3
    clear hs3
    have q0 := hA3.row.c0
    have q1 := hA3.row.c1
    have q2 := hA3.row.c2
    have q3 := hA3.row.c3
    have z0 := hA3.row.fz 0
    have z1 := hA3.row.fz 1
    have z2 := hA3.row.fz 2
    have z3 := hA3.row.fz 3
    go_wp2_with fail
    refine (refRounds_any s3 4 (by omega) _).mono ?_
    rintro e w4 ⟨rfl, hx⟩
    have hA4 := hA3.no hx
    clear q0 q1 q2 q3 z0 z1 z2 z3 hA3 hx
    obtain ⟨t4, ht4⟩ : ∃ z, z = roundsF 4 s3 := ⟨_, rfl⟩
    rw [← ht4]
    have Ht4 := Lib.hid ht4
    clear ht4
    unfold lanesV
    have q0 := hA4.row.c0
    have q1 := hA4.row.c1
    have q2 := hA4.row.c2
    have q3 := hA4.row.c3
    have z0 := hA4.row.fz 0
    have z1 := hA4.row.fz 1
    have z2 := hA4.row.fz 2
    have z3 := hA4.row.fz 3
    go_upto_region 7 with fail
    have hA5 := hA4.put t4
    clear q0 q1 q2 q3 z0 z1 z2 z3 hA4
    generalize ((((w4.setCell ⟨nb, 0, none⟩ (.int .u64 (W64 t4.1))).setCell ⟨nb, 1, none⟩ (.int .u64 (W64 t4.2.1))).setCell ⟨nb, 2, none⟩ (.int .u64 (W64 t4.2.2.1))).setCell ⟨nb, 3, none⟩ (.int .u64 (W64 t4.2.2.2))) = w5 at hA5 ⊢
    have q0 := hA5.row.c0
    have q1 := hA5.row.c1
    have q2 := hA5.row.c2
    have q3 := hA5.row.c3
    have z0 := hA5.row.fz 0
    have z1 := hA5.row.fz 1
    have z2 := hA5.row.fz 2
    have z3 := hA5.row.fz 3
    have cr0 := hA5.res.c0
    have cr1 := hA5.res.c1
    have fr0 := hA5.res.fz 0
    have fr1 := hA5.res.fz 1
    go_wp2_with fail
    have hF9 := fr_put2 w5 rb (.int .u64 0) (.int .u64 (W64 (t4.1 ^^^ t4.2.1 ^^^ t4.2.2.1 ^^^ t4.2.2.2)))
    have hR9 := row_put2 hA5.res (.int .u64 0) (.int .u64 (W64 (t4.1 ^^^ t4.2.1 ^^^ t4.2.2.1 ^^^ t4.2.2.2)))
    clear cr0 cr1 fr0 fr1
    generalize (w5.setCell ⟨rb, 0, none⟩ (.int .u64 0)).setCell ⟨rb, 1, none⟩ (.int .u64 (W64 (t4.1 ^^^ t4.2.1 ^^^ t4.2.2.1 ^^^ t4.2.2.2))) = w9 at hF9 hR9 ⊢
    have cd0 := hR9.c0
    have cd1 := hR9.c1
    refine bodyPost_ret (v := .agg #[.int .u64 0, .int .u64 (W64 (t4.1 ^^^ t4.2.1 ^^^ t4.2.2.1 ^^^ t4.2.2.2))]) (by simp [results, Try.results23, go_sem, cd0, cd1]) rfl ?_
    exact ⟨by rw [endHi_n HK.out, endLo_n HK.out, midF_add _ _ _ _ hl, show dOf 6 = 4 from rfl, HT.out, ← Hs3.out, ← Ht4.out]; rfl, hA5.fr.trans hF9 (fun x hx => .inr (by have := hA5.ge2; omega))⟩
  · have HK : Hid (¬ (7 : Int) = 8) := Lib.hid (by omega)
    have q0 := hA.row.c0
    have q1 := hA.row.c1
    have q2 := hA.row.c2
    have q3 := hA.row.c3
    have z0 := hA.row.fz 0
    have z1 := hA.row.fz 1
    have z2 := hA.row.fz 2
    have z3 := hA.row.fz 3
    go_upto_region 4 with fail
    have hA3 := hA.put2 255#64
    clear q0 q1 q2 q3 z0 z1 z2 z3 hA
    generalize wc.setCell ⟨nb, 2, none⟩ (.int .u64 (W64 (t.2.2.1 ^^^ 255#64))) = w3 at hA3 ⊢
    obtain ⟨s3, hs3⟩ : ∃ z : ST, z = x2F 255#64 t := ⟨_, rfl⟩
    rw [← hs3] at hA3
    have Hs3 := Lib.hid hs3
    clear hs3
    have q0 := hA3.row.c0
    have q1 := hA3.row.c1
    have q2 := hA3.row.c2
    have q3 := hA3.row.c3
    have z0 := hA3.row.fz 0
    have z1 := hA3.row.fz 1
    have z2 := hA3.row.fz 2
    have z3 := hA3.row.fz 3
    go_wp2_with fail
    refine (refRounds_any s3 3 (by omega) _).mono ?_
    rintro e w4 ⟨rfl, hx⟩
    have hA4 := hA3.no hx
    clear q0 q1 q2 q3 z0 z1 z2 z3 hA3 hx
    obtain ⟨t4, ht4⟩ : ∃ z, z = roundsF 3 s3 := ⟨_, rfl⟩
    rw [← ht4]
    have Ht4 := Lib.hid ht4
    clear ht4
    unfold lanesV
    have q0 := hA4.row.c0
    have q1 := hA4.row.c1
    have q2 := hA4.row.c2
    have q3 := hA4.row.c3
    have z0 := hA4.row.fz 0
    have z1 := hA4.row.fz 1
    have z2 := hA4.row.fz 2
    have z3 := hA4.row.fz 3
    go_upto_region 7 with fail
    have hA5 := hA4.put t4
    clear q0 q1 q2 q3 z0 z1 z2 z3 hA4
    generalize ((((w4.setCell ⟨nb, 0, none⟩ (.int .u64 (W64 t4.1))).setCell ⟨nb, 1, none⟩ (.int .u64 (W64 t4.2.1))).setCell ⟨nb, 2, none⟩ (.int .u64 (W64 t4.2.2.1))).setCell ⟨nb, 3, none⟩ (.int .u64 (W64 t4.2.2.2))) = w5 at hA5 ⊢
    have q0 := hA5.row.c0
    have q1 := hA5.row.c1
    have q2 := hA5.row.c2
    have q3 := hA5.row.c3
    have z0 := hA5.row.fz 0
    have z1 := hA5.row.fz 1
    have z2 := hA5.row.fz 2
    have z3 := hA5.row.fz 3
    have cr0 := hA5.res.c0
    have cr1 := hA5.res.c1
    have fr0 := hA5.res.fz 0
    have fr1 := hA5.res.fz 1
    go_wp2_with fail
    have hF9 := fr_put2 w5 rb (.int .u64 0) (.int .u64 (W64 (t4.1 ^^^ t4.2.1 ^^^ t4.2.2.1 ^^^ t4.2.2.2)))
    have hR9 := row_put2 hA5.res (.int .u64 0) (.int .u64 (W64 (t4.1 ^^^ t4.2.1 ^^^ t4.2.2.1 ^^^ t4.2.2.2)))
    clear cr0 cr1 fr0 fr1
    generalize (w5.setCell ⟨rb, 0, none⟩ (.int .u64 0)).setCell ⟨rb, 1, none⟩ (.int .u64 (W64 (t4.1 ^^^ t4.2.1 ^^^ t4.2.2.1 ^^^ t4.2.2.2))) = w9 at hF9 hR9 ⊢
    have cd0 := hR9.c0
    have cd1 := hR9.c1
    refine bodyPost_ret (v := .agg #[.int .u64 0, .int .u64 (W64 (t4.1 ^^^ t4.2.1 ^^^ t4.2.2.1 ^^^ t4.2.2.2))]) (by simp [results, Try.results23, go_sem, cd0, cd1]) rfl ?_
    exact ⟨by rw [endHi_n HK.out, endLo_n HK.out, midF_add _ _ _ _ hl, show dOf 7 = 3 from rfl, HT.out, ← Hs3.out, ← Ht4.out]; rfl, hA5.fr.trans hF9 (fun x hx => .inr (by have := hA5.ge2; omega))⟩
  · skip
    have q0 := hA.row.c0
    have q1 := hA.row.c1
    have q2 := hA.row.c2
    have q3 := hA.row.c3
    have z0 := hA.row.fz 0
    have z1 := hA.row.fz 1
    have z2 := hA.row.fz 2
    have z3 := hA.row.fz 3
    go_upto_region 9 with fail
    have hA3 := hA.put2 238#64
    clear q0 q1 q2 q3 z0 z1 z2 z3 hA
    generalize wc.setCell ⟨nb, 2, none⟩ (.int .u64 (W64 (t.2.2.1 ^^^ 238#64))) = w3 at hA3 ⊢
    obtain ⟨s3, hs3⟩ : ∃ z : ST, z = x2F 238#64 t := ⟨_, rfl⟩
    rw [← hs3] at hA3
    have Hs3 := Lib.hid hs3
    clear hs3
    have q0 := hA3.row.c0
    have q1 := hA3.row.c1
    have q2 := hA3.row.c2
    have q3 := hA3.row.c3
    have z0 := hA3.row.fz 0
    have z1 := hA3.row.fz 1
    have z2 := hA3.row.fz 2
    have z3 := hA3.row.fz 3
    go_wp2_with fail
    refine (refRounds_any s3 4 (by omega) _).mono ?_
    rintro e w4 ⟨rfl, hx⟩
    have hA4 := hA3.no hx
    clear q0 q1 q2 q3 z0 z1 z2 z3 hA3 hx
    obtain ⟨t4, ht4⟩ : ∃ z, z = roundsF 4 s3 := ⟨_, rfl⟩
    rw [← ht4]
    have Ht4 := Lib.hid ht4
    clear ht4
    unfold lanesV
    have q0 := hA4.row.c0
    have q1 := hA4.row.c1
    have q2 := hA4.row.c2
    have q3 := hA4.row.c3
    have z0 := hA4.row.fz 0
    have z1 := hA4.row.fz 1
    have z2 := hA4.row.fz 2
    have z3 := hA4.row.fz 3
    go_upto_region 10 with fail
    have hA5 := hA4.put t4
    clear q0 q1 q2 q3 z0 z1 z2 z3 hA4
    generalize ((((w4.setCell ⟨nb, 0, none⟩ (.int .u64 (W64 t4.1))).setCell ⟨nb, 1, none⟩ (.int .u64 (W64 t4.2.1))).setCell ⟨nb, 2, none⟩ (.int .u64 (W64 t4.2.2.1))).setCell ⟨nb, 3, none⟩ (.int .u64 (W64 t4.2.2.2))) = w5 at hA5 ⊢
    have q0 := hA5.row.c0
    have q1 := hA5.row.c1
    have q2 := hA5.row.c2
    have q3 := hA5.row.c3
    have z0 := hA5.row.fz 0
    have z1 := hA5.row.fz 1
    have z2 := hA5.row.fz 2
    have z3 := hA5.row.fz 3
    go_upto_region 11 with fail
    obtain ⟨v, hv⟩ : ∃ z, z = t4.1 ^^^ t4.2.1 ^^^ t4.2.2.1 ^^^ t4.2.2.2 := ⟨_, rfl⟩
    rw [← hv]
    have Hv := Lib.hid hv
    clear hv
    go_upto_region 12 with fail
    have hA6 := hA5.put1 221#64
    clear q0 q1 q2 q3 z0 z1 z2 z3 hA5
    generalize w5.setCell ⟨nb, 1, none⟩ (.int .u64 (W64 (t4.2.1 ^^^ 221#64))) = w6 at hA6 ⊢
    obtain ⟨s6, hs6⟩ : ∃ z : ST, z = x1F 221#64 t4 := ⟨_, rfl⟩
    rw [← hs6] at hA6
    have Hs6 := Lib.hid hs6
    clear hs6
    have q0 := hA6.row.c0
    have q1 := hA6.row.c1
    have q2 := hA6.row.c2
    have q3 := hA6.row.c3
    have z0 := hA6.row.fz 0
    have z1 := hA6.row.fz 1
    have z2 := hA6.row.fz 2
    have z3 := hA6.row.fz 3
    go_wp2_with fail
    refine (refRounds_any s6 4 (by omega) _).mono ?_
    rintro e w7 ⟨rfl, hx⟩
    have hA7 := hA6.no hx
    clear q0 q1 q2 q3 z0 z1 z2 z3 hA6 hx
    obtain ⟨t7, ht7⟩ : ∃ z, z = roundsF 4 s6 := ⟨_, rfl⟩
    rw [← ht7]
    have Ht7 := Lib.hid ht7
    clear ht7
    unfold lanesV
    have q0 := hA7.row.c0
    have q1 := hA7.row.c1
    have q2 := hA7.row.c2
    have q3 := hA7.row.c3
    have z0 := hA7.row.fz 0
    have z1 := hA7.row.fz 1
    have z2 := hA7.row.fz 2
    have z3 := hA7.row.fz 3
    go_upto_region 13 with fail
    have hA8 := hA7.put t7
    clear q0 q1 q2 q3 z0 z1 z2 z3 hA7
    generalize ((((w7.setCell ⟨nb, 0, none⟩ (.int .u64 (W64 t7.1))).setCell ⟨nb, 1, none⟩ (.int .u64 (W64 t7.2.1))).setCell ⟨nb, 2, none⟩ (.int .u64 (W64 t7.2.2.1))).setCell ⟨nb, 3, none⟩ (.int .u64 (W64 t7.2.2.2))) = w8 at hA8 ⊢
    have q0 := hA8.row.c0
    have q1 := hA8.row.c1
    have q2 := hA8.row.c2
    have q3 := hA8.row.c3
    have z0 := hA8.row.fz 0
    have z1 := hA8.row.fz 1
    have z2 := hA8.row.fz 2
    have z3 := hA8.row.fz 3
    have cr0 := hA8.res.c0
    have cr1 := hA8.res.c1
    have fr0 := hA8.res.fz 0
    have fr1 := hA8.res.fz 1
    go_wp2_with fail
    have hF9 := fr_put2 w8 rb (.int .u64 (W64 (t7.1 ^^^ t7.2.1 ^^^ t7.2.2.1 ^^^ t7.2.2.2))) (.int .u64 (W64 (v)))
    have hR9 := row_put2 hA8.res (.int .u64 (W64 (t7.1 ^^^ t7.2.1 ^^^ t7.2.2.1 ^^^ t7.2.2.2))) (.int .u64 (W64 (v)))
    clear cr0 cr1 fr0 fr1
    generalize (w8.setCell ⟨rb, 0, none⟩ (.int .u64 (W64 (t7.1 ^^^ t7.2.1 ^^^ t7.2.2.1 ^^^ t7.2.2.2)))).setCell ⟨rb, 1, none⟩ (.int .u64 (W64 (v))) = w9 at hF9 hR9 ⊢
    have cd0 := hR9.c0
    have cd1 := hR9.c1
    refine bodyPost_ret (v := .agg #[.int .u64 (W64 (t7.1 ^^^ t7.2.1 ^^^ t7.2.2.1 ^^^ t7.2.2.2)), .int .u64 (W64 (v))]) (by simp [results, Try.results23, go_sem, cd0, cd1]) rfl ?_
    exact ⟨by rw [endHi_8, endLo_8, midF_add _ _ _ _ hl, show dOf 8 = 4 from rfl, HT.out, ← Hs3.out, ← Ht4.out, ← Hs6.out, ← Ht7.out, Hv.out]; rfl, hA8.fr.trans hF9 (fun x hx => .inr (by have := hA8.ge2; omega))⟩

set_option maxHeartbeats 1000000 in
theorem refOne_no (kd : Int) (hk : ¬ IsK kd) (hi lo : BitVec 64) (a : Option Addr) (n c : Nat) (w : World) :
    Calls Try.prog 9 #[.int .i64 kd, .agg #[.int .u64 (W64 hi), .int .u64 (W64 lo)], .slice a n c] w (GivesNew (.agg #[.int .u64 0, .int .u64 0]) w) := by
  have hF0 : Fr No w ((w.alloc (.cells #[.int .u64 (W64 hi), .int .u64 (W64 lo)] 24)).alloc (.cells #[.int .u64 0, .int .u64 0] 24)) := ((Fr.refl No w).alloc _).alloc _
  have hT : Row2 ((w.alloc (.cells #[.int .u64 (W64 hi), .int .u64 (W64 lo)] 24)).alloc (.cells #[.int .u64 0, .int .u64 0] 24)) (w.heap.size + 1) 24 (.int .u64 0) (.int .u64 0) := heap_alloc2_new w _ _
  go_enter Try.func9, Try.ntmps9
  go_wp2_with fail
  obtain ⟨pb, hpb⟩ : ∃ pb, pb = w.heap.size + 1 := ⟨_, rfl⟩
  have hpw : w.heap.size ≤ pb := by omega
  rw [← hpb] at hT ⊢
  clear hpb
  generalize ((w.alloc (.cells #[.int .u64 (W64 hi), .int .u64 (W64 lo)] 24)).alloc (.cells #[.int .u64 0, .int .u64 0] 24)) = w1 at hF0 hT ⊢
  refine (refIs_no kd hk _).mono ?_
  rintro e w' ⟨rfl, rfl⟩
  have cr0 := hT.c0
  have cr1 := hT.c1
  have fr0 := hT.fz 0
  have fr1 := hT.fz 1
  go_wp2_with fail
  have hF9 := fr_put2 w1 (pb) (.int .u64 0) (.int .u64 0)
  have hR9 := row_put2 hT (.int .u64 0) (.int .u64 0)
  clear cr0 cr1 fr0 fr1
  generalize (w1.setCell ⟨pb, 0, none⟩ (.int .u64 0)).setCell ⟨pb, 1, none⟩ (.int .u64 0) = w9 at hF9 hR9 ⊢
  have cd0 := hR9.c0
  have cd1 := hR9.c1
  refine bodyPost_ret (v := .agg #[.int .u64 0, .int .u64 0]) (by simp [results, Try.results9, go_sem, cd0, cd1]) rfl ?_
  exact ⟨rfl, hF0.trans hF9 (fun x hx => .inr (by omega))⟩
set_option maxHeartbeats 2000000 in
theorem refOne_any (kd : Int) (hi lo : BitVec 64) (a : Option Addr) (n c : Nat) (l : Bytes) (w : World) (h : IsBytes w a n c l) (hn : n ≤ 1099511627776) :
    Calls Try.prog 9 #[.int .i64 kd, .agg #[.int .u64 (W64 hi), .int .u64 (W64 lo)], .slice a n c] w (GivesNew (.agg #[.int .u64 (W64 (oneHi kd hi lo l)), .int .u64 (W64 (oneLo kd hi lo l))]) w) := by
  by_cases hk : IsK kd
  case neg =>
    have e1 : oneHi kd hi lo l = 0#64 := by unfold oneHi; rw [if_neg hk]
    have e2 : oneLo kd hi lo l = 0#64 := by unfold oneLo; rw [if_neg hk]
    rw [e1, e2]
    exact refOne_no kd hk hi lo a n c w
  have e1 : oneHi kd hi lo l = endHi kd (foldF (stepG (cOf kd)) 8 (firstF kd hi lo) l).1 (foldF (stepG (cOf kd)) 8 (firstF kd hi lo) l).2 (BitVec.ofNat 64 l.length) := by unfold oneHi; rw [if_pos hk]
  have e2 : oneLo kd hi lo l = endLo kd (foldF (stepG (cOf kd)) 8 (firstF kd hi lo) l).1 (foldF (stepG (cOf kd)) 8 (firstF kd hi lo) l).2 (BitVec.ofNat 64 l.length) := by unfold oneLo; rw [if_pos hk]
  rw [e1, e2]
  clear e1 e2
  have hlen := Lib.hid h.1
  have q4 := foldF_lt (F := stepG (cOf kd)) (size := 8) (by omega) (firstF kd hi lo) l
  rw [hlen.out]
  generalize hr : foldF (stepG (cOf kd)) 8 (firstF kd hi lo) l = r at q4
  have HR := Lib.hid hr
  clear hr
  have hF0 : Fr No w ((w.alloc (.cells #[.int .u64 (W64 hi), .int .u64 (W64 lo)] 24)).alloc (.cells #[.int .u64 0, .int .u64 0] 24)) := ((Fr.refl No w).alloc _).alloc _
  have hU : Row2 ((w.alloc (.cells #[.int .u64 (W64 hi), .int .u64 (W64 lo)] 24)).alloc (.cells #[.int .u64 0, .int .u64 0] 24)) w.heap.size 24 (.int .u64 (W64 hi)) (.int .u64 (W64 lo)) := (row2_new w _ _ _).no ((Fr.refl No _).alloc _)
  have hT : Row2 ((w.alloc (.cells #[.int .u64 (W64 hi), .int .u64 (W64 lo)] 24)).alloc (.cells #[.int .u64 0, .int .u64 0] 24)) (w.heap.size + 1) 24 (.int .u64 0) (.int .u64 0) := heap_alloc2_new w _ _
  go_enter Try.func9, Try.ntmps9
  go_wp2_with fail
  obtain ⟨pb, hpb⟩ : ∃ pb, pb = w.heap.size := ⟨_, rfl⟩
  have hpw : w.heap.size ≤ pb := by omega
  rw [← hpb] at hU hT ⊢
  clear hpb
  generalize ((w.alloc (.cells #[.int .u64 (W64 hi), .int .u64 (W64 lo)] 24)).alloc (.cells #[.int .u64 0, .int .u64 0] 24)) = w1 at hF0 hU hT ⊢
  refine (refIs_yes kd hk _).mono ?_
  rintro e w' ⟨rfl, rfl⟩
  have u0 := hU.c0
  have u1 := hU.c1
  go_wp2_with fail
  refine (refBlocks_any kd hk hi lo _ _ _ l _ (h.no hF0) hn).mono ?_
  rw [HR.out]
  rintro e w2 ⟨a', n', c', rfl, hb, hst, hf⟩
  have hFB := (Fr.refl No w2).alloc (.cells #[.int .u64 (W64 r.1.1), .int .u64 (W64 r.1.2.1), .int .u64 (W64 r.1.2.2.1), .int .u64 (W64 r.1.2.2.2)] 38)
  have hF2 := (hF0.no hf).no hFB
  have hT2 := (hT.no hf).no hFB
  have hU2 := (hU.no hf).no hFB
  have hb2 := hst _ (h.no hF2)
  have hN := row4_new w2 38 (.int .u64 (W64 r.1.1)) (.int .u64 (W64 r.1.2.1)) (.int .u64 (W64 r.1.2.2.1)) (.int .u64 (W64 r.1.2.2.2))
  clear u0 u1 hU hT hF0 hf hFB hb hst
  unfold lanesV
  go_upto_region 4 with fail
  generalize w2.heap.size = nb at hN ⊢
  generalize w2.alloc (.cells #[.int .u64 (W64 r.1.1), .int .u64 (W64 r.1.2.1), .int .u64 (W64 r.1.2.2.1), .int .u64 (W64 r.1.2.2.2)] 38) = w3 at hF2 hT2 hU2 hb2 hN ⊢
  have u0 := hU2.c0
  have u1 := hU2.c1
  have q0 := hN.c0
  have q1 := hN.c1
  have q2 := hN.c2
  have q3 := hN.c3
  go_wp2_with fail
  refine (refEnd_any kd hk hi lo r.1 _ _ _ r.2 _ _ hb2 q4).mono ?_
  rintro e w4 ⟨rfl, hf4⟩
  have hT4 := hT2.no hf4
  have hF4 := hF2.no hf4
  clear u0 u1 q0 q1 q2 q3 hT2 hF2 hU2 hN hf4
  obtain ⟨z1, hz1⟩ : ∃ z, z = endHi kd r.1 r.2 (BitVec.ofNat 64 n) := ⟨_, rfl⟩
  obtain ⟨z2, hz2⟩ : ∃ z, z = endLo kd r.1 r.2 (BitVec.ofNat 64 n) := ⟨_, rfl⟩
  rw [← hz1, ← hz2]
  have HZ1 := Lib.hid hz1
  have HZ2 := Lib.hid hz2
  clear hz1 hz2
  have cr0 := hT4.c0
  have cr1 := hT4.c1
  have fr0 := hT4.fz 0
  have fr1 := hT4.fz 1
  go_wp2_with fail
  have hF9 := fr_put2 w4 (pb + 1) (.int .u64 (W64 z1)) (.int .u64 (W64 z2))
  have hR9 := row_put2 hT4 (.int .u64 (W64 z1)) (.int .u64 (W64 z2))
  clear cr0 cr1 fr0 fr1
  generalize (w4.setCell ⟨pb + 1, 0, none⟩ (.int .u64 (W64 z1))).setCell ⟨pb + 1, 1, none⟩ (.int .u64 (W64 z2)) = w9 at hF9 hR9 ⊢
  have cd0 := hR9.c0
  have cd1 := hR9.c1
  refine bodyPost_ret (v := .agg #[.int .u64 (W64 z1), .int .u64 (W64 z2)]) (by simp [results, Try.results9, go_sem, cd0, cd1]) rfl ?_
  exact ⟨by rw [HZ1.out, HZ2.out], hF4.trans hF9 (fun x hx => .inr (by omega))⟩
end Go.Proofs.Ytcbbllfgelnpjaa.StSip
