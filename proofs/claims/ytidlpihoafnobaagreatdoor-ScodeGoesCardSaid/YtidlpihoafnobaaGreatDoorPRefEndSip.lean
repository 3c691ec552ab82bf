/- RefEndSip -/
import Derived.Deep.DeepCutAuto
import Derived.Test.YtidlpihoafnobaaGreatDoorPRefSip
set_option linter.unusedVariables false
set_option linter.unusedSimpArgs false
namespace Go.Proofs.YtidlpihoafnobaaGreatDoor.StSip
set_option maxRecDepth 100000
open Go.Proofs.YtidlpihoafnobaaGreatDoor.StG64
open Go.RowKit
structure AtR (w0 w : World) (b rb : Nat) (s : ST) : Prop where
 row : Row4 w b 31 (.int .u64 (W64 s.1)) (.int .u64 (W64 s.2.1)) (.int .u64 (W64 s.2.2.1)) (.int .u64 (W64 s.2.2.2))
 res : Row2 w rb 30 (.int .u64 0) (.int .u64 0)
 fr : Fr No w0 w
 ge : w0.heap.size ≤ b
 ge2 : w0.heap.size ≤ rb
 ne : rb ≠ b
theorem AtR.no {w0 w w' : World} {b rb : Nat} {s : ST} (h : AtR w0 w b rb s) (k : Fr No w w') : AtR w0 w' b rb s := ⟨h.row.no k, h.res.no k, h.fr.no k, h.ge, h.ge2, h.ne⟩
theorem AtR.of {w0 w w' : World} {b rb : Nat} {s s' : ST} (h : AtR w0 w b rb s) (k : Fr (fun x => x = b) w w') (hr : Row4 w' b 31 (.int .u64 (W64 s'.1)) (.int .u64 (W64 s'.2.1)) (.int .u64 (W64 s'.2.2.1)) (.int .u64 (W64 s'.2.2.2))) : AtR w0 w' b rb s' :=
 ⟨hr, h.res.fr k h.ne, h.fr.trans k (fun x hx => .inr (by have := h.ge; omega)), h.ge, h.ge2, h.ne⟩
theorem AtR.put1 {w0 w : World} {b rb : Nat} {s : ST} (h : AtR w0 w b rb s) (c : BitVec 64) : AtR w0 (w.setCell ⟨b, 1, none⟩ (.int .u64 (W64 (s.2.1 ^^^ c)))) b rb (x1F c s) := h.of (fr_cell w b 1 _) (h.row.put1 _)
theorem AtR.put2 {w0 w : World} {b rb : Nat} {s : ST} (h : AtR w0 w b rb s) (c : BitVec 64) : AtR w0 (w.setCell ⟨b, 2, none⟩ (.int .u64 (W64 (s.2.2.1 ^^^ c)))) b rb (x2F c s) := h.of (fr_cell w b 2 _) (h.row.put2 _)
theorem AtR.put {w0 w : World} {b rb : Nat} {s : ST} (h : AtR w0 w b rb s) (t : ST) : AtR w0 ((((w.setCell ⟨b, 0, none⟩ (.int .u64 (W64 t.1))).setCell ⟨b, 1, none⟩ (.int .u64 (W64 t.2.1))).setCell ⟨b, 2, none⟩ (.int .u64 (W64 t.2.2.1))).setCell ⟨b, 3, none⟩ (.int .u64 (W64 t.2.2.2))) b rb t := h.of (fr_put4 w b (.int .u64 (W64 t.1)) (.int .u64 (W64 t.2.1)) (.int .u64 (W64 t.2.2.1)) (.int .u64 (W64 t.2.2.2))) (row_put4 h.row (.int .u64 (W64 t.1)) (.int .u64 (W64 t.2.1)) (.int .u64 (W64 t.2.2.1)) (.int .u64 (W64 t.2.2.2)))
theorem midF_add (kd : Int) (s : ST) (l : Bytes) (lo : BitVec 64) (hl : l.length < 8) : midF kd s l lo = wordF (cOf kd) s (le (l.take 8) + lo % 256#64 * 72057594037927936#64) := by unfold midF; rw [or_add l lo hl]
set_option maxHeartbeats 2000000 in
theorem refEnd_any (kd : Int) (hk : IsK kd) (hi lw : BitVec 64) (s : ST) (a : Option Addr) (n c : Nat) (l : Bytes) (lo : BitVec 64) (w : World) (hb : IsBytes w a n c l) (hl : l.length < 8) :
 Calls Tryz.prog 39 #[.int .i64 kd, .agg #[.int .u64 (W64 hi), .int .u64 (W64 lw)], lanesV s, .slice a n c, .int .u64 (W64 lo)] w (GivesNew (.agg #[.int .u64 (W64 (endHi kd s l lo)), .int .u64 (W64 (endLo kd s l lo))]) w) := by
 unfold lanesV
 obtain ⟨t, ht⟩ : ∃ z, z = wordF (cOf kd) s (le (l.take 8) + lo % 256#64 * 72057594037927936#64) := ⟨_, rfl⟩
 have HT := Lib.hid ht.symm
 clear ht
 have hR : Row4 (((w.alloc (.cells #[.int .u64 (W64 hi), .int .u64 (W64 lw)] 30)).alloc (.cells #[.int .u64 (W64 s.1), .int .u64 (W64 s.2.1), .int .u64 (W64 s.2.2.1), .int .u64 (W64 s.2.2.2)] 31)).alloc (.cells #[.int .u64 0, .int .u64 0] 30)) (w.heap.size + 1) 31 (.int .u64 (W64 s.1)) (.int .u64 (W64 s.2.1)) (.int .u64 (W64 s.2.2.1)) (.int .u64 (W64 s.2.2.2)) := Row4.no (show Row4 ((w.alloc (.cells #[.int .u64 (W64 hi), .int .u64 (W64 lw)] 30)).alloc (.cells #[.int .u64 (W64 s.1), .int .u64 (W64 s.2.1), .int .u64 (W64 s.2.2.1), .int .u64 (W64 s.2.2.2)] 31)) (w.heap.size + 1) 31 (.int .u64 (W64 s.1)) (.int .u64 (W64 s.2.1)) (.int .u64 (W64 s.2.2.1)) (.int .u64 (W64 s.2.2.2)) from heap_alloc2_new w _ _) ((Fr.refl No _).alloc _)
 have hU : Row2 (((w.alloc (.cells #[.int .u64 (W64 hi), .int .u64 (W64 lw)] 30)).alloc (.cells #[.int .u64 (W64 s.1), .int .u64 (W64 s.2.1), .int .u64 (W64 s.2.2.1), .int .u64 (W64 s.2.2.2)] 31)).alloc (.cells #[.int .u64 0, .int .u64 0] 30)) (w.heap.size + 2) 30 (.int .u64 0) (.int .u64 0) := heap_alloc3_new w _ _ _
 have hF : Fr No w (((w.alloc (.cells #[.int .u64 (W64 hi), .int .u64 (W64 lw)] 30)).alloc (.cells #[.int .u64 (W64 s.1), .int .u64 (W64 s.2.1), .int .u64 (W64 s.2.2.1), .int .u64 (W64 s.2.2.2)] 31)).alloc (.cells #[.int .u64 0, .int .u64 0] 30)) := (((Fr.refl No w).alloc _).alloc _).alloc _
 have hb1 := hb.no hF
 clear hb
 go_enter Tryz.func39, Tryz.ntmps39
 go_upto_region 1 with fail
 try rw [show w.heap.size + 1 + 1 = w.heap.size + 2 from rfl]
 obtain ⟨pb, hpb⟩ : ∃ pb, pb = w.heap.size + 1 := ⟨_, rfl⟩
 obtain ⟨rb, hrb⟩ : ∃ rb, rb = w.heap.size + 2 := ⟨_, rfl⟩
 have hrw : w.heap.size ≤ rb := by omega
 rw [← hpb] at hR ⊢
 rw [← hrb] at hU ⊢
 clear hpb hrb
 generalize (((w.alloc (.cells #[.int .u64 (W64 hi), .int .u64 (W64 lw)] 30)).alloc (.cells #[.int .u64 (W64 s.1), .int .u64 (W64 s.2.1), .int .u64 (W64 s.2.2.1), .int .u64 (W64 s.2.2.2)] 31)).alloc (.cells #[.int .u64 0, .int .u64 0] 30)) = w1 at hR hU hF hb1 ⊢
 go_cut [11] (fun s11 wx => ∃ nb, s11 = .pointer (some ⟨nb, 0, none⟩) ∧ AtR w wx nb rb t)
 case first =>
  refine wp_region_late (by kernel_rfl) (fun w' => Fr No w1 w') (fun _ => false) (Fr.refl No w1).drew (fun hv0 => ?_)
  refine wpLate_seg [(0, 1), (1, 1), (2, 1), (4, 1), (5, 1), (6, 1)] 5 #[true, true, true, false, true, true, true, false, false, false, false] (by kernel_rfl) rfl hv0 ?_
  iterate 6 refine tq _ rfl rfl (by intro w9 h9; have q0 := (hR.no h9).c0; have q1 := (hR.no h9).c1; have q2 := (hR.no h9).c2; have q3 := (hR.no h9).c3; clear h9; go_simp; try with_reducible rfl) ?_; simp only [es1, es2, es3]
  refine wpSeq_done ?_
  refine wpLate_two (i := 3) (j := 9) (by kernel_rfl) rfl rfl rfl rfl (fun K hK => ?_) (fun K hK => ?_)
  · go_wp2_with fail
    refine (refNum_any _ _ _ l 0 8 _ (hb1.no hv0) (by omega) (by omega) (by omega) (by omega)).mono ?_
    rintro e w' ⟨rfl, rfl⟩
    refine hK.out _ _ (fun _ => hv0) ?_
    clear hK K
    refine wpLate_seg [(7, 1)] 3 #[true, true, true, true, true, true, true, true, false, false, false] (by kernel_rfl) rfl hv0 ?_
    refine tp _ rfl rfl ?_; simp only [es1, es2, es3]
    refine wpSeq_done ?_
    refine wpLate_two (i := 8) (j := 9) (by kernel_rfl) rfl rfl rfl rfl (fun K hK => ?_) (fun K hK => ?_)
    · go_wp2_with fail
      refine (refWord_any kd hk s (le (l.take 8) + lo % 256#64 * 72057594037927936#64) _).mono ?_
      rw [HT.out]
      rintro e y1 ⟨rfl, hx⟩
      have hy1 := hv0.no hx
      clear hx
      unfold lanesV
      refine hK.out _ _ (fun _ => hy1) ?_
      clear hK K
      refine wpLate_seg [(9, 0), (10, 0)] 0 #[true, true, true, true, true, true, true, true, true, true, true] (by kernel_rfl) rfl hy1 ?_
      refine wpSeq_next rfl rfl (fun K hK => ?_)
      go_wp2_with fail
      have hy2 : Fr No w1 (y1.alloc (.cells #[.int .u64 0, .int .u64 0, .int .u64 0, .int .u64 0] 31)) := hy1.alloc _
      refine hK.out _ _ (fun _ => hy2) ?_
      clear hK K
      have hZ : Row4 (y1.alloc (.cells #[.int .u64 0, .int .u64 0, .int .u64 0, .int .u64 0] 31)) y1.heap.size 31 (.int .u64 0) (.int .u64 0) (.int .u64 0) (.int .u64 0) := row4_new y1 31 (.int .u64 0) (.int .u64 0) (.int .u64 0) (.int .u64 0)
      obtain ⟨nb, hnb⟩ : ∃ nb, nb = y1.heap.size := ⟨_, rfl⟩
      have hrl : w1.heap.size ≤ nb := by rw [hnb]; exact hy1.size
      rw [← hnb] at hZ ⊢
      clear hnb
      generalize y1.alloc (.cells #[.int .u64 0, .int .u64 0, .int .u64 0, .int .u64 0] 31) = wz at hy2 hZ ⊢
      have cr0 := hZ.c0
      have cr1 := hZ.c1
      have cr2 := hZ.c2
      have cr3 := hZ.c3
      have fr0 := hZ.fz 0
      have fr1 := hZ.fz 1
      have fr2 := hZ.fz 2
      have fr3 := hZ.fz 3
      refine wpSeq_next rfl rfl (fun K hK => ?_)
      go_wp2_with fail
      have hvB : Fr No w1 ((((wz.setCell ⟨nb, 0, none⟩ (.int .u64 (W64 t.1))).setCell ⟨nb, 1, none⟩ (.int .u64 (W64 t.2.1))).setCell ⟨nb, 2, none⟩ (.int .u64 (W64 t.2.2.1))).setCell ⟨nb, 3, none⟩ (.int .u64 (W64 t.2.2.2))) := hy2.trans (fr_put4 wz nb (.int .u64 (W64 t.1)) (.int .u64 (W64 t.2.1)) (.int .u64 (W64 t.2.2.1)) (.int .u64 (W64 t.2.2.2))) (fun x hx => .inr (by omega))
      refine hK.out _ _ (fun _ => hvB) ?_
      clear hK K
      have hZF := row_put4 hZ (.int .u64 (W64 t.1)) (.int .u64 (W64 t.2.1)) (.int .u64 (W64 t.2.2.1)) (.int .u64 (W64 t.2.2.2))
      clear cr0 cr1 cr2 cr3 fr0 fr1 fr2 fr3
      refine wpSeq_done ?_
      refine wpLate_done (by kernel_rfl) ?_ _
      go_wp2_with fail
      go_meet
      exact ⟨nb, rfl, hZF, hU.no hvB, hF.no hvB, by have := hF.size; omega, by omega, by have := hU.lt; omega⟩
    · go_wp2_with fail
      have hy1 : Fr No w1 (w1.alloc (.cells #[.int .u64 0, .int .u64 0, .int .u64 0, .int .u64 0] 31)).drew := ((Fr.refl No w1).alloc _).drew
      refine hK.out _ _ (fun _ => hy1) ?_
      clear hK K
      have hZ : Row4 (w1.alloc (.cells #[.int .u64 0, .int .u64 0, .int .u64 0, .int .u64 0] 31)).drew w1.heap.size 31 (.int .u64 0) (.int .u64 0) (.int .u64 0) (.int .u64 0) := (row4_new w1 31 (.int .u64 0) (.int .u64 0) (.int .u64 0) (.int .u64 0)).no (Fr.refl No _).drew
      obtain ⟨nb, hnb⟩ : ∃ nb, nb = w1.heap.size := ⟨_, rfl⟩
      have hrl : w1.heap.size ≤ nb := by rw [hnb]; exact hv0.size
      rw [← hnb] at hZ ⊢
      clear hnb
      generalize (w1.alloc (.cells #[.int .u64 0, .int .u64 0, .int .u64 0, .int .u64 0] 31)).drew = wz at hy1 hZ ⊢
      refine wpLate_seg [(8, 0), (10, 0)] 0 #[true, true, true, true, true, true, true, true, true, true, true] (by kernel_rfl) rfl hy1 ?_
      refine wpSeq_next rfl rfl (fun K hK => ?_)
      go_wp2_with fail
      refine (refWord_any kd hk s (le (l.take 8) + lo % 256#64 * 72057594037927936#64) _).mono ?_
      rw [HT.out]
      rintro e y2 ⟨rfl, hx⟩
      have hy2 := hy1.no hx
      replace hZ := hZ.no hx
      clear hx
      unfold lanesV
      refine hK.out _ _ (fun _ => hy2) ?_
      clear hK K
      have cr0 := hZ.c0
      have cr1 := hZ.c1
      have cr2 := hZ.c2
      have cr3 := hZ.c3
      have fr0 := hZ.fz 0
      have fr1 := hZ.fz 1
      have fr2 := hZ.fz 2
      have fr3 := hZ.fz 3
      refine wpSeq_next rfl rfl (fun K hK => ?_)
      go_wp2_with fail
      have hvB : Fr No w1 ((((y2.setCell ⟨nb, 0, none⟩ (.int .u64 (W64 t.1))).setCell ⟨nb, 1, none⟩ (.int .u64 (W64 t.2.1))).setCell ⟨nb, 2, none⟩ (.int .u64 (W64 t.2.2.1))).setCell ⟨nb, 3, none⟩ (.int .u64 (W64 t.2.2.2))) := hy2.trans (fr_put4 y2 nb (.int .u64 (W64 t.1)) (.int .u64 (W64 t.2.1)) (.int .u64 (W64 t.2.2.1)) (.int .u64 (W64 t.2.2.2))) (fun x hx => .inr (by omega))
      refine hK.out _ _ (fun _ => hvB) ?_
      clear hK K
      have hZF := row_put4 hZ (.int .u64 (W64 t.1)) (.int .u64 (W64 t.2.1)) (.int .u64 (W64 t.2.2.1)) (.int .u64 (W64 t.2.2.2))
      clear cr0 cr1 cr2 cr3 fr0 fr1 fr2 fr3
      refine wpSeq_done ?_
      refine wpLate_done (by kernel_rfl) ?_ _
      go_wp2_with fail
      go_meet
      exact ⟨nb, rfl, hZF, hU.no hvB, hF.no hvB, by have := hF.size; omega, by omega, by have := hU.lt; omega⟩
  · go_wp2_with fail
    have hy1 : Fr No w1 (w1.alloc (.cells #[.int .u64 0, .int .u64 0, .int .u64 0, .int .u64 0] 31)).drew := ((Fr.refl No w1).alloc _).drew
    refine hK.out _ _ (fun _ => hy1) ?_
    clear hK K
    have hZ : Row4 (w1.alloc (.cells #[.int .u64 0, .int .u64 0, .int .u64 0, .int .u64 0] 31)).drew w1.heap.size 31 (.int .u64 0) (.int .u64 0) (.int .u64 0) (.int .u64 0) := (row4_new w1 31 (.int .u64 0) (.int .u64 0) (.int .u64 0) (.int .u64 0)).no (Fr.refl No _).drew
    obtain ⟨nb, hnb⟩ : ∃ nb, nb = w1.heap.size := ⟨_, rfl⟩
    have hrl : w1.heap.size ≤ nb := by rw [hnb]; exact hv0.size
    rw [← hnb] at hZ ⊢
    clear hnb
    generalize (w1.alloc (.cells #[.int .u64 0, .int .u64 0, .int .u64 0, .int .u64 0] 31)).drew = wz at hy1 hZ ⊢
    refine wpLate_seg [(3, 0), (7, 1), (8, 0), (10, 0)] 0 #[true, true, true, true, true, true, true, true, true, true, true] (by kernel_rfl) rfl hy1 ?_
    refine wpSeq_next rfl rfl (fun K hK => ?_)
    go_wp2_with fail
    refine (refNum_any _ _ _ l 0 8 _ (hb1.no hy1) (by omega) (by omega) (by omega) (by omega)).mono ?_
    rintro e w' ⟨rfl, rfl⟩
    refine hK.out _ _ (fun _ => hy1) ?_
    clear hK K
    refine tp _ rfl rfl ?_; simp only [es1, es2, es3]
    refine wpSeq_next rfl rfl (fun K hK => ?_)
    go_wp2_with fail
    refine (refWord_any kd hk s (le (l.take 8) + lo % 256#64 * 72057594037927936#64) _).mono ?_
    rw [HT.out]
    rintro e y2 ⟨rfl, hx⟩
    have hy2 := hy1.no hx
    replace hZ := hZ.no hx
    clear hx
    unfold lanesV
    refine hK.out _ _ (fun _ => hy2) ?_
    clear hK K
    have cr0 := hZ.c0
    have cr1 := hZ.c1
    have cr2 := hZ.c2
    have cr3 := hZ.c3
    have fr0 := hZ.fz 0
    have fr1 := hZ.fz 1
    have fr2 := hZ.fz 2
    have fr3 := hZ.fz 3
    refine wpSeq_next rfl rfl (fun K hK => ?_)
    go_wp2_with fail
    have hvB : Fr No w1 ((((y2.setCell ⟨nb, 0, none⟩ (.int .u64 (W64 t.1))).setCell ⟨nb, 1, none⟩ (.int .u64 (W64 t.2.1))).setCell ⟨nb, 2, none⟩ (.int .u64 (W64 t.2.2.1))).setCell ⟨nb, 3, none⟩ (.int .u64 (W64 t.2.2.2))) := hy2.trans (fr_put4 y2 nb (.int .u64 (W64 t.1)) (.int .u64 (W64 t.2.1)) (.int .u64 (W64 t.2.2.1)) (.int .u64 (W64 t.2.2.2))) (fun x hx => .inr (by omega))
    refine hK.out _ _ (fun _ => hvB) ?_
    clear hK K
    have hZF := row_put4 hZ (.int .u64 (W64 t.1)) (.int .u64 (W64 t.2.1)) (.int .u64 (W64 t.2.2.1)) (.int .u64 (W64 t.2.2.2))
    clear cr0 cr1 cr2 cr3 fr0 fr1 fr2 fr3
    refine wpSeq_done ?_
    refine wpLate_done (by kernel_rfl) ?_ _
    go_wp2_with fail
    go_meet
    exact ⟨nb, rfl, hZF, hU.no hvB, hF.no hvB, by have := hF.size; omega, by omega, by have := hU.lt; omega⟩
 case rest =>
 obtain ⟨nb, rfl, hA⟩ := hcut
 clear hR hU hF hb1
 rcases hk with rfl | rfl | rfl
 · have HK : Hid (¬ (6 : Int) = 8) := Lib.hid (by omega)
   have q0 := hA.row.c0
   have q1 := hA.row.c1
   have q2 := hA.row.c2
   have q3 := hA.row.c3
   have z0 := hA.row.fz 0
   have z1 := hA.row.fz 1
   have z2 := hA.row.fz 2
   have z3 := hA.row.fz 3
   go_upto_region 4 with fail
   have hA3 := hA.put2 255#64
   clear q0 q1 q2 q3 z0 z1 z2 z3 hA
   generalize wc.setCell ⟨nb, 2, none⟩ (.int .u64 (W64 (t.2.2.1 ^^^ 255#64))) = w3 at hA3 ⊢
   obtain ⟨s3, hs3⟩ : ∃ z : ST, z = x2F 255#64 t := ⟨_, rfl⟩
   rw [← hs3] at hA3
   have Hs3 := Lib.hid hs3
   clear hs3
   have q0 := hA3.row.c0
   have q1 := hA3.row.c1
   have q2 := hA3.row.c2
   have q3 := hA3.row.c3
   have z0 := hA3.row.fz 0
   have z1 := hA3.row.fz 1
   have z2 := hA3.row.fz 2
   have z3 := hA3.row.fz 3
   go_wp2_with fail
   refine (refRounds_any s3 4 (by omega) _).mono ?_
   rintro e w4 ⟨rfl, hx⟩
   have hA4 := hA3.no hx
   clear q0 q1 q2 q3 z0 z1 z2 z3 hA3 hx
   obtain ⟨t4, ht4⟩ : ∃ z, z = roundsF 4 s3 := ⟨_, rfl⟩
   rw [← ht4]
   have Ht4 := Lib.hid ht4
   clear ht4
   unfold lanesV
   have q0 := hA4.row.c0
   have q1 := hA4.row.c1
   have q2 := hA4.row.c2
   have q3 := hA4.row.c3
   have z0 := hA4.row.fz 0
   have z1 := hA4.row.fz 1
   have z2 := hA4.row.fz 2
   have z3 := hA4.row.fz 3
   go_upto_region 7 with fail
   have hA5 := hA4.put t4
   clear q0 q1 q2 q3 z0 z1 z2 z3 hA4
   generalize ((((w4.setCell ⟨nb, 0, none⟩ (.int .u64 (W64 t4.1))).setCell ⟨nb, 1, none⟩ (.int .u64 (W64 t4.2.1))).setCell ⟨nb, 2, none⟩ (.int .u64 (W64 t4.2.2.1))).setCell ⟨nb, 3, none⟩ (.int .u64 (W64 t4.2.2.2))) = w5 at hA5 ⊢
   have q0 := hA5.row.c0
   have q1 := hA5.row.c1
   have q2 := hA5.row.c2
   have q3 := hA5.row.c3
   have z0 := hA5.row.fz 0
   have z1 := hA5.row.fz 1
   have z2 := hA5.row.fz 2
   have z3 := hA5.row.fz 3
   have cr0 := hA5.res.c0
   have cr1 := hA5.res.c1
   have fr0 := hA5.res.fz 0
   have fr1 := hA5.res.fz 1
   go_wp2_with fail
   have hF9 := fr_put2 w5 rb (.int .u64 0) (.int .u64 (W64 (t4.1 ^^^ t4.2.1 ^^^ t4.2.2.1 ^^^ t4.2.2.2)))
   have hR9 := row_put2 hA5.res (.int .u64 0) (.int .u64 (W64 (t4.1 ^^^ t4.2.1 ^^^ t4.2.2.1 ^^^ t4.2.2.2)))
   clear cr0 cr1 fr0 fr1
   generalize (w5.setCell ⟨rb, 0, none⟩ (.int .u64 0)).setCell ⟨rb, 1, none⟩ (.int .u64 (W64 (t4.1 ^^^ t4.2.1 ^^^ t4.2.2.1 ^^^ t4.2.2.2))) = w9 at hF9 hR9 ⊢
   have cd0 := hR9.c0
   have cd1 := hR9.c1
   refine bodyPost_ret (v := .agg #[.int .u64 0, .int .u64 (W64 (t4.1 ^^^ t4.2.1 ^^^ t4.2.2.1 ^^^ t4.2.2.2))]) (by simp [results, Tryz.results39, go_sem, cd0, cd1]) rfl ?_
   exact ⟨by rw [endHi_n HK.out, endLo_n HK.out, midF_add _ _ _ _ hl, show dOf 6 = 4 from rfl, HT.out, ← Hs3.out, ← Ht4.out]; rfl, hA5.fr.trans hF9 (fun x hx => .inr (by have := hA5.ge2; omega))⟩
 · have HK : Hid (¬ (7 : Int) = 8) := Lib.hid (by omega)
   have q0 := hA.row.c0
   have q1 := hA.row.c1
   have q2 := hA.row.c2
   have q3 := hA.row.c3
   have z0 := hA.row.fz 0
   have z1 := hA.row.fz 1
   have z2 := hA.row.fz 2
   have z3 := hA.row.fz 3
   go_upto_region 4 with fail
   have hA3 := hA.put2 255#64
   clear q0 q1 q2 q3 z0 z1 z2 z3 hA
   generalize wc.setCell ⟨nb, 2, none⟩ (.int .u64 (W64 (t.2.2.1 ^^^ 255#64))) = w3 at hA3 ⊢
   obtain ⟨s3, hs3⟩ : ∃ z : ST, z = x2F 255#64 t := ⟨_, rfl⟩
   rw [← hs3] at hA3
   have Hs3 := Lib.hid hs3
   clear hs3
   have q0 := hA3.row.c0
   have q1 := hA3.row.c1
   have q2 := hA3.row.c2
   have q3 := hA3.row.c3
   have z0 := hA3.row.fz 0
   have z1 := hA3.row.fz 1
   have z2 := hA3.row.fz 2
   have z3 := hA3.row.fz 3
   go_wp2_with fail
   refine (refRounds_any s3 3 (by omega) _).mono ?_
   rintro e w4 ⟨rfl, hx⟩
   have hA4 := hA3.no hx
   clear q0 q1 q2 q3 z0 z1 z2 z3 hA3 hx
   obtain ⟨t4, ht4⟩ : ∃ z, z = roundsF 3 s3 := ⟨_, rfl⟩
   rw [← ht4]
   have Ht4 := Lib.hid ht4
   clear ht4
   unfold lanesV
   have q0 := hA4.row.c0
   have q1 := hA4.row.c1
   have q2 := hA4.row.c2
   have q3 := hA4.row.c3
   have z0 := hA4.row.fz 0
   have z1 := hA4.row.fz 1
   have z2 := hA4.row.fz 2
   have z3 := hA4.row.fz 3
   go_upto_region 7 with fail
   have hA5 := hA4.put t4
   clear q0 q1 q2 q3 z0 z1 z2 z3 hA4
   generalize ((((w4.setCell ⟨nb, 0, none⟩ (.int .u64 (W64 t4.1))).setCell ⟨nb, 1, none⟩ (.int .u64 (W64 t4.2.1))).setCell ⟨nb, 2, none⟩ (.int .u64 (W64 t4.2.2.1))).setCell ⟨nb, 3, none⟩ (.int .u64 (W64 t4.2.2.2))) = w5 at hA5 ⊢
   have q0 := hA5.row.c0
   have q1 := hA5.row.c1
   have q2 := hA5.row.c2
   have q3 := hA5.row.c3
   have z0 := hA5.row.fz 0
   have z1 := hA5.row.fz 1
   have z2 := hA5.row.fz 2
   have z3 := hA5.row.fz 3
   have cr0 := hA5.res.c0
   have cr1 := hA5.res.c1
   have fr0 := hA5.res.fz 0
   have fr1 := hA5.res.fz 1
   go_wp2_with fail
   have hF9 := fr_put2 w5 rb (.int .u64 0) (.int .u64 (W64 (t4.1 ^^^ t4.2.1 ^^^ t4.2.2.1 ^^^ t4.2.2.2)))
   have hR9 := row_put2 hA5.res (.int .u64 0) (.int .u64 (W64 (t4.1 ^^^ t4.2.1 ^^^ t4.2.2.1 ^^^ t4.2.2.2)))
   clear cr0 cr1 fr0 fr1
   generalize (w5.setCell ⟨rb, 0, none⟩ (.int .u64 0)).setCell ⟨rb, 1, none⟩ (.int .u64 (W64 (t4.1 ^^^ t4.2.1 ^^^ t4.2.2.1 ^^^ t4.2.2.2))) = w9 at hF9 hR9 ⊢
   have cd0 := hR9.c0
   have cd1 := hR9.c1
   refine bodyPost_ret (v := .agg #[.int .u64 0, .int .u64 (W64 (t4.1 ^^^ t4.2.1 ^^^ t4.2.2.1 ^^^ t4.2.2.2))]) (by simp [results, Tryz.results39, go_sem, cd0, cd1]) rfl ?_
   exact ⟨by rw [endHi_n HK.out, endLo_n HK.out, midF_add _ _ _ _ hl, show dOf 7 = 3 from rfl, HT.out, ← Hs3.out, ← Ht4.out]; rfl, hA5.fr.trans hF9 (fun x hx => .inr (by have := hA5.ge2; omega))⟩
 · skip
   have q0 := hA.row.c0
   have q1 := hA.row.c1
   have q2 := hA.row.c2
   have q3 := hA.row.c3
   have z0 := hA.row.fz 0
   have z1 := hA.row.fz 1
   have z2 := hA.row.fz 2
   have z3 := hA.row.fz 3
   go_upto_region 9 with fail
   have hA3 := hA.put2 238#64
   clear q0 q1 q2 q3 z0 z1 z2 z3 hA
   generalize wc.setCell ⟨nb, 2, none⟩ (.int .u64 (W64 (t.2.2.1 ^^^ 238#64))) = w3 at hA3 ⊢
   obtain ⟨s3, hs3⟩ : ∃ z : ST, z = x2F 238#64 t := ⟨_, rfl⟩
   rw [← hs3] at hA3
   have Hs3 := Lib.hid hs3
   clear hs3
   have q0 := hA3.row.c0
   have q1 := hA3.row.c1
   have q2 := hA3.row.c2
   have q3 := hA3.row.c3
   have z0 := hA3.row.fz 0
   have z1 := hA3.row.fz 1
   have z2 := hA3.row.fz 2
   have z3 := hA3.row.fz 3
   go_wp2_with fail
   refine (refRounds_any s3 4 (by omega) _).mono ?_
   rintro e w4 ⟨rfl, hx⟩
   have hA4 := hA3.no hx
   clear q0 q1 q2 q3 z0 z1 z2 z3 hA3 hx
   obtain ⟨t4, ht4⟩ : ∃ z, z = roundsF 4 s3 := ⟨_, rfl⟩
   rw [← ht4]
   have Ht4 := Lib.hid ht4
   clear ht4
   unfold lanesV
   have q0 := hA4.row.c0
   have q1 := hA4.row.c1
   have q2 := hA4.row.c2
   have q3 := hA4.row.c3
   have z0 := hA4.row.fz 0
   have z1 := hA4.row.fz 1
   have z2 := hA4.row.fz 2
   have z3 := hA4.row.fz 3
   go_upto_region 10 with fail
   have hA5 := hA4.put t4
   clear q0 q1 q2 q3 z0 z1 z2 z3 hA4
   generalize ((((w4.setCell ⟨nb, 0, none⟩ (.int .u64 (W64 t4.1))).setCell ⟨nb, 1, none⟩ (.int .u64 (W64 t4.2.1))).setCell ⟨nb, 2, none⟩ (.int .u64 (W64 t4.2.2.1))).setCell ⟨nb, 3, none⟩ (.int .u64 (W64 t4.2.2.2))) = w5 at hA5 ⊢
   have q0 := hA5.row.c0
   have q1 := hA5.row.c1
   have q2 := hA5.row.c2
   have q3 := hA5.row.c3
   have z0 := hA5.row.fz 0
   have z1 := hA5.row.fz 1
   have z2 := hA5.row.fz 2
   have z3 := hA5.row.fz 3
   go_upto_region 11 with fail
   obtain ⟨v, hv⟩ : ∃ z, z = t4.1 ^^^ t4.2.1 ^^^ t4.2.2.1 ^^^ t4.2.2.2 := ⟨_, rfl⟩
   rw [← hv]
   have Hv := Lib.hid hv
   clear hv
   go_upto_region 12 with fail
   have hA6 := hA5.put1 221#64
   clear q0 q1 q2 q3 z0 z1 z2 z3 hA5
   generalize w5.setCell ⟨nb, 1, none⟩ (.int .u64 (W64 (t4.2.1 ^^^ 221#64))) = w6 at hA6 ⊢
   obtain ⟨s6, hs6⟩ : ∃ z : ST, z = x1F 221#64 t4 := ⟨_, rfl⟩
   rw [← hs6] at hA6
   have Hs6 := Lib.hid hs6
   clear hs6
   have q0 := hA6.row.c0
   have q1 := hA6.row.c1
   have q2 := hA6.row.c2
   have q3 := hA6.row.c3
   have z0 := hA6.row.fz 0
   have z1 := hA6.row.fz 1
   have z2 := hA6.row.fz 2
   have z3 := hA6.row.fz 3
   go_wp2_with fail
   refine (refRounds_any s6 4 (by omega) _).mono ?_
   rintro e w7 ⟨rfl, hx⟩
   have hA7 := hA6.no hx
   clear q0 q1 q2 q3 z0 z1 z2 z3 hA6 hx
   obtain ⟨t7, ht7⟩ : ∃ z, z = roundsF 4 s6 := ⟨_, rfl⟩
   rw [← ht7]
   have Ht7 := Lib.hid ht7
   clear ht7
   unfold lanesV
   have q0 := hA7.row.c0
   have q1 := hA7.row.c1
   have q2 := hA7.row.c2
   have q3 := hA7.row.c3
   have z0 := hA7.row.fz 0
   have z1 := hA7.row.fz 1
   have z2 := hA7.row.fz 2
   have z3 := hA7.row.fz 3
   go_upto_region 13 with fail
   have hA8 := hA7.put t7
   clear q0 q1 q2 q3 z0 z1 z2 z3 hA7
   generalize ((((w7.setCell ⟨nb, 0, none⟩ (.int .u64 (W64 t7.1))).setCell ⟨nb, 1, none⟩ (.int .u64 (W64 t7.2.1))).setCell ⟨nb, 2, none⟩ (.int .u64 (W64 t7.2.2.1))).setCell ⟨nb, 3, none⟩ (.int .u64 (W64 t7.2.2.2))) = w8 at hA8 ⊢
   have q0 := hA8.row.c0
   have q1 := hA8.row.c1
   have q2 := hA8.row.c2
   have q3 := hA8.row.c3
   have z0 := hA8.row.fz 0
   have z1 := hA8.row.fz 1
   have z2 := hA8.row.fz 2
   have z3 := hA8.row.fz 3
   have cr0 := hA8.res.c0
   have cr1 := hA8.res.c1
   have fr0 := hA8.res.fz 0
   have fr1 := hA8.res.fz 1
   go_wp2_with fail
   have hF9 := fr_put2 w8 rb (.int .u64 (W64 (t7.1 ^^^ t7.2.1 ^^^ t7.2.2.1 ^^^ t7.2.2.2))) (.int .u64 (W64 (v)))
   have hR9 := row_put2 hA8.res (.int .u64 (W64 (t7.1 ^^^ t7.2.1 ^^^ t7.2.2.1 ^^^ t7.2.2.2))) (.int .u64 (W64 (v)))
   clear cr0 cr1 fr0 fr1
   generalize (w8.setCell ⟨rb, 0, none⟩ (.int .u64 (W64 (t7.1 ^^^ t7.2.1 ^^^ t7.2.2.1 ^^^ t7.2.2.2)))).setCell ⟨rb, 1, none⟩ (.int .u64 (W64 (v))) = w9 at hF9 hR9 ⊢
   have cd0 := hR9.c0
   have cd1 := hR9.c1
   refine bodyPost_ret (v := .agg #[.int .u64 (W64 (t7.1 ^^^ t7.2.1 ^^^ t7.2.2.1 ^^^ t7.2.2.2)), .int .u64 (W64 (v))]) (by simp [results, Tryz.results39, go_sem, cd0, cd1]) rfl ?_
   exact ⟨by rw [endHi_8, endLo_8, midF_add _ _ _ _ hl, show dOf 8 = 4 from rfl, HT.out, ← Hs3.out, ← Ht4.out, ← Hs6.out, ← Ht7.out, Hv.out]; rfl, hA8.fr.trans hF9 (fun x hx => .inr (by have := hA8.ge2; omega))⟩
end Go.Proofs.YtidlpihoafnobaaGreatDoor.StSip
