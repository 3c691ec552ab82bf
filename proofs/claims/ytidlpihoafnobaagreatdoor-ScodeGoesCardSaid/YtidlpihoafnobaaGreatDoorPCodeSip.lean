/- CodeSip -/
import Derived.Test.YtidlpihoafnobaaGreatDoorPSealErr
set_option linter.unusedVariables false
set_option linter.unusedSimpArgs false
namespace Go.Proofs.YtidlpihoafnobaaGreatDoor.StSip
set_option maxRecDepth 100000
open Go.Proofs.YtidlpihoafnobaaGreatDoor.StG64
open Go.RowKit
theorem rounds_any (kd : Int) (w : World) : Calls Tryz.prog 221 #[.int .i64 kd] w (Gives (.tuple #[.int .i64 (cOf kd), .int .i64 (dOf kd)]) w) := by
 by_cases h6 : kd = 6
 · subst h6
   go_enter Tryz.func221, Tryz.ntmps221
   go_wp2
   go_ret2
   exact ⟨by first | rfl | simp [cOf, dOf, *], rfl⟩
 by_cases h8 : kd = 8
 · subst h8
   go_enter Tryz.func221, Tryz.ntmps221
   go_wp2
   go_ret2
   exact ⟨by first | rfl | simp [cOf, dOf, *], rfl⟩
 by_cases h7 : kd = 7
 · subst h7
   go_enter Tryz.func221, Tryz.ntmps221
   go_wp2
   go_ret2
   exact ⟨by first | rfl | simp [cOf, dOf, *], rfl⟩
 · go_enter Tryz.func221, Tryz.ntmps221
   go_wp2
   go_ret2
   exact ⟨by first | rfl | simp [cOf, dOf, *], rfl⟩
theorem cS0 (s : ST) : cS s 0 = .int .u64 (W64 s.1) := rfl
theorem cS1 (s : ST) : cS s 1 = .int .u64 (W64 s.2.1) := rfl
theorem cS2 (s : ST) : cS s 2 = .int .u64 (W64 s.2.2.1) := rfl
theorem cS3 (s : ST) : cS s 3 = .int .u64 (W64 s.2.2.2) := rfl
def lanesV (s : ST) : Value := .agg #[.int .u64 (W64 s.1), .int .u64 (W64 s.2.1), .int .u64 (W64 s.2.2.1), .int .u64 (W64 s.2.2.2)]
structure At (w0 w : World) (b : Nat) (s : ST) : Prop where
 row : Row4 w b 31 (.int .u64 (W64 s.1)) (.int .u64 (W64 s.2.1)) (.int .u64 (W64 s.2.2.1)) (.int .u64 (W64 s.2.2.2))
 res : Row4 w (b + 1) 31 (.int .u64 0) (.int .u64 0) (.int .u64 0) (.int .u64 0)
 fr : Fr No w0 w
 ge : w0.heap.size ≤ b
theorem At.no {w0 w w' : World} {b : Nat} {s : ST} (h : At w0 w b s) (k : Fr No w w') : At w0 w' b s := ⟨h.row.no k, h.res.no k, h.fr.no k, h.ge⟩
theorem fr_cell (w : World) (b i : Nat) (v : Value) : Fr (fun x => x = b) w (w.setCell ⟨b, i, none⟩ v) := (Fr.refl (fun x => x = b) w).setCell (p := ⟨b, i, none⟩) (.inl rfl) v
theorem At.of {w0 w w' : World} {b : Nat} {s s' : ST} (h : At w0 w b s) (k : Fr (fun x => x = b) w w') (hr : Row4 w' b 31 (.int .u64 (W64 s'.1)) (.int .u64 (W64 s'.2.1)) (.int .u64 (W64 s'.2.2.1)) (.int .u64 (W64 s'.2.2.2))) : At w0 w' b s' :=
 ⟨hr, h.res.fr k (by omega), h.fr.trans k (fun x hx => .inr (by have := h.ge; omega)), h.ge⟩
theorem At.new (w : World) (s : ST) : At w ((w.alloc (.cells #[.int .u64 (W64 s.1), .int .u64 (W64 s.2.1), .int .u64 (W64 s.2.2.1), .int .u64 (W64 s.2.2.2)] 31)).alloc (.cells #[.int .u64 0, .int .u64 0, .int .u64 0, .int .u64 0] 31)) w.heap.size s :=
 ⟨(row4_new w 31 (.int .u64 (W64 s.1)) (.int .u64 (W64 s.2.1)) (.int .u64 (W64 s.2.2.1)) (.int .u64 (W64 s.2.2.2))).no ((Fr.refl No _).alloc _), heap_alloc2_new w _ _, ((Fr.refl No w).alloc _).alloc _, Nat.le_refl _⟩
theorem At.put0 {w0 w : World} {b : Nat} {s : ST} (h : At w0 w b s) (y : BitVec 64) : At w0 (w.setCell ⟨b, 0, none⟩ (.int .u64 (W64 y))) b (y, s.2.1, s.2.2.1, s.2.2.2) := h.of (fr_cell w b 0 _) (h.row.put0 _)
theorem At.put1 {w0 w : World} {b : Nat} {s : ST} (h : At w0 w b s) (y : BitVec 64) : At w0 (w.setCell ⟨b, 1, none⟩ (.int .u64 (W64 y))) b (s.1, y, s.2.2.1, s.2.2.2) := h.of (fr_cell w b 1 _) (h.row.put1 _)
theorem At.put2 {w0 w : World} {b : Nat} {s : ST} (h : At w0 w b s) (y : BitVec 64) : At w0 (w.setCell ⟨b, 2, none⟩ (.int .u64 (W64 y))) b (s.1, s.2.1, y, s.2.2.2) := h.of (fr_cell w b 2 _) (h.row.put2 _)
theorem At.put3 {w0 w : World} {b : Nat} {s : ST} (h : At w0 w b s) (y : BitVec 64) : At w0 (w.setCell ⟨b, 3, none⟩ (.int .u64 (W64 y))) b (s.1, s.2.1, s.2.2.1, y) := h.of (fr_cell w b 3 _) (h.row.put3 _)
theorem At.put {w0 w : World} {b : Nat} {s : ST} (h : At w0 w b s) (t : ST) : At w0 ((((w.setCell ⟨b, 0, none⟩ (.int .u64 (W64 t.1))).setCell ⟨b, 1, none⟩ (.int .u64 (W64 t.2.1))).setCell ⟨b, 2, none⟩ (.int .u64 (W64 t.2.2.1))).setCell ⟨b, 3, none⟩ (.int .u64 (W64 t.2.2.2))) b t := h.of (fr_put4 w b (.int .u64 (W64 t.1)) (.int .u64 (W64 t.2.1)) (.int .u64 (W64 t.2.2.1)) (.int .u64 (W64 t.2.2.2))) (row_put4 h.row (.int .u64 (W64 t.1)) (.int .u64 (W64 t.2.1)) (.int .u64 (W64 t.2.2.1)) (.int .u64 (W64 t.2.2.2)))
theorem At.r0 {w0 w : World} {b : Nat} {s : ST} (h : At w0 w b s) : At w0 (w.setCell ⟨b, 0, none⟩ (.int .u64 (W64 (s.1 + s.2.1)))) b (r0 s) := h.put0 _
theorem At.r1 {w0 w : World} {b : Nat} {s : ST} (h : At w0 w b s) : At w0 (w.setCell ⟨b, 1, none⟩ (.int .u64 (W64 (rotl64 s.2.1 13 ^^^ s.1)))) b (r1 s) := h.put1 _
theorem At.r2 {w0 w : World} {b : Nat} {s : ST} (h : At w0 w b s) : At w0 (w.setCell ⟨b, 0, none⟩ (.int .u64 (W64 (rotl64 s.1 32)))) b (r2 s) := h.put0 _
theorem At.r3 {w0 w : World} {b : Nat} {s : ST} (h : At w0 w b s) : At w0 (w.setCell ⟨b, 2, none⟩ (.int .u64 (W64 (s.2.2.1 + s.2.2.2)))) b (r3 s) := h.put2 _
theorem At.r4 {w0 w : World} {b : Nat} {s : ST} (h : At w0 w b s) : At w0 (w.setCell ⟨b, 3, none⟩ (.int .u64 (W64 (rotl64 s.2.2.2 16 ^^^ s.2.2.1)))) b (r4 s) := h.put3 _
theorem At.r5 {w0 w : World} {b : Nat} {s : ST} (h : At w0 w b s) : At w0 (w.setCell ⟨b, 0, none⟩ (.int .u64 (W64 (s.1 + s.2.2.2)))) b (r5 s) := h.put0 _
theorem At.r6 {w0 w : World} {b : Nat} {s : ST} (h : At w0 w b s) : At w0 (w.setCell ⟨b, 3, none⟩ (.int .u64 (W64 (rotl64 s.2.2.2 21 ^^^ s.1)))) b (r6 s) := h.put3 _
theorem At.r7 {w0 w : World} {b : Nat} {s : ST} (h : At w0 w b s) : At w0 (w.setCell ⟨b, 2, none⟩ (.int .u64 (W64 (s.2.2.1 + s.2.1)))) b (r7 s) := h.put2 _
theorem At.r8 {w0 w : World} {b : Nat} {s : ST} (h : At w0 w b s) : At w0 (w.setCell ⟨b, 1, none⟩ (.int .u64 (W64 (rotl64 s.2.1 17 ^^^ s.2.2.1)))) b (r8 s) := h.put1 _
theorem At.r9 {w0 w : World} {b : Nat} {s : ST} (h : At w0 w b s) : At w0 (w.setCell ⟨b, 2, none⟩ (.int .u64 (W64 (rotl64 s.2.2.1 32)))) b (r9 s) := h.put2 _
theorem roundsF_succ (n : Nat) (s : ST) : roundsF (n + 1) s = roundF (roundsF n s) := rfl
set_option maxHeartbeats 4000000 in
theorem turned_any (s : ST) (n : Nat) (hn : n ≤ 100) (w : World) : Calls Tryz.prog 244 #[lanesV s, .int .i64 n] w (GivesNew (lanesV (roundsF n s)) w) := by
 unfold lanesV
 have hA := At.new w s
 go_enter Tryz.func244, Tryz.ntmps244
 go_wp2
 generalize w.heap.size = pb at hA ⊢
 generalize ((w.alloc (.cells #[.int .u64 (W64 s.1), .int .u64 (W64 s.2.1), .int .u64 (W64 s.2.2.1), .int .u64 (W64 s.2.2.2)] 31)).alloc (.cells #[.int .u64 0, .int .u64 0, .int .u64 0, .int .u64 0] 31)) = w1 at hA ⊢
 go_loopw [6] (fun i wr => ∃ (k : Nat) (s' : ST), k ≤ n ∧ i = .int .i64 k ∧ At w wr pb s' ∧ Hid (s' = roundsF k s)) (fun i _ => n - (intOf i).toNat)
 case atStart => exact ⟨0, s, by omega, rfl, hA, rfl⟩
 case round =>
  obtain ⟨k, s0, hk, rfl, hA0, hs0⟩ := hrel
  clear hA
  obtain ⟨w0, rfl⟩ : ∃ w0 : World, w0 = wr := ⟨_, rfl⟩
  by_cases hlt : k < n
  · have i1 : (k : Int) < (n : Int) := by omega
    have q0 := hA0.row.c0
    have q1 := hA0.row.c1
    have q2 := hA0.row.c2
    have q3 := hA0.row.c3
    have z0 := hA0.row.fz 0
    have z1 := hA0.row.fz 1
    have z2 := hA0.row.fz 2
    have z3 := hA0.row.fz 3
    go_wp2_with fail
    have hA1 := hA0.r0
    clear q0 q1 q2 q3 z0 z1 z2 z3
    generalize w0.setCell ⟨pb, 0, none⟩ (.int .u64 (W64 (s0.1 + s0.2.1))) = w1 at hA1 ⊢
    obtain ⟨s1, hs1⟩ : ∃ z, z = r0 s0 := ⟨_, rfl⟩
    rw [← hs1] at hA1
    have HS1 := Lib.hid hs1
    clear hs1 hA0
    refine wp_region_seq (by kernel_rfl) (fun w' => Fr No w1 w') (fun i => decide (7 ≤ i)) [(0, 1), (1, 1), (3, 1), (4, 1), (2, 0), (5, 1), (6, 1), (7, 0)] (by kernel_rfl) (Fr.refl No w1).drew ?_
    have hv0 : Fr No w1 w1.drew := (Fr.refl No w1).drew
    iterate 4 refine tq _ rfl rfl (by intro w9 h9; have q0 := (hA1.row.no h9).c0; have q1 := (hA1.row.no h9).c1; have q2 := (hA1.row.no h9).c2; have q3 := (hA1.row.no h9).c3; clear h9; go_simp; try with_reducible rfl) ?_; simp only [es1, es2, es3]
    refine wpSeq_next rfl rfl (fun K hK => ?_)
    go_wp2_with fail
    refine (Rot64_any _ 13 _).mono ?_
    rintro e w' ⟨rfl, rfl⟩
    refine hK.out _ _ (fun _ => hv0) ?_
    clear hK K
    iterate 2 refine tp _ rfl rfl ?_; simp only [es1, es2, es3]
    have hAx := hA1.no hv0
    have q0 := hAx.row.c0
    have q1 := hAx.row.c1
    have q2 := hAx.row.c2
    have q3 := hAx.row.c3
    have z0 := hAx.row.fz 0
    have z1 := hAx.row.fz 1
    have z2 := hAx.row.fz 2
    have z3 := hAx.row.fz 3
    refine wpSeq_next rfl rfl (fun K hK => ?_)
    go_wp2_with fail
    refine hK.out _ _ (fun h => by simp at h) ?_
    clear hK K
    refine wpSeq_done ?_
    have hA2 := hA1.r1.no (Fr.refl No _).drew
    clear q0 q1 q2 q3 z0 z1 z2 z3 hAx hv0
    generalize (w1.setCell ⟨pb, 1, none⟩ (.int .u64 (W64 (rotl64 s1.2.1 13 ^^^ s1.1)))).drew = w2 at hA2 ⊢
    obtain ⟨s2, hs2⟩ : ∃ z, z = r1 s1 := ⟨_, rfl⟩
    rw [← hs2] at hA2
    have HS2 := Lib.hid hs2
    clear hs2 hA1
    have q0 := hA2.row.c0
    have q1 := hA2.row.c1
    have q2 := hA2.row.c2
    have q3 := hA2.row.c3
    have z0 := hA2.row.fz 0
    have z1 := hA2.row.fz 1
    have z2 := hA2.row.fz 2
    have z3 := hA2.row.fz 3
    go_wp2_with fail
    refine (Rot64_any _ 32 _).mono ?_
    rintro e w' ⟨rfl, rfl⟩
    go_wp2_with fail
    have hA4 : At w ((w2.setCell ⟨pb, 0, none⟩ (.int .u64 (W64 (rotl64 s2.1 32)))).setCell ⟨pb, 2, none⟩ (.int .u64 (W64 (s2.2.2.1 + s2.2.2.2)))) pb (r3 (r2 s2)) := hA2.r2.r3
    clear q0 q1 q2 q3 z0 z1 z2 z3
    generalize (w2.setCell ⟨pb, 0, none⟩ (.int .u64 (W64 (rotl64 s2.1 32)))).setCell ⟨pb, 2, none⟩ (.int .u64 (W64 (s2.2.2.1 + s2.2.2.2))) = w4 at hA4 ⊢
    obtain ⟨s4, hs4⟩ : ∃ z, z = r3 (r2 s2) := ⟨_, rfl⟩
    rw [← hs4] at hA4
    have HS4 := Lib.hid hs4
    clear hs4 hA2
    refine wp_region_seq (by kernel_rfl) (fun w' => Fr No w4 w') (fun i => decide (7 ≤ i)) [(0, 1), (1, 1), (3, 1), (4, 1), (2, 0), (5, 1), (6, 1), (7, 0)] (by kernel_rfl) (Fr.refl No w4).drew ?_
    have hv0 : Fr No w4 w4.drew := (Fr.refl No w4).drew
    iterate 4 refine tq _ rfl rfl (by intro w9 h9; have q0 := (hA4.row.no h9).c0; have q1 := (hA4.row.no h9).c1; have q2 := (hA4.row.no h9).c2; have q3 := (hA4.row.no h9).c3; clear h9; go_simp; try with_reducible rfl) ?_; simp only [es1, es2, es3]
    refine wpSeq_next rfl rfl (fun K hK => ?_)
    go_wp2_with fail
    refine (Rot64_any _ 16 _).mono ?_
    rintro e w' ⟨rfl, rfl⟩
    refine hK.out _ _ (fun _ => hv0) ?_
    clear hK K
    iterate 2 refine tp _ rfl rfl ?_; simp only [es1, es2, es3]
    have hAx := hA4.no hv0
    have q0 := hAx.row.c0
    have q1 := hAx.row.c1
    have q2 := hAx.row.c2
    have q3 := hAx.row.c3
    have z0 := hAx.row.fz 0
    have z1 := hAx.row.fz 1
    have z2 := hAx.row.fz 2
    have z3 := hAx.row.fz 3
    refine wpSeq_next rfl rfl (fun K hK => ?_)
    go_wp2_with fail
    refine hK.out _ _ (fun h => by simp at h) ?_
    clear hK K
    refine wpSeq_done ?_
    have hA5 := hA4.r4.no (Fr.refl No _).drew
    clear q0 q1 q2 q3 z0 z1 z2 z3 hAx hv0
    generalize (w4.setCell ⟨pb, 3, none⟩ (.int .u64 (W64 (rotl64 s4.2.2.2 16 ^^^ s4.2.2.1)))).drew = w5 at hA5 ⊢
    obtain ⟨s5, hs5⟩ : ∃ z, z = r4 s4 := ⟨_, rfl⟩
    rw [← hs5] at hA5
    have HS5 := Lib.hid hs5
    clear hs5 hA4
    have q0 := hA5.row.c0
    have q1 := hA5.row.c1
    have q2 := hA5.row.c2
    have q3 := hA5.row.c3
    have z0 := hA5.row.fz 0
    have z1 := hA5.row.fz 1
    have z2 := hA5.row.fz 2
    have z3 := hA5.row.fz 3
    go_wp2_with fail
    have hA6 := hA5.r5
    clear q0 q1 q2 q3 z0 z1 z2 z3
    generalize w5.setCell ⟨pb, 0, none⟩ (.int .u64 (W64 (s5.1 + s5.2.2.2))) = w6 at hA6 ⊢
    obtain ⟨s6, hs6⟩ : ∃ z, z = r5 s5 := ⟨_, rfl⟩
    rw [← hs6] at hA6
    have HS6 := Lib.hid hs6
    clear hs6 hA5
    refine wp_region_seq (by kernel_rfl) (fun w' => Fr No w6 w') (fun i => decide (7 ≤ i)) [(0, 1), (1, 1), (3, 1), (4, 1), (2, 0), (5, 1), (6, 1), (7, 0)] (by kernel_rfl) (Fr.refl No w6).drew ?_
    have hv0 : Fr No w6 w6.drew := (Fr.refl No w6).drew
    iterate 4 refine tq _ rfl rfl (by intro w9 h9; have q0 := (hA6.row.no h9).c0; have q1 := (hA6.row.no h9).c1; have q2 := (hA6.row.no h9).c2; have q3 := (hA6.row.no h9).c3; clear h9; go_simp; try with_reducible rfl) ?_; simp only [es1, es2, es3]
    refine wpSeq_next rfl rfl (fun K hK => ?_)
    go_wp2_with fail
    refine (Rot64_any _ 21 _).mono ?_
    rintro e w' ⟨rfl, rfl⟩
    refine hK.out _ _ (fun _ => hv0) ?_
    clear hK K
    iterate 2 refine tp _ rfl rfl ?_; simp only [es1, es2, es3]
    have hAx := hA6.no hv0
    have q0 := hAx.row.c0
    have q1 := hAx.row.c1
    have q2 := hAx.row.c2
    have q3 := hAx.row.c3
    have z0 := hAx.row.fz 0
    have z1 := hAx.row.fz 1
    have z2 := hAx.row.fz 2
    have z3 := hAx.row.fz 3
    refine wpSeq_next rfl rfl (fun K hK => ?_)
    go_wp2_with fail
    refine hK.out _ _ (fun h => by simp at h) ?_
    clear hK K
    refine wpSeq_done ?_
    have hA7 := hA6.r6.no (Fr.refl No _).drew
    clear q0 q1 q2 q3 z0 z1 z2 z3 hAx hv0
    generalize (w6.setCell ⟨pb, 3, none⟩ (.int .u64 (W64 (rotl64 s6.2.2.2 21 ^^^ s6.1)))).drew = w7 at hA7 ⊢
    obtain ⟨s7, hs7⟩ : ∃ z, z = r6 s6 := ⟨_, rfl⟩
    rw [← hs7] at hA7
    have HS7 := Lib.hid hs7
    clear hs7 hA6
    have q0 := hA7.row.c0
    have q1 := hA7.row.c1
    have q2 := hA7.row.c2
    have q3 := hA7.row.c3
    have z0 := hA7.row.fz 0
    have z1 := hA7.row.fz 1
    have z2 := hA7.row.fz 2
    have z3 := hA7.row.fz 3
    go_wp2_with fail
    have hA8 := hA7.r7
    clear q0 q1 q2 q3 z0 z1 z2 z3
    generalize w7.setCell ⟨pb, 2, none⟩ (.int .u64 (W64 (s7.2.2.1 + s7.2.1))) = w8 at hA8 ⊢
    obtain ⟨s8, hs8⟩ : ∃ z, z = r7 s7 := ⟨_, rfl⟩
    rw [← hs8] at hA8
    have HS8 := Lib.hid hs8
    clear hs8 hA7
    refine wp_region_seq (by kernel_rfl) (fun w' => Fr No w8 w') (fun i => decide (7 ≤ i)) [(0, 1), (1, 1), (3, 1), (4, 1), (2, 0), (5, 1), (6, 1), (7, 0)] (by kernel_rfl) (Fr.refl No w8).drew ?_
    have hv0 : Fr No w8 w8.drew := (Fr.refl No w8).drew
    iterate 4 refine tq _ rfl rfl (by intro w9 h9; have q0 := (hA8.row.no h9).c0; have q1 := (hA8.row.no h9).c1; have q2 := (hA8.row.no h9).c2; have q3 := (hA8.row.no h9).c3; clear h9; go_simp; try with_reducible rfl) ?_; simp only [es1, es2, es3]
    refine wpSeq_next rfl rfl (fun K hK => ?_)
    go_wp2_with fail
    refine (Rot64_any _ 17 _).mono ?_
    rintro e w' ⟨rfl, rfl⟩
    refine hK.out _ _ (fun _ => hv0) ?_
    clear hK K
    iterate 2 refine tp _ rfl rfl ?_; simp only [es1, es2, es3]
    have hAx := hA8.no hv0
    have q0 := hAx.row.c0
    have q1 := hAx.row.c1
    have q2 := hAx.row.c2
    have q3 := hAx.row.c3
    have z0 := hAx.row.fz 0
    have z1 := hAx.row.fz 1
    have z2 := hAx.row.fz 2
    have z3 := hAx.row.fz 3
    refine wpSeq_next rfl rfl (fun K hK => ?_)
    go_wp2_with fail
    refine hK.out _ _ (fun h => by simp at h) ?_
    clear hK K
    refine wpSeq_done ?_
    have hA9 := hA8.r8.no (Fr.refl No _).drew
    clear q0 q1 q2 q3 z0 z1 z2 z3 hAx hv0
    generalize (w8.setCell ⟨pb, 1, none⟩ (.int .u64 (W64 (rotl64 s8.2.1 17 ^^^ s8.2.2.1)))).drew = w9 at hA9 ⊢
    obtain ⟨s9, hs9⟩ : ∃ z, z = r8 s8 := ⟨_, rfl⟩
    rw [← hs9] at hA9
    have HS9 := Lib.hid hs9
    clear hs9 hA8
    have q0 := hA9.row.c0
    have q1 := hA9.row.c1
    have q2 := hA9.row.c2
    have q3 := hA9.row.c3
    have z0 := hA9.row.fz 0
    have z1 := hA9.row.fz 1
    have z2 := hA9.row.fz 2
    have z3 := hA9.row.fz 3
    go_wp2_with fail
    refine (Rot64_any _ 32 _).mono ?_
    rintro e w' ⟨rfl, rfl⟩
    go_wp2_with fail
    have hA10 := hA9.r9
    clear q0 q1 q2 q3 z0 z1 z2 z3
    generalize w9.setCell ⟨pb, 2, none⟩ (.int .u64 (W64 (rotl64 s9.2.2.1 32))) = w10 at hA10 ⊢
    obtain ⟨s10, hs10⟩ : ∃ z, z = r9 s9 := ⟨_, rfl⟩
    rw [← hs10] at hA10
    have HS10 := Lib.hid hs10
    clear hs10 hA9
    go_wp2_with fail
    go_roundw
    case rel =>
     refine ⟨k + 1, s10, by omega, by simp, hA10, ?_⟩
     show _ = _
     rw [roundsF_succ, ← hs0.out, HS10.out, HS9.out, HS8.out, HS7.out, HS6.out, HS5.out, HS4.out, HS2.out, HS1.out]; rfl
    case measure => simp [intOf]; omega
  · have i1 : (n : Int) ≤ (k : Int) := by omega
    have hkn : k = n := by omega
    have HK := Lib.hid hkn
    clear hkn
    have cb0 := hA0.row.c0
    have cb1 := hA0.row.c1
    have cb2 := hA0.row.c2
    have cb3 := hA0.row.c3
    have cr0 := hA0.res.c0
    have cr1 := hA0.res.c1
    have cr2 := hA0.res.c2
    have cr3 := hA0.res.c3
    have fr0 := hA0.res.fz 0
    have fr1 := hA0.res.fz 1
    have fr2 := hA0.res.fz 2
    have fr3 := hA0.res.fz 3
    go_wp2_with fail
    have hF3 := fr_put4 w0 (pb + 1) (.int .u64 (W64 s0.1)) (.int .u64 (W64 s0.2.1)) (.int .u64 (W64 s0.2.2.1)) (.int .u64 (W64 s0.2.2.2))
    have hR3 := row_put4 hA0.res (.int .u64 (W64 s0.1)) (.int .u64 (W64 s0.2.1)) (.int .u64 (W64 s0.2.2.1)) (.int .u64 (W64 s0.2.2.2))
    clear cr0 fr0 cr1 fr1 cr2 fr2 cr3 fr3
    generalize (((w0.setCell ⟨pb + 1, 0, none⟩ (.int .u64 (W64 s0.1))).setCell ⟨pb + 1, 1, none⟩ (.int .u64 (W64 s0.2.1))).setCell ⟨pb + 1, 2, none⟩ (.int .u64 (W64 s0.2.2.1))).setCell ⟨pb + 1, 3, none⟩ (.int .u64 (W64 s0.2.2.2)) = w3 at hF3 hR3 ⊢
    have cd0 := hR3.c0
    have cd1 := hR3.c1
    have cd2 := hR3.c2
    have cd3 := hR3.c3
    refine bodyPost_ret (v := lanesV s0) (by simp [results, Tryz.results244, go_sem, cd0, cd1, cd2, cd3, lanesV]) rfl ?_
    exact ⟨by rw [hs0.out, HK.out]; rfl, hA0.fr.trans hF3 (fun x hx => .inr (by have := hA0.ge; omega))⟩
end Go.Proofs.YtidlpihoafnobaaGreatDoor.StSip
