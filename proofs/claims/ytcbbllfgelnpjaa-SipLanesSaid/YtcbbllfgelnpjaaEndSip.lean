/- sip's end. -/
import Derived.Test.YtcbbllfgelnpjaaStepSip
namespace Go.Proofs.Ytcbbllfgelnpjaa.StSip
set_option linter.unusedVariables false
set_option linter.unusedSimpArgs false
open Go.RowKit

/-- A state in a block of its own, a result of two numbers behind it. -/
structure AtU (w0 w : World) (b : Nat) (s : ST) : Prop where
  row : Row4 w b 38 (.int .u64 (W64 s.1)) (.int .u64 (W64 s.2.1)) (.int .u64 (W64 s.2.2.1)) (.int .u64 (W64 s.2.2.2))
  res : Row2 w (b + 1) 24 (.int .u64 0) (.int .u64 0)
  fr : Fr No w0 w
  ge : w0.heap.size ≤ b
theorem AtU.no {w0 w w' : World} {b : Nat} {s : ST} (h : AtU w0 w b s) (k : Fr No w w') : AtU w0 w' b s := ⟨h.row.no k, h.res.no k, h.fr.no k, h.ge⟩
theorem AtU.of {w0 w w' : World} {b : Nat} {s s' : ST} (h : AtU w0 w b s) (k : Fr (fun x => x = b) w w') (hr : Row4 w' b 38 (.int .u64 (W64 s'.1)) (.int .u64 (W64 s'.2.1)) (.int .u64 (W64 s'.2.2.1)) (.int .u64 (W64 s'.2.2.2))) : AtU w0 w' b s' :=
  ⟨hr, h.res.fr k (by omega), h.fr.trans k (fun x hx => .inr (by have := h.ge; omega)), h.ge⟩
theorem AtU.new (w : World) (s : ST) : AtU w ((w.alloc (.cells #[.int .u64 (W64 s.1), .int .u64 (W64 s.2.1), .int .u64 (W64 s.2.2.1), .int .u64 (W64 s.2.2.2)] 38)).alloc (.cells #[.int .u64 0, .int .u64 0] 24)) w.heap.size s :=
  ⟨(row4_new w 38 (.int .u64 (W64 s.1)) (.int .u64 (W64 s.2.1)) (.int .u64 (W64 s.2.2.1)) (.int .u64 (W64 s.2.2.2))).no ((Fr.refl No _).alloc _), heap_alloc2_new w _ _, ((Fr.refl No w).alloc _).alloc _, Nat.le_refl _⟩
theorem AtU.put1 {w0 w : World} {b : Nat} {s : ST} (h : AtU w0 w b s) (c : BitVec 64) : AtU w0 (w.setCell ⟨b, 1, none⟩ (.int .u64 (W64 (s.2.1 ^^^ c)))) b (x1F c s) := h.of (fr_cell w b 1 _) (h.row.put1 _)
theorem AtU.put2 {w0 w : World} {b : Nat} {s : ST} (h : AtU w0 w b s) (c : BitVec 64) : AtU w0 (w.setCell ⟨b, 2, none⟩ (.int .u64 (W64 (s.2.2.1 ^^^ c)))) b (x2F c s) := h.of (fr_cell w b 2 _) (h.row.put2 _)
theorem AtU.put {w0 w : World} {b : Nat} {s : ST} (h : AtU w0 w b s) (t : ST) : AtU w0 ((((w.setCell ⟨b, 0, none⟩ (.int .u64 (W64 t.1))).setCell ⟨b, 1, none⟩ (.int .u64 (W64 t.2.1))).setCell ⟨b, 2, none⟩ (.int .u64 (W64 t.2.2.1))).setCell ⟨b, 3, none⟩ (.int .u64 (W64 t.2.2.2))) b t := h.of (fr_put4 w b (.int .u64 (W64 t.1)) (.int .u64 (W64 t.2.1)) (.int .u64 (W64 t.2.2.1)) (.int .u64 (W64 t.2.2.2))) (row_put4 h.row (.int .u64 (W64 t.1)) (.int .u64 (W64 t.2.1)) (.int .u64 (W64 t.2.2.1)) (.int .u64 (W64 t.2.2.2)))

set_option maxHeartbeats 2000000 in
theorem end_any (kd : Int) (s : ST) (a : Option Addr) (n c : Nat) (l : Bytes) (lo : BitVec 64) (w : World) (hb : IsBytes w a n c l) :
    Calls Try.prog 28 #[.int .i64 kd, .agg #[cS s 0, cS s 1, cS s 2, cS s 3], .slice a n c, .int .u64 (W64 lo)] w (GivesNew (.agg #[.int .u64 (W64 (endHi kd s l lo)), .int .u64 (W64 (endLo kd s l lo))]) w) := by
  simp only [cS0, cS1, cS2, cS3]
  have hA := AtU.new w s
  have hb1 := hb.no hA.fr
  clear hb
  go_enter Try.func28, Try.ntmps28
  go_wp2_with fail
  generalize w.heap.size = pb at hA ⊢
  generalize ((w.alloc (.cells #[.int .u64 (W64 s.1), .int .u64 (W64 s.2.1), .int .u64 (W64 s.2.2.1), .int .u64 (W64 s.2.2.2)] 38)).alloc (.cells #[.int .u64 0, .int .u64 0] 24)) = w1 at hA hb1 ⊢
  refine (rounds_any kd _).mono ?_
  rintro e w' ⟨rfl, rfl⟩
  go_upto_region 2 with fail
  refine wp_region_seq (by kernel_rfl) (fun w' => Fr No w1 w') (fun i => decide (8 ≤ i)) [(0, 1), (1, 1), (3, 1), (4, 1), (6, 1), (2, 0), (5, 1), (7, 0), (8, 0)] (by kernel_rfl) (Fr.refl No w1).drew ?_
  have hv0 : Fr No w1 w1.drew := (Fr.refl No w1).drew
  refine wpSeq_take (v := ?_) 17 rfl rfl (fun _ _ _ h => h) (Or.inl ⟨rfl, ?_⟩) ?_
  rotate_left 1
  · (intro w9 h9; have q0 := (hA.row.no h9).c0; have q1 := (hA.row.no h9).c1; have q2 := (hA.row.no h9).c2; have q3 := (hA.row.no h9).c3; clear h9; go_simp; try with_reducible rfl)
  simp only [List.setIfInBounds_toArray, List.set_cons_zero, List.set_cons_succ]
  refine wpSeq_take (v := ?_) 18 rfl rfl (fun _ _ _ h => h) (Or.inl ⟨rfl, ?_⟩) ?_
  rotate_left 1
  · (intro w9 h9; go_simp; try with_reducible rfl)
  simp only [List.setIfInBounds_toArray, List.set_cons_zero, List.set_cons_succ]
  refine wpSeq_take (v := ?_) 20 rfl rfl (fun _ _ _ h => h) (Or.inl ⟨rfl, ?_⟩) ?_
  rotate_left 1
  · (intro w9 h9; go_simp; try with_reducible rfl)
  simp only [List.setIfInBounds_toArray, List.set_cons_zero, List.set_cons_succ]
  refine wpSeq_take (v := ?_) 21 rfl rfl (fun _ _ _ h => h) (Or.inl ⟨rfl, ?_⟩) ?_
  rotate_left 1
  · (intro w9 h9; go_simp; try with_reducible rfl)
  simp only [List.setIfInBounds_toArray, List.set_cons_zero, List.set_cons_succ]
  refine wpSeq_take (v := ?_) 23 rfl rfl (fun _ _ _ h => h) (Or.inl ⟨rfl, ?_⟩) ?_
  rotate_left 1
  · (intro w9 h9; go_simp; try with_reducible rfl)
  simp only [List.setIfInBounds_toArray, List.set_cons_zero, List.set_cons_succ]
  refine wpSeq_next rfl rfl (fun K hK => ?_)
  go_wp2_with fail
  refine (Go.Proofs.Ytcbbllfgelnpjaa.Tail_any _ _ _ l _ (hb1.no hv0)).mono ?_
  rintro e w' ⟨rfl, rfl⟩
  refine hK.out _ _ (fun _ => hv0) ?_
  clear hK K
  refine wpSeq_take (v := ?_) 22 rfl rfl (fun _ _ _ h => h) (Or.inl ⟨rfl, ?_⟩) ?_
  rotate_left 1
  · (intro w9 h9; go_simp; try with_reducible rfl)
  simp only [List.setIfInBounds_toArray, List.set_cons_zero, List.set_cons_succ]
  refine wpSeq_next rfl rfl (fun K hK => ?_)
  go_wp2_with fail
  refine (word_any s (le (l.take 8) ||| lo * 72057594037927936#64) (cOf kd) (cOf_le kd) _).mono ?_
  rintro e xhv1 ⟨rfl, hx⟩
  have hv1 := hv0.no hx
  clear hx
  obtain ⟨t, ht⟩ : ∃ z, z = wordF (cOf kd) s (le (l.take 8) ||| lo * 72057594037927936#64) := ⟨_, rfl⟩
  rw [← ht]
  have Ht := Lib.hid ht
  clear ht
  unfold lanesV
  refine hK.out _ _ (fun _ => hv1) ?_
  clear hK K
  have hAx := hA.no hv1
  have q0 := hAx.row.c0
  have q1 := hAx.row.c1
  have q2 := hAx.row.c2
  have q3 := hAx.row.c3
  have z0 := hAx.row.fz 0
  have z1 := hAx.row.fz 1
  have z2 := hAx.row.fz 2
  have z3 := hAx.row.fz 3
  refine wpSeq_next rfl rfl (fun K hK => ?_)
  go_wp2_with fail
  refine hK.out _ _ (fun h => by simp at h) ?_
  clear hK K
  refine wpSeq_done ?_
  have hA2 := hAx.put t
  clear q0 q1 q2 q3 z0 z1 z2 z3 hA hAx hb1 hv0 hv1
  generalize ((((xhv1.setCell ⟨pb, 0, none⟩ (.int .u64 (W64 t.1))).setCell ⟨pb, 1, none⟩ (.int .u64 (W64 t.2.1))).setCell ⟨pb, 2, none⟩ (.int .u64 (W64 t.2.2.1))).setCell ⟨pb, 3, none⟩ (.int .u64 (W64 t.2.2.2))) = w2 at hA2 ⊢
  by_cases h8 : kd = 8
  · subst h8
    have q0 := hA2.row.c0
    have q1 := hA2.row.c1
    have q2 := hA2.row.c2
    have q3 := hA2.row.c3
    have z0 := hA2.row.fz 0
    have z1 := hA2.row.fz 1
    have z2 := hA2.row.fz 2
    have z3 := hA2.row.fz 3
    go_upto_region 7 with fail
    have hA3 := hA2.put2 238#64
    clear q0 q1 q2 q3 z0 z1 z2 z3 hA2
    generalize w2.setCell ⟨pb, 2, none⟩ (.int .u64 (W64 (t.2.2.1 ^^^ 238#64))) = w3 at hA3 ⊢
    obtain ⟨s3, hs3⟩ : ∃ z : ST, z = x2F 238#64 t := ⟨_, rfl⟩
    rw [← hs3] at hA3
    have Hs3 := Lib.hid hs3
    clear hs3
    have q0 := hA3.row.c0
    have q1 := hA3.row.c1
    have q2 := hA3.row.c2
    have q3 := hA3.row.c3
    have z0 := hA3.row.fz 0
    have z1 := hA3.row.fz 1
    have z2 := hA3.row.fz 2
    have z3 := hA3.row.fz 3
    go_wp2_with fail
    refine (turned_any s3 (dOf 8) (dOf_le 8) _).mono ?_
    rintro e w4 ⟨rfl, hx⟩
    have hA4 := hA3.no hx
    clear q0 q1 q2 q3 z0 z1 z2 z3 hA3 hx
    obtain ⟨t4, ht4⟩ : ∃ z, z = roundsF (dOf 8) s3 := ⟨_, rfl⟩
    rw [← ht4]
    have Ht4 := Lib.hid ht4
    clear ht4
    unfold lanesV
    have q0 := hA4.row.c0
    have q1 := hA4.row.c1
    have q2 := hA4.row.c2
    have q3 := hA4.row.c3
    have z0 := hA4.row.fz 0
    have z1 := hA4.row.fz 1
    have z2 := hA4.row.fz 2
    have z3 := hA4.row.fz 3
    go_upto_region 8 with fail
    have hA5 := hA4.put t4
    clear q0 q1 q2 q3 z0 z1 z2 z3 hA4
    generalize ((((w4.setCell ⟨pb, 0, none⟩ (.int .u64 (W64 t4.1))).setCell ⟨pb, 1, none⟩ (.int .u64 (W64 t4.2.1))).setCell ⟨pb, 2, none⟩ (.int .u64 (W64 t4.2.2.1))).setCell ⟨pb, 3, none⟩ (.int .u64 (W64 t4.2.2.2))) = w5 at hA5 ⊢
    have q0 := hA5.row.c0
    have q1 := hA5.row.c1
    have q2 := hA5.row.c2
    have q3 := hA5.row.c3
    have z0 := hA5.row.fz 0
    have z1 := hA5.row.fz 1
    have z2 := hA5.row.fz 2
    have z3 := hA5.row.fz 3
    go_wp2_with fail
    refine (all_any t4 _).mono ?_
    rintro e w6 ⟨rfl, hx⟩
    have hA6 := hA5.no hx
    clear hA5 hx
    obtain ⟨v6, hv6⟩ : ∃ z, z = allF t4 := ⟨_, rfl⟩
    rw [← hv6]
    have Hv6 := Lib.hid hv6
    clear hv6
    clear q0 q1 q2 q3 z0 z1 z2 z3
    have q0 := hA6.row.c0
    have q1 := hA6.row.c1
    have q2 := hA6.row.c2
    have q3 := hA6.row.c3
    have z0 := hA6.row.fz 0
    have z1 := hA6.row.fz 1
    have z2 := hA6.row.fz 2
    have z3 := hA6.row.fz 3
    go_upto_region 10 with fail
    have hA7 := hA6.put1 221#64
    clear q0 q1 q2 q3 z0 z1 z2 z3 hA6
    generalize w6.setCell ⟨pb, 1, none⟩ (.int .u64 (W64 (t4.2.1 ^^^ 221#64))) = w7 at hA7 ⊢
    obtain ⟨s7, hs7⟩ : ∃ z : ST, z = x1F 221#64 t4 := ⟨_, rfl⟩
    rw [← hs7] at hA7
    have Hs7 := Lib.hid hs7
    clear hs7
    have q0 := hA7.row.c0
    have q1 := hA7.row.c1
    have q2 := hA7.row.c2
    have q3 := hA7.row.c3
    have z0 := hA7.row.fz 0
    have z1 := hA7.row.fz 1
    have z2 := hA7.row.fz 2
    have z3 := hA7.row.fz 3
    go_wp2_with fail
    refine (turned_any s7 (dOf 8) (dOf_le 8) _).mono ?_
    rintro e w8 ⟨rfl, hx⟩
    have hA8 := hA7.no hx
    clear q0 q1 q2 q3 z0 z1 z2 z3 hA7 hx
    obtain ⟨t8, ht8⟩ : ∃ z, z = roundsF (dOf 8) s7 := ⟨_, rfl⟩
    rw [← ht8]
    have Ht8 := Lib.hid ht8
    clear ht8
    go_wp2_with fail
    refine (all_any t8 _).mono ?_
    rintro e w10 ⟨rfl, hx⟩
    have hA9 := hA8.no hx
    clear hA8 hx
    obtain ⟨v9, hv9⟩ : ∃ z, z = allF t8 := ⟨_, rfl⟩
    rw [← hv9]
    have Hv9 := Lib.hid hv9
    clear hv9
    have cr0 := hA9.res.c0
    have cr1 := hA9.res.c1
    have fr0 := hA9.res.fz 0
    have fr1 := hA9.res.fz 1
    go_wp2_with fail
    have hF9 := fr_put2 w10 (pb + 1) (.int .u64 (W64 v9)) (.int .u64 (W64 v6))
    have hR9 := row_put2 hA9.res (.int .u64 (W64 v9)) (.int .u64 (W64 v6))
    clear cr0 cr1 fr0 fr1
    generalize (w10.setCell ⟨pb + 1, 0, none⟩ (.int .u64 (W64 v9))).setCell ⟨pb + 1, 1, none⟩ (.int .u64 (W64 v6)) = w9 at hF9 hR9 ⊢
    have cd0 := hR9.c0
    have cd1 := hR9.c1
    refine bodyPost_ret (v := .agg #[.int .u64 (W64 v9), .int .u64 (W64 v6)]) (by simp [results, Try.results28, go_sem, cd0, cd1]) rfl ?_
    exact ⟨by rw [endHi_8, endLo_8, Hv9.out, Ht8.out, Hs7.out, Hv6.out, Ht4.out, Hs3.out, Ht.out]; rfl, hA9.fr.trans hF9 (fun x hx => .inr (by have := hA9.ge; omega))⟩
  · have HK := Lib.hid h8
    have q0 := hA2.row.c0
    have q1 := hA2.row.c1
    have q2 := hA2.row.c2
    have q3 := hA2.row.c3
    have z0 := hA2.row.fz 0
    have z1 := hA2.row.fz 1
    have z2 := hA2.row.fz 2
    have z3 := hA2.row.fz 3
    go_upto_region 5 with fail
    have hA3 := hA2.put2 255#64
    clear q0 q1 q2 q3 z0 z1 z2 z3 hA2
    generalize w2.setCell ⟨pb, 2, none⟩ (.int .u64 (W64 (t.2.2.1 ^^^ 255#64))) = w3 at hA3 ⊢
    obtain ⟨s3, hs3⟩ : ∃ z : ST, z = x2F 255#64 t := ⟨_, rfl⟩
    rw [← hs3] at hA3
    have Hs3 := Lib.hid hs3
    clear hs3
    have q0 := hA3.row.c0
    have q1 := hA3.row.c1
    have q2 := hA3.row.c2
    have q3 := hA3.row.c3
    have z0 := hA3.row.fz 0
    have z1 := hA3.row.fz 1
    have z2 := hA3.row.fz 2
    have z3 := hA3.row.fz 3
    go_wp2_with fail
    refine (turned_any s3 (dOf kd) (dOf_le kd) _).mono ?_
    rintro e w4 ⟨rfl, hx⟩
    have hA4 := hA3.no hx
    clear q0 q1 q2 q3 z0 z1 z2 z3 hA3 hx
    obtain ⟨t4, ht4⟩ : ∃ z, z = roundsF (dOf kd) s3 := ⟨_, rfl⟩
    rw [← ht4]
    have Ht4 := Lib.hid ht4
    clear ht4
    go_wp2_with fail
    refine (all_any t4 _).mono ?_
    rintro e w5 ⟨rfl, hx⟩
    have hA5 := hA4.no hx
    clear hA4 hx
    obtain ⟨v5, hv5⟩ : ∃ z, z = allF t4 := ⟨_, rfl⟩
    rw [← hv5]
    have Hv5 := Lib.hid hv5
    clear hv5
    have cr0 := hA5.res.c0
    have cr1 := hA5.res.c1
    have fr0 := hA5.res.fz 0
    have fr1 := hA5.res.fz 1
    go_wp2_with fail
    have hF9 := fr_put2 w5 (pb + 1) (.int .u64 0) (.int .u64 (W64 v5))
    have hR9 := row_put2 hA5.res (.int .u64 0) (.int .u64 (W64 v5))
    clear cr0 cr1 fr0 fr1
    generalize (w5.setCell ⟨pb + 1, 0, none⟩ (.int .u64 0)).setCell ⟨pb + 1, 1, none⟩ (.int .u64 (W64 v5)) = w9 at hF9 hR9 ⊢
    have cd0 := hR9.c0
    have cd1 := hR9.c1
    refine bodyPost_ret (v := .agg #[.int .u64 0, .int .u64 (W64 v5)]) (by simp [results, Try.results28, go_sem, cd0, cd1]) rfl ?_
    exact ⟨by rw [endHi_n HK.out, endLo_n HK.out, Hv5.out, Ht4.out, Hs3.out, Ht.out]; rfl, hA5.fr.trans hF9 (fun x hx => .inr (by have := hA5.ge; omega))⟩
end Go.Proofs.Ytcbbllfgelnpjaa.StSip
