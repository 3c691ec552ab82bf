/- StepSip EndSip -/
import Derived.Deep.Cut
import Derived.Test.YtidlpihoafnobaaGreatDoorPCodeSip
set_option linter.unusedVariables false
set_option linter.unusedSimpArgs false
namespace Go.Proofs.YtidlpihoafnobaaGreatDoor.StSip
set_option maxRecDepth 100000
open Go.Proofs.YtidlpihoafnobaaGreatDoor.StG64
open Go.RowKit
set_option maxHeartbeats 1000000 in
theorem word_any (s : ST) (m : BitVec 64) (n : Nat) (hn : n ≤ 100) (w : World) : Calls Tryz.prog 242 #[lanesV s, .int .u64 (W64 m), .int .i64 n] w (GivesNew (lanesV (wordF n s m)) w) := by
 unfold lanesV
 have hA := At.new w s
 go_enter Tryz.func242, Tryz.ntmps242
 go_upto_region 1 with fail
 generalize w.heap.size = pb at hA ⊢
 generalize ((w.alloc (.cells #[.int .u64 (W64 s.1), .int .u64 (W64 s.2.1), .int .u64 (W64 s.2.2.1), .int .u64 (W64 s.2.2.2)] 31)).alloc (.cells #[.int .u64 0, .int .u64 0, .int .u64 0, .int .u64 0] 31)) = w1 at hA ⊢
 have q0 := hA.row.c0
 have q1 := hA.row.c1
 have q2 := hA.row.c2
 have q3 := hA.row.c3
 have z0 := hA.row.fz 0
 have z1 := hA.row.fz 1
 have z2 := hA.row.fz 2
 have z3 := hA.row.fz 3
 go_upto_region 2 with fail
 have hA2 := hA.put3 (s.2.2.2 ^^^ m)
 clear q0 q1 q2 q3 z0 z1 z2 z3 hA
 generalize w1.setCell ⟨pb, 3, none⟩ (.int .u64 (W64 (s.2.2.2 ^^^ m))) = w2 at hA2 ⊢
 obtain ⟨s2, hs2⟩ : ∃ z : ST, z = (s.1, s.2.1, s.2.2.1, s.2.2.2 ^^^ m) := ⟨_, rfl⟩
 rw [← hs2] at hA2
 have HS2 := Lib.hid hs2
 clear hs2
 have q0 := hA2.row.c0
 have q1 := hA2.row.c1
 have q2 := hA2.row.c2
 have q3 := hA2.row.c3
 have z0 := hA2.row.fz 0
 have z1 := hA2.row.fz 1
 have z2 := hA2.row.fz 2
 have z3 := hA2.row.fz 3
 go_wp2_with fail
 refine (turned_any s2 n hn _).mono ?_
 rintro e w3 ⟨rfl, hf3⟩
 have hA3 := hA2.no hf3
 clear q0 q1 q2 q3 z0 z1 z2 z3 hA2 hf3
 obtain ⟨t, ht⟩ : ∃ z, z = roundsF n s2 := ⟨_, rfl⟩
 rw [← ht]
 have Ht := Lib.hid ht
 clear ht
 unfold lanesV
 have q0 := hA3.row.c0
 have q1 := hA3.row.c1
 have q2 := hA3.row.c2
 have q3 := hA3.row.c3
 have z0 := hA3.row.fz 0
 have z1 := hA3.row.fz 1
 have z2 := hA3.row.fz 2
 have z3 := hA3.row.fz 3
 go_upto_region 3 with fail
 have hA4 := hA3.put t
 clear q0 q1 q2 q3 z0 z1 z2 z3 hA3
 generalize ((((w3.setCell ⟨pb, 0, none⟩ (.int .u64 (W64 t.1))).setCell ⟨pb, 1, none⟩ (.int .u64 (W64 t.2.1))).setCell ⟨pb, 2, none⟩ (.int .u64 (W64 t.2.2.1))).setCell ⟨pb, 3, none⟩ (.int .u64 (W64 t.2.2.2))) = w4 at hA4 ⊢
 have q0 := hA4.row.c0
 have q1 := hA4.row.c1
 have q2 := hA4.row.c2
 have q3 := hA4.row.c3
 have z0 := hA4.row.fz 0
 have z1 := hA4.row.fz 1
 have z2 := hA4.row.fz 2
 have z3 := hA4.row.fz 3
 go_upto_region 4 with fail
 have hA5 := hA4.put0 (t.1 ^^^ m)
 clear q0 q1 q2 q3 z0 z1 z2 z3 hA4
 generalize w4.setCell ⟨pb, 0, none⟩ (.int .u64 (W64 (t.1 ^^^ m))) = w5 at hA5 ⊢
 obtain ⟨s5, hs5⟩ : ∃ z : ST, z = (t.1 ^^^ m, t.2.1, t.2.2.1, t.2.2.2) := ⟨_, rfl⟩
 rw [← hs5] at hA5
 have HS5 := Lib.hid hs5
 clear hs5
 have cb0 := hA5.row.c0
 have cb1 := hA5.row.c1
 have cb2 := hA5.row.c2
 have cb3 := hA5.row.c3
 have cr0 := hA5.res.c0
 have cr1 := hA5.res.c1
 have cr2 := hA5.res.c2
 have cr3 := hA5.res.c3
 have fr0 := hA5.res.fz 0
 have fr1 := hA5.res.fz 1
 have fr2 := hA5.res.fz 2
 have fr3 := hA5.res.fz 3
 go_wp2_with fail
 have hF3 := fr_put4 w5 (pb + 1) (.int .u64 (W64 s5.1)) (.int .u64 (W64 s5.2.1)) (.int .u64 (W64 s5.2.2.1)) (.int .u64 (W64 s5.2.2.2))
 have hR3 := row_put4 hA5.res (.int .u64 (W64 s5.1)) (.int .u64 (W64 s5.2.1)) (.int .u64 (W64 s5.2.2.1)) (.int .u64 (W64 s5.2.2.2))
 clear cr0 fr0 cr1 fr1 cr2 fr2 cr3 fr3
 generalize (((w5.setCell ⟨pb + 1, 0, none⟩ (.int .u64 (W64 s5.1))).setCell ⟨pb + 1, 1, none⟩ (.int .u64 (W64 s5.2.1))).setCell ⟨pb + 1, 2, none⟩ (.int .u64 (W64 s5.2.2.1))).setCell ⟨pb + 1, 3, none⟩ (.int .u64 (W64 s5.2.2.2)) = w3 at hF3 hR3 ⊢
 have cd0 := hR3.c0
 have cd1 := hR3.c1
 have cd2 := hR3.c2
 have cd3 := hR3.c3
 refine bodyPost_ret (v := lanesV s5) (by simp [results, Tryz.results242, go_sem, cd0, cd1, cd2, cd3, lanesV]) rfl ?_
 exact ⟨by rw [HS5.out, Ht.out, HS2.out]; rfl, hA5.fr.trans hF3 (fun x hx => .inr (by have := hA5.ge; omega))⟩
theorem all_any (s : ST) (w : World) : Calls Tryz.prog 243 #[lanesV s] w (GivesNew (.int .u64 (W64 (allF s))) w) := by
 unfold lanesV
 have hR := row4_new w 31 (.int .u64 (W64 s.1)) (.int .u64 (W64 s.2.1)) (.int .u64 (W64 s.2.2.1)) (.int .u64 (W64 s.2.2.2))
 have hF := (Fr.refl No w).alloc (.cells #[.int .u64 (W64 s.1), .int .u64 (W64 s.2.1), .int .u64 (W64 s.2.2.1), .int .u64 (W64 s.2.2.2)] 31)
 go_enter Tryz.func243, Tryz.ntmps243
 go_upto_region 1 with fail
 generalize w.heap.size = pb at hR ⊢
 generalize w.alloc (.cells #[.int .u64 (W64 s.1), .int .u64 (W64 s.2.1), .int .u64 (W64 s.2.2.1), .int .u64 (W64 s.2.2.2)] 31) = w1 at hR hF ⊢
 have q0 := hR.c0
 have q1 := hR.c1
 have q2 := hR.c2
 have q3 := hR.c3
 go_wp2_with fail
 go_ret
 exact ⟨rfl, hF⟩
set_option maxHeartbeats 1000000 in
theorem first_any (kd : Int) (hi lo : BitVec 64) (w : World) : Calls Tryz.prog 222 #[.int .i64 kd, .agg #[.int .u64 (W64 hi), .int .u64 (W64 lo)]] w (GivesNew (lanesV (firstF kd hi lo)) w) := by
 have hU : Row2 ((w.alloc (.cells #[.int .u64 (W64 hi), .int .u64 (W64 lo)] 30)).alloc (.cells #[.int .u64 0, .int .u64 0, .int .u64 0, .int .u64 0] 31)) w.heap.size 30 (.int .u64 (W64 hi)) (.int .u64 (W64 lo)) := (row2_new w _ _ _).no ((Fr.refl No _).alloc _)
 have hZ : Row4 ((w.alloc (.cells #[.int .u64 (W64 hi), .int .u64 (W64 lo)] 30)).alloc (.cells #[.int .u64 0, .int .u64 0, .int .u64 0, .int .u64 0] 31)) (w.heap.size + 1) 31 (.int .u64 0) (.int .u64 0) (.int .u64 0) (.int .u64 0) := heap_alloc2_new w _ _
 have hF : Fr No w ((w.alloc (.cells #[.int .u64 (W64 hi), .int .u64 (W64 lo)] 30)).alloc (.cells #[.int .u64 0, .int .u64 0, .int .u64 0, .int .u64 0] 31)) := ((Fr.refl No w).alloc _).alloc _
 go_enter Tryz.func222, Tryz.ntmps222
 go_upto_region 1 with fail
 obtain ⟨pb, hpb⟩ : ∃ pb, pb = w.heap.size := ⟨_, rfl⟩
 have hpw : w.heap.size ≤ pb := by omega
 rw [← hpb] at hU hZ ⊢
 clear hpb
 generalize ((w.alloc (.cells #[.int .u64 (W64 hi), .int .u64 (W64 lo)] 30)).alloc (.cells #[.int .u64 0, .int .u64 0, .int .u64 0, .int .u64 0] 31)) = w1 at hU hZ hF ⊢
 have q0 := hU.c0
 have q1 := hU.c1
 go_upto_region 2 with fail
 clear q0 q1 hU
 have hN := row4_new w1 31 (.int .u64 (W64 (lo ^^^ 8317987319222330741#64))) (.int .u64 (W64 (hi ^^^ 7237128888997146477#64))) (.int .u64 (W64 (lo ^^^ 7816392313619706465#64))) (.int .u64 (W64 (hi ^^^ 8387220255154660723#64)))
 have hZ2 := hZ.no ((Fr.refl No w1).alloc (.cells #[.int .u64 (W64 (lo ^^^ 8317987319222330741#64)), .int .u64 (W64 (hi ^^^ 7237128888997146477#64)), .int .u64 (W64 (lo ^^^ 7816392313619706465#64)), .int .u64 (W64 (hi ^^^ 8387220255154660723#64))] 31))
 have hF2 := hF.alloc (.cells #[.int .u64 (W64 (lo ^^^ 8317987319222330741#64)), .int .u64 (W64 (hi ^^^ 7237128888997146477#64)), .int .u64 (W64 (lo ^^^ 7816392313619706465#64)), .int .u64 (W64 (hi ^^^ 8387220255154660723#64))] 31)
 have hlt := hZ.lt
 clear hZ hF
 generalize w1.heap.size = nb at hN hlt ⊢
 generalize w1.alloc (.cells #[.int .u64 (W64 (lo ^^^ 8317987319222330741#64)), .int .u64 (W64 (hi ^^^ 7237128888997146477#64)), .int .u64 (W64 (lo ^^^ 7816392313619706465#64)), .int .u64 (W64 (hi ^^^ 8387220255154660723#64))] 31) = w2 at hN hZ2 hF2 ⊢
 by_cases h8 : kd = 8
 · subst h8
   have q1 := hN.c1
   have z1 := hN.fz 1
   go_upto_region 4 with fail
   have hN3 := hN.put1 (.int .u64 (W64 ((hi ^^^ 7237128888997146477#64) ^^^ 238#64)))
   have hf3 := fr_cell w2 nb 1 (.int .u64 (W64 ((hi ^^^ 7237128888997146477#64) ^^^ 238#64)))
   have hZ3 := hZ2.fr hf3 (by omega)
   have hF3 : Fr No w _ := hF2.trans hf3 (fun x hx => .inr (by omega))
   clear q1 z1 hN hZ2 hF2 hf3
   generalize w2.setCell ⟨nb, 1, none⟩ (.int .u64 (W64 ((hi ^^^ 7237128888997146477#64) ^^^ 238#64))) = w4 at hN3 hZ3 hF3 ⊢
   obtain ⟨s, hs⟩ : ∃ z : ST, z = (lo ^^^ 8317987319222330741#64, (hi ^^^ 7237128888997146477#64) ^^^ 238#64, lo ^^^ 7816392313619706465#64, hi ^^^ 8387220255154660723#64) := ⟨_, rfl⟩
   have hN4 : Row4 w4 nb 31 (.int .u64 (W64 s.1)) (.int .u64 (W64 s.2.1)) (.int .u64 (W64 s.2.2.1)) (.int .u64 (W64 s.2.2.2)) := by rw [hs]; exact hN3
   have HS := Lib.hid hs
   clear hs hN3
   have hFx := hF3
   clear hF3
   have cb0 := hN4.c0
   have cb1 := hN4.c1
   have cb2 := hN4.c2
   have cb3 := hN4.c3
   have cr0 := hZ3.c0
   have cr1 := hZ3.c1
   have cr2 := hZ3.c2
   have cr3 := hZ3.c3
   have fr0 := hZ3.fz 0
   have fr1 := hZ3.fz 1
   have fr2 := hZ3.fz 2
   have fr3 := hZ3.fz 3
   go_wp2_with fail
   have hF3 := fr_put4 w4 (pb + 1) (.int .u64 (W64 s.1)) (.int .u64 (W64 s.2.1)) (.int .u64 (W64 s.2.2.1)) (.int .u64 (W64 s.2.2.2))
   have hR3 := row_put4 hZ3 (.int .u64 (W64 s.1)) (.int .u64 (W64 s.2.1)) (.int .u64 (W64 s.2.2.1)) (.int .u64 (W64 s.2.2.2))
   clear cr0 fr0 cr1 fr1 cr2 fr2 cr3 fr3
   generalize (((w4.setCell ⟨pb + 1, 0, none⟩ (.int .u64 (W64 s.1))).setCell ⟨pb + 1, 1, none⟩ (.int .u64 (W64 s.2.1))).setCell ⟨pb + 1, 2, none⟩ (.int .u64 (W64 s.2.2.1))).setCell ⟨pb + 1, 3, none⟩ (.int .u64 (W64 s.2.2.2)) = w3 at hF3 hR3 ⊢
   have cd0 := hR3.c0
   have cd1 := hR3.c1
   have cd2 := hR3.c2
   have cd3 := hR3.c3
   refine bodyPost_ret (v := lanesV s) (by simp [results, Tryz.results222, go_sem, cd0, cd1, cd2, cd3, lanesV]) rfl ?_
   exact ⟨by rw [HS.out]; rfl, hFx.trans hF3 (fun x hx => .inr (by omega))⟩
 · obtain ⟨s, hs⟩ : ∃ z : ST, z = (lo ^^^ 8317987319222330741#64, hi ^^^ 7237128888997146477#64, lo ^^^ 7816392313619706465#64, hi ^^^ 8387220255154660723#64) := ⟨_, rfl⟩
   have hN4 : Row4 w2 nb 31 (.int .u64 (W64 s.1)) (.int .u64 (W64 s.2.1)) (.int .u64 (W64 s.2.2.1)) (.int .u64 (W64 s.2.2.2)) := by rw [hs]; exact hN
   have HS := Lib.hid hs
   clear hs hN
   have cb0 := hN4.c0
   have cb1 := hN4.c1
   have cb2 := hN4.c2
   have cb3 := hN4.c3
   have cr0 := hZ2.c0
   have cr1 := hZ2.c1
   have cr2 := hZ2.c2
   have cr3 := hZ2.c3
   have fr0 := hZ2.fz 0
   have fr1 := hZ2.fz 1
   have fr2 := hZ2.fz 2
   have fr3 := hZ2.fz 3
   go_wp2_with fail
   have hF3 := fr_put4 w2 (pb + 1) (.int .u64 (W64 s.1)) (.int .u64 (W64 s.2.1)) (.int .u64 (W64 s.2.2.1)) (.int .u64 (W64 s.2.2.2))
   have hR3 := row_put4 hZ2 (.int .u64 (W64 s.1)) (.int .u64 (W64 s.2.1)) (.int .u64 (W64 s.2.2.1)) (.int .u64 (W64 s.2.2.2))
   clear cr0 fr0 cr1 fr1 cr2 fr2 cr3 fr3
   generalize (((w2.setCell ⟨pb + 1, 0, none⟩ (.int .u64 (W64 s.1))).setCell ⟨pb + 1, 1, none⟩ (.int .u64 (W64 s.2.1))).setCell ⟨pb + 1, 2, none⟩ (.int .u64 (W64 s.2.2.1))).setCell ⟨pb + 1, 3, none⟩ (.int .u64 (W64 s.2.2.2)) = w3 at hF3 hR3 ⊢
   have cd0 := hR3.c0
   have cd1 := hR3.c1
   have cd2 := hR3.c2
   have cd3 := hR3.c3
   refine bodyPost_ret (v := lanesV s) (by simp [results, Tryz.results222, go_sem, cd0, cd1, cd2, cd3, lanesV]) rfl ?_
   exact ⟨by rw [HS.out]; unfold firstF; rw [if_neg h8], hF2.trans hF3 (fun x hx => .inr (by omega))⟩
def Cap (w : World) (q n : Nat) : Prop := w.heap[q]? = some (.cells #[.int .i64 n] 3 (0, 0))
theorem Cap.fr {F : Nat → Prop} {w w' : World} {q n : Nat} (h : Cap w q n) (k : Fr F w w') (hF : ¬ F q) : Cap w' q n := k.heap hF h
theorem Cap.no {w w' : World} {q n : Nat} (h : Cap w q n) (k : Fr No w w') : Cap w' q n := k.heap (fun h => h) h
theorem Cap.cell {w : World} {q n : Nat} (h : Cap w q n) : w.cell? ⟨q, 0, none⟩ = some (.int .i64 n) := by rw [cell_of_row w q 0 _ _ _ h]; rfl
theorem Cap.lt {w : World} {q n : Nat} (h : Cap w q n) : q < w.heap.size := (Array.getElem?_eq_some_iff.1 h).1
abbrev qS (q : Nat) : QT := (241, #[.pointer (some ⟨q, 0, none⟩)])
theorem stepper_any (kd : Int) (w : World) : Calls Tryz.prog 223 #[.int .i64 kd] w
 (fun e w' => ∃ q, e = .returned (fvS (qS q)) ∧ w.heap.size ≤ q ∧ Cap w' q (cOf kd) ∧ Fr No w w') := by
 go_enter Tryz.func223, Tryz.ntmps223
 go_wp2_with fail
 refine (rounds_any kd _).mono ?_
 rintro e w' ⟨rfl, rfl⟩
 go_wp2_with fail
 go_ret
 exact ⟨w.heap.size, rfl, Nat.le_refl _, heap_alloc_new w _, (Fr.refl No w).alloc _⟩
set_option maxHeartbeats 1000000 in
theorem closure_any (s : ST) (k : Nat) (hk : k ≤ 100) (q : Nat) (a : Option Addr) (n c : Nat) (l : Bytes) (w : World) (hq : Cap w q k) (hb : IsBytes w a n c l) :
 Calls Tryz.prog 241 #[.agg #[cS s 0, cS s 1, cS s 2, cS s 3], .slice a n c, .pointer (some ⟨q, 0, none⟩)] w (GivesS (stepG k s l) w) := by
 simp only [cS0, cS1, cS2, cS3]
 have hA := At.new w s
 have hq1 := hq.no hA.fr
 have hb1 := hb.no hA.fr
 clear hq hb
 go_enter Tryz.func241, Tryz.ntmps241
 go_upto_region 1 with fail
 generalize w.heap.size = pb at hA ⊢
 generalize ((w.alloc (.cells #[.int .u64 (W64 s.1), .int .u64 (W64 s.2.1), .int .u64 (W64 s.2.2.1), .int .u64 (W64 s.2.2.2)] 31)).alloc (.cells #[.int .u64 0, .int .u64 0, .int .u64 0, .int .u64 0] 31)) = w1 at hA hq1 hb1 ⊢
 refine wp_region_seq (by kernel_rfl) (fun w' => Fr No w1 w') (fun i => decide (5 ≤ i)) [(0, 1), (1, 1), (3, 1), (2, 0), (4, 0), (5, 0)] (by kernel_rfl) (Fr.refl No w1).drew ?_
 have hv0 : Fr No w1 w1.drew := (Fr.refl No w1).drew
 iterate 3 refine tq _ rfl rfl (by intro w9 h9; have q0 := (hA.row.no h9).c0; have q1 := (hA.row.no h9).c1; have q2 := (hA.row.no h9).c2; have q3 := (hA.row.no h9).c3; have qq := (hq1.no h9).cell; clear h9; go_simp; try with_reducible rfl) ?_; simp only [es1, es2, es3]
 refine wpSeq_next rfl rfl (fun K hK => ?_)
 go_wp2_with fail
 refine (Go.Proofs.YtidlpihoafnobaaGreatDoor.Tail_any _ _ _ l _ (hb1.no hv0)).mono ?_
 rintro e w' ⟨rfl, rfl⟩
 refine hK.out _ _ (fun _ => hv0) ?_
 clear hK K
 refine wpSeq_next rfl rfl (fun K hK => ?_)
 go_wp2_with fail
 refine (word_any s (le (l.take 8)) k hk _).mono ?_
 rintro e xhv1 ⟨rfl, hx⟩
 have hv1 := hv0.no hx
 clear hx
 obtain ⟨t, ht⟩ : ∃ z, z = wordF k s (le (l.take 8)) := ⟨_, rfl⟩
 rw [← ht]
 have Ht := Lib.hid ht
 clear ht
 unfold lanesV
 refine hK.out _ _ (fun _ => hv1) ?_
 clear hK K
 have hZ := hA.res.no hv1
 have cr0 := hZ.c0
 have cr1 := hZ.c1
 have cr2 := hZ.c2
 have cr3 := hZ.c3
 have fr0 := hZ.fz 0
 have fr1 := hZ.fz 1
 have fr2 := hZ.fz 2
 have fr3 := hZ.fz 3
 refine wpSeq_next rfl rfl (fun K hK => ?_)
 go_wp2_with fail
 refine hK.out _ _ (fun h => by simp at h) ?_
 clear hK K
 refine wpSeq_done ?_
 have hF3 := fr_put4 xhv1 (pb + 1) (.int .u64 (W64 t.1)) (.int .u64 (W64 t.2.1)) (.int .u64 (W64 t.2.2.1)) (.int .u64 (W64 t.2.2.2))
 have hR3 := row_put4 hZ (.int .u64 (W64 t.1)) (.int .u64 (W64 t.2.1)) (.int .u64 (W64 t.2.2.1)) (.int .u64 (W64 t.2.2.2))
 have hF4 := hA.fr.no hv1
 have hge := hA.ge
 clear cr0 cr1 cr2 cr3 fr0 fr1 fr2 fr3 hZ hA hq1 hb1 hv1 hv0
 generalize ((((xhv1.setCell ⟨pb + 1, 0, none⟩ (.int .u64 (W64 t.1))).setCell ⟨pb + 1, 1, none⟩ (.int .u64 (W64 t.2.1))).setCell ⟨pb + 1, 2, none⟩ (.int .u64 (W64 t.2.2.1))).setCell ⟨pb + 1, 3, none⟩ (.int .u64 (W64 t.2.2.2))) = w4 at hF3 hR3 ⊢
 have cd0 := hR3.c0
 have cd1 := hR3.c1
 have cd2 := hR3.c2
 have cd3 := hR3.c3
 go_wp2_with fail
 refine bodyPost_ret (v := lanesV t) (by simp [results, Tryz.results241, go_sem, cd0, cd1, cd2, cd3, lanesV]) rfl ?_
 exact ⟨by rw [Ht.out]; rfl, hF4.trans hF3 (fun x hx => .inr (by omega))⟩
theorem cOf_le (kd : Int) : cOf kd ≤ 100 := by unfold cOf; (repeat' split) <;> omega
theorem dOf_le (kd : Int) : dOf kd ≤ 100 := by unfold dOf; (repeat' split) <;> omega
theorem run_callFunc_enter {P : Program} {f : FuncId} {fn : Func} (hf : P.funcs[f]? = some fn) (hname : (fn.name == "runtime.NumGoroutine") = false) (hb : fn.body.isSome = true) (args : Array Value) (w : World) : Sem.run P (callFunc f args) w = .ok (.enter f args) w := by
 obtain ⟨c, hc⟩ := Option.isSome_iff_exists.1 hb
 have h1 : fn.name ≠ "runtime.NumGoroutine" := by simpa using hname
 simp [callFunc, hf, h1, hc, mark]
theorem steps_any (kd : Int) (q : Nat) : Hid (StG64.Steps (fun w => Cap w q (cOf kd)) (stepG (cOf kd)) 8 (qS q)) := Lib.hid ⟨fun args w => run_callFunc_enter Tryz.func241 (by kernel_rfl) (by kernel_rfl) args w, fun w s a n c l hE hb hl => closure_any s (cOf kd) (cOf_le kd) q a n c l w hE hb⟩
end Go.Proofs.YtidlpihoafnobaaGreatDoor.StSip
namespace Go.Proofs.YtidlpihoafnobaaGreatDoor.StSip
set_option maxRecDepth 100000
open Go.Proofs.YtidlpihoafnobaaGreatDoor.StG64
open Go.RowKit
structure AtU (w0 w : World) (b : Nat) (s : ST) : Prop where
 row : Row4 w b 31 (.int .u64 (W64 s.1)) (.int .u64 (W64 s.2.1)) (.int .u64 (W64 s.2.2.1)) (.int .u64 (W64 s.2.2.2))
 res : Row2 w (b + 1) 30 (.int .u64 0) (.int .u64 0)
 fr : Fr No w0 w
 ge : w0.heap.size ≤ b
theorem AtU.no {w0 w w' : World} {b : Nat} {s : ST} (h : AtU w0 w b s) (k : Fr No w w') : AtU w0 w' b s := ⟨h.row.no k, h.res.no k, h.fr.no k, h.ge⟩
theorem AtU.of {w0 w w' : World} {b : Nat} {s s' : ST} (h : AtU w0 w b s) (k : Fr (fun x => x = b) w w') (hr : Row4 w' b 31 (.int .u64 (W64 s'.1)) (.int .u64 (W64 s'.2.1)) (.int .u64 (W64 s'.2.2.1)) (.int .u64 (W64 s'.2.2.2))) : AtU w0 w' b s' :=
 ⟨hr, h.res.fr k (by omega), h.fr.trans k (fun x hx => .inr (by have := h.ge; omega)), h.ge⟩
theorem AtU.new (w : World) (s : ST) : AtU w ((w.alloc (.cells #[.int .u64 (W64 s.1), .int .u64 (W64 s.2.1), .int .u64 (W64 s.2.2.1), .int .u64 (W64 s.2.2.2)] 31)).alloc (.cells #[.int .u64 0, .int .u64 0] 30)) w.heap.size s :=
 ⟨(row4_new w 31 (.int .u64 (W64 s.1)) (.int .u64 (W64 s.2.1)) (.int .u64 (W64 s.2.2.1)) (.int .u64 (W64 s.2.2.2))).no ((Fr.refl No _).alloc _), heap_alloc2_new w _ _, ((Fr.refl No w).alloc _).alloc _, Nat.le_refl _⟩
theorem AtU.put1 {w0 w : World} {b : Nat} {s : ST} (h : AtU w0 w b s) (c : BitVec 64) : AtU w0 (w.setCell ⟨b, 1, none⟩ (.int .u64 (W64 (s.2.1 ^^^ c)))) b (x1F c s) := h.of (fr_cell w b 1 _) (h.row.put1 _)
theorem AtU.put2 {w0 w : World} {b : Nat} {s : ST} (h : AtU w0 w b s) (c : BitVec 64) : AtU w0 (w.setCell ⟨b, 2, none⟩ (.int .u64 (W64 (s.2.2.1 ^^^ c)))) b (x2F c s) := h.of (fr_cell w b 2 _) (h.row.put2 _)
theorem AtU.put {w0 w : World} {b : Nat} {s : ST} (h : AtU w0 w b s) (t : ST) : AtU w0 ((((w.setCell ⟨b, 0, none⟩ (.int .u64 (W64 t.1))).setCell ⟨b, 1, none⟩ (.int .u64 (W64 t.2.1))).setCell ⟨b, 2, none⟩ (.int .u64 (W64 t.2.2.1))).setCell ⟨b, 3, none⟩ (.int .u64 (W64 t.2.2.2))) b t := h.of (fr_put4 w b (.int .u64 (W64 t.1)) (.int .u64 (W64 t.2.1)) (.int .u64 (W64 t.2.2.1)) (.int .u64 (W64 t.2.2.2))) (row_put4 h.row (.int .u64 (W64 t.1)) (.int .u64 (W64 t.2.1)) (.int .u64 (W64 t.2.2.1)) (.int .u64 (W64 t.2.2.2)))
set_option maxHeartbeats 2000000 in
theorem end_any (kd : Int) (s : ST) (a : Option Addr) (n c : Nat) (l : Bytes) (lo : BitVec 64) (w : World) (hb : IsBytes w a n c l) :
 Calls Tryz.prog 224 #[.int .i64 kd, .agg #[cS s 0, cS s 1, cS s 2, cS s 3], .slice a n c, .int .u64 (W64 lo)] w (GivesNew (.agg #[.int .u64 (W64 (endHi kd s l lo)), .int .u64 (W64 (endLo kd s l lo))]) w) := by
 simp only [cS0, cS1, cS2, cS3]
 have hA := AtU.new w s
 have hb1 := hb.no hA.fr
 clear hb
 go_enter Tryz.func224, Tryz.ntmps224
 go_wp2_with fail
 generalize w.heap.size = pb at hA ⊢
 generalize ((w.alloc (.cells #[.int .u64 (W64 s.1), .int .u64 (W64 s.2.1), .int .u64 (W64 s.2.2.1), .int .u64 (W64 s.2.2.2)] 31)).alloc (.cells #[.int .u64 0, .int .u64 0] 30)) = w1 at hA hb1 ⊢
 refine (rounds_any kd _).mono ?_
 rintro e w' ⟨rfl, rfl⟩
 go_upto_region 2 with fail
 refine wp_region_seq (by kernel_rfl) (fun w' => Fr No w1 w') (fun i => decide (8 ≤ i)) [(0, 1), (1, 1), (3, 1), (4, 1), (6, 1), (2, 0), (5, 1), (7, 0), (8, 0)] (by kernel_rfl) (Fr.refl No w1).drew ?_
 have hv0 : Fr No w1 w1.drew := (Fr.refl No w1).drew
 iterate 5 refine tq _ rfl rfl (by intro w9 h9; have q0 := (hA.row.no h9).c0; have q1 := (hA.row.no h9).c1; have q2 := (hA.row.no h9).c2; have q3 := (hA.row.no h9).c3; clear h9; go_simp; try with_reducible rfl) ?_; simp only [es1, es2, es3]
 refine wpSeq_next rfl rfl (fun K hK => ?_)
 go_wp2_with fail
 refine (Go.Proofs.YtidlpihoafnobaaGreatDoor.Tail_any _ _ _ l _ (hb1.no hv0)).mono ?_
 rintro e w' ⟨rfl, rfl⟩
 refine hK.out _ _ (fun _ => hv0) ?_
 clear hK K
 refine tp _ rfl rfl ?_; simp only [es1, es2, es3]
 refine wpSeq_next rfl rfl (fun K hK => ?_)
 go_wp2_with fail
 refine (word_any s (le (l.take 8) ||| lo * 72057594037927936#64) (cOf kd) (cOf_le kd) _).mono ?_
 rintro e xhv1 ⟨rfl, hx⟩
 have hv1 := hv0.no hx
 clear hx
 obtain ⟨t, ht⟩ : ∃ z, z = wordF (cOf kd) s (le (l.take 8) ||| lo * 72057594037927936#64) := ⟨_, rfl⟩
 rw [← ht]
 have Ht := Lib.hid ht
 clear ht
 unfold lanesV
 refine hK.out _ _ (fun _ => hv1) ?_
 clear hK K
 have hAx := hA.no hv1
 have q0 := hAx.row.c0
 have q1 := hAx.row.c1
 have q2 := hAx.row.c2
 have q3 := hAx.row.c3
 have z0 := hAx.row.fz 0
 have z1 := hAx.row.fz 1
 have z2 := hAx.row.fz 2
 have z3 := hAx.row.fz 3
 refine wpSeq_next rfl rfl (fun K hK => ?_)
 go_wp2_with fail
 refine hK.out _ _ (fun h => by simp at h) ?_
 clear hK K
 refine wpSeq_done ?_
 have hA2 := hAx.put t
 clear q0 q1 q2 q3 z0 z1 z2 z3 hA hAx hb1 hv0 hv1
 generalize ((((xhv1.setCell ⟨pb, 0, none⟩ (.int .u64 (W64 t.1))).setCell ⟨pb, 1, none⟩ (.int .u64 (W64 t.2.1))).setCell ⟨pb, 2, none⟩ (.int .u64 (W64 t.2.2.1))).setCell ⟨pb, 3, none⟩ (.int .u64 (W64 t.2.2.2))) = w2 at hA2 ⊢
 by_cases h8 : kd = 8
 · subst h8
   have q0 := hA2.row.c0
   have q1 := hA2.row.c1
   have q2 := hA2.row.c2
   have q3 := hA2.row.c3
   have z0 := hA2.row.fz 0
   have z1 := hA2.row.fz 1
   have z2 := hA2.row.fz 2
   have z3 := hA2.row.fz 3
   go_upto_region 7 with fail
   have hA3 := hA2.put2 238#64
   clear q0 q1 q2 q3 z0 z1 z2 z3 hA2
   generalize w2.setCell ⟨pb, 2, none⟩ (.int .u64 (W64 (t.2.2.1 ^^^ 238#64))) = w3 at hA3 ⊢
   obtain ⟨s3, hs3⟩ : ∃ z : ST, z = x2F 238#64 t := ⟨_, rfl⟩
   rw [← hs3] at hA3
   have Hs3 := Lib.hid hs3
   clear hs3
   have q0 := hA3.row.c0
   have q1 := hA3.row.c1
   have q2 := hA3.row.c2
   have q3 := hA3.row.c3
   have z0 := hA3.row.fz 0
   have z1 := hA3.row.fz 1
   have z2 := hA3.row.fz 2
   have z3 := hA3.row.fz 3
   go_wp2_with fail
   refine (turned_any s3 (dOf 8) (dOf_le 8) _).mono ?_
   rintro e w4 ⟨rfl, hx⟩
   have hA4 := hA3.no hx
   clear q0 q1 q2 q3 z0 z1 z2 z3 hA3 hx
   obtain ⟨t4, ht4⟩ : ∃ z, z = roundsF (dOf 8) s3 := ⟨_, rfl⟩
   rw [← ht4]
   have Ht4 := Lib.hid ht4
   clear ht4
   unfold lanesV
   have q0 := hA4.row.c0
   have q1 := hA4.row.c1
   have q2 := hA4.row.c2
   have q3 := hA4.row.c3
   have z0 := hA4.row.fz 0
   have z1 := hA4.row.fz 1
   have z2 := hA4.row.fz 2
   have z3 := hA4.row.fz 3
   go_upto_region 8 with fail
   have hA5 := hA4.put t4
   clear q0 q1 q2 q3 z0 z1 z2 z3 hA4
   generalize ((((w4.setCell ⟨pb, 0, none⟩ (.int .u64 (W64 t4.1))).setCell ⟨pb, 1, none⟩ (.int .u64 (W64 t4.2.1))).setCell ⟨pb, 2, none⟩ (.int .u64 (W64 t4.2.2.1))).setCell ⟨pb, 3, none⟩ (.int .u64 (W64 t4.2.2.2))) = w5 at hA5 ⊢
   have q0 := hA5.row.c0
   have q1 := hA5.row.c1
   have q2 := hA5.row.c2
   have q3 := hA5.row.c3
   have z0 := hA5.row.fz 0
   have z1 := hA5.row.fz 1
   have z2 := hA5.row.fz 2
   have z3 := hA5.row.fz 3
   go_wp2_with fail
   refine (all_any t4 _).mono ?_
   rintro e w6 ⟨rfl, hx⟩
   have hA6 := hA5.no hx
   clear hA5 hx
   obtain ⟨v6, hv6⟩ : ∃ z, z = allF t4 := ⟨_, rfl⟩
   rw [← hv6]
   have Hv6 := Lib.hid hv6
   clear hv6
   clear q0 q1 q2 q3 z0 z1 z2 z3
   have q0 := hA6.row.c0
   have q1 := hA6.row.c1
   have q2 := hA6.row.c2
   have q3 := hA6.row.c3
   have z0 := hA6.row.fz 0
   have z1 := hA6.row.fz 1
   have z2 := hA6.row.fz 2
   have z3 := hA6.row.fz 3
   go_upto_region 10 with fail
   have hA7 := hA6.put1 221#64
   clear q0 q1 q2 q3 z0 z1 z2 z3 hA6
   generalize w6.setCell ⟨pb, 1, none⟩ (.int .u64 (W64 (t4.2.1 ^^^ 221#64))) = w7 at hA7 ⊢
   obtain ⟨s7, hs7⟩ : ∃ z : ST, z = x1F 221#64 t4 := ⟨_, rfl⟩
   rw [← hs7] at hA7
   have Hs7 := Lib.hid hs7
   clear hs7
   have q0 := hA7.row.c0
   have q1 := hA7.row.c1
   have q2 := hA7.row.c2
   have q3 := hA7.row.c3
   have z0 := hA7.row.fz 0
   have z1 := hA7.row.fz 1
   have z2 := hA7.row.fz 2
   have z3 := hA7.row.fz 3
   go_wp2_with fail
   refine (turned_any s7 (dOf 8) (dOf_le 8) _).mono ?_
   rintro e w8 ⟨rfl, hx⟩
   have hA8 := hA7.no hx
   clear q0 q1 q2 q3 z0 z1 z2 z3 hA7 hx
   obtain ⟨t8, ht8⟩ : ∃ z, z = roundsF (dOf 8) s7 := ⟨_, rfl⟩
   rw [← ht8]
   have Ht8 := Lib.hid ht8
   clear ht8
   go_wp2_with fail
   refine (all_any t8 _).mono ?_
   rintro e w10 ⟨rfl, hx⟩
   have hA9 := hA8.no hx
   clear hA8 hx
   obtain ⟨v9, hv9⟩ : ∃ z, z = allF t8 := ⟨_, rfl⟩
   rw [← hv9]
   have Hv9 := Lib.hid hv9
   clear hv9
   have cr0 := hA9.res.c0
   have cr1 := hA9.res.c1
   have fr0 := hA9.res.fz 0
   have fr1 := hA9.res.fz 1
   go_wp2_with fail
   have hF9 := fr_put2 w10 (pb + 1) (.int .u64 (W64 v9)) (.int .u64 (W64 v6))
   have hR9 := row_put2 hA9.res (.int .u64 (W64 v9)) (.int .u64 (W64 v6))
   clear cr0 cr1 fr0 fr1
   generalize (w10.setCell ⟨pb + 1, 0, none⟩ (.int .u64 (W64 v9))).setCell ⟨pb + 1, 1, none⟩ (.int .u64 (W64 v6)) = w9 at hF9 hR9 ⊢
   have cd0 := hR9.c0
   have cd1 := hR9.c1
   refine bodyPost_ret (v := .agg #[.int .u64 (W64 v9), .int .u64 (W64 v6)]) (by simp [results, Tryz.results224, go_sem, cd0, cd1]) rfl ?_
   exact ⟨by rw [endHi_8, endLo_8, Hv9.out, Ht8.out, Hs7.out, Hv6.out, Ht4.out, Hs3.out, Ht.out]; rfl, hA9.fr.trans hF9 (fun x hx => .inr (by have := hA9.ge; omega))⟩
 · have HK := Lib.hid h8
   have q0 := hA2.row.c0
   have q1 := hA2.row.c1
   have q2 := hA2.row.c2
   have q3 := hA2.row.c3
   have z0 := hA2.row.fz 0
   have z1 := hA2.row.fz 1
   have z2 := hA2.row.fz 2
   have z3 := hA2.row.fz 3
   go_upto_region 5 with fail
   have hA3 := hA2.put2 255#64
   clear q0 q1 q2 q3 z0 z1 z2 z3 hA2
   generalize w2.setCell ⟨pb, 2, none⟩ (.int .u64 (W64 (t.2.2.1 ^^^ 255#64))) = w3 at hA3 ⊢
   obtain ⟨s3, hs3⟩ : ∃ z : ST, z = x2F 255#64 t := ⟨_, rfl⟩
   rw [← hs3] at hA3
   have Hs3 := Lib.hid hs3
   clear hs3
   have q0 := hA3.row.c0
   have q1 := hA3.row.c1
   have q2 := hA3.row.c2
   have q3 := hA3.row.c3
   have z0 := hA3.row.fz 0
   have z1 := hA3.row.fz 1
   have z2 := hA3.row.fz 2
   have z3 := hA3.row.fz 3
   go_wp2_with fail
   refine (turned_any s3 (dOf kd) (dOf_le kd) _).mono ?_
   rintro e w4 ⟨rfl, hx⟩
   have hA4 := hA3.no hx
   clear q0 q1 q2 q3 z0 z1 z2 z3 hA3 hx
   obtain ⟨t4, ht4⟩ : ∃ z, z = roundsF (dOf kd) s3 := ⟨_, rfl⟩
   rw [← ht4]
   have Ht4 := Lib.hid ht4
   clear ht4
   go_wp2_with fail
   refine (all_any t4 _).mono ?_
   rintro e w5 ⟨rfl, hx⟩
   have hA5 := hA4.no hx
   clear hA4 hx
   obtain ⟨v5, hv5⟩ : ∃ z, z = allF t4 := ⟨_, rfl⟩
   rw [← hv5]
   have Hv5 := Lib.hid hv5
   clear hv5
   have cr0 := hA5.res.c0
   have cr1 := hA5.res.c1
   have fr0 := hA5.res.fz 0
   have fr1 := hA5.res.fz 1
   go_wp2_with fail
   have hF9 := fr_put2 w5 (pb + 1) (.int .u64 0) (.int .u64 (W64 v5))
   have hR9 := row_put2 hA5.res (.int .u64 0) (.int .u64 (W64 v5))
   clear cr0 cr1 fr0 fr1
   generalize (w5.setCell ⟨pb + 1, 0, none⟩ (.int .u64 0)).setCell ⟨pb + 1, 1, none⟩ (.int .u64 (W64 v5)) = w9 at hF9 hR9 ⊢
   have cd0 := hR9.c0
   have cd1 := hR9.c1
   refine bodyPost_ret (v := .agg #[.int .u64 0, .int .u64 (W64 v5)]) (by simp [results, Tryz.results224, go_sem, cd0, cd1]) rfl ?_
   exact ⟨by rw [endHi_n HK.out, endLo_n HK.out, Hv5.out, Ht4.out, Hs3.out, Ht.out]; rfl, hA5.fr.trans hF9 (fun x hx => .inr (by have := hA5.ge; omega))⟩
end Go.Proofs.YtidlpihoafnobaaGreatDoor.StSip
