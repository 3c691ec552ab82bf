/- StrRef StrNew LOneStr -/
import Derived.Test.YtidlpihoafnobaaGreatPStrRef
import Derived.Test.YtidlpihoafnobaaGreatPLOneStr
set_option linter.unusedVariables false
set_option linter.unusedSimpArgs false
namespace Go.Proofs.YtidlpihoafnobaaGreat
set_option maxRecDepth 100000
open Go.RowKit
theorem refName_any (k : Int) (w : World) : Calls Tryz.prog 17 #[.int .i64 k] w (GivesNew (.string (nameN k)) w) := by
 by_cases hk : KindOk k
 · rcases hk with rfl | rfl | rfl | rfl | rfl | rfl | rfl | rfl
   · have hv : nameN 1 = ⟨#[109, 117, 114, 109, 117, 114, 51, 50]⟩ := rfl
     rw [hv]
     clear hv
     go_enter Tryz.func17, Tryz.ntmps17
     go_wp2_with fail
     go_ret
     exact ⟨rfl, (Fr.refl No w).alloc _⟩
   · have hv : nameN 2 = ⟨#[109, 117, 114, 109, 117, 114, 56, 54]⟩ := rfl
     rw [hv]
     clear hv
     go_enter Tryz.func17, Tryz.ntmps17
     go_wp2_with fail
     go_ret
     exact ⟨rfl, (Fr.refl No w).alloc _⟩
   · have hv : nameN 3 = ⟨#[109, 117, 114, 109, 117, 114, 54, 52]⟩ := rfl
     rw [hv]
     clear hv
     go_enter Tryz.func17, Tryz.ntmps17
     go_wp2_with fail
     go_ret
     exact ⟨rfl, (Fr.refl No w).alloc _⟩
   · have hv : nameN 4 = ⟨#[120, 120, 51, 50]⟩ := rfl
     rw [hv]
     clear hv
     go_enter Tryz.func17, Tryz.ntmps17
     go_wp2_with fail
     go_ret
     exact ⟨rfl, (Fr.refl No w).alloc _⟩
   · have hv : nameN 5 = ⟨#[120, 120, 54, 52]⟩ := rfl
     rw [hv]
     clear hv
     go_enter Tryz.func17, Tryz.ntmps17
     go_wp2_with fail
     go_ret
     exact ⟨rfl, (Fr.refl No w).alloc _⟩
   · have hv : nameN 6 = ⟨#[115, 105, 112, 50, 52]⟩ := rfl
     rw [hv]
     clear hv
     go_enter Tryz.func17, Tryz.ntmps17
     go_wp2_with fail
     go_ret
     exact ⟨rfl, (Fr.refl No w).alloc _⟩
   · have hv : nameN 7 = ⟨#[115, 105, 112, 49, 51]⟩ := rfl
     rw [hv]
     clear hv
     go_enter Tryz.func17, Tryz.ntmps17
     go_wp2_with fail
     go_ret
     exact ⟨rfl, (Fr.refl No w).alloc _⟩
   · have hv : nameN 8 = ⟨#[115, 105, 112, 49, 50, 56]⟩ := rfl
     rw [hv]
     clear hv
     go_enter Tryz.func17, Tryz.ntmps17
     go_wp2_with fail
     go_ret
     exact ⟨rfl, (Fr.refl No w).alloc _⟩
 · have hv : nameN k = ⟨#[]⟩ := by
    unfold nameN
    have h := kindOk_of k hk
    rw [if_neg (by omega)]; rw [if_neg (by omega)]; rw [if_neg (by omega)]; rw [if_neg (by omega)]; rw [if_neg (by omega)]; rw [if_neg (by omega)]; rw [if_neg (by omega)]; rw [if_neg (by omega)]; try rfl
   rw [hv]
   clear hv
   rcases kindOk_of k hk with i1 | i1
   · clear hk
     go_enter Tryz.func17, Tryz.ntmps17
     go_wp2_with fail
     go_ret
     exact ⟨rfl, Fr.refl No w⟩
   · have i2 : ¬ k < 1 := by omega
     clear hk
     go_enter Tryz.func17, Tryz.ntmps17
     go_wp2_with fail
     go_ret
     exact ⟨rfl, Fr.refl No w⟩
end Go.Proofs.YtidlpihoafnobaaGreat
namespace Go.Proofs.YtidlpihoafnobaaGreat
set_option maxRecDepth 100000
open Go.RowKit
theorem Size_any (k : Int) (w : World) : Calls Tryz.prog 12 #[.int .i64 k] w (GivesNew (.int .i64 (sizeN k)) w) := by
 by_cases hk : KindOk k
 · have hO := of_yes hk
   generalize nameN k = x0 at hO ⊢
   generalize sizeN k = x1 at hO ⊢
   generalize blockN k = x2 at hO ⊢
   generalize bitsN k = x3 at hO ⊢
   clear hk
   go_enter Tryz.func12, Tryz.ntmps12
   go_wp2_with fail
   refine (hO _).mono ?_
   rintro e w1 ⟨f1, c1, f2, c2, rfl, hI, hf⟩
   have hZ := row6_new w1 65 (.string x0) (.int .i64 x1) (.int .i64 x2) (.int .i64 x3) (.func (.func f1) #[] c1) (.func (.func f2) #[] c2)
   have hF := (Fr.refl No w1).alloc (.cells #[.string x0, .int .i64 x1, .int .i64 x2, .int .i64 x3, .func (.func f1) #[] c1, .func (.func f2) #[] c2] 65)
   have z0 := hZ.c0
   have z1 := hZ.c1
   have z2 := hZ.c2
   have z3 := hZ.c3
   have z4 := hZ.c4
   have z5 := hZ.c5
   go_wp2_with fail
   go_ret
   exact ⟨rfl, hf.no hF⟩
 · have hO := of_no hk
   have hv : sizeN k = 0 := by
    unfold sizeN
    have h := kindOk_of k hk
    iterate 8 rw [if_neg (by omega)]
   rw [hv]
   clear hv hk
   go_enter Tryz.func12, Tryz.ntmps12
   go_wp2_with fail
   refine (hO _).mono ?_
   rintro e w1 ⟨rfl, hf⟩
   have hZ := row6_new w1 65 (.string ⟨#[]⟩) (.int .i64 0) (.int .i64 0) (.int .i64 0) .nilFunc .nilFunc
   have hF := (Fr.refl No w1).alloc (.cells #[.string ⟨#[]⟩, .int .i64 0, .int .i64 0, .int .i64 0, .nilFunc, .nilFunc] 65)
   have z0 := hZ.c0
   have z1 := hZ.c1
   have z2 := hZ.c2
   have z3 := hZ.c3
   have z4 := hZ.c4
   have z5 := hZ.c5
   go_wp2_with fail
   go_ret
   exact ⟨rfl, hf.no hF⟩
theorem Block_any (k : Int) (w : World) : Calls Tryz.prog 14 #[.int .i64 k] w (GivesNew (.int .i64 (blockN k)) w) := by
 by_cases hk : KindOk k
 · have hO := of_yes hk
   generalize nameN k = x0 at hO ⊢
   generalize sizeN k = x1 at hO ⊢
   generalize blockN k = x2 at hO ⊢
   generalize bitsN k = x3 at hO ⊢
   clear hk
   go_enter Tryz.func14, Tryz.ntmps14
   go_wp2_with fail
   refine (hO _).mono ?_
   rintro e w1 ⟨f1, c1, f2, c2, rfl, hI, hf⟩
   have hZ := row6_new w1 65 (.string x0) (.int .i64 x1) (.int .i64 x2) (.int .i64 x3) (.func (.func f1) #[] c1) (.func (.func f2) #[] c2)
   have hF := (Fr.refl No w1).alloc (.cells #[.string x0, .int .i64 x1, .int .i64 x2, .int .i64 x3, .func (.func f1) #[] c1, .func (.func f2) #[] c2] 65)
   have z0 := hZ.c0
   have z1 := hZ.c1
   have z2 := hZ.c2
   have z3 := hZ.c3
   have z4 := hZ.c4
   have z5 := hZ.c5
   go_wp2_with fail
   go_ret
   exact ⟨rfl, hf.no hF⟩
 · have hO := of_no hk
   have hv : blockN k = 0 := by
    unfold blockN
    have h := kindOk_of k hk
    iterate 8 rw [if_neg (by omega)]
   rw [hv]
   clear hv hk
   go_enter Tryz.func14, Tryz.ntmps14
   go_wp2_with fail
   refine (hO _).mono ?_
   rintro e w1 ⟨rfl, hf⟩
   have hZ := row6_new w1 65 (.string ⟨#[]⟩) (.int .i64 0) (.int .i64 0) (.int .i64 0) .nilFunc .nilFunc
   have hF := (Fr.refl No w1).alloc (.cells #[.string ⟨#[]⟩, .int .i64 0, .int .i64 0, .int .i64 0, .nilFunc, .nilFunc] 65)
   have z0 := hZ.c0
   have z1 := hZ.c1
   have z2 := hZ.c2
   have z3 := hZ.c3
   have z4 := hZ.c4
   have z5 := hZ.c5
   go_wp2_with fail
   go_ret
   exact ⟨rfl, hf.no hF⟩
theorem Name_any (k : Int) (w : World) : Calls Tryz.prog 16 #[.int .i64 k] w (GivesNew (.string (nameN k)) w) := by
 by_cases hk : KindOk k
 · have hO := of_yes hk
   generalize nameN k = x0 at hO ⊢
   generalize sizeN k = x1 at hO ⊢
   generalize blockN k = x2 at hO ⊢
   generalize bitsN k = x3 at hO ⊢
   clear hk
   go_enter Tryz.func16, Tryz.ntmps16
   go_wp2_with fail
   refine (hO _).mono ?_
   rintro e w1 ⟨f1, c1, f2, c2, rfl, hI, hf⟩
   have hZ := row6_new w1 65 (.string x0) (.int .i64 x1) (.int .i64 x2) (.int .i64 x3) (.func (.func f1) #[] c1) (.func (.func f2) #[] c2)
   have hF := (Fr.refl No w1).alloc (.cells #[.string x0, .int .i64 x1, .int .i64 x2, .int .i64 x3, .func (.func f1) #[] c1, .func (.func f2) #[] c2] 65)
   have z0 := hZ.c0
   have z1 := hZ.c1
   have z2 := hZ.c2
   have z3 := hZ.c3
   have z4 := hZ.c4
   have z5 := hZ.c5
   go_wp2_with fail
   go_ret
   exact ⟨rfl, hf.no hF⟩
 · have hO := of_no hk
   have hv : nameN k = ⟨#[]⟩ := by
    unfold nameN
    have h := kindOk_of k hk
    iterate 8 rw [if_neg (by omega)]
   rw [hv]
   clear hv hk
   go_enter Tryz.func16, Tryz.ntmps16
   go_wp2_with fail
   refine (hO _).mono ?_
   rintro e w1 ⟨rfl, hf⟩
   have hZ := row6_new w1 65 (.string ⟨#[]⟩) (.int .i64 0) (.int .i64 0) (.int .i64 0) .nilFunc .nilFunc
   have hF := (Fr.refl No w1).alloc (.cells #[.string ⟨#[]⟩, .int .i64 0, .int .i64 0, .int .i64 0, .nilFunc, .nilFunc] 65)
   have z0 := hZ.c0
   have z1 := hZ.c1
   have z2 := hZ.c2
   have z3 := hZ.c3
   have z4 := hZ.c4
   have z5 := hZ.c5
   go_wp2_with fail
   go_ret
   exact ⟨rfl, hf.no hF⟩
theorem New_no {k : Int} {kh kl : BitVec 64} (hc : ¬ checkN k kh kl = 0) (w : World) : Calls Tryz.prog 18 #[.int .i64 k, .agg #[.int .u64 (W64 kh), .int .u64 (W64 kl)]] w (GivesNew (.tuple #[.pointer none, .int .i64 (checkN k kh kl)]) w) := by
 have hC := Check_any k kh kl
 generalize checkN k kh kl = z at hC hc ⊢
 have hU := row2_new w 24 (.int .u64 (W64 kh)) (.int .u64 (W64 kl))
 have hF := (Fr.refl No w).alloc (.cells #[.int .u64 (W64 kh), .int .u64 (W64 kl)] 24)
 have u0 := hU.c0
 have u1 := hU.c1
 go_enter Tryz.func18, Tryz.ntmps18
 go_wp2_with fail
 refine (hC _).mono ?_
 rintro e w1 ⟨rfl, hf⟩
 go_wp2_with fail
 go_ret2
 exact ⟨rfl, hF.no hf⟩
end Go.Proofs.YtidlpihoafnobaaGreat
namespace Go.Proofs.YtidlpihoafnobaaGreat
set_option maxRecDepth 100000
open Go.RowKit
set_option maxHeartbeats 2000000 in
theorem StreamOne_yes (k : Int) (kh kl : BitVec 64) (a1 : Option Addr) (n1 c1 : Nat) (l1 : Bytes) (w : World) (hb1 : IsBytes w a1 n1 c1 l1) :
 Calls Tryz.prog 3 #[.int .i64 k, .agg #[.int .u64 (W64 kh), .int .u64 (W64 kl)], .slice a1 n1 c1] w (Yes w) := by
 by_cases hbig : 1000 < n1
 · have i1 : (1000 : Int) < (n1 : Int) := by omega
   clear hbig hb1
   have hU := row2_new w 24 (.int .u64 (W64 kh)) (.int .u64 (W64 kl))
   have hF := (Fr.refl No w).alloc (.cells #[.int .u64 (W64 kh), .int .u64 (W64 kl)] 24)
   have u0 := hU.c0
   have u1 := hU.c1
   go_enter Tryz.func3, Tryz.ntmps3
   go_wp2_with fail
   refine (strAwake_yes _).mono ?_
   rintro e w1 ⟨rfl, hf1⟩
   go_wp2_with fail
   go_ret
   exact ⟨rfl, hF.no hf1⟩
 have i1 : (n1 : Int) ≤ 1000 := by omega
 have m1 : n1 ≤ 1099511627776 := by omega
 clear hbig
 by_cases hc : checkN k kh kl = 0
 · obtain ⟨ans, hans⟩ : ∃ ans, Hid (ans = oneS k kh kl l1) := ⟨_, Lib.hid rfl⟩
   have hk := check_ok hc
   have hOne := fun w hb => One_yes hc w a1 n1 c1 l1 hb m1
   have hRef := fun w hb => refOne_all hk kh kl a1 n1 c1 l1 w hb m1
   have hNew := fun w => New_yes hc w
   have hC1 := refCheck_any k kh kl
   have hC2 := Check_any k kh kl
   rw [hc] at hC1 hC2
   rw [← hans.out] at hOne hRef
   clear hans hc hk
   have hU := row2_new w 24 (.int .u64 (W64 kh)) (.int .u64 (W64 kl))
   have hF := (Fr.refl No w).alloc (.cells #[.int .u64 (W64 kh), .int .u64 (W64 kl)] 24)
   have u0 := hU.c0
   have u1 := hU.c1
   go_enter Tryz.func3, Tryz.ntmps3
   go_wp2_with fail
   generalize w.heap.size = ub at hU u0 u1 ⊢
   generalize w.alloc (.cells #[.int .u64 (W64 kh), .int .u64 (W64 kl)] 24) = w0 at hU hF u0 u1 ⊢
   refine (strAwake_yes _).mono ?_
   rintro e w1 ⟨rfl, hf1⟩
   replace hU := hU.no hf1
   replace hF := hF.no hf1
   clear u0 u1
   have u0 := hU.c0
   have u1 := hU.c1
   go_wp2_with fail
   refine (hOne _ (hb1.no hF)).mono ?_
   rintro e w2 ⟨v2, rfl, hO2, hf2⟩
   obtain ⟨a2, c2, rfl, hb2, _⟩ := hO2.bytes
   clear hO2
   replace hU := hU.no hf2
   replace hF := hF.no hf2
   clear u0 u1
   have u0 := hU.c0
   have u1 := hU.c1
   go_wp2_with fail
   refine (hC1 _).mono ?_
   rintro e w3 ⟨rfl, hf3⟩
   replace hU := hU.no hf3
   replace hF := hF.no hf3
   replace hb2 := hb2.no hf3
   clear u0 u1
   have u0 := hU.c0
   have u1 := hU.c1
   go_wp2_with fail
   refine (hC2 _).mono ?_
   rintro e w4 ⟨rfl, hf4⟩
   replace hU := hU.no hf4
   replace hF := hF.no hf4
   replace hb2 := hb2.no hf4
   clear u0 u1
   have u0 := hU.c0
   have u1 := hU.c1
   go_wp2_with fail
   refine (Size_any k _).mono ?_
   rintro e w5 ⟨rfl, hf5⟩
   replace hU := hU.no hf5
   replace hF := hF.no hf5
   replace hb2 := hb2.no hf5
   clear u0 u1
   have u0 := hU.c0
   have u1 := hU.c1
   go_wp2_with fail
   refine (refSize_any k _).mono ?_
   rintro e w6 ⟨rfl, hf6⟩
   replace hU := hU.no hf6
   replace hF := hF.no hf6
   replace hb2 := hb2.no hf6
   clear u0 u1
   have u0 := hU.c0
   have u1 := hU.c1
   go_wp2_with fail
   refine (Block_any k _).mono ?_
   rintro e w7 ⟨rfl, hf7⟩
   replace hU := hU.no hf7
   replace hF := hF.no hf7
   replace hb2 := hb2.no hf7
   clear u0 u1
   have u0 := hU.c0
   have u1 := hU.c1
   go_wp2_with fail
   refine (refBlock_any k _).mono ?_
   rintro e w8 ⟨rfl, hf8⟩
   replace hU := hU.no hf8
   replace hF := hF.no hf8
   replace hb2 := hb2.no hf8
   clear u0 u1
   have u0 := hU.c0
   have u1 := hU.c1
   go_wp2_with fail
   refine (Name_any k _).mono ?_
   rintro e w9 ⟨rfl, hf9⟩
   replace hU := hU.no hf9
   replace hF := hF.no hf9
   replace hb2 := hb2.no hf9
   clear u0 u1
   have u0 := hU.c0
   have u1 := hU.c1
   go_wp2_with fail
   refine (refName_any k _).mono ?_
   rintro e w10 ⟨rfl, hf10⟩
   replace hU := hU.no hf10
   replace hF := hF.no hf10
   replace hb2 := hb2.no hf10
   clear u0 u1
   have u0 := hU.c0
   have u1 := hU.c1
   go_wp2_with fail
   refine (hNew _ w hF).mono ?_
   rintro e w11 ⟨hb, rfl, F, h11, _, hf11⟩
   replace hU := hU.no hf11
   replace hF := hF.no hf11
   replace hb2 := hb2.no hf11
   clear u0 u1
   go_wp2_with fail
   refine rsq (by kernel_rfl) [(0, 1), (1, 1), (2, 1), (3, 1), (4, 1), (5, 1), (6, 1), (7, 1), (8, 1), (9, 1), (10, 1), (11, 0), (12, 0), (13, 1), (14, 1), (15, 1), (17, 1), (16, 0), (18, 1), (19, 1), (20, 1), (21, 1), (23, 1), (22, 0), (24, 1), (25, 1), (26, 1)] (by kernel_rfl) ?_
   have hS0 : Fr No w11 w11.drew := (Fr.refl No w11).drew
   refine wpSeq_take (v := ?_) 78 rfl rfl (fun _ _ _ h => h) (Or.inl ⟨rfl, ?_⟩) ?_
   rotate_left 1
   · (intro w9 h9; go_simp; try with_reducible rfl)
   simp only [es1, es2, es3]
   refine wpSeq_take (v := ?_) 79 rfl rfl (fun _ _ _ h => h) (Or.inl ⟨rfl, ?_⟩) ?_
   rotate_left 1
   · (intro w9 h9; go_simp; try with_reducible rfl)
   simp only [es1, es2, es3]
   refine wpSeq_take (v := ?_) 80 rfl rfl (fun _ _ _ h => h) (Or.inl ⟨rfl, ?_⟩) ?_
   rotate_left 1
   · (intro w9 h9; go_simp; try with_reducible rfl)
   simp only [es1, es2, es3]
   refine wpSeq_take (v := ?_) 81 rfl rfl (fun _ _ _ h => h) (Or.inl ⟨rfl, ?_⟩) ?_
   rotate_left 1
   · (intro w9 h9; go_simp; try with_reducible rfl)
   simp only [es1, es2, es3]
   refine wpSeq_take (v := ?_) 82 rfl rfl (fun _ _ _ h => h) (Or.inl ⟨rfl, ?_⟩) ?_
   rotate_left 1
   · (intro w9 h9; go_simp; try with_reducible rfl)
   simp only [es1, es2, es3]
   refine wpSeq_take (v := ?_) 83 rfl rfl (fun _ _ _ h => h) (Or.inl ⟨rfl, ?_⟩) ?_
   rotate_left 1
   · (intro w9 h9; go_simp; try with_reducible rfl)
   simp only [es1, es2, es3]
   refine wpSeq_take (v := ?_) 84 rfl rfl (fun _ _ _ h => h) (Or.inl ⟨rfl, ?_⟩) ?_
   rotate_left 1
   · (intro w9 h9; go_simp; try with_reducible rfl)
   simp only [es1, es2, es3]
   refine wpSeq_take (v := ?_) 85 rfl rfl (fun _ _ _ h => h) (Or.inl ⟨rfl, ?_⟩) ?_
   rotate_left 1
   · (intro w9 h9; go_simp; try with_reducible rfl)
   simp only [es1, es2, es3]
   refine wpSeq_take (v := ?_) 86 rfl rfl (fun _ _ _ h => h) (Or.inl ⟨rfl, ?_⟩) ?_
   rotate_left 1
   · (intro w9 h9; go_simp; try with_reducible rfl)
   simp only [es1, es2, es3]
   refine wpSeq_take (v := ?_) 87 rfl rfl (fun _ _ _ h => h) (Or.inl ⟨rfl, ?_⟩) ?_
   rotate_left 1
   · (intro w9 h9; have q0 := (hU.no h9).c0; have q1 := (hU.no h9).c1; go_simp; try with_reducible rfl)
   simp only [es1, es2, es3]
   refine wpSeq_take (v := ?_) 88 rfl rfl (fun _ _ _ h => h) (Or.inl ⟨rfl, ?_⟩) ?_
   rotate_left 1
   · (intro w9 h9; go_simp; try with_reducible rfl)
   simp only [es1, es2, es3]
   refine wpSeq_next rfl rfl (fun K hK => ?_)
   go_wp2_with fail
   refine (hRef _ (hb1.no (hF.no hS0))).mono ?_
   rintro e w12 ⟨v12, rfl, hO12, hf12⟩
   obtain ⟨a12, c12, rfl, hb12, _⟩ := hO12.bytes
   have hs12 : Fr No w11 w12 := (hS0).no hf12
   refine hK.out _ _ (fun _ => hs12) ?_
   clear hK K
   refine wpSeq_next rfl rfl (fun K hK => ?_)
   go_wp2_with fail
   refine (refSame_any _ _ _ _ _ _ _ _ _ (hb2.no hs12) hb12).mono ?_
   rintro e w' ⟨rfl, rfl⟩
   rw [beq_self_eq_true]
   refine hK.out _ _ (fun _ => hs12) ?_
   clear hK K
   refine wpSeq_take (v := ?_) 91 rfl rfl (fun _ _ _ h => h) (Or.inl ⟨rfl, ?_⟩) ?_
   rotate_left 1
   · (intro w9 h9; go_simp; try with_reducible rfl)
   simp only [es1, es2, es3]
   refine wpSeq_take (v := ?_) 92 rfl rfl (fun _ _ _ h => h) (Or.inl ⟨rfl, ?_⟩) ?_
   rotate_left 1
   · (intro w9 h9; go_simp; try with_reducible rfl)
   simp only [es1, es2, es3]
   refine wpSeq_take (v := ?_) 93 rfl rfl (fun _ _ _ h => h) (Or.inl ⟨rfl, ?_⟩) ?_
   rotate_left 1
   · (intro w9 h9; go_simp; try with_reducible rfl)
   simp only [es1, es2, es3]
   refine wpSeq_take (v := ?_) 95 rfl rfl (fun _ _ _ h => h) (Or.inl ⟨rfl, ?_⟩) ?_
   rotate_left 1
   · (intro w9 h9; go_simp; try with_reducible rfl)
   simp only [es1, es2, es3]
   refine wpSeq_next rfl rfl (fun K hK => ?_)
   go_wp2_with fail
   refine ((h11.no hs12).kind).mono ?_
   rintro e w' ⟨rfl, rfl⟩
   refine hK.out _ _ (fun _ => hs12) ?_
   clear hK K
   refine wpSeq_take (v := ?_) 96 rfl rfl (fun _ _ _ h => h) (Or.inl ⟨rfl, ?_⟩) ?_
   rotate_left 1
   · (intro w9 h9; go_simp; try with_reducible rfl)
   simp only [es1, es2, es3]
   refine wpSeq_take (v := ?_) 97 rfl rfl (fun _ _ _ h => h) (Or.inl ⟨rfl, ?_⟩) ?_
   rotate_left 1
   · (intro w9 h9; go_simp; try with_reducible rfl)
   simp only [es1, es2, es3]
   refine wpSeq_take (v := ?_) 98 rfl rfl (fun _ _ _ h => h) (Or.inl ⟨rfl, ?_⟩) ?_
   rotate_left 1
   · (intro w9 h9; go_simp; try with_reducible rfl)
   simp only [es1, es2, es3]
   refine wpSeq_take (v := ?_) 99 rfl rfl (fun _ _ _ h => h) (Or.inl ⟨rfl, ?_⟩) ?_
   rotate_left 1
   · (intro w9 h9; go_simp; try with_reducible rfl)
   simp only [es1, es2, es3]
   refine wpSeq_take (v := ?_) 101 rfl rfl (fun _ _ _ h => h) (Or.inl ⟨rfl, ?_⟩) ?_
   rotate_left 1
   · (intro w9 h9; have q0 := (hU.no h9).c0; have q1 := (hU.no h9).c1; go_simp; try with_reducible rfl)
   simp only [es1, es2, es3]
   refine wpSeq_next rfl rfl (fun K hK => ?_)
   go_wp2_with fail
   refine ((h11.no hs12).key).mono ?_
   rintro e w13 ⟨rfl, hf13⟩
   have hs13 : Fr No w11 w13 := (hs12).no hf13
   refine hK.out _ _ (fun _ => hs13) ?_
   clear hK K
   refine wpSeq_take (v := ?_) 102 rfl rfl (fun _ _ _ h => h) (Or.inl ⟨rfl, ?_⟩) ?_
   rotate_left 1
   · (intro w9 h9; go_simp; try with_reducible rfl)
   simp only [es1, es2, es3]
   refine wpSeq_take (v := ?_) 103 rfl rfl (fun _ _ _ h => h) (Or.inl ⟨rfl, ?_⟩) ?_
   rotate_left 1
   · (intro w9 h9; go_simp; try with_reducible rfl)
   simp only [es1, es2, es3]
   refine wpSeq_take (v := ?_) 6 rfl rfl (fun _ _ _ h => h) (Or.inl ⟨rfl, ?_⟩) ?_
   rotate_left 1
   · (intro w9 h9; go_simp; try with_reducible rfl)
   simp only [es1, es2, es3]
   refine wpSeq_done ?_
   go_wp2_with fail
   go_ret
   exact ⟨rfl, hF.no hs13⟩
 · have hOne := fun w => One_no hc a1 n1 c1 w
   have hNew := fun w => New_no hc w
   have hC1 := refCheck_any k kh kl
   have hC2 := Check_any k kh kl
   generalize checkN k kh kl = z at hOne hNew hC1 hC2 hc
   have hU := row2_new w 24 (.int .u64 (W64 kh)) (.int .u64 (W64 kl))
   have hF := (Fr.refl No w).alloc (.cells #[.int .u64 (W64 kh), .int .u64 (W64 kl)] 24)
   have u0 := hU.c0
   have u1 := hU.c1
   go_enter Tryz.func3, Tryz.ntmps3
   go_wp2_with fail
   generalize w.heap.size = ub at hU u0 u1 ⊢
   generalize w.alloc (.cells #[.int .u64 (W64 kh), .int .u64 (W64 kl)] 24) = w0 at hU hF u0 u1 ⊢
   refine (strAwake_yes _).mono ?_
   rintro e w1 ⟨rfl, hf1⟩
   replace hU := hU.no hf1
   replace hF := hF.no hf1
   clear u0 u1
   have u0 := hU.c0
   have u1 := hU.c1
   go_wp2_with fail
   refine (hOne _).mono ?_
   rintro e w2 ⟨rfl, hf2⟩
   replace hU := hU.no hf2
   replace hF := hF.no hf2
   clear u0 u1
   have u0 := hU.c0
   have u1 := hU.c1
   go_wp2_with fail
   refine (hC1 _).mono ?_
   rintro e w3 ⟨rfl, hf3⟩
   replace hU := hU.no hf3
   replace hF := hF.no hf3
   clear u0 u1
   have u0 := hU.c0
   have u1 := hU.c1
   go_wp2_with fail
   refine (hC2 _).mono ?_
   rintro e w4 ⟨rfl, hf4⟩
   replace hU := hU.no hf4
   replace hF := hF.no hf4
   clear u0 u1
   have u0 := hU.c0
   have u1 := hU.c1
   go_wp2_with fail
   refine (Size_any k _).mono ?_
   rintro e w5 ⟨rfl, hf5⟩
   replace hU := hU.no hf5
   replace hF := hF.no hf5
   clear u0 u1
   have u0 := hU.c0
   have u1 := hU.c1
   go_wp2_with fail
   refine (refSize_any k _).mono ?_
   rintro e w6 ⟨rfl, hf6⟩
   replace hU := hU.no hf6
   replace hF := hF.no hf6
   clear u0 u1
   have u0 := hU.c0
   have u1 := hU.c1
   go_wp2_with fail
   refine (Block_any k _).mono ?_
   rintro e w7 ⟨rfl, hf7⟩
   replace hU := hU.no hf7
   replace hF := hF.no hf7
   clear u0 u1
   have u0 := hU.c0
   have u1 := hU.c1
   go_wp2_with fail
   refine (refBlock_any k _).mono ?_
   rintro e w8 ⟨rfl, hf8⟩
   replace hU := hU.no hf8
   replace hF := hF.no hf8
   clear u0 u1
   have u0 := hU.c0
   have u1 := hU.c1
   go_wp2_with fail
   refine (Name_any k _).mono ?_
   rintro e w9 ⟨rfl, hf9⟩
   replace hU := hU.no hf9
   replace hF := hF.no hf9
   clear u0 u1
   have u0 := hU.c0
   have u1 := hU.c1
   go_wp2_with fail
   refine (refName_any k _).mono ?_
   rintro e w10 ⟨rfl, hf10⟩
   replace hU := hU.no hf10
   replace hF := hF.no hf10
   clear u0 u1
   have u0 := hU.c0
   have u1 := hU.c1
   go_wp2_with fail
   refine (hNew _).mono ?_
   rintro e w11 ⟨rfl, hf11⟩
   replace hU := hU.no hf11
   replace hF := hF.no hf11
   clear u0 u1
   go_wp2_with fail
   go_ret
   exact ⟨rfl, hF⟩
end Go.Proofs.YtidlpihoafnobaaGreat
