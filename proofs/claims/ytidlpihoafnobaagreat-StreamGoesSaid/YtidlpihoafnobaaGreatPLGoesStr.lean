/- LGoesStr -/
import Derived.Test.YtidlpihoafnobaaGreatPStrAnyFx
import Derived.Test.YtidlpihoafnobaaGreatPLOneStr
set_option linter.unusedVariables false
set_option linter.unusedSimpArgs false
namespace Go.Proofs.YtidlpihoafnobaaGreat
set_option maxRecDepth 100000
open Go.RowKit
theorem apart_new {F G F' : Nat → Prop} {w : World} (d : ∀ x, F x → ¬ G x) (hk : ∀ x, F' x → F x ∨ w.heap.size ≤ x) (hlt : ∀ x, G x → x < w.heap.size) : ∀ x, F' x → ¬ G x := fun x hx g => (hk x hx).elim (fun h => d x h g) (fun h => by have := hlt x g; omega)
theorem block_len {k : Int} {kh kl : BitVec 64} {l : Bytes} {s : HSt} {tl : Bytes} (ht : Hid (tl = (foldS k (firstS k kh kl) l).2)) (hs : Hid (s = (foldS k (firstS k kh kl) l).1)) (hk : Hid (KindOk k)) : tl.length < 64 := by
 rw [ht.out]
 have h1 := fold_mod (first_ofK hk.out kh kl) l
 have h2 := block_pos hk.out
 have := Int.emod_lt_of_pos (l.length : Int) h2.1
 omega
theorem apart_sym {F G : Nat → Prop} (d : ∀ x, F x → ¬ G x) : ∀ x, G x → ¬ F x := fun x g f => d x f g
set_option maxHeartbeats 1000000 in
theorem StreamGoes_long (k : Int) (kh kl : BitVec 64) (a1 : Option Addr) (n1 c1 : Nat) (l1 : Bytes) (a2 : Option Addr) (n2 c2 : Nat) (l2 : Bytes) (a3 : Option Addr) (n3 c3 : Nat) (l3 : Bytes) (w : World) (q1 : n1 ≤ 140737488351232) (q2 : n2 ≤ 140737488351232) (q3 : n3 ≤ 140737488351232) (h : 500 < n1 + n2 + n3 ∨ ¬ checkN k kh kl = 0) : Calls Tryz.prog 5 #[.int .i64 k, .agg #[.int .u64 (W64 kh), .int .u64 (W64 kl)], .slice a1 n1 c1, .slice a2 n2 c2, .slice a3 n3 c3] w (Yes w) := by
 have hC := refCheck_any k kh kl
 generalize checkN k kh kl = z at hC h
 have j1 : (n1 : Int) ≤ 140737488351232 := by omega
 have j2 : (n2 : Int) ≤ 140737488351232 := by omega
 have j3 : (n3 : Int) ≤ 140737488351232 := by omega
 by_cases h1 : 500 < n1 + n2 + n3
 · have i1 : (500 : Int) < (n1 : Int) + (n2 : Int) + (n3 : Int) := by omega
   clear h h1 hC
   have hU := row2_new w 24 (.int .u64 (W64 kh)) (.int .u64 (W64 kl))
   have hF := (Fr.refl No w).alloc (.cells #[.int .u64 (W64 kh), .int .u64 (W64 kl)] 24)
   have u0 := hU.c0
   have u1 := hU.c1
   go_enter Tryz.func5, Tryz.ntmps5
   go_wp2_with fail
   refine (strAwake_yes _).mono ?_
   rintro e w1 ⟨rfl, hf1⟩
   go_wp2_with fail
   go_ret
   exact ⟨rfl, hF.no hf1⟩
 have i1 : (n1 : Int) + (n2 : Int) + (n3 : Int) ≤ 500 := by omega
 have hz : (z != 0) = true := by simp only [bne_iff_ne, ne_eq]; omega
 clear h h1
 have hU := row2_new w 24 (.int .u64 (W64 kh)) (.int .u64 (W64 kl))
 have hF := (Fr.refl No w).alloc (.cells #[.int .u64 (W64 kh), .int .u64 (W64 kl)] 24)
 have u0 := hU.c0
 have u1 := hU.c1
 go_enter Tryz.func5, Tryz.ntmps5
 go_wp2_with fail
 refine (strAwake_yes _).mono ?_
 rintro e w1 ⟨rfl, hf1⟩
 replace hU := hU.no hf1
 replace hF := hF.no hf1
 clear u0 u1
 have u0 := hU.c0
 have u1 := hU.c1
 go_wp2_with fail
 refine (hC _).mono ?_
 rintro e w2 ⟨rfl, hf2⟩
 go_wp2_with fail
 go_ret
 exact ⟨rfl, hF.no hf2⟩
set_option maxHeartbeats 8000000 in
theorem StreamGoes_yes (k : Int) (kh kl : BitVec 64) (a1 : Option Addr) (n1 c1 : Nat) (l1 : Bytes) (a2 : Option Addr) (n2 c2 : Nat) (l2 : Bytes) (a3 : Option Addr) (n3 c3 : Nat) (l3 : Bytes) (w : World) (q1 : n1 ≤ 140737488351232) (q2 : n2 ≤ 140737488351232) (q3 : n3 ≤ 140737488351232) (hb1 : IsBytes w a1 n1 c1 l1) (hb2 : IsBytes w a2 n2 c2 l2) (hb3 : IsBytes w a3 n3 c3 l3) :
 Calls Tryz.prog 5 #[.int .i64 k, .agg #[.int .u64 (W64 kh), .int .u64 (W64 kl)], .slice a1 n1 c1, .slice a2 n2 c2, .slice a3 n3 c3] w (Yes w) := by
 by_cases hbig : 500 < n1 + n2 + n3 ∨ ¬ checkN k kh kl = 0
 · exact StreamGoes_long k kh kl a1 n1 c1 l1 a2 n2 c2 l2 a3 n3 c3 l3 w q1 q2 q3 hbig
 have i1 : (n1 : Int) + (n2 : Int) + (n3 : Int) ≤ 500 := by omega
 have m1 : n1 ≤ 500 := by omega
 have m2 : n2 ≤ 500 := by omega
 have m3 : n3 ≤ 500 := by omega
 have j1 : (n1 : Int) ≤ 500 := by omega
 have j2 : (n2 : Int) ≤ 500 := by omega
 have j3 : (n3 : Int) ≤ 500 := by omega
 have hc : checkN k kh kl = 0 := by omega
 have hk := check_ok hc
 have hNew := fun w => New_yes hc w
 have hC := refCheck_any k kh kl
 rw [hc] at hC
 have HK := Lib.hid hk
 have hk0 := first_ofK hk kh kl
 have hst := state_lanes (fold_ofK hk0 l1)
 have hrt := right_lanes (fold_ofK hk0 l1)
 have hft := fit_fold hk0 l1 (by have := hb1.1; omega)
 have hBl := fun w hb => refBlocks_all hk kh kl a1 n1 c1 l1 w hb (by omega)
 obtain ⟨s, hs⟩ : ∃ s, Hid (s = (foldS k (firstS k kh kl) l1).1) := ⟨_, Lib.hid rfl⟩
 obtain ⟨tl, htl⟩ : ∃ t, Hid (t = (foldS k (firstS k kh kl) l1).2) := ⟨_, Lib.hid rfl⟩
 rw [← hs.out] at hst hrt
 rw [← htl.out, hb1.1] at hft
 obtain ⟨x, hx⟩ : ∃ x, Hid (x = lanesS s) := ⟨_, Lib.hid rfl⟩
 rw [← hx.out] at hst hrt
 have HST := Lib.hid hst
 have HRT := Lib.hid hrt
 have HFT := Lib.hid hft
 clear hbig hc hk hk0 hst hrt hft q1 q2 q3
 have hU := row2_new w 24 (.int .u64 (W64 kh)) (.int .u64 (W64 kl))
 have hF := (Fr.refl No w).alloc (.cells #[.int .u64 (W64 kh), .int .u64 (W64 kl)] 24)
 have u0 := hU.c0
 have u1 := hU.c1
 go_enter Tryz.func5, Tryz.ntmps5
 go_wp2_with fail
 generalize w.heap.size = ub at hU u0 u1 ⊢
 generalize w.alloc (.cells #[.int .u64 (W64 kh), .int .u64 (W64 kl)] 24) = w0 at hU hF u0 u1 ⊢
 refine (strAwake_yes _).mono ?_
 rintro e w1 ⟨rfl, hf1⟩
 replace hU := hU.no hf1
 replace hF := hF.no hf1
 clear u0 u1
 have u0 := hU.c0
 have u1 := hU.c1
 go_wp2_with fail
 refine (hC _).mono ?_
 rintro e w2 ⟨rfl, hf2⟩
 replace hU := hU.no hf2
 replace hF := hF.no hf2
 clear hC
 clear u0 u1
 have u0 := hU.c0
 have u1 := hU.c1
 go_wp2_with fail
 refine (hNew _ w hF).mono ?_
 rintro e w4 ⟨hb, rfl, F, h4, _, hf4⟩
 have hL := HDone_nil h4
 replace hU := hU.no hf4
 replace hF := hF.no hf4
 clear h4
 clear u0 u1
 have u0 := hU.c0
 have u1 := hU.c1
 go_wp2_with fail
 refine (hNew _ w hF).mono ?_
 rintro e w5 ⟨gb, rfl, G, h5, hGn, hf5⟩
 have hG := HDone_nil h5
 have dFG : ∀ x, F x → ¬ G x := fun x f g => by have := hL.lt x f; have := hGn x g; omega
 replace hL := hL.no hf5
 replace hU := hU.no hf5
 clear h5 hGn hf4 hf5 hf1 hf2 hF
 clear u0 u1
 have u0 := hU.c0
 have u1 := hU.c1
 go_wp2_with fail
 refine (hL.write a1 n1 c1 l1 (hb1.no hL.fr) (hb1.old (fun x g => hL.above x g)) (by omega)).mono ?_
 rw [List.nil_append]
 rintro e w6 ⟨rfl, F6, hL6, hf6, hk6⟩
 have hG6 := hG.keep hf6 dFG hL.con hL.above
 have d6 := apart_new dFG hk6 hG.lt
 replace hU := hU.con hf6 hL.con (by decide)
 clear hL hG dFG hf6 hk6
 clear u0 u1
 have u0 := hU.c0
 have u1 := hU.c1
 go_wp2_with fail
 have hLa := hL6.any.lanes
 rw [← hs.out, ← htl.out, hb1.1] at hLa
 rw [← hx.out] at hLa
 refine hLa.mono ?_
 rintro e w7 ⟨v7, rfl, hO7, hf7⟩
 clear hLa
 obtain ⟨a7, c7, rfl, hb7, _⟩ := hO7.bytes
 have hX := row4_new w7 49 (.int .u64 (W64 x.1)) (.int .u64 (W64 x.2.1)) (.int .u64 (W64 x.2.2.1)) (.int .u64 (W64 x.2.2.2))
 have hf7' := hf7.alloc (.cells #[.int .u64 (W64 x.1), .int .u64 (W64 x.2.1), .int .u64 (W64 x.2.2.1), .int .u64 (W64 x.2.2.2)] 49)
 have hb7' := hb7.no ((Fr.refl No w7).alloc (.cells #[.int .u64 (W64 x.1), .int .u64 (W64 x.2.1), .int .u64 (W64 x.2.2.1), .int .u64 (W64 x.2.2.2)] 49))
 replace hL6 := hL6.no hf7'
 replace hG6 := hG6.no hf7'
 replace hU := hU.no hf7'
 clear hO7 hb7
 clear u0 u1
 have u0 := hU.c0
 have u1 := hU.c1
 go_wp2_with fail
 generalize w7.heap.size = xb at hX ⊢
 generalize w7.alloc (.cells #[.int .u64 (W64 x.1), .int .u64 (W64 x.2.1), .int .u64 (W64 x.2.2.1), .int .u64 (W64 x.2.2.2)] 49) = w8 at hX hf7' hb7' hL6 hG6 hU u0 u1 ⊢
 refine (hBl _ (hb1.no hL6.fr)).mono ?_
 rintro e w9 ⟨a9, n9, c9, rfl, hb9, _, hf9⟩
 rw [← htl.out] at hb9
 rw [← hs.out, ← hx.out]
 clear hBl
 have hY := row4_new w9 49 (.int .u64 (W64 x.1)) (.int .u64 (W64 x.2.1)) (.int .u64 (W64 x.2.2.1)) (.int .u64 (W64 x.2.2.2))
 have hf9' := hf9.alloc (.cells #[.int .u64 (W64 x.1), .int .u64 (W64 x.2.1), .int .u64 (W64 x.2.2.1), .int .u64 (W64 x.2.2.2)] 49)
 have hb9' := hb9.no ((Fr.refl No w9).alloc (.cells #[.int .u64 (W64 x.1), .int .u64 (W64 x.2.1), .int .u64 (W64 x.2.2.1), .int .u64 (W64 x.2.2.2)] 49))
 replace hX := hX.no hf9'
 replace hb7' := hb7'.no hf9'
 replace hL6 := hL6.no hf9'
 replace hG6 := hG6.no hf9'
 replace hU := hU.no hf9'
 clear u0 u1
 have u0 := hU.c0
 have u1 := hU.c1
 have x0 := hX.c0
 have x1 := hX.c1
 have x2 := hX.c2
 have x3 := hX.c3
 have y0 := hY.c0
 have y1 := hY.c1
 have y2 := hY.c2
 have y3 := hY.c3
 go_wp2_with fail
 generalize w9.heap.size = yb at hY y0 y1 y2 y3 ⊢
 generalize w9.alloc (.cells #[.int .u64 (W64 x.1), .int .u64 (W64 x.2.1), .int .u64 (W64 x.2.2.1), .int .u64 (W64 x.2.2.2)] 49) = w10 at hX hY hf9' hb7' hb9' hL6 hG6 hU u0 u1 x0 x1 x2 x3 y0 y1 y2 y3 ⊢
 refine (refSame_any _ _ _ _ _ _ _ _ _ hb7' hb9').mono ?_
 rintro e w' ⟨rfl, rfl⟩
 rw [beq_self_eq_true]
 go_wp2_with fail
 refine (hG6.any.set_right x (BitVec.ofNat 64 n1) a7 tl.length c7 HRT.out HFT.out tl hb7' (by have := hb7'.2.1; have := hb7'.2.2.1; have := block_len htl hs HK; omega)).mono ?_
 rw [HST.out]
 rintro e w11 ⟨rfl, G11, hG11, hf11, hk11⟩
 have hG11' : HDone w w11 gb G11 k kh kl l1 := by
  unfold HDone
  rw [← hs.out, ← htl.out, hb1.1]
  exact hG11
 have hL11 := hL6.keep hf11 (apart_sym d6) hG6.con hG6.above
 have d11 := apart_sym (apart_new (apart_sym d6) hk11 hL6.lt)
 replace hU := hU.con hf11 hG6.con (by decide)
 clear hL6 hG6 hG11 d6 hf11 hk11 hX hY x0 x1 x2 x3 y0 y1 y2 y3 hb7' hb9'
 clear u0 u1
 have u0 := hU.c0
 have u1 := hU.c1
 go_wp2_with fail
 refine hL11.clone.mono ?_
 rintro e w12 ⟨cb, rfl, K, hK12, hKn, hf12⟩
 have dFK : ∀ x, F6 x → ¬ K x := fun x f g => by have := hL11.lt x f; have := hKn x g; omega
 have dGK : ∀ x, G11 x → ¬ K x := fun x f g => by have := hG11'.lt x f; have := hKn x g; omega
 have hL12 := hL11.no hf12
 have hG12 := hG11'.no hf12
 replace hU := hU.no hf12
 clear hL11 hG11' hKn hf12
 clear u0 u1
 have u0 := hU.c0
 have u1 := hU.c1
 go_wp2_with fail
 refine (hL12.write a2 n2 c2 l2 (hb2.no hL12.fr) (hb2.old (fun x g => hL12.above x g)) (by omega)).mono ?_
 rintro e w13 ⟨rfl, F13, hL13, hf13, hk13⟩
 have hG13 := hG12.keep hf13 d11 hL12.con hL12.above
 have hK13 := hK12.keep hf13 dFK hL12.con hL12.above
 have d13 := apart_new d11 hk13 hG12.lt
 have dFK13 := apart_new dFK hk13 hK12.lt
 replace hU := hU.con hf13 hL12.con (by decide)
 clear hL12 hG12 hK12 d11 dFK hf13 hk13
 clear u0 u1
 have u0 := hU.c0
 have u1 := hU.c1
 go_wp2_with fail
 refine (hG13.write a2 n2 c2 l2 (hb2.no hG13.fr) (hb2.old (fun x g => hG13.above x g)) (by omega)).mono ?_
 rintro e w14 ⟨rfl, G14, hG14, hf14, hk14⟩
 have hL14 := hL13.keep hf14 (apart_sym d13) hG13.con hG13.above
 have hK14 := hK13.keep hf14 dGK hG13.con hG13.above
 have dGK14 := apart_new dGK hk14 hK13.lt
 replace hU := hU.con hf14 hG13.con (by decide)
 clear hL13 hG13 hK13 d13 dGK hf14 hk14
 clear u0 u1
 have u0 := hU.c0
 have u1 := hU.c1
 go_wp2_with fail
 refine (hK14.write a3 n3 c3 l3 (hb3.no hK14.fr) (hb3.old (fun x g => hK14.above x g)) (by omega)).mono ?_
 rintro e w15 ⟨rfl, K15, hK15, hf15, _⟩
 have hL15 := hL14.keep hf15 (apart_sym dFK13) hK14.con hK14.above
 have hG15 := hG14.keep hf15 (apart_sym dGK14) hK14.con hK14.above
 replace hU := hU.con hf15 hK14.con (by decide)
 clear hL14 hG14 hK14 dFK13 dGK14 hf15
 clear u0 u1
 have u0 := hU.c0
 have u1 := hU.c1
 obtain ⟨ans, hans⟩ : ∃ ans, Hid (ans = oneS k kh kl (l1 ++ l2)) := ⟨_, Lib.hid rfl⟩
 obtain ⟨ant, hant⟩ : ∃ ans, Hid (ans = oneS k kh kl (l1 ++ l3)) := ⟨_, Lib.hid rfl⟩
 go_wp2_with fail
 refine hL15.sum.mono ?_
 rw [← hans.out]
 rintro e w16 ⟨v16, rfl, hO16, hf16⟩
 obtain ⟨a16, d16, rfl, hb16, _⟩ := hO16.bytes
 clear hO16
 replace hL15 := hL15.no hf16
 replace hG15 := hG15.no hf16
 replace hK15 := hK15.no hf16
 replace hU := hU.no hf16
 clear u0 u1
 have u0 := hU.c0
 have u1 := hU.c1
 go_wp2_with fail
 refine hG15.sum.mono ?_
 rw [← hans.out]
 rintro e w17 ⟨v17, rfl, hO17, hf17⟩
 obtain ⟨a17, d17, rfl, hb17, _⟩ := hO17.bytes
 clear hO17
 replace hL15 := hL15.no hf17
 replace hG15 := hG15.no hf17
 replace hK15 := hK15.no hf17
 replace hU := hU.no hf17
 replace hb16 := hb16.no hf17
 clear u0 u1
 have u0 := hU.c0
 have u1 := hU.c1
 go_wp2_with fail
 refine hK15.sum.mono ?_
 rw [← hant.out]
 rintro e w18 ⟨v18, rfl, hO18, hf18⟩
 obtain ⟨a18, d18, rfl, hb18, _⟩ := hO18.bytes
 clear hO18
 replace hL15 := hL15.no hf18
 replace hG15 := hG15.no hf18
 replace hK15 := hK15.no hf18
 replace hU := hU.no hf18
 replace hb16 := hb16.no hf18
 replace hb17 := hb17.no hf18
 clear u0 u1
 go_wp2_with fail
 refine rsq (by kernel_rfl) [(0, 1), (2, 1), (1, 0), (3, 1), (4, 1), (5, 1), (7, 1), (6, 0), (8, 1), (9, 1), (10, 1), (11, 1), (12, 1), (13, 1), (14, 1), (15, 1), (16, 0), (17, 0), (18, 0), (19, 1), (20, 1), (21, 1), (22, 1), (23, 0), (24, 1), (25, 1), (26, 1), (27, 1), (28, 1), (29, 1), (30, 1), (31, 0), (32, 0), (33, 0), (34, 1), (35, 1)] (by kernel_rfl) ?_
 have hS0 : Fr No w18 w18.drew := (Fr.refl No w18).drew
 refine wpSeq_take (v := ?_) 122 rfl rfl (fun _ _ _ h => h) (Or.inl ⟨rfl, ?_⟩) ?_
 rotate_left 1
 · (intro w9 h9; go_simp; try with_reducible rfl)
 simp only [es1, es2, es3]
 refine wpSeq_take (v := ?_) 124 rfl rfl (fun _ _ _ h => h) (Or.inl ⟨rfl, ?_⟩) ?_
 rotate_left 1
 · (intro w9 h9; go_simp; try with_reducible rfl)
 simp only [es1, es2, es3]
 refine wpSeq_next rfl rfl (fun K hK => ?_)
 go_wp2_with fail
 refine ((hK15.no hS0).any.kind).mono ?_
 rintro e w' ⟨rfl, rfl⟩
 refine hK.out _ _ (fun _ => hS0) ?_
 clear hK K
 refine wpSeq_take (v := ?_) 125 rfl rfl (fun _ _ _ h => h) (Or.inl ⟨rfl, ?_⟩) ?_
 rotate_left 1
 · (intro w9 h9; go_simp; try with_reducible rfl)
 simp only [es1, es2, es3]
 refine wpSeq_take (v := ?_) 126 rfl rfl (fun _ _ _ h => h) (Or.inl ⟨rfl, ?_⟩) ?_
 rotate_left 1
 · (intro w9 h9; go_simp; try with_reducible rfl)
 simp only [es1, es2, es3]
 refine wpSeq_take (v := ?_) 127 rfl rfl (fun _ _ _ h => h) (Or.inl ⟨rfl, ?_⟩) ?_
 rotate_left 1
 · (intro w9 h9; go_simp; try with_reducible rfl)
 simp only [es1, es2, es3]
 refine wpSeq_take (v := ?_) 129 rfl rfl (fun _ _ _ h => h) (Or.inl ⟨rfl, ?_⟩) ?_
 rotate_left 1
 · (intro w9 h9; have q0 := (hU.no h9).c0; have q1 := (hU.no h9).c1; go_simp; try with_reducible rfl)
 simp only [es1, es2, es3]
 refine wpSeq_next rfl rfl (fun K hK => ?_)
 go_wp2_with fail
 refine ((hK15.no hS0).any.key).mono ?_
 rintro e w19 ⟨rfl, hf19⟩
 have hs19 : Fr No w18 w19 := (hS0).no hf19
 refine hK.out _ _ (fun _ => hs19) ?_
 clear hK K
 refine wpSeq_take (v := ?_) 130 rfl rfl (fun _ _ _ h => h) (Or.inl ⟨rfl, ?_⟩) ?_
 rotate_left 1
 · (intro w9 h9; go_simp; try with_reducible rfl)
 simp only [es1, es2, es3]
 refine wpSeq_take (v := ?_) 131 rfl rfl (fun _ _ _ h => h) (Or.inl ⟨rfl, ?_⟩) ?_
 rotate_left 1
 · (intro w9 h9; go_simp; try with_reducible rfl)
 simp only [es1, es2, es3]
 refine wpSeq_take (v := ?_) 132 rfl rfl (fun _ _ _ h => h) (Or.inl ⟨rfl, ?_⟩) ?_
 rotate_left 1
 · (intro w9 h9; go_simp; try with_reducible rfl)
 simp only [es1, es2, es3]
 refine wpSeq_take (v := ?_) 133 rfl rfl (fun _ _ _ h => h) (Or.inl ⟨rfl, ?_⟩) ?_
 rotate_left 1
 · (intro w9 h9; go_simp; try with_reducible rfl)
 simp only [es1, es2, es3]
 refine wpSeq_take (v := ?_) 134 rfl rfl (fun _ _ _ h => h) (Or.inl ⟨rfl, ?_⟩) ?_
 rotate_left 1
 · (intro w9 h9; go_simp; try with_reducible rfl)
 simp only [es1, es2, es3]
 refine wpSeq_take (v := ?_) 135 rfl rfl (fun _ _ _ h => h) (Or.inl ⟨rfl, ?_⟩) ?_
 rotate_left 1
 · (intro w9 h9; have q0 := (hU.no h9).c0; have q1 := (hU.no h9).c1; go_simp; try with_reducible rfl)
 simp only [es1, es2, es3]
 refine wpSeq_take (v := ?_) 136 rfl rfl (fun _ _ _ h => h) (Or.inl ⟨rfl, ?_⟩) ?_
 rotate_left 1
 · (intro w9 h9; go_simp; try with_reducible rfl)
 simp only [es1, es2, es3]
 refine wpSeq_take (v := ?_) 137 rfl rfl (fun _ _ _ h => h) (Or.inl ⟨rfl, ?_⟩) ?_
 rotate_left 1
 · (intro w9 h9; go_simp; try with_reducible rfl)
 simp only [es1, es2, es3]
 refine wpSeq_next rfl rfl (fun K hK => ?_)
 go_wp2_with fail
 refine (refBoth_any _ _ _ _ _ _ _ _ _ (hb1.no (hL15.fr.no hs19)) (hb2.no (hL15.fr.no hs19)) (by omega)).mono ?_
 rintro e w20 ⟨v20, rfl, hO20, hf20⟩
 obtain ⟨a20, d20, rfl, hb20, _⟩ := hO20.bytes
 have hln20 := hb20.1
 rw [List.length_append, hb1.1, hb2.1] at hb20 ⊢
 clear hln20
 have hs20 : Fr No w18 w20 := (hs19).no hf20
 refine hK.out _ _ (fun _ => hs20) ?_
 clear hK K
 refine wpSeq_next rfl rfl (fun K hK => ?_)
 go_wp2_with fail
 refine (refOne_all HK.out kh kl _ _ _ _ _ hb20 (by omega)).mono ?_
 rw [← hans.out]
 rintro e w21 ⟨v21, rfl, hO21, hf21⟩
 obtain ⟨a21, d21, rfl, hb21, _⟩ := hO21.bytes
 have hs21 : Fr No w18 w21 := (hs20).no hf21
 refine hK.out _ _ (fun _ => hs21) ?_
 clear hK K
 refine wpSeq_next rfl rfl (fun K hK => ?_)
 go_wp2_with fail
 refine (refSame_any _ _ _ _ _ _ _ _ _ (hb16.no hs21) hb21).mono ?_
 rintro e w' ⟨rfl, rfl⟩
 rw [beq_self_eq_true]
 refine hK.out _ _ (fun _ => hs21) ?_
 clear hK K
 refine wpSeq_take (v := ?_) 141 rfl rfl (fun _ _ _ h => h) (Or.inl ⟨rfl, ?_⟩) ?_
 rotate_left 1
 · (intro w9 h9; go_simp; try with_reducible rfl)
 simp only [es1, es2, es3]
 refine wpSeq_take (v := ?_) 142 rfl rfl (fun _ _ _ h => h) (Or.inl ⟨rfl, ?_⟩) ?_
 rotate_left 1
 · (intro w9 h9; go_simp; try with_reducible rfl)
 simp only [es1, es2, es3]
 refine wpSeq_take (v := ?_) 143 rfl rfl (fun _ _ _ h => h) (Or.inl ⟨rfl, ?_⟩) ?_
 rotate_left 1
 · (intro w9 h9; go_simp; try with_reducible rfl)
 simp only [es1, es2, es3]
 refine wpSeq_take (v := ?_) 144 rfl rfl (fun _ _ _ h => h) (Or.inl ⟨rfl, ?_⟩) ?_
 rotate_left 1
 · (intro w9 h9; go_simp; try with_reducible rfl)
 simp only [es1, es2, es3]
 refine wpSeq_next rfl rfl (fun K hK => ?_)
 go_wp2_with fail
 refine (refSame_any _ _ _ _ _ _ _ _ _ (hb16.no hs21) (hb17.no hs21)).mono ?_
 rintro e w' ⟨rfl, rfl⟩
 rw [beq_self_eq_true]
 refine hK.out _ _ (fun _ => hs21) ?_
 clear hK K
 refine wpSeq_take (v := ?_) 146 rfl rfl (fun _ _ _ h => h) (Or.inl ⟨rfl, ?_⟩) ?_
 rotate_left 1
 · (intro w9 h9; go_simp; try with_reducible rfl)
 simp only [es1, es2, es3]
 refine wpSeq_take (v := ?_) 147 rfl rfl (fun _ _ _ h => h) (Or.inl ⟨rfl, ?_⟩) ?_
 rotate_left 1
 · (intro w9 h9; go_simp; try with_reducible rfl)
 simp only [es1, es2, es3]
 refine wpSeq_take (v := ?_) 148 rfl rfl (fun _ _ _ h => h) (Or.inl ⟨rfl, ?_⟩) ?_
 rotate_left 1
 · (intro w9 h9; go_simp; try with_reducible rfl)
 simp only [es1, es2, es3]
 refine wpSeq_take (v := ?_) 149 rfl rfl (fun _ _ _ h => h) (Or.inl ⟨rfl, ?_⟩) ?_
 rotate_left 1
 · (intro w9 h9; go_simp; try with_reducible rfl)
 simp only [es1, es2, es3]
 refine wpSeq_take (v := ?_) 150 rfl rfl (fun _ _ _ h => h) (Or.inl ⟨rfl, ?_⟩) ?_
 rotate_left 1
 · (intro w9 h9; have q0 := (hU.no h9).c0; have q1 := (hU.no h9).c1; go_simp; try with_reducible rfl)
 simp only [es1, es2, es3]
 refine wpSeq_take (v := ?_) 151 rfl rfl (fun _ _ _ h => h) (Or.inl ⟨rfl, ?_⟩) ?_
 rotate_left 1
 · (intro w9 h9; go_simp; try with_reducible rfl)
 simp only [es1, es2, es3]
 refine wpSeq_take (v := ?_) 152 rfl rfl (fun _ _ _ h => h) (Or.inl ⟨rfl, ?_⟩) ?_
 rotate_left 1
 · (intro w9 h9; go_simp; try with_reducible rfl)
 simp only [es1, es2, es3]
 refine wpSeq_next rfl rfl (fun K hK => ?_)
 go_wp2_with fail
 refine (refBoth_any _ _ _ _ _ _ _ _ _ (hb1.no (hL15.fr.no hs21)) (hb3.no (hL15.fr.no hs21)) (by omega)).mono ?_
 rintro e w22 ⟨v22, rfl, hO22, hf22⟩
 obtain ⟨a22, d22, rfl, hb22, _⟩ := hO22.bytes
 have hln22 := hb22.1
 rw [List.length_append, hb1.1, hb3.1] at hb22 ⊢
 clear hln22
 have hs22 : Fr No w18 w22 := (hs21).no hf22
 refine hK.out _ _ (fun _ => hs22) ?_
 clear hK K
 refine wpSeq_next rfl rfl (fun K hK => ?_)
 go_wp2_with fail
 refine (refOne_all HK.out kh kl _ _ _ _ _ hb22 (by omega)).mono ?_
 rw [← hant.out]
 rintro e w23 ⟨v23, rfl, hO23, hf23⟩
 obtain ⟨a23, d23, rfl, hb23, _⟩ := hO23.bytes
 have hs23 : Fr No w18 w23 := (hs22).no hf23
 refine hK.out _ _ (fun _ => hs23) ?_
 clear hK K
 refine wpSeq_next rfl rfl (fun K hK => ?_)
 go_wp2_with fail
 refine (refSame_any _ _ _ _ _ _ _ _ _ (hb18.no hs23) hb23).mono ?_
 rintro e w' ⟨rfl, rfl⟩
 rw [beq_self_eq_true]
 refine hK.out _ _ (fun _ => hs23) ?_
 clear hK K
 refine wpSeq_take (v := ?_) 156 rfl rfl (fun _ _ _ h => h) (Or.inl ⟨rfl, ?_⟩) ?_
 rotate_left 1
 · (intro w9 h9; go_simp; try with_reducible rfl)
 simp only [es1, es2, es3]
 refine wpSeq_take (v := ?_) 10 rfl rfl (fun _ _ _ h => h) (Or.inl ⟨rfl, ?_⟩) ?_
 rotate_left 1
 · (intro w9 h9; go_simp; try with_reducible rfl)
 simp only [es1, es2, es3]
 refine wpSeq_done ?_
 go_wp2_with fail
 go_ret
 exact ⟨rfl, hL15.fr.no hs23⟩
end Go.Proofs.YtidlpihoafnobaaGreat
