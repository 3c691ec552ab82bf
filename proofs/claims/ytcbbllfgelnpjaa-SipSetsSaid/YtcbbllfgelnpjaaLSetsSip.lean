/- SipSets' walk. -/
import Derived.Test.YtcbbllfgelnpjaaAllSip
namespace Go.Proofs.Ytcbbllfgelnpjaa.StSip
set_option linter.unusedVariables false
set_option linter.unusedSimpArgs false
open Go.RowKit
theorem refRight_yes (x0 x1 x2 x3 : BitVec 64) (w : World) (hw : RightP x0 x1 x2 x3) : Calls Try.prog 22 #[.agg #[.int .u64 (W64 x0), .int .u64 (W64 x1), .int .u64 (W64 x2), .int .u64 (W64 x3)]] w (GivesNew (.bool true) w) := by
  go_enter Try.func22, Try.ntmps22
  go_wp2
  go_ret
  exact ⟨rfl, (Fr.refl No w).alloc _⟩
theorem refRight_no (x0 x1 x2 x3 : BitVec 64) (w : World) (hw : ¬ RightP x0 x1 x2 x3) : Calls Try.prog 22 #[.agg #[.int .u64 (W64 x0), .int .u64 (W64 x1), .int .u64 (W64 x2), .int .u64 (W64 x3)]] w (GivesNew (.bool false) w) := absurd trivial hw

set_option maxHeartbeats 1000000 in
theorem SipSets_long (kd : Int) (kh kl : BitVec 64) (x0 x1 x2 x3 lo : BitVec 64) (a1 : Option Addr) (n1 c1 : Nat) (l1 : Bytes) (w : World) (h : 100 < n1 ∨ ¬ IsK kd) : Calls Try.prog 6 #[.int .i64 kd, .agg #[.int .u64 (W64 kh), .int .u64 (W64 kl)], .agg #[.int .u64 (W64 x0), .int .u64 (W64 x1), .int .u64 (W64 x2), .int .u64 (W64 x3)], .int .u64 (W64 lo), .slice a1 n1 c1] w (Yes w) := by
  have hfa : Fr No w ((w.alloc (.cells #[.int .u64 (W64 kh), .int .u64 (W64 kl)] 24)).alloc (.cells #[.int .u64 (W64 x0), .int .u64 (W64 x1), .int .u64 (W64 x2), .int .u64 (W64 x3)] 38)) := ((Fr.refl No w).alloc _).alloc _
  have hK : Row2 ((w.alloc (.cells #[.int .u64 (W64 kh), .int .u64 (W64 kl)] 24)).alloc (.cells #[.int .u64 (W64 x0), .int .u64 (W64 x1), .int .u64 (W64 x2), .int .u64 (W64 x3)] 38)) w.heap.size 24 (.int .u64 (W64 kh)) (.int .u64 (W64 kl)) := (row2_new w 24 _ _).no ((Fr.refl No _).alloc _)
  have hB : Row4 ((w.alloc (.cells #[.int .u64 (W64 kh), .int .u64 (W64 kl)] 24)).alloc (.cells #[.int .u64 (W64 x0), .int .u64 (W64 x1), .int .u64 (W64 x2), .int .u64 (W64 x3)] 38)) (w.heap.size + 1) 38 (.int .u64 (W64 x0)) (.int .u64 (W64 x1)) (.int .u64 (W64 x2)) (.int .u64 (W64 x3)) := heap_alloc2_new w _ _
  go_enter Try.func6, Try.ntmps6
  go_wp2_with fail
  generalize w.heap.size = pb at hK hB ⊢
  generalize ((w.alloc (.cells #[.int .u64 (W64 kh), .int .u64 (W64 kl)] 24)).alloc (.cells #[.int .u64 (W64 x0), .int .u64 (W64 x1), .int .u64 (W64 x2), .int .u64 (W64 x3)] 38)) = wa at hfa hK hB ⊢
  refine (awake_yes _).mono ?_
  rintro e w1 ⟨rfl, hf1⟩
  clear hK hB
  by_cases h1 : 100 < n1
  · have i1 : (100 : Int) < (n1 : Int) := by omega
    clear h h1
    go_wp2_with fail
    go_ret
    exact ⟨rfl, hfa.no hf1⟩
  · have i1 : (n1 : Int) ≤ 100 := by omega
    have hk : ¬ IsK kd := h.resolve_left h1
    clear h h1
    go_wp2_with fail
    refine (refIs_no kd hk _).mono ?_
    rintro e w' ⟨rfl, rfl⟩
    go_wp2_with fail
    go_ret
    exact ⟨rfl, hfa.no hf1⟩
set_option maxHeartbeats 4000000 in
set_option maxRecDepth 4096 in
theorem SipSets_unfit (kd : Int) (kh kl : BitVec 64) (x0 x1 x2 x3 lo : BitVec 64) (a1 : Option Addr) (n1 c1 : Nat) (l1 : Bytes) (w : World) (hk : IsK kd) (hb1 : IsBytes w a1 n1 c1 l1) (hm : n1 ≤ 100) (hfit : fitsB n1 lo 8 = false) : Calls Try.prog 6 #[.int .i64 kd, .agg #[.int .u64 (W64 kh), .int .u64 (W64 kl)], .agg #[.int .u64 (W64 x0), .int .u64 (W64 x1), .int .u64 (W64 x2), .int .u64 (W64 x3)], .int .u64 (W64 lo), .slice a1 n1 c1] w (Yes w) := by
  obtain ⟨oh, ol, eh, el, hfg⟩ := tells_ex
  have i1 : (n1 : Int) ≤ 100 := by omega
  have m1 : n1 ≤ 100 := by omega
  have hfit2 : (BitVec.ofNat 64 n1 == lo % 8#64) = false := hfit
  have hfa : Fr No w ((w.alloc (.cells #[.int .u64 (W64 kh), .int .u64 (W64 kl)] 24)).alloc (.cells #[.int .u64 (W64 x0), .int .u64 (W64 x1), .int .u64 (W64 x2), .int .u64 (W64 x3)] 38)) := ((Fr.refl No w).alloc _).alloc _
  have hK : Row2 ((w.alloc (.cells #[.int .u64 (W64 kh), .int .u64 (W64 kl)] 24)).alloc (.cells #[.int .u64 (W64 x0), .int .u64 (W64 x1), .int .u64 (W64 x2), .int .u64 (W64 x3)] 38)) w.heap.size 24 (.int .u64 (W64 kh)) (.int .u64 (W64 kl)) := (row2_new w 24 _ _).no ((Fr.refl No _).alloc _)
  have hB : Row4 ((w.alloc (.cells #[.int .u64 (W64 kh), .int .u64 (W64 kl)] 24)).alloc (.cells #[.int .u64 (W64 x0), .int .u64 (W64 x1), .int .u64 (W64 x2), .int .u64 (W64 x3)] 38)) (w.heap.size + 1) 38 (.int .u64 (W64 x0)) (.int .u64 (W64 x1)) (.int .u64 (W64 x2)) (.int .u64 (W64 x3)) := heap_alloc2_new w _ _
  go_enter Try.func6, Try.ntmps6
  go_wp2_with fail
  generalize w.heap.size = pb at hK hB ⊢
  generalize ((w.alloc (.cells #[.int .u64 (W64 kh), .int .u64 (W64 kl)] 24)).alloc (.cells #[.int .u64 (W64 x0), .int .u64 (W64 x1), .int .u64 (W64 x2), .int .u64 (W64 x3)] 38)) = wa at hfa hK hB ⊢
  refine (awake_yes _).mono ?_
  rintro e w1 ⟨rfl, hf1⟩
  replace hb1 := hb1.no hfa
  go_wp2_with fail
  refine (refIs_yes kd hk _).mono ?_
  rintro e w' ⟨rfl, rfl⟩
  have u0 := (hK.no hf1).c0
  have u1 := (hK.no hf1).c1
  go_wp2_with fail
  refine (New_all kd kh kl hk wa w1 hf1).mono ?_
  rintro e w2 ⟨hb, sb, rfl, _, _, hL2, hf2⟩
  clear u0 u1 hf1 hf2
  have u0 := (hK.no hL2.fr).c0
  have u1 := (hK.no hL2.fr).c1
  have y0 := (hB.no hL2.fr).c0
  have y1 := (hB.no hL2.fr).c1
  have y2 := (hB.no hL2.fr).c2
  have y3 := (hB.no hL2.fr).c3
  go_wp2_with fail
  refine (refRight_yes x0 x1 x2 x3 _ trivial).mono ?_
  rintro e w3 ⟨rfl, hf3⟩
  have hL3 := hL2.no hf3
  clear u0 u1 y0 y1 y2 y3 hL2 hf3
  have u0 := (hK.no hL3.fr).c0
  have u1 := (hK.no hL3.fr).c1
  have y0 := (hB.no hL3.fr).c0
  have y1 := (hB.no hL3.fr).c1
  have y2 := (hB.no hL3.fr).c2
  have y3 := (hB.no hL3.fr).c3
  go_wp2_with fail
  obtain ⟨q, hL3⟩ := hL3
  refine (Set_unfit hL3 x0 x1 x2 x3 _ rfl lo _ n1 c1 trivial hfit).mono ?_
  rintro e w5 ⟨rfl, hf5⟩
  have hL5 : HAll wa w5 hb sb kd kh kl [] (.slice none 0 0) := ⟨q, hL3.no hf5⟩
  clear u0 u1 y0 y1 y2 y3 hL3
  have hK5 := hK.no hL5.fr
  have hB5 := hB.no hL5.fr
  go_upto_region 9 with fail
  refine wp_region_seq (by kernel_rfl) (fun w' => Fr No w5 w') (fun _ => false) [(0, 1), (1, 1), (2, 1), (3, 1), (5, 1), (6, 1), (4, 0), (7, 0), (8, 1), (9, 1), (10, 1), (11, 1), (12, 1), (13, 1), (15, 1), (16, 1), (17, 1), (18, 1), (19, 1), (14, 0), (20, 0), (21, 1), (22, 1), (23, 1)] (by kernel_rfl) (Fr.refl No w5).drew ?_
  have hv0 : Fr No w5 w5.drew := (Fr.refl No w5).drew
  refine wpSeq_take (v := ?_) 51 rfl rfl (fun _ _ _ h => h) (Or.inl ⟨rfl, ?_⟩) ?_
  rotate_left 1
  · (intro w9 h9; go_simp; try with_reducible rfl)
  simp only [List.setIfInBounds_toArray, List.set_cons_zero, List.set_cons_succ]
  refine wpSeq_take (v := ?_) 52 rfl rfl (fun _ _ _ h => h) (Or.inl ⟨rfl, ?_⟩) ?_
  rotate_left 1
  · (intro w9 h9; go_simp; try with_reducible rfl)
  simp only [List.setIfInBounds_toArray, List.set_cons_zero, List.set_cons_succ]
  refine wpSeq_take (v := ?_) 53 rfl rfl (fun _ _ _ h => h) (Or.inl ⟨rfl, ?_⟩) ?_
  rotate_left 1
  · (intro w9 h9; go_simp; try with_reducible rfl)
  simp only [List.setIfInBounds_toArray, List.set_cons_zero, List.set_cons_succ]
  refine wpSeq_take (v := ?_) 54 rfl rfl (fun _ _ _ h => h) (Or.inl ⟨rfl, ?_⟩) ?_
  rotate_left 1
  · (intro w9 h9; go_simp; try with_reducible rfl)
  simp only [List.setIfInBounds_toArray, List.set_cons_zero, List.set_cons_succ]
  refine wpSeq_take (v := ?_) 56 rfl rfl (fun _ _ _ h => h) (Or.inl ⟨rfl, ?_⟩) ?_
  rotate_left 1
  · (intro w9 h9; go_simp; try with_reducible rfl)
  simp only [List.setIfInBounds_toArray, List.set_cons_zero, List.set_cons_succ]
  refine wpSeq_take (v := ?_) 57 rfl rfl (fun _ _ _ h => h) (Or.inl ⟨rfl, ?_⟩) ?_
  rotate_left 1
  · (intro w9 h9; have u0 := (hK5.no h9).c0; have u1 := (hK5.no h9).c1; have y0 := (hB5.no h9).c0; have y1 := (hB5.no h9).c1; have y2 := (hB5.no h9).c2; have y3 := (hB5.no h9).c3; clear h9; go_simp; try with_reducible rfl)
  simp only [List.setIfInBounds_toArray, List.set_cons_zero, List.set_cons_succ]
  refine wpSeq_next rfl rfl (fun K hK => ?_)
  go_wp2_with fail
  refine (Sum_all (hL5.no hv0)).mono ?_
  rintro e xhv1 ⟨rfl, hx⟩
  rw [← hfg.out.1, ← hfg.out.2.1]
  have hv1 := hv0.no hx
  clear hx
  refine hK.out _ _ (fun _ => hv1) ?_
  clear hK K
  refine wpSeq_next rfl rfl (fun K hK => ?_)
  go_wp2_with fail
  refine (refOne_any kd kh kl none 0 0 [] _ (IsBytes.nil _) (by omega)).mono ?_
  rintro e xhv2 ⟨rfl, hx⟩
  rw [← hfg.out.1, ← hfg.out.2.1]
  have hv2 := hv1.no hx
  clear hx
  refine hK.out _ _ (fun _ => hv2) ?_
  clear hK K
  refine wpSeq_take (v := ?_) 59 rfl rfl (fun _ _ _ h => h) (Or.inl ⟨rfl, ?_⟩) ?_
  rotate_left 1
  · (intro w9 h9; go_simp; try with_reducible rfl)
  simp only [List.setIfInBounds_toArray, List.set_cons_zero, List.set_cons_succ]
  refine wpSeq_take (v := ?_) 60 rfl rfl (fun _ _ _ h => h) (Or.inl ⟨rfl, ?_⟩) ?_
  rotate_left 1
  · (intro w9 h9; go_simp; try with_reducible rfl)
  simp only [List.setIfInBounds_toArray, List.set_cons_zero, List.set_cons_succ]
  refine wpSeq_take (v := ?_) 61 rfl rfl (fun _ _ _ h => h) (Or.inl ⟨rfl, ?_⟩) ?_
  rotate_left 1
  · (intro w9 h9; go_simp; try with_reducible rfl)
  simp only [List.setIfInBounds_toArray, List.set_cons_zero, List.set_cons_succ]
  refine wpSeq_take (v := ?_) 62 rfl rfl (fun _ _ _ h => h) (Or.inl ⟨rfl, ?_⟩) ?_
  rotate_left 1
  · (intro w9 h9; go_simp; try with_reducible rfl)
  simp only [List.setIfInBounds_toArray, List.set_cons_zero, List.set_cons_succ]
  refine wpSeq_take (v := ?_) 63 rfl rfl (fun _ _ _ h => h) (Or.inl ⟨rfl, ?_⟩) ?_
  rotate_left 1
  · (intro w9 h9; go_simp; try with_reducible rfl)
  simp only [List.setIfInBounds_toArray, List.set_cons_zero, List.set_cons_succ]
  refine wpSeq_take (v := undef) 64 rfl rfl (fun _ _ _ h => h) (Or.inr ⟨rfl, rfl⟩) ?_
  simp only [List.setIfInBounds_toArray, List.set_cons_zero, List.set_cons_succ]
  refine wpSeq_take (v := undef) 66 rfl rfl (fun _ _ _ h => h) (Or.inr ⟨rfl, rfl⟩) ?_
  simp only [List.setIfInBounds_toArray, List.set_cons_zero, List.set_cons_succ]
  refine wpSeq_take (v := undef) 67 rfl rfl (fun _ _ _ h => h) (Or.inr ⟨rfl, rfl⟩) ?_
  simp only [List.setIfInBounds_toArray, List.set_cons_zero, List.set_cons_succ]
  refine wpSeq_take (v := undef) 68 rfl rfl (fun _ _ _ h => h) (Or.inr ⟨rfl, rfl⟩) ?_
  simp only [List.setIfInBounds_toArray, List.set_cons_zero, List.set_cons_succ]
  refine wpSeq_take (v := undef) 69 rfl rfl (fun _ _ _ h => h) (Or.inr ⟨rfl, rfl⟩) ?_
  simp only [List.setIfInBounds_toArray, List.set_cons_zero, List.set_cons_succ]
  refine wpSeq_take (v := undef) 70 rfl rfl (fun _ _ _ h => h) (Or.inr ⟨rfl, rfl⟩) ?_
  simp only [List.setIfInBounds_toArray, List.set_cons_zero, List.set_cons_succ]
  refine wpSeq_not 65 rfl rfl rfl (fun _ => hv2) ?_
  simp only [List.setIfInBounds_toArray, List.set_cons_zero, List.set_cons_succ]
  refine wpSeq_not 71 rfl rfl rfl (fun _ => hv2) ?_
  simp only [List.setIfInBounds_toArray, List.set_cons_zero, List.set_cons_succ]
  refine wpSeq_take (v := undef) 72 rfl rfl (fun _ _ _ h => h) (Or.inr ⟨rfl, rfl⟩) ?_
  simp only [List.setIfInBounds_toArray, List.set_cons_zero, List.set_cons_succ]
  refine wpSeq_take (v := ?_) 73 rfl rfl (fun _ _ _ h => h) (Or.inl ⟨rfl, ?_⟩) ?_
  rotate_left 1
  · (intro w9 h9; go_simp; try with_reducible rfl)
  simp only [List.setIfInBounds_toArray, List.set_cons_zero, List.set_cons_succ]
  refine wpSeq_take (v := ?_) 74 rfl rfl (fun _ _ _ h => h) (Or.inl ⟨rfl, ?_⟩) ?_
  rotate_left 1
  · (intro w9 h9; go_simp; try with_reducible rfl)
  simp only [List.setIfInBounds_toArray, List.set_cons_zero, List.set_cons_succ]
  refine wpSeq_done ?_
  have hfz := hfa.no (hL5.fr.no hv2)
  clear hL5 hK5 hB5 hv0
  go_wp2_with fail
  refine (Write_nil _ _ _ _).mono ?_
  rintro e w' ⟨rfl, rfl⟩
  go_wp2_with fail
  refine (Reset_nil _).mono ?_
  rintro e w' ⟨rfl, rfl⟩
  go_wp2_with fail
  refine (Lanes_nil _).mono ?_
  rintro e w8 ⟨rfl, hf8⟩
  have hZ8 := row4_new w8 38 (.int .u64 0) (.int .u64 0) (.int .u64 0) (.int .u64 0)
  have hF8 := (hfz.no hf8).alloc (.cells #[.int .u64 0, .int .u64 0, .int .u64 0, .int .u64 0] 38)
  go_wp2_with fail
  generalize w8.heap.size = zb at hZ8 ⊢
  generalize w8.alloc (.cells #[.int .u64 0, .int .u64 0, .int .u64 0, .int .u64 0] 38) = w9 at hZ8 hF8 ⊢
  refine (Sum_nil _).mono ?_
  rintro e w10 ⟨rfl, hf10⟩
  have hZ10 := hZ8.no hf10
  have hF10 := hF8.no hf10
  have z0 := hZ10.c0
  have z1 := hZ10.c1
  have z2 := hZ10.c2
  have z3 := hZ10.c3
  go_wp2_with fail
  refine (Clone_nil _).mono ?_
  rintro e w' ⟨rfl, rfl⟩
  go_wp2_with fail
  refine (Set_nil 0#64 0#64 0#64 0#64 _ rfl 0#64 none 0 0 _).mono ?_
  rintro e w12 ⟨rfl, hf12⟩
  go_wp2_with fail
  go_ret
  exact ⟨rfl, hF10.no hf12⟩
set_option maxHeartbeats 4000000 in
set_option maxRecDepth 4096 in
theorem SipSets_right (kd : Int) (kh kl : BitVec 64) (x0 x1 x2 x3 lo : BitVec 64) (a1 : Option Addr) (n1 c1 : Nat) (l1 : Bytes) (w : World) (hk : IsK kd) (hb1 : IsBytes w a1 n1 c1 l1) (hm : n1 ≤ 100) (hfit : fitsB n1 lo 8 = true) : Calls Try.prog 6 #[.int .i64 kd, .agg #[.int .u64 (W64 kh), .int .u64 (W64 kl)], .agg #[.int .u64 (W64 x0), .int .u64 (W64 x1), .int .u64 (W64 x2), .int .u64 (W64 x3)], .int .u64 (W64 lo), .slice a1 n1 c1] w (Yes w) := by
  obtain ⟨oh, ol, eh, el, hfg⟩ := tells_ex
  have i1 : (n1 : Int) ≤ 100 := by omega
  have m1 : n1 ≤ 100 := by omega
  have hfit2 : (BitVec.ofNat 64 n1 == lo % 8#64) = true := hfit
  have hfa : Fr No w ((w.alloc (.cells #[.int .u64 (W64 kh), .int .u64 (W64 kl)] 24)).alloc (.cells #[.int .u64 (W64 x0), .int .u64 (W64 x1), .int .u64 (W64 x2), .int .u64 (W64 x3)] 38)) := ((Fr.refl No w).alloc _).alloc _
  have hK : Row2 ((w.alloc (.cells #[.int .u64 (W64 kh), .int .u64 (W64 kl)] 24)).alloc (.cells #[.int .u64 (W64 x0), .int .u64 (W64 x1), .int .u64 (W64 x2), .int .u64 (W64 x3)] 38)) w.heap.size 24 (.int .u64 (W64 kh)) (.int .u64 (W64 kl)) := (row2_new w 24 _ _).no ((Fr.refl No _).alloc _)
  have hB : Row4 ((w.alloc (.cells #[.int .u64 (W64 kh), .int .u64 (W64 kl)] 24)).alloc (.cells #[.int .u64 (W64 x0), .int .u64 (W64 x1), .int .u64 (W64 x2), .int .u64 (W64 x3)] 38)) (w.heap.size + 1) 38 (.int .u64 (W64 x0)) (.int .u64 (W64 x1)) (.int .u64 (W64 x2)) (.int .u64 (W64 x3)) := heap_alloc2_new w _ _
  go_enter Try.func6, Try.ntmps6
  go_wp2_with fail
  generalize w.heap.size = pb at hK hB ⊢
  generalize ((w.alloc (.cells #[.int .u64 (W64 kh), .int .u64 (W64 kl)] 24)).alloc (.cells #[.int .u64 (W64 x0), .int .u64 (W64 x1), .int .u64 (W64 x2), .int .u64 (W64 x3)] 38)) = wa at hfa hK hB ⊢
  refine (awake_yes _).mono ?_
  rintro e w1 ⟨rfl, hf1⟩
  replace hb1 := hb1.no hfa
  go_wp2_with fail
  refine (refIs_yes kd hk _).mono ?_
  rintro e w' ⟨rfl, rfl⟩
  have u0 := (hK.no hf1).c0
  have u1 := (hK.no hf1).c1
  go_wp2_with fail
  refine (New_all kd kh kl hk wa w1 hf1).mono ?_
  rintro e w2 ⟨hb, sb, rfl, _, _, hL2, hf2⟩
  clear u0 u1 hf1 hf2
  have u0 := (hK.no hL2.fr).c0
  have u1 := (hK.no hL2.fr).c1
  have y0 := (hB.no hL2.fr).c0
  have y1 := (hB.no hL2.fr).c1
  have y2 := (hB.no hL2.fr).c2
  have y3 := (hB.no hL2.fr).c3
  go_wp2_with fail
  refine (refRight_yes x0 x1 x2 x3 _ trivial).mono ?_
  rintro e w3 ⟨rfl, hf3⟩
  have hL3 := hL2.no hf3
  clear u0 u1 y0 y1 y2 y3 hL2 hf3
  have u0 := (hK.no hL3.fr).c0
  have u1 := (hK.no hL3.fr).c1
  have y0 := (hB.no hL3.fr).c0
  have y1 := (hB.no hL3.fr).c1
  have y2 := (hB.no hL3.fr).c2
  have y3 := (hB.no hL3.fr).c3
  go_wp2_with fail
  obtain ⟨q, hL3⟩ := hL3
  refine (Set_right hL3 x0 x1 x2 x3 _ rfl lo _ n1 c1 trivial hfit l1 (hb1.no hL3.fr) (by omega)).mono ?_
  rintro e w5 ⟨tv5, rfl, hL5, hf5, _⟩
  clear u0 u1 y0 y1 y2 y3 hL3
  have hK5 := hK.no hL5.fr
  have hB5 := hB.no hL5.fr
  have hy5 := hb1.no hL5.fr
  go_upto_region 9 with fail
  refine wp_region_seq (by kernel_rfl) (fun w' => Fr No w5 w') (fun _ => false) [(0, 1), (1, 1), (2, 1), (3, 1), (5, 1), (6, 1), (4, 0), (7, 0), (8, 1), (9, 1), (10, 1), (11, 1), (12, 1), (13, 1), (15, 1), (16, 1), (17, 1), (18, 1), (19, 1), (14, 0), (20, 0), (21, 1), (22, 1), (23, 1)] (by kernel_rfl) (Fr.refl No w5).drew ?_
  have hv0 : Fr No w5 w5.drew := (Fr.refl No w5).drew
  refine wpSeq_take (v := ?_) 51 rfl rfl (fun _ _ _ h => h) (Or.inl ⟨rfl, ?_⟩) ?_
  rotate_left 1
  · (intro w9 h9; go_simp; try with_reducible rfl)
  simp only [List.setIfInBounds_toArray, List.set_cons_zero, List.set_cons_succ]
  refine wpSeq_take (v := ?_) 52 rfl rfl (fun _ _ _ h => h) (Or.inl ⟨rfl, ?_⟩) ?_
  rotate_left 1
  · (intro w9 h9; go_simp; try with_reducible rfl)
  simp only [List.setIfInBounds_toArray, List.set_cons_zero, List.set_cons_succ]
  refine wpSeq_take (v := ?_) 53 rfl rfl (fun _ _ _ h => h) (Or.inl ⟨rfl, ?_⟩) ?_
  rotate_left 1
  · (intro w9 h9; go_simp; try with_reducible rfl)
  simp only [List.setIfInBounds_toArray, List.set_cons_zero, List.set_cons_succ]
  refine wpSeq_take (v := undef) 54 rfl rfl (fun _ _ _ h => h) (Or.inr ⟨rfl, rfl⟩) ?_
  simp only [List.setIfInBounds_toArray, List.set_cons_zero, List.set_cons_succ]
  refine wpSeq_take (v := undef) 56 rfl rfl (fun _ _ _ h => h) (Or.inr ⟨rfl, rfl⟩) ?_
  simp only [List.setIfInBounds_toArray, List.set_cons_zero, List.set_cons_succ]
  refine wpSeq_take (v := undef) 57 rfl rfl (fun _ _ _ h => h) (Or.inr ⟨rfl, rfl⟩) ?_
  simp only [List.setIfInBounds_toArray, List.set_cons_zero, List.set_cons_succ]
  refine wpSeq_not 55 rfl rfl rfl (fun _ => hv0) ?_
  simp only [List.setIfInBounds_toArray, List.set_cons_zero, List.set_cons_succ]
  refine wpSeq_not 58 rfl rfl rfl (fun _ => hv0) ?_
  simp only [List.setIfInBounds_toArray, List.set_cons_zero, List.set_cons_succ]
  refine wpSeq_take (v := undef) 59 rfl rfl (fun _ _ _ h => h) (Or.inr ⟨rfl, rfl⟩) ?_
  simp only [List.setIfInBounds_toArray, List.set_cons_zero, List.set_cons_succ]
  refine wpSeq_take (v := ?_) 60 rfl rfl (fun _ _ _ h => h) (Or.inl ⟨rfl, ?_⟩) ?_
  rotate_left 1
  · (intro w9 h9; go_simp; try with_reducible rfl)
  simp only [List.setIfInBounds_toArray, List.set_cons_zero, List.set_cons_succ]
  refine wpSeq_take (v := ?_) 61 rfl rfl (fun _ _ _ h => h) (Or.inl ⟨rfl, ?_⟩) ?_
  rotate_left 1
  · (intro w9 h9; go_simp; try with_reducible rfl)
  simp only [List.setIfInBounds_toArray, List.set_cons_zero, List.set_cons_succ]
  refine wpSeq_take (v := ?_) 62 rfl rfl (fun _ _ _ h => h) (Or.inl ⟨rfl, ?_⟩) ?_
  rotate_left 1
  · (intro w9 h9; go_simp; try with_reducible rfl)
  simp only [List.setIfInBounds_toArray, List.set_cons_zero, List.set_cons_succ]
  refine wpSeq_take (v := ?_) 63 rfl rfl (fun _ _ _ h => h) (Or.inl ⟨rfl, ?_⟩) ?_
  rotate_left 1
  · (intro w9 h9; go_simp; try with_reducible rfl)
  simp only [List.setIfInBounds_toArray, List.set_cons_zero, List.set_cons_succ]
  refine wpSeq_take (v := ?_) 64 rfl rfl (fun _ _ _ h => h) (Or.inl ⟨rfl, ?_⟩) ?_
  rotate_left 1
  · (intro w9 h9; go_simp; try with_reducible rfl)
  simp only [List.setIfInBounds_toArray, List.set_cons_zero, List.set_cons_succ]
  refine wpSeq_take (v := ?_) 66 rfl rfl (fun _ _ _ h => h) (Or.inl ⟨rfl, ?_⟩) ?_
  rotate_left 1
  · (intro w9 h9; go_simp; try with_reducible rfl)
  simp only [List.setIfInBounds_toArray, List.set_cons_zero, List.set_cons_succ]
  refine wpSeq_take (v := ?_) 67 rfl rfl (fun _ _ _ h => h) (Or.inl ⟨rfl, ?_⟩) ?_
  rotate_left 1
  · (intro w9 h9; have u0 := (hK5.no h9).c0; have u1 := (hK5.no h9).c1; have y0 := (hB5.no h9).c0; have y1 := (hB5.no h9).c1; have y2 := (hB5.no h9).c2; have y3 := (hB5.no h9).c3; clear h9; go_simp; try with_reducible rfl)
  simp only [List.setIfInBounds_toArray, List.set_cons_zero, List.set_cons_succ]
  refine wpSeq_take (v := ?_) 68 rfl rfl (fun _ _ _ h => h) (Or.inl ⟨rfl, ?_⟩) ?_
  rotate_left 1
  · (intro w9 h9; have u0 := (hK5.no h9).c0; have u1 := (hK5.no h9).c1; have y0 := (hB5.no h9).c0; have y1 := (hB5.no h9).c1; have y2 := (hB5.no h9).c2; have y3 := (hB5.no h9).c3; clear h9; go_simp; try with_reducible rfl)
  simp only [List.setIfInBounds_toArray, List.set_cons_zero, List.set_cons_succ]
  refine wpSeq_take (v := ?_) 69 rfl rfl (fun _ _ _ h => h) (Or.inl ⟨rfl, ?_⟩) ?_
  rotate_left 1
  · (intro w9 h9; go_simp; try with_reducible rfl)
  simp only [List.setIfInBounds_toArray, List.set_cons_zero, List.set_cons_succ]
  refine wpSeq_take (v := ?_) 70 rfl rfl (fun _ _ _ h => h) (Or.inl ⟨rfl, ?_⟩) ?_
  rotate_left 1
  · (intro w9 h9; go_simp; try with_reducible rfl)
  simp only [List.setIfInBounds_toArray, List.set_cons_zero, List.set_cons_succ]
  refine wpSeq_next rfl rfl (fun K hK => ?_)
  go_wp2_with fail
  refine (Sum_h (hL5.no hv0)).mono ?_
  rintro e xhv1 ⟨rfl, hx⟩
  rw [← hfg.out.2.2.1, ← hfg.out.2.2.2]
  have hv1 := hv0.no hx
  clear hx
  refine hK.out _ _ (fun _ => hv1) ?_
  clear hK K
  refine wpSeq_next rfl rfl (fun K hK => ?_)
  go_wp2_with fail
  refine (refEnd_any kd hk kh kl (stateF x0 x1 x2 x3) _ _ _ l1 _ _ (hy5.no hv1) hL5.tlen).mono ?_
  rintro e xhv2 ⟨rfl, hx⟩
  rw [← hfg.out.2.2.1, ← hfg.out.2.2.2]
  have hv2 := hv1.no hx
  clear hx
  refine hK.out _ _ (fun _ => hv2) ?_
  clear hK K
  refine wpSeq_take (v := ?_) 72 rfl rfl (fun _ _ _ h => h) (Or.inl ⟨rfl, ?_⟩) ?_
  rotate_left 1
  · (intro w9 h9; go_simp; try with_reducible rfl)
  simp only [List.setIfInBounds_toArray, List.set_cons_zero, List.set_cons_succ]
  refine wpSeq_take (v := ?_) 73 rfl rfl (fun _ _ _ h => h) (Or.inl ⟨rfl, ?_⟩) ?_
  rotate_left 1
  · (intro w9 h9; go_simp; try with_reducible rfl)
  simp only [List.setIfInBounds_toArray, List.set_cons_zero, List.set_cons_succ]
  refine wpSeq_take (v := ?_) 74 rfl rfl (fun _ _ _ h => h) (Or.inl ⟨rfl, ?_⟩) ?_
  rotate_left 1
  · (intro w9 h9; go_simp; try with_reducible rfl)
  simp only [List.setIfInBounds_toArray, List.set_cons_zero, List.set_cons_succ]
  refine wpSeq_done ?_
  have hfz := hfa.no (hL5.fr.no hv2)
  clear hL5 hK5 hB5 hv0 hy5
  go_wp2_with fail
  refine (Write_nil _ _ _ _).mono ?_
  rintro e w' ⟨rfl, rfl⟩
  go_wp2_with fail
  refine (Reset_nil _).mono ?_
  rintro e w' ⟨rfl, rfl⟩
  go_wp2_with fail
  refine (Lanes_nil _).mono ?_
  rintro e w8 ⟨rfl, hf8⟩
  have hZ8 := row4_new w8 38 (.int .u64 0) (.int .u64 0) (.int .u64 0) (.int .u64 0)
  have hF8 := (hfz.no hf8).alloc (.cells #[.int .u64 0, .int .u64 0, .int .u64 0, .int .u64 0] 38)
  go_wp2_with fail
  generalize w8.heap.size = zb at hZ8 ⊢
  generalize w8.alloc (.cells #[.int .u64 0, .int .u64 0, .int .u64 0, .int .u64 0] 38) = w9 at hZ8 hF8 ⊢
  refine (Sum_nil _).mono ?_
  rintro e w10 ⟨rfl, hf10⟩
  have hZ10 := hZ8.no hf10
  have hF10 := hF8.no hf10
  have z0 := hZ10.c0
  have z1 := hZ10.c1
  have z2 := hZ10.c2
  have z3 := hZ10.c3
  go_wp2_with fail
  refine (Clone_nil _).mono ?_
  rintro e w' ⟨rfl, rfl⟩
  go_wp2_with fail
  refine (Set_nil 0#64 0#64 0#64 0#64 _ rfl 0#64 none 0 0 _).mono ?_
  rintro e w12 ⟨rfl, hf12⟩
  go_wp2_with fail
  go_ret
  exact ⟨rfl, hF10.no hf12⟩
theorem SipSets_yes (kd : Int) (kh kl : BitVec 64) (x0 x1 x2 x3 lo : BitVec 64) (a1 : Option Addr) (n1 c1 : Nat) (l1 : Bytes) (w : World) (hb1 : IsBytes w a1 n1 c1 l1) : Calls Try.prog 6 #[.int .i64 kd, .agg #[.int .u64 (W64 kh), .int .u64 (W64 kl)], .agg #[.int .u64 (W64 x0), .int .u64 (W64 x1), .int .u64 (W64 x2), .int .u64 (W64 x3)], .int .u64 (W64 lo), .slice a1 n1 c1] w (Yes w) := by
  by_cases hbig : 100 < n1 ∨ ¬ IsK kd
  · exact SipSets_long kd kh kl x0 x1 x2 x3 lo a1 n1 c1 l1 w hbig
  have hk : IsK kd := by by_cases h : IsK kd; exact h; exact absurd (.inr h) hbig
  cases hfit : fitsB n1 lo 8 with
  | false => exact SipSets_unfit kd kh kl x0 x1 x2 x3 lo a1 n1 c1 l1 w hk hb1 (by omega) hfit
  | true => exact SipSets_right kd kh kl x0 x1 x2 x3 lo a1 n1 c1 l1 w hk hb1 (by omega) hfit
end Go.Proofs.Ytcbbllfgelnpjaa.StSip
