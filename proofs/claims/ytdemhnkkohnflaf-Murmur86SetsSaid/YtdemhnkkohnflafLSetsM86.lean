/- Murmur86Sets' walk. -/
import Derived.Test.YtdemhnkkohnflafAllM86
namespace Go.Proofs.Ytdemhnkkohnflaf.StM86
set_option linter.unusedVariables false
set_option linter.unusedSimpArgs false
open Go.RowKit
theorem lt_back (x : BitVec 64) : (x.setWidth 32).setWidth 64 = x ↔ W64 x < 4294967296 := by
  unfold W64
  constructor
  · intro h
    rw [← h]
    have := (x.setWidth 32).isLt
    rw [BitVec.toNat_setWidth]
    omega
  · intro h
    apply BitVec.eq_of_toNat_eq
    simp only [BitVec.toNat_setWidth]
    omega
theorem refRight_yes (x0 x1 x2 x3 : BitVec 64) (w : World) (hw : RightP x0 x1 x2 x3) : Calls Try.prog 21 #[.agg #[.int .u64 (W64 x0), .int .u64 (W64 x1), .int .u64 (W64 x2), .int .u64 (W64 x3)]] w (GivesNew (.bool true) w) := by
  obtain ⟨h0, h1, h2, h3⟩ := hw
  rw [lt_back] at h0 h1 h2 h3
  go_enter Try.func21, Try.ntmps21
  go_wp2
  go_ret
  exact ⟨rfl, (Fr.refl No w).alloc _⟩
theorem refRight_no (x0 x1 x2 x3 : BitVec 64) (w : World) (hw : ¬ RightP x0 x1 x2 x3) : Calls Try.prog 21 #[.agg #[.int .u64 (W64 x0), .int .u64 (W64 x1), .int .u64 (W64 x2), .int .u64 (W64 x3)]] w (GivesNew (.bool false) w) := by
  unfold RightP at hw
  rw [lt_back, lt_back, lt_back, lt_back] at hw
  by_cases h0 : W64 x0 < 4294967296
  · by_cases h1 : W64 x1 < 4294967296
    · by_cases h2 : W64 x2 < 4294967296
      · have h3 : ¬ W64 x3 < 4294967296 := fun h3 => hw ⟨h0, h1, h2, h3⟩
        clear hw
        go_enter Try.func21, Try.ntmps21
        go_wp2
        go_ret
        exact ⟨rfl, (Fr.refl No w).alloc _⟩
      · clear hw
        go_enter Try.func21, Try.ntmps21
        go_wp2
        go_ret
        exact ⟨rfl, (Fr.refl No w).alloc _⟩
    · clear hw
      go_enter Try.func21, Try.ntmps21
      go_wp2
      go_ret
      exact ⟨rfl, (Fr.refl No w).alloc _⟩
  · clear hw
    go_enter Try.func21, Try.ntmps21
    go_wp2
    go_ret
    exact ⟨rfl, (Fr.refl No w).alloc _⟩

set_option maxHeartbeats 400000 in
theorem Murmur86Sets_long (sd : BitVec 32) (x0 x1 x2 x3 lo : BitVec 64) (a1 : Option Addr) (n1 c1 : Nat) (l1 : Bytes) (w : World) (h : 100 < n1) : Calls Try.prog 6 #[.int .u32 (W32 sd), .agg #[.int .u64 (W64 x0), .int .u64 (W64 x1), .int .u64 (W64 x2), .int .u64 (W64 x3)], .int .u64 (W64 lo), .slice a1 n1 c1] w (Yes w) := by
  have i1 : (100 : Int) < (n1 : Int) := by omega
  have hF0 : Fr No w (w.alloc (.cells #[.int .u64 (W64 x0), .int .u64 (W64 x1), .int .u64 (W64 x2), .int .u64 (W64 x3)] 38)) := (Fr.refl No w).alloc _
  clear h
  go_enter Try.func6, Try.ntmps6
  go_wp2_with (go_at_call 7; refine (awake_yes _).mono ?_; rintro e w1 ⟨rfl, hf1⟩)
  go_ret
  exact ⟨rfl, hF0.no hf1⟩
set_option maxHeartbeats 2000000 in
theorem Murmur86Sets_wrong (sd : BitVec 32) (x0 x1 x2 x3 lo : BitVec 64) (a1 : Option Addr) (n1 c1 : Nat) (l1 : Bytes) (w : World) (hb1 : IsBytes w a1 n1 c1 l1) (hm : n1 ≤ 100) (hw : ¬ RightP x0 x1 x2 x3) : Calls Try.prog 6 #[.int .u32 (W32 sd), .agg #[.int .u64 (W64 x0), .int .u64 (W64 x1), .int .u64 (W64 x2), .int .u64 (W64 x3)], .int .u64 (W64 lo), .slice a1 n1 c1] w (Yes w) := by
  obtain ⟨oh, ol, eh, el, hfg⟩ := tells_ex
  have i1 : (n1 : Int) ≤ 100 := by omega
  have m1 : n1 ≤ 100 := by omega
  go_enter Try.func6, Try.ntmps6
  go_wp2_with fail
  have hR0 := row4_new w 38 (.int .u64 (W64 x0)) (.int .u64 (W64 x1)) (.int .u64 (W64 x2)) (.int .u64 (W64 x3))
  have hF0 : Fr No w (w.alloc (.cells #[.int .u64 (W64 x0), .int .u64 (W64 x1), .int .u64 (W64 x2), .int .u64 (W64 x3)] 38)) := (Fr.refl No w).alloc _
  generalize w.heap.size = pb at hR0 ⊢
  generalize w.alloc (.cells #[.int .u64 (W64 x0), .int .u64 (W64 x1), .int .u64 (W64 x2), .int .u64 (W64 x3)] 38) = wA at hR0 hF0 ⊢
  refine (awake_yes _).mono ?_
  rintro e w1 ⟨rfl, hf1⟩
  have hR1 := hR0.no hf1
  have hF1 := hF0.no hf1
  clear hR0 hF0 hf1
  go_wp2_with fail
  refine (New_all sd w w1 hF1).mono ?_
  rintro e w2 ⟨hb, sb, rfl, hg1, hg2, hL2, hf2⟩
  have hR2 := hR1.no hf2
  have hps : pb ≠ sb := by have := hR1.lt; omega
  have y0 := hR2.c0
  have y1 := hR2.c1
  have y2 := hR2.c2
  have y3 := hR2.c3
  clear hR1 hf2 hg1 hg2
  go_wp2_with fail
  refine (refRight_no x0 x1 x2 x3 _ hw).mono ?_
  rintro e w3 ⟨rfl, hf3⟩
  have hL3 := hL2.no hf3
  have hR3 := hR2.no hf3
  clear hL2 hR2 hf3 y0 y1 y2 y3
  have y0 := hR3.c0
  have y1 := hR3.c1
  have y2 := hR3.c2
  have y3 := hR3.c3
  go_wp2_with fail
  refine (Set_wrong hL3 x0 x1 x2 x3 _ rfl lo _ n1 c1 hw).mono ?_
  rintro e w5 ⟨rfl, hf5⟩
  have hL5 := hL3.no hf5
  have hR5 := hR3.no hf5
  clear hL3 hR3 hf5 y0 y1 y2 y3
  have y0 := hR5.c0
  have y1 := hR5.c1
  have y2 := hR5.c2
  have y3 := hR5.c3
  go_wp2_with fail
  refine wp_region_seq (by kernel_rfl) (fun w' => Fr No w5 w') (fun _ => false) [(0, 1), (1, 1), (2, 1), (3, 1), (5, 1), (4, 0), (6, 0), (7, 1), (8, 1), (9, 1), (10, 1), (11, 1), (12, 1), (14, 1), (15, 1), (16, 1), (17, 1), (13, 0), (18, 0), (19, 1), (20, 1), (21, 1)] (by kernel_rfl) (Fr.refl No w5).drew ?_
  have hv0 : Fr No w5 w5.drew := (Fr.refl No w5).drew
  refine wpSeq_take (v := ?_) 43 rfl rfl (fun _ _ _ h => h) (Or.inl ⟨rfl, ?_⟩) ?_
  rotate_left 1
  · (intro w9 h9; go_simp; try with_reducible rfl)
  simp only [List.setIfInBounds_toArray, List.set_cons_zero, List.set_cons_succ]
  refine wpSeq_take (v := ?_) 44 rfl rfl (fun _ _ _ h => h) (Or.inl ⟨rfl, ?_⟩) ?_
  rotate_left 1
  · (intro w9 h9; go_simp; try with_reducible rfl)
  simp only [List.setIfInBounds_toArray, List.set_cons_zero, List.set_cons_succ]
  refine wpSeq_take (v := ?_) 45 rfl rfl (fun _ _ _ h => h) (Or.inl ⟨rfl, ?_⟩) ?_
  rotate_left 1
  · (intro w9 h9; go_simp; try with_reducible rfl)
  simp only [List.setIfInBounds_toArray, List.set_cons_zero, List.set_cons_succ]
  refine wpSeq_take (v := ?_) 46 rfl rfl (fun _ _ _ h => h) (Or.inl ⟨rfl, ?_⟩) ?_
  rotate_left 1
  · (intro w9 h9; go_simp; try with_reducible rfl)
  simp only [List.setIfInBounds_toArray, List.set_cons_zero, List.set_cons_succ]
  refine wpSeq_take (v := ?_) 48 rfl rfl (fun _ _ _ h => h) (Or.inl ⟨rfl, ?_⟩) ?_
  rotate_left 1
  · (intro w9 h9; go_simp; try with_reducible rfl)
  simp only [List.setIfInBounds_toArray, List.set_cons_zero, List.set_cons_succ]
  refine wpSeq_next rfl rfl (fun K hK => ?_)
  go_wp2_with fail
  refine (Sum_all (hL5.no hv0)).mono ?_
  rintro e xhv1 ⟨rfl, hx⟩
  rw [← hfg.out.1, ← hfg.out.2.1]
  have hv1 := hv0.no hx
  clear hx
  refine hK.out _ _ (fun _ => hv1) ?_
  clear hK K
  refine wpSeq_next rfl rfl (fun K hK => ?_)
  go_wp2_with fail
  refine (refOne_any sd none 0 0 [] _ (IsBytes.nil _) (by omega)).mono ?_
  rintro e xhv2 ⟨rfl, hx⟩
  rw [← hfg.out.1, ← hfg.out.2.1]
  have hv2 := hv1.no hx
  clear hx
  refine hK.out _ _ (fun _ => hv2) ?_
  clear hK K
  refine wpSeq_take (v := ?_) 50 rfl rfl (fun _ _ _ h => h) (Or.inl ⟨rfl, ?_⟩) ?_
  rotate_left 1
  · (intro w9 h9; go_simp; try with_reducible rfl)
  simp only [List.setIfInBounds_toArray, List.set_cons_zero, List.set_cons_succ]
  refine wpSeq_take (v := ?_) 51 rfl rfl (fun _ _ _ h => h) (Or.inl ⟨rfl, ?_⟩) ?_
  rotate_left 1
  · (intro w9 h9; go_simp; try with_reducible rfl)
  simp only [List.setIfInBounds_toArray, List.set_cons_zero, List.set_cons_succ]
  refine wpSeq_take (v := ?_) 52 rfl rfl (fun _ _ _ h => h) (Or.inl ⟨rfl, ?_⟩) ?_
  rotate_left 1
  · (intro w9 h9; go_simp; try with_reducible rfl)
  simp only [List.setIfInBounds_toArray, List.set_cons_zero, List.set_cons_succ]
  refine wpSeq_take (v := ?_) 53 rfl rfl (fun _ _ _ h => h) (Or.inl ⟨rfl, ?_⟩) ?_
  rotate_left 1
  · (intro w9 h9; go_simp; try with_reducible rfl)
  simp only [List.setIfInBounds_toArray, List.set_cons_zero, List.set_cons_succ]
  refine wpSeq_take (v := ?_) 54 rfl rfl (fun _ _ _ h => h) (Or.inl ⟨rfl, ?_⟩) ?_
  rotate_left 1
  · (intro w9 h9; go_simp; try with_reducible rfl)
  simp only [List.setIfInBounds_toArray, List.set_cons_zero, List.set_cons_succ]
  refine wpSeq_take (v := undef) 55 rfl rfl (fun _ _ _ h => h) (Or.inr ⟨rfl, rfl⟩) ?_
  simp only [List.setIfInBounds_toArray, List.set_cons_zero, List.set_cons_succ]
  refine wpSeq_take (v := undef) 57 rfl rfl (fun _ _ _ h => h) (Or.inr ⟨rfl, rfl⟩) ?_
  simp only [List.setIfInBounds_toArray, List.set_cons_zero, List.set_cons_succ]
  refine wpSeq_take (v := undef) 58 rfl rfl (fun _ _ _ h => h) (Or.inr ⟨rfl, rfl⟩) ?_
  simp only [List.setIfInBounds_toArray, List.set_cons_zero, List.set_cons_succ]
  refine wpSeq_take (v := undef) 59 rfl rfl (fun _ _ _ h => h) (Or.inr ⟨rfl, rfl⟩) ?_
  simp only [List.setIfInBounds_toArray, List.set_cons_zero, List.set_cons_succ]
  refine wpSeq_take (v := undef) 60 rfl rfl (fun _ _ _ h => h) (Or.inr ⟨rfl, rfl⟩) ?_
  simp only [List.setIfInBounds_toArray, List.set_cons_zero, List.set_cons_succ]
  refine wpSeq_not 56 rfl rfl rfl (fun _ => hv2) ?_
  simp only [List.setIfInBounds_toArray, List.set_cons_zero, List.set_cons_succ]
  refine wpSeq_not 61 rfl rfl rfl (fun _ => hv2) ?_
  simp only [List.setIfInBounds_toArray, List.set_cons_zero, List.set_cons_succ]
  refine wpSeq_take (v := undef) 62 rfl rfl (fun _ _ _ h => h) (Or.inr ⟨rfl, rfl⟩) ?_
  simp only [List.setIfInBounds_toArray, List.set_cons_zero, List.set_cons_succ]
  refine wpSeq_take (v := ?_) 63 rfl rfl (fun _ _ _ h => h) (Or.inl ⟨rfl, ?_⟩) ?_
  rotate_left 1
  · (intro w9 h9; go_simp; try with_reducible rfl)
  simp only [List.setIfInBounds_toArray, List.set_cons_zero, List.set_cons_succ]
  refine wpSeq_take (v := ?_) 64 rfl rfl (fun _ _ _ h => h) (Or.inl ⟨rfl, ?_⟩) ?_
  rotate_left 1
  · (intro w9 h9; go_simp; try with_reducible rfl)
  simp only [List.setIfInBounds_toArray, List.set_cons_zero, List.set_cons_succ]
  refine wpSeq_done ?_
  have hRz := hR5.no hv2
  have hfz := hL5.fr.no hv2
  clear hL5 hR5 y0 y1 y2 y3 hv0
  have hR6 := hRz
  go_wp2_with fail
  refine (Write_nil _ _ _ _).mono ?_
  rintro e w' ⟨rfl, rfl⟩
  go_wp2_with fail
  refine (Reset_nil _).mono ?_
  rintro e w' ⟨rfl, rfl⟩
  go_wp2_with fail
  refine (Lanes_nil _).mono ?_
  rintro e w8 ⟨rfl, hf8⟩
  have hZ8 := row4_new w8 38 (.int .u64 0) (.int .u64 0) (.int .u64 0) (.int .u64 0)
  have hF8 := (hfz.no hf8).alloc (.cells #[.int .u64 0, .int .u64 0, .int .u64 0, .int .u64 0] 38)
  go_wp2_with fail
  generalize w8.heap.size = zb at hZ8 ⊢
  generalize w8.alloc (.cells #[.int .u64 0, .int .u64 0, .int .u64 0, .int .u64 0] 38) = w9 at hZ8 hF8 ⊢
  refine (Sum_nil _).mono ?_
  rintro e w10 ⟨rfl, hf10⟩
  have hZ10 := hZ8.no hf10
  have hF10 := hF8.no hf10
  have z0 := hZ10.c0
  have z1 := hZ10.c1
  have z2 := hZ10.c2
  have z3 := hZ10.c3
  go_wp2_with fail
  refine (Clone_nil _).mono ?_
  rintro e w' ⟨rfl, rfl⟩
  go_wp2_with fail
  refine (Set_nil 0#64 0#64 0#64 0#64 _ rfl 0#64 none 0 0 _).mono ?_
  rintro e w12 ⟨rfl, hf12⟩
  go_wp2_with fail
  go_ret
  exact ⟨rfl, hF10.no hf12⟩
set_option maxHeartbeats 2000000 in
theorem Murmur86Sets_unfit (sd : BitVec 32) (x0 x1 x2 x3 lo : BitVec 64) (a1 : Option Addr) (n1 c1 : Nat) (l1 : Bytes) (w : World) (hb1 : IsBytes w a1 n1 c1 l1) (hm : n1 ≤ 100) (hw : RightP x0 x1 x2 x3) (hfit : fitsB n1 lo 16 = false) : Calls Try.prog 6 #[.int .u32 (W32 sd), .agg #[.int .u64 (W64 x0), .int .u64 (W64 x1), .int .u64 (W64 x2), .int .u64 (W64 x3)], .int .u64 (W64 lo), .slice a1 n1 c1] w (Yes w) := by
  obtain ⟨oh, ol, eh, el, hfg⟩ := tells_ex
  have i1 : (n1 : Int) ≤ 100 := by omega
  have m1 : n1 ≤ 100 := by omega
  have hfit2 : (BitVec.ofNat 64 n1 == lo % 16#64) = false := hfit
  go_enter Try.func6, Try.ntmps6
  go_wp2_with fail
  have hR0 := row4_new w 38 (.int .u64 (W64 x0)) (.int .u64 (W64 x1)) (.int .u64 (W64 x2)) (.int .u64 (W64 x3))
  have hF0 : Fr No w (w.alloc (.cells #[.int .u64 (W64 x0), .int .u64 (W64 x1), .int .u64 (W64 x2), .int .u64 (W64 x3)] 38)) := (Fr.refl No w).alloc _
  generalize w.heap.size = pb at hR0 ⊢
  generalize w.alloc (.cells #[.int .u64 (W64 x0), .int .u64 (W64 x1), .int .u64 (W64 x2), .int .u64 (W64 x3)] 38) = wA at hR0 hF0 ⊢
  refine (awake_yes _).mono ?_
  rintro e w1 ⟨rfl, hf1⟩
  have hR1 := hR0.no hf1
  have hF1 := hF0.no hf1
  clear hR0 hF0 hf1
  go_wp2_with fail
  refine (New_all sd w w1 hF1).mono ?_
  rintro e w2 ⟨hb, sb, rfl, hg1, hg2, hL2, hf2⟩
  have hR2 := hR1.no hf2
  have hps : pb ≠ sb := by have := hR1.lt; omega
  have y0 := hR2.c0
  have y1 := hR2.c1
  have y2 := hR2.c2
  have y3 := hR2.c3
  clear hR1 hf2 hg1 hg2
  go_wp2_with fail
  refine (refRight_yes x0 x1 x2 x3 _ hw).mono ?_
  rintro e w3 ⟨rfl, hf3⟩
  have hL3 := hL2.no hf3
  have hR3 := hR2.no hf3
  clear hL2 hR2 hf3 y0 y1 y2 y3
  have y0 := hR3.c0
  have y1 := hR3.c1
  have y2 := hR3.c2
  have y3 := hR3.c3
  go_wp2_with fail
  refine (Set_unfit hL3 x0 x1 x2 x3 _ rfl lo _ n1 c1 hw hfit).mono ?_
  rintro e w5 ⟨rfl, hf5⟩
  have hL5 := hL3.no hf5
  have hR5 := hR3.no hf5
  clear hL3 hR3 hf5 y0 y1 y2 y3
  have y0 := hR5.c0
  have y1 := hR5.c1
  have y2 := hR5.c2
  have y3 := hR5.c3
  go_wp2_with fail
  refine wp_region_seq (by kernel_rfl) (fun w' => Fr No w5 w') (fun _ => false) [(0, 1), (1, 1), (2, 1), (3, 1), (5, 1), (4, 0), (6, 0), (7, 1), (8, 1), (9, 1), (10, 1), (11, 1), (12, 1), (14, 1), (15, 1), (16, 1), (17, 1), (13, 0), (18, 0), (19, 1), (20, 1), (21, 1)] (by kernel_rfl) (Fr.refl No w5).drew ?_
  have hv0 : Fr No w5 w5.drew := (Fr.refl No w5).drew
  refine wpSeq_take (v := ?_) 43 rfl rfl (fun _ _ _ h => h) (Or.inl ⟨rfl, ?_⟩) ?_
  rotate_left 1
  · (intro w9 h9; go_simp; try with_reducible rfl)
  simp only [List.setIfInBounds_toArray, List.set_cons_zero, List.set_cons_succ]
  refine wpSeq_take (v := ?_) 44 rfl rfl (fun _ _ _ h => h) (Or.inl ⟨rfl, ?_⟩) ?_
  rotate_left 1
  · (intro w9 h9; go_simp; try with_reducible rfl)
  simp only [List.setIfInBounds_toArray, List.set_cons_zero, List.set_cons_succ]
  refine wpSeq_take (v := ?_) 45 rfl rfl (fun _ _ _ h => h) (Or.inl ⟨rfl, ?_⟩) ?_
  rotate_left 1
  · (intro w9 h9; go_simp; try with_reducible rfl)
  simp only [List.setIfInBounds_toArray, List.set_cons_zero, List.set_cons_succ]
  refine wpSeq_take (v := ?_) 46 rfl rfl (fun _ _ _ h => h) (Or.inl ⟨rfl, ?_⟩) ?_
  rotate_left 1
  · (intro w9 h9; go_simp; try with_reducible rfl)
  simp only [List.setIfInBounds_toArray, List.set_cons_zero, List.set_cons_succ]
  refine wpSeq_take (v := ?_) 48 rfl rfl (fun _ _ _ h => h) (Or.inl ⟨rfl, ?_⟩) ?_
  rotate_left 1
  · (intro w9 h9; go_simp; try with_reducible rfl)
  simp only [List.setIfInBounds_toArray, List.set_cons_zero, List.set_cons_succ]
  refine wpSeq_next rfl rfl (fun K hK => ?_)
  go_wp2_with fail
  refine (Sum_all (hL5.no hv0)).mono ?_
  rintro e xhv1 ⟨rfl, hx⟩
  rw [← hfg.out.1, ← hfg.out.2.1]
  have hv1 := hv0.no hx
  clear hx
  refine hK.out _ _ (fun _ => hv1) ?_
  clear hK K
  refine wpSeq_next rfl rfl (fun K hK => ?_)
  go_wp2_with fail
  refine (refOne_any sd none 0 0 [] _ (IsBytes.nil _) (by omega)).mono ?_
  rintro e xhv2 ⟨rfl, hx⟩
  rw [← hfg.out.1, ← hfg.out.2.1]
  have hv2 := hv1.no hx
  clear hx
  refine hK.out _ _ (fun _ => hv2) ?_
  clear hK K
  refine wpSeq_take (v := ?_) 50 rfl rfl (fun _ _ _ h => h) (Or.inl ⟨rfl, ?_⟩) ?_
  rotate_left 1
  · (intro w9 h9; go_simp; try with_reducible rfl)
  simp only [List.setIfInBounds_toArray, List.set_cons_zero, List.set_cons_succ]
  refine wpSeq_take (v := ?_) 51 rfl rfl (fun _ _ _ h => h) (Or.inl ⟨rfl, ?_⟩) ?_
  rotate_left 1
  · (intro w9 h9; go_simp; try with_reducible rfl)
  simp only [List.setIfInBounds_toArray, List.set_cons_zero, List.set_cons_succ]
  refine wpSeq_take (v := ?_) 52 rfl rfl (fun _ _ _ h => h) (Or.inl ⟨rfl, ?_⟩) ?_
  rotate_left 1
  · (intro w9 h9; go_simp; try with_reducible rfl)
  simp only [List.setIfInBounds_toArray, List.set_cons_zero, List.set_cons_succ]
  refine wpSeq_take (v := ?_) 53 rfl rfl (fun _ _ _ h => h) (Or.inl ⟨rfl, ?_⟩) ?_
  rotate_left 1
  · (intro w9 h9; go_simp; try with_reducible rfl)
  simp only [List.setIfInBounds_toArray, List.set_cons_zero, List.set_cons_succ]
  refine wpSeq_take (v := ?_) 54 rfl rfl (fun _ _ _ h => h) (Or.inl ⟨rfl, ?_⟩) ?_
  rotate_left 1
  · (intro w9 h9; go_simp; try with_reducible rfl)
  simp only [List.setIfInBounds_toArray, List.set_cons_zero, List.set_cons_succ]
  refine wpSeq_take (v := undef) 55 rfl rfl (fun _ _ _ h => h) (Or.inr ⟨rfl, rfl⟩) ?_
  simp only [List.setIfInBounds_toArray, List.set_cons_zero, List.set_cons_succ]
  refine wpSeq_take (v := undef) 57 rfl rfl (fun _ _ _ h => h) (Or.inr ⟨rfl, rfl⟩) ?_
  simp only [List.setIfInBounds_toArray, List.set_cons_zero, List.set_cons_succ]
  refine wpSeq_take (v := undef) 58 rfl rfl (fun _ _ _ h => h) (Or.inr ⟨rfl, rfl⟩) ?_
  simp only [List.setIfInBounds_toArray, List.set_cons_zero, List.set_cons_succ]
  refine wpSeq_take (v := undef) 59 rfl rfl (fun _ _ _ h => h) (Or.inr ⟨rfl, rfl⟩) ?_
  simp only [List.setIfInBounds_toArray, List.set_cons_zero, List.set_cons_succ]
  refine wpSeq_take (v := undef) 60 rfl rfl (fun _ _ _ h => h) (Or.inr ⟨rfl, rfl⟩) ?_
  simp only [List.setIfInBounds_toArray, List.set_cons_zero, List.set_cons_succ]
  refine wpSeq_not 56 rfl rfl rfl (fun _ => hv2) ?_
  simp only [List.setIfInBounds_toArray, List.set_cons_zero, List.set_cons_succ]
  refine wpSeq_not 61 rfl rfl rfl (fun _ => hv2) ?_
  simp only [List.setIfInBounds_toArray, List.set_cons_zero, List.set_cons_succ]
  refine wpSeq_take (v := undef) 62 rfl rfl (fun _ _ _ h => h) (Or.inr ⟨rfl, rfl⟩) ?_
  simp only [List.setIfInBounds_toArray, List.set_cons_zero, List.set_cons_succ]
  refine wpSeq_take (v := ?_) 63 rfl rfl (fun _ _ _ h => h) (Or.inl ⟨rfl, ?_⟩) ?_
  rotate_left 1
  · (intro w9 h9; go_simp; try with_reducible rfl)
  simp only [List.setIfInBounds_toArray, List.set_cons_zero, List.set_cons_succ]
  refine wpSeq_take (v := ?_) 64 rfl rfl (fun _ _ _ h => h) (Or.inl ⟨rfl, ?_⟩) ?_
  rotate_left 1
  · (intro w9 h9; go_simp; try with_reducible rfl)
  simp only [List.setIfInBounds_toArray, List.set_cons_zero, List.set_cons_succ]
  refine wpSeq_done ?_
  have hRz := hR5.no hv2
  have hfz := hL5.fr.no hv2
  clear hL5 hR5 y0 y1 y2 y3 hv0
  have hR6 := hRz
  go_wp2_with fail
  refine (Write_nil _ _ _ _).mono ?_
  rintro e w' ⟨rfl, rfl⟩
  go_wp2_with fail
  refine (Reset_nil _).mono ?_
  rintro e w' ⟨rfl, rfl⟩
  go_wp2_with fail
  refine (Lanes_nil _).mono ?_
  rintro e w8 ⟨rfl, hf8⟩
  have hZ8 := row4_new w8 38 (.int .u64 0) (.int .u64 0) (.int .u64 0) (.int .u64 0)
  have hF8 := (hfz.no hf8).alloc (.cells #[.int .u64 0, .int .u64 0, .int .u64 0, .int .u64 0] 38)
  go_wp2_with fail
  generalize w8.heap.size = zb at hZ8 ⊢
  generalize w8.alloc (.cells #[.int .u64 0, .int .u64 0, .int .u64 0, .int .u64 0] 38) = w9 at hZ8 hF8 ⊢
  refine (Sum_nil _).mono ?_
  rintro e w10 ⟨rfl, hf10⟩
  have hZ10 := hZ8.no hf10
  have hF10 := hF8.no hf10
  have z0 := hZ10.c0
  have z1 := hZ10.c1
  have z2 := hZ10.c2
  have z3 := hZ10.c3
  go_wp2_with fail
  refine (Clone_nil _).mono ?_
  rintro e w' ⟨rfl, rfl⟩
  go_wp2_with fail
  refine (Set_nil 0#64 0#64 0#64 0#64 _ rfl 0#64 none 0 0 _).mono ?_
  rintro e w12 ⟨rfl, hf12⟩
  go_wp2_with fail
  go_ret
  exact ⟨rfl, hF10.no hf12⟩
set_option maxHeartbeats 2000000 in
theorem Murmur86Sets_right (sd : BitVec 32) (x0 x1 x2 x3 lo : BitVec 64) (a1 : Option Addr) (n1 c1 : Nat) (l1 : Bytes) (w : World) (hb1 : IsBytes w a1 n1 c1 l1) (hm : n1 ≤ 100) (hw : RightP x0 x1 x2 x3) (hfit : fitsB n1 lo 16 = true) : Calls Try.prog 6 #[.int .u32 (W32 sd), .agg #[.int .u64 (W64 x0), .int .u64 (W64 x1), .int .u64 (W64 x2), .int .u64 (W64 x3)], .int .u64 (W64 lo), .slice a1 n1 c1] w (Yes w) := by
  obtain ⟨oh, ol, eh, el, hfg⟩ := tells_ex
  have i1 : (n1 : Int) ≤ 100 := by omega
  have m1 : n1 ≤ 100 := by omega
  have hfit2 : (BitVec.ofNat 64 n1 == lo % 16#64) = true := hfit
  go_enter Try.func6, Try.ntmps6
  go_wp2_with fail
  have hR0 := row4_new w 38 (.int .u64 (W64 x0)) (.int .u64 (W64 x1)) (.int .u64 (W64 x2)) (.int .u64 (W64 x3))
  have hF0 : Fr No w (w.alloc (.cells #[.int .u64 (W64 x0), .int .u64 (W64 x1), .int .u64 (W64 x2), .int .u64 (W64 x3)] 38)) := (Fr.refl No w).alloc _
  generalize w.heap.size = pb at hR0 ⊢
  generalize w.alloc (.cells #[.int .u64 (W64 x0), .int .u64 (W64 x1), .int .u64 (W64 x2), .int .u64 (W64 x3)] 38) = wA at hR0 hF0 ⊢
  refine (awake_yes _).mono ?_
  rintro e w1 ⟨rfl, hf1⟩
  have hR1 := hR0.no hf1
  have hF1 := hF0.no hf1
  clear hR0 hF0 hf1
  go_wp2_with fail
  refine (New_all sd w w1 hF1).mono ?_
  rintro e w2 ⟨hb, sb, rfl, hg1, hg2, hL2, hf2⟩
  have hR2 := hR1.no hf2
  have hps : pb ≠ sb := by have := hR1.lt; omega
  have y0 := hR2.c0
  have y1 := hR2.c1
  have y2 := hR2.c2
  have y3 := hR2.c3
  clear hR1 hf2 hg1 hg2
  go_wp2_with fail
  refine (refRight_yes x0 x1 x2 x3 _ hw).mono ?_
  rintro e w3 ⟨rfl, hf3⟩
  have hL3 := hL2.no hf3
  have hR3 := hR2.no hf3
  clear hL2 hR2 hf3 y0 y1 y2 y3
  have y0 := hR3.c0
  have y1 := hR3.c1
  have y2 := hR3.c2
  have y3 := hR3.c3
  go_wp2_with fail
  refine (Set_right hL3 x0 x1 x2 x3 _ rfl lo _ n1 c1 hw hfit l1 (hb1.no hL3.fr) (by omega)).mono ?_
  rintro e w5 ⟨tv5, rfl, hL5, hf5, _⟩
  have hR5 := hR3.fr hf5 hps
  clear hL3 hR3 hf5 y0 y1 y2 y3
  have y0 := hR5.c0
  have y1 := hR5.c1
  have y2 := hR5.c2
  have y3 := hR5.c3
  have hy5 := hb1.no hL5.fr
  go_wp2_with fail
  refine wp_region_seq (by kernel_rfl) (fun w' => Fr No w5 w') (fun _ => false) [(0, 1), (1, 1), (2, 1), (3, 1), (5, 1), (4, 0), (6, 0), (7, 1), (8, 1), (9, 1), (10, 1), (11, 1), (12, 1), (14, 1), (15, 1), (16, 1), (17, 1), (13, 0), (18, 0), (19, 1), (20, 1), (21, 1)] (by kernel_rfl) (Fr.refl No w5).drew ?_
  have hv0 : Fr No w5 w5.drew := (Fr.refl No w5).drew
  refine wpSeq_take (v := ?_) 43 rfl rfl (fun _ _ _ h => h) (Or.inl ⟨rfl, ?_⟩) ?_
  rotate_left 1
  · (intro w9 h9; go_simp; try with_reducible rfl)
  simp only [List.setIfInBounds_toArray, List.set_cons_zero, List.set_cons_succ]
  refine wpSeq_take (v := ?_) 44 rfl rfl (fun _ _ _ h => h) (Or.inl ⟨rfl, ?_⟩) ?_
  rotate_left 1
  · (intro w9 h9; go_simp; try with_reducible rfl)
  simp only [List.setIfInBounds_toArray, List.set_cons_zero, List.set_cons_succ]
  refine wpSeq_take (v := ?_) 45 rfl rfl (fun _ _ _ h => h) (Or.inl ⟨rfl, ?_⟩) ?_
  rotate_left 1
  · (intro w9 h9; go_simp; try with_reducible rfl)
  simp only [List.setIfInBounds_toArray, List.set_cons_zero, List.set_cons_succ]
  refine wpSeq_take (v := undef) 46 rfl rfl (fun _ _ _ h => h) (Or.inr ⟨rfl, rfl⟩) ?_
  simp only [List.setIfInBounds_toArray, List.set_cons_zero, List.set_cons_succ]
  refine wpSeq_take (v := undef) 48 rfl rfl (fun _ _ _ h => h) (Or.inr ⟨rfl, rfl⟩) ?_
  simp only [List.setIfInBounds_toArray, List.set_cons_zero, List.set_cons_succ]
  refine wpSeq_not 47 rfl rfl rfl (fun _ => hv0) ?_
  simp only [List.setIfInBounds_toArray, List.set_cons_zero, List.set_cons_succ]
  refine wpSeq_not 49 rfl rfl rfl (fun _ => hv0) ?_
  simp only [List.setIfInBounds_toArray, List.set_cons_zero, List.set_cons_succ]
  refine wpSeq_take (v := undef) 50 rfl rfl (fun _ _ _ h => h) (Or.inr ⟨rfl, rfl⟩) ?_
  simp only [List.setIfInBounds_toArray, List.set_cons_zero, List.set_cons_succ]
  refine wpSeq_take (v := ?_) 51 rfl rfl (fun _ _ _ h => h) (Or.inl ⟨rfl, ?_⟩) ?_
  rotate_left 1
  · (intro w9 h9; go_simp; try with_reducible rfl)
  simp only [List.setIfInBounds_toArray, List.set_cons_zero, List.set_cons_succ]
  refine wpSeq_take (v := ?_) 52 rfl rfl (fun _ _ _ h => h) (Or.inl ⟨rfl, ?_⟩) ?_
  rotate_left 1
  · (intro w9 h9; go_simp; try with_reducible rfl)
  simp only [List.setIfInBounds_toArray, List.set_cons_zero, List.set_cons_succ]
  refine wpSeq_take (v := ?_) 53 rfl rfl (fun _ _ _ h => h) (Or.inl ⟨rfl, ?_⟩) ?_
  rotate_left 1
  · (intro w9 h9; go_simp; try with_reducible rfl)
  simp only [List.setIfInBounds_toArray, List.set_cons_zero, List.set_cons_succ]
  refine wpSeq_take (v := ?_) 54 rfl rfl (fun _ _ _ h => h) (Or.inl ⟨rfl, ?_⟩) ?_
  rotate_left 1
  · (intro w9 h9; go_simp; try with_reducible rfl)
  simp only [List.setIfInBounds_toArray, List.set_cons_zero, List.set_cons_succ]
  refine wpSeq_take (v := ?_) 55 rfl rfl (fun _ _ _ h => h) (Or.inl ⟨rfl, ?_⟩) ?_
  rotate_left 1
  · (intro w9 h9; go_simp; try with_reducible rfl)
  simp only [List.setIfInBounds_toArray, List.set_cons_zero, List.set_cons_succ]
  refine wpSeq_take (v := ?_) 57 rfl rfl (fun _ _ _ h => h) (Or.inl ⟨rfl, ?_⟩) ?_
  rotate_left 1
  · (intro w9 h9; go_simp; try with_reducible rfl)
  simp only [List.setIfInBounds_toArray, List.set_cons_zero, List.set_cons_succ]
  refine wpSeq_take (v := ?_) 58 rfl rfl (fun _ _ _ h => h) (Or.inl ⟨rfl, ?_⟩) ?_
  rotate_left 1
  · (intro w9 h9; have q0 := h9.cell (fun h => h) y0; have q1 := h9.cell (fun h => h) y1; have q2 := h9.cell (fun h => h) y2; have q3 := h9.cell (fun h => h) y3; clear h9; go_simp; try with_reducible rfl)
  simp only [List.setIfInBounds_toArray, List.set_cons_zero, List.set_cons_succ]
  refine wpSeq_take (v := ?_) 59 rfl rfl (fun _ _ _ h => h) (Or.inl ⟨rfl, ?_⟩) ?_
  rotate_left 1
  · (intro w9 h9; go_simp; try with_reducible rfl)
  simp only [List.setIfInBounds_toArray, List.set_cons_zero, List.set_cons_succ]
  refine wpSeq_take (v := ?_) 60 rfl rfl (fun _ _ _ h => h) (Or.inl ⟨rfl, ?_⟩) ?_
  rotate_left 1
  · (intro w9 h9; go_simp; try with_reducible rfl)
  simp only [List.setIfInBounds_toArray, List.set_cons_zero, List.set_cons_succ]
  refine wpSeq_next rfl rfl (fun K hK => ?_)
  go_wp2_with fail
  refine (Sum_h (hL5.no hv0)).mono ?_
  rintro e xhv1 ⟨rfl, hx⟩
  rw [← hfg.out.2.2.1, ← hfg.out.2.2.2]
  have hv1 := hv0.no hx
  clear hx
  refine hK.out _ _ (fun _ => hv1) ?_
  clear hK K
  refine wpSeq_next rfl rfl (fun K hK => ?_)
  go_wp2_with fail
  refine (refEnd_any _ x0 x1 x2 x3 (stateF x0 x1 x2 x3) _ _ _ l1 _ _ (Lib.hid rfl) (hy5.no hv1)).mono ?_
  rintro e xhv2 ⟨rfl, hx⟩
  rw [← hfg.out.2.2.1, ← hfg.out.2.2.2]
  have hv2 := hv1.no hx
  clear hx
  refine hK.out _ _ (fun _ => hv2) ?_
  clear hK K
  refine wpSeq_take (v := ?_) 62 rfl rfl (fun _ _ _ h => h) (Or.inl ⟨rfl, ?_⟩) ?_
  rotate_left 1
  · (intro w9 h9; go_simp; try with_reducible rfl)
  simp only [List.setIfInBounds_toArray, List.set_cons_zero, List.set_cons_succ]
  refine wpSeq_take (v := ?_) 63 rfl rfl (fun _ _ _ h => h) (Or.inl ⟨rfl, ?_⟩) ?_
  rotate_left 1
  · (intro w9 h9; go_simp; try with_reducible rfl)
  simp only [List.setIfInBounds_toArray, List.set_cons_zero, List.set_cons_succ]
  refine wpSeq_take (v := ?_) 64 rfl rfl (fun _ _ _ h => h) (Or.inl ⟨rfl, ?_⟩) ?_
  rotate_left 1
  · (intro w9 h9; go_simp; try with_reducible rfl)
  simp only [List.setIfInBounds_toArray, List.set_cons_zero, List.set_cons_succ]
  refine wpSeq_done ?_
  have hRz := hR5.no hv2
  have hfz := hL5.fr.no hv2
  clear hL5 hR5 y0 y1 y2 y3 hv0 hy5
  have hR6 := hRz
  go_wp2_with fail
  refine (Write_nil _ _ _ _).mono ?_
  rintro e w' ⟨rfl, rfl⟩
  go_wp2_with fail
  refine (Reset_nil _).mono ?_
  rintro e w' ⟨rfl, rfl⟩
  go_wp2_with fail
  refine (Lanes_nil _).mono ?_
  rintro e w8 ⟨rfl, hf8⟩
  have hZ8 := row4_new w8 38 (.int .u64 0) (.int .u64 0) (.int .u64 0) (.int .u64 0)
  have hF8 := (hfz.no hf8).alloc (.cells #[.int .u64 0, .int .u64 0, .int .u64 0, .int .u64 0] 38)
  go_wp2_with fail
  generalize w8.heap.size = zb at hZ8 ⊢
  generalize w8.alloc (.cells #[.int .u64 0, .int .u64 0, .int .u64 0, .int .u64 0] 38) = w9 at hZ8 hF8 ⊢
  refine (Sum_nil _).mono ?_
  rintro e w10 ⟨rfl, hf10⟩
  have hZ10 := hZ8.no hf10
  have hF10 := hF8.no hf10
  have z0 := hZ10.c0
  have z1 := hZ10.c1
  have z2 := hZ10.c2
  have z3 := hZ10.c3
  go_wp2_with fail
  refine (Clone_nil _).mono ?_
  rintro e w' ⟨rfl, rfl⟩
  go_wp2_with fail
  refine (Set_nil 0#64 0#64 0#64 0#64 _ rfl 0#64 none 0 0 _).mono ?_
  rintro e w12 ⟨rfl, hf12⟩
  go_wp2_with fail
  go_ret
  exact ⟨rfl, hF10.no hf12⟩
theorem Murmur86Sets_yes (sd : BitVec 32) (x0 x1 x2 x3 lo : BitVec 64) (a1 : Option Addr) (n1 c1 : Nat) (l1 : Bytes) (w : World) (hb1 : IsBytes w a1 n1 c1 l1) : Calls Try.prog 6 #[.int .u32 (W32 sd), .agg #[.int .u64 (W64 x0), .int .u64 (W64 x1), .int .u64 (W64 x2), .int .u64 (W64 x3)], .int .u64 (W64 lo), .slice a1 n1 c1] w (Yes w) := by
  by_cases hbig : 100 < n1
  · exact Murmur86Sets_long sd x0 x1 x2 x3 lo a1 n1 c1 l1 w hbig
  by_cases hw : RightP x0 x1 x2 x3
  · cases hfit : fitsB n1 lo 16 with
    | false => exact Murmur86Sets_unfit sd x0 x1 x2 x3 lo a1 n1 c1 l1 w hb1 (by omega) hw hfit
    | true => exact Murmur86Sets_right sd x0 x1 x2 x3 lo a1 n1 c1 l1 w hb1 (by omega) hw hfit
  · exact Murmur86Sets_wrong sd x0 x1 x2 x3 lo a1 n1 c1 l1 w hb1 (by omega) hw
end Go.Proofs.Ytdemhnkkohnflaf.StM86
