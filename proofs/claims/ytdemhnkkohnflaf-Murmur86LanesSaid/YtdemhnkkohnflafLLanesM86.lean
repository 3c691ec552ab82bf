/- Murmur86Lanes' walk. -/
import Derived.Test.YtdemhnkkohnflafLPiecesM86
namespace Go.Proofs.Ytdemhnkkohnflaf.StM86
set_option linter.unusedVariables false
set_option linter.unusedSimpArgs false
open Go.RowKit
set_option maxHeartbeats 400000 in
theorem Murmur86Lanes_long (sd : BitVec 32) (a1 : Option Addr) (n1 c1 : Nat) (l1 : Bytes) (a2 : Option Addr) (n2 c2 : Nat) (l2 : Bytes) (w : World) (h : 300 < n1 ∨ 300 < n2) : Calls Try.prog 5 #[.int .u32 (W32 sd), .slice a1 n1 c1, .slice a2 n2 c2] w (Yes w) := by
  by_cases h1 : 300 < n1
  · have i1 : (300 : Int) < (n1 : Int) := by omega
    clear h h1
    go_enter Try.func5, Try.ntmps5
    go_wp2_with (go_at_call 7; refine (awake_yes _).mono ?_; rintro e w1 ⟨rfl, hf1⟩)
    go_ret
    exact ⟨rfl, hf1⟩
  · have i1 : (n1 : Int) ≤ 300 := by omega
    have i2 : (300 : Int) < (n2 : Int) := by omega
    clear h h1
    go_enter Try.func5, Try.ntmps5
    go_wp2_with (go_at_call 7; refine (awake_yes _).mono ?_; rintro e w1 ⟨rfl, hf1⟩)
    go_ret
    exact ⟨rfl, hf1⟩
theorem right_of (s : ST) : RightP (s.1.setWidth 64) (s.2.1.setWidth 64) (s.2.2.1.setWidth 64) (s.2.2.2.setWidth 64) := by exact ⟨by rw [back32], by rw [back32], by rw [back32], by rw [back32]⟩
theorem state_of (s : ST) : stateF (s.1.setWidth 64) (s.2.1.setWidth 64) (s.2.2.1.setWidth 64) (s.2.2.2.setWidth 64) = s := by unfold stateF; simp only [back32]
theorem lanesV_of (s : ST) : lanesV s = .agg #[.int .u64 (W64 (s.1.setWidth 64)), .int .u64 (W64 (s.2.1.setWidth 64)), .int .u64 (W64 (s.2.2.1.setWidth 64)), .int .u64 (W64 (s.2.2.2.setWidth 64))] := by rfl
theorem fits_of (d : Bytes) (s : ST) (hd : d.length ≤ 1099511627776) : fitsB (foldF stepG 16 s d).2.length (BitVec.ofNat 64 d.length) 16 = true := by
  unfold fitsB
  rw [ofNat_mod _ _ (by omega) (by omega), foldF_mod (by omega)]
  simp
theorem HSets_all {w0 w w' : World} {hb sb : Nat} {sd : BitVec 32} {d : Bytes} {tv : Value} (h : HLive w0 w' hb sb sd (foldF stepG 16 (firstF sd) d).1 (foldF stepG 16 (firstF sd) d).2 (BitVec.ofNat 64 d.length) tv) : HAll w0 w' hb sb sd d tv := h
set_option maxHeartbeats 2000000 in
theorem Murmur86Lanes_yes (sd : BitVec 32) (a1 : Option Addr) (n1 c1 : Nat) (l1 : Bytes) (a2 : Option Addr) (n2 c2 : Nat) (l2 : Bytes) (w : World) (hb1 : IsBytes w a1 n1 c1 l1) (hb2 : IsBytes w a2 n2 c2 l2) :
    Calls Try.prog 5 #[.int .u32 (W32 sd), .slice a1 n1 c1, .slice a2 n2 c2] w (Yes w) := by
  obtain ⟨oh, ol, eh, el, hfg⟩ := tells_ex
  by_cases hbig : 300 < n1 ∨ 300 < n2
  · exact Murmur86Lanes_long sd a1 n1 c1 l1 a2 n2 c2 l2 w hbig
  have i1 : (n1 : Int) ≤ 300 := by omega
  have i2 : (n2 : Int) ≤ 300 := by omega
  have m1 : n1 ≤ 300 := by omega
  have m2 : n2 ≤ 300 := by omega
  have HLn := Lib.hid hb1.1
  clear hbig
  go_enter Try.func5, Try.ntmps5
  go_wp2_with fail
  refine (awake_yes _).mono ?_
  rintro e w1 ⟨rfl, hf1⟩
  go_wp2_with fail
  refine (New_all sd w w1 hf1).mono ?_
  rintro e w2 ⟨hb, sb, rfl, _, _, hL2, _⟩
  go_wp2_with fail
  refine (New_all sd w w2 hL2.fr).mono ?_
  rintro e w3 ⟨gb, tb, rfl, hge1, hge2, hG3, hf3⟩
  have hL3 := hL2.no hf3
  have hsep3 : ∀ x, HFoot hb sb (.slice none 0 0) x → ¬ HFoot gb tb (.slice none 0 0) x := fun x h1 h2 => by
    have := hL2.lt x h1
    rcases h2 with h2 | h2 | h2
    · omega
    · omega
    · simp [Value.ownBlock] at h2
  clear hL2 hf3 hf1 hge1 hge2
  go_wp2_with fail
  refine (Write_all hL3 _ _ _ l1 (hb1.no hL3.fr) (hb1.old (fun x g => hL3.above x (.inr g))) (by omega)).mono ?_
  rw [List.nil_append]
  rintro e w4 ⟨rfl, tv4, hL4, hf4, hk4⟩
  have hG4 := hG3.keep hf4 (fun x h => hsep3 x (.inr h)) (fun x h => hL3.above x (.inr h))
  have hsep4 : ∀ x, HFoot hb sb tv4 x → ¬ HFoot gb tb (.slice none 0 0) x := fun x h1 h2 => by
    rcases h1 with h1 | h1 | h1
    · exact hsep3 x (.inl h1) h2
    · exact hsep3 x (.inr (.inl h1)) h2
    · rcases hk4 with e | e
      · exact hsep3 x (.inr (.inr (by rw [← e]; exact h1))) h2
      · have := e x h1; have := hG3.lt x h2; omega
  clear hL3 hG3 hsep3 hf4 hk4
  go_wp2_with fail
  refine (Lanes_h hL4).mono ?_
  rintro e w5 ⟨v5, rfl, ho5, hf5⟩
  have hL5 := hL4.no hf5
  have hG5 := hG4.no hf5
  have hv5 : ∀ x, v5.ownBlock = some x → ¬ HFoot hb sb tv4 x ∧ ¬ HFoot gb tb (.slice none 0 0) x := fun x hx => ⟨fun g => by have := hL4.lt x g; have := own_ge ho5 hx; omega, fun g => by have := hG4.lt x g; have := own_ge ho5 hx; omega⟩
  obtain ⟨a5, c5, rfl, hy5, hy5b⟩ := ho5.bytes
  clear hL4 hG4 hf5
  generalize hr : foldF stepG 16 (firstF sd) l1 = r at ho5 hy5 hy5b
  have HR := Lib.hid hr
  clear hr
  have hA5 := row4_new w5 38 (.int .u64 (W64 (r.1.1.setWidth 64))) (.int .u64 (W64 (r.1.2.1.setWidth 64))) (.int .u64 (W64 (r.1.2.2.1.setWidth 64))) (.int .u64 (W64 (r.1.2.2.2.setWidth 64)))
  have hfA := (Fr.refl No w5).alloc (.cells #[.int .u64 (W64 (r.1.1.setWidth 64)), .int .u64 (W64 (r.1.2.1.setWidth 64)), .int .u64 (W64 (r.1.2.2.1.setWidth 64)), .int .u64 (W64 (r.1.2.2.2.setWidth 64))] 38)
  unfold lanesV
  go_wp2_with fail
  have hL6 := hL5.no hfA
  have hG6 := hG5.no hfA
  have hy6 := hy5.no hfA
  obtain ⟨pb, hpb⟩ : ∃ pb, pb = w5.heap.size := ⟨_, rfl⟩
  have hpl : ∀ x, HFoot hb sb tv4 x → x ≠ pb := fun x h => by have := hL5.lt x h; omega
  have hpg : ∀ x, HFoot gb tb (.slice none 0 0) x → x ≠ pb := fun x h => by have := hG5.lt x h; omega
  have hpw : w.heap.size ≤ pb := by have := hL5.fr.size; omega
  rw [← hpb] at hA5 ⊢
  clear hpb
  generalize w5.alloc (.cells #[.int .u64 (W64 (r.1.1.setWidth 64)), .int .u64 (W64 (r.1.2.1.setWidth 64)), .int .u64 (W64 (r.1.2.2.1.setWidth 64)), .int .u64 (W64 (r.1.2.2.2.setWidth 64))] 38) = w6 at hA5 hfA hL6 hG6 hy6 ⊢
  clear hL5 hG5 hy5 ho5
  refine (refBlocks_any sd _ _ _ l1 _ (hb1.no hL6.fr) (by omega)).mono ?_
  rw [HR.out]
  rintro e w7 ⟨a7, n7, c7, rfl, hy7, hst7, hf7⟩
  have hL7 := hL6.no hf7
  have hG7 := hG6.no hf7
  have hA7 := hA5.no hf7
  have hy7' := hy6.no hf7
  clear hL6 hG6 hA5 hy6 hf7 hfA
  have hB8 := row4_new w7 38 (.int .u64 (W64 (r.1.1.setWidth 64))) (.int .u64 (W64 (r.1.2.1.setWidth 64))) (.int .u64 (W64 (r.1.2.2.1.setWidth 64))) (.int .u64 (W64 (r.1.2.2.2.setWidth 64)))
  have hfB := (Fr.refl No w7).alloc (.cells #[.int .u64 (W64 (r.1.1.setWidth 64)), .int .u64 (W64 (r.1.2.1.setWidth 64)), .int .u64 (W64 (r.1.2.2.1.setWidth 64)), .int .u64 (W64 (r.1.2.2.2.setWidth 64))] 38)
  have hA8 := hA7.no hfB
  have hL8 := hL7.no hfB
  have hG8 := hG7.no hfB
  have hy8 := hst7 _ (hb1.no hL8.fr)
  have hy8' := hy7'.no hfB
  have cA0 := hA8.c0
  have cA1 := hA8.c1
  have cA2 := hA8.c2
  have cA3 := hA8.c3
  have e5 : Hid (r.2.length = n7) := hy8.1
  have HT : Hid (BitVec.ofNat 64 l1.length = BitVec.ofNat 64 n1) := by show _ = _; rw [HLn.out]
  unfold lanesV
  rw [HT.out]
  clear hL7 hG7 hA7 hy7 hy7'
  go_wp2_with fail
  refine (refSame_any _ _ _ r.2 _ _ _ r.2 _ hy8' hy8).mono ?_
  rintro e w' ⟨rfl, rfl⟩
  rw [BEq.rfl]
  go_wp2_with fail
  have hfit := fits_of l1 (firstF sd) (by have := HLn.out; omega)
  rw [HR.out, HLn.out] at hfit
  refine (Set_right hG8 (r.1.1.setWidth 64) (r.1.2.1.setWidth 64) (r.1.2.2.1.setWidth 64) (r.1.2.2.2.setWidth 64) _ (lanesV_of r.1) _ _ _ _ (right_of r.1) hfit r.2 hy8' (by have := foldF_lt (F := stepG) (size := 16) (by omega) (firstF sd) l1; rw [HR.out] at this; omega)).mono ?_
  rw [state_of]
  rintro e w9 ⟨tv9, rfl, hG9, hf9, hk9⟩
  have hG9' : HAll w w9 gb tb sd l1 tv9 := by
    unfold HAll
    rw [HR.out, HLn.out]
    exact hG9
  have hne : ∀ x, x = tb → ¬ HFoot hb sb tv4 x := fun x hx h => hsep4 x h (.inr (.inl hx))
  have hL9 := hL8.keep hf9 hne (fun x hx => by have := hG8.above x (.inr (.inl hx)); exact this)
  have hsep9 : ∀ x, HFoot hb sb tv4 x → ¬ HFoot gb tb tv9 x := fun x h1 h2 => by
    rcases h2 with h2 | h2 | h2
    · exact hsep4 x h1 (.inl h2)
    · exact hsep4 x h1 (.inr (.inl h2))
    · have := hk9 x h2; have := hL8.lt x h1; omega
  clear hL8 hG8 hG9 hy8 hy8' cA0 cA1 cA2 cA3 hA8 hB8 hfB hf9 hk9 hsep4 hne hpl hpg hv5 hy5b hst7
  go_wp2_with fail
  refine (Clone_all hL9).mono ?_
  rintro e w10 ⟨kb, ub, tvk, rfl, hK10, hf10, hkn⟩
  have hL10 := hL9.no hf10
  have hG10 := hG9'.no hf10
  have hKL : ∀ x, HFoot hb sb tv4 x → ¬ HFoot kb ub tvk x := fun x h1 h2 => by have := hL9.lt x h1; have := hkn x h2; omega
  have hKG : ∀ x, HFoot gb tb tv9 x → ¬ HFoot kb ub tvk x := fun x h1 h2 => by have := hG9'.lt x h1; have := hkn x h2; omega
  clear hL9 hG9' hf10 hkn
  go_wp2_with fail
  refine (Write_all hL10 _ _ _ l2 (hb2.no hL10.fr) (hb2.old (fun x g => hL10.above x (.inr g))) (by omega)).mono ?_
  rintro e w11 ⟨rfl, tv11, hL11, hf11, hk11⟩
  have hG11 := hG10.keep hf11 (fun x h => hsep9 x (.inr h)) (fun x h => hL10.above x (.inr h))
  have hK11 := hK10.keep hf11 (fun x h => hKL x (.inr h)) (fun x h => hL10.above x (.inr h))
  have hsep11 : ∀ x, HFoot hb sb tv11 x → ¬ HFoot gb tb tv9 x := fun x h1 h2 => by
    rcases h1 with h1 | h1 | h1
    · exact hsep9 x (.inl h1) h2
    · exact hsep9 x (.inr (.inl h1)) h2
    · rcases hk11 with e | e
      · exact hsep9 x (.inr (.inr (by rw [← e]; exact h1))) h2
      · have := e x h1; have := hG10.lt x h2; omega
  clear hL10 hG10 hK10 hsep9 hf11 hk11 hKL
  go_wp2_with fail
  refine (Write_all hG11 _ _ _ l2 (hb2.no hG11.fr) (hb2.old (fun x g => hG11.above x (.inr g))) (by omega)).mono ?_
  rintro e w12 ⟨rfl, tv12, hG12, hf12, _⟩
  have hL12 := hL11.keep hf12 (fun x h h' => hsep11 x h' (.inr h)) (fun x h => hG11.above x (.inr h))
  have hK12 := hK11.keep hf12 (fun x h => hKG x (.inr h)) (fun x h => hG11.above x (.inr h))
  clear hL11 hG11 hK11 hsep11 hf12 hKG
  go_wp2_with fail
  refine (refBoth_any _ _ _ l1 _ _ _ l2 _ (hb1.no hL12.fr) (hb2.no hL12.fr) (by omega)).mono ?_
  rintro e w13 ⟨v13, rfl, ho13, hf13⟩
  obtain ⟨a13, c13, rfl, hy13, _⟩ := ho13.bytes
  rw [List.length_append] at hy13
  have hL13 := hL12.no hf13
  have hG13 := hG12.no hf13
  have hK13 := hK12.no hf13
  have g13 : (l1 ++ l2).length ≤ 1000 := by rw [List.length_append, hb1.1, hb2.1]; omega
  clear hL12 hG12 hK12 hf13 ho13
  go_wp2_with fail
  refine (refOne_any sd _ _ _ (l1 ++ l2) _ hy13 (by rw [List.length_append] at g13; omega)).mono ?_
  rintro e w14 ⟨rfl, hf14⟩
  rw [← hfg.out.1, ← hfg.out.2.1]
  have hL14 := hL13.no hf14
  have hG14 := hG13.no hf14
  have hK14 := hK13.no hf14
  clear hL13 hG13 hK13 hf14 hy13
  have hU := row2_new w14 27 (.int .u64 (W64 (oh sd (l1 ++ l2)))) (.int .u64 (W64 (ol sd (l1 ++ l2))))
  have hfU := (Fr.refl No w14).alloc (.cells #[.int .u64 (W64 (oh sd (l1 ++ l2))), .int .u64 (W64 (ol sd (l1 ++ l2)))] 27)
  have hL15 := hL14.no hfU
  have hG15 := hG14.no hfU
  have hK15 := hK14.no hfU
  clear hL14 hG14 hK14
  go_wp2_with fail
  generalize w14.heap.size = ub at hU ⊢
  generalize w14.alloc (.cells #[.int .u64 (W64 (oh sd (l1 ++ l2))), .int .u64 (W64 (ol sd (l1 ++ l2)))] 27) = w15 at hU hfU hL15 hG15 hK15 ⊢
  have hy15 := hb1.no hL15.fr
  refine wp_region_seq (by kernel_rfl) (fun w' => Fr No w15 w') (fun _ => false) [(0, 1), (2, 1), (1, 0), (3, 1), (4, 1), (5, 1), (7, 1), (6, 0), (8, 1), (9, 1), (10, 1), (11, 1), (12, 1), (13, 1), (14, 1), (15, 1), (17, 1), (18, 1), (16, 0), (19, 0), (20, 1), (21, 1), (22, 1)] (by kernel_rfl) (Fr.refl No w15).drew ?_
  have hv0 : Fr No w15 w15.drew := (Fr.refl No w15).drew
  refine wpSeq_take (v := ?_) 88 rfl rfl (fun _ _ _ h => h) (Or.inl ⟨rfl, ?_⟩) ?_
  rotate_left 1
  · (intro w9 h9; go_simp; try with_reducible rfl)
  simp only [List.setIfInBounds_toArray, List.set_cons_zero, List.set_cons_succ]
  refine wpSeq_take (v := ?_) 90 rfl rfl (fun _ _ _ h => h) (Or.inl ⟨rfl, ?_⟩) ?_
  rotate_left 1
  · (intro w9 h9; have q0 := (hU.no h9).c0; have q1 := (hU.no h9).c1; clear h9; go_simp; try with_reducible rfl)
  simp only [List.setIfInBounds_toArray, List.set_cons_zero, List.set_cons_succ]
  refine wpSeq_next rfl rfl (fun K hK => ?_)
  go_wp2_with fail
  refine (Sum_all (hL15.no hv0)).mono ?_
  rintro e xhv1 ⟨rfl, hx⟩
  rw [← hfg.out.1, ← hfg.out.2.1]
  have hv1 := hv0.no hx
  clear hx
  refine hK.out _ _ (fun _ => hv1) ?_
  clear hK K
  refine wpSeq_take (v := ?_) 91 rfl rfl (fun _ _ _ h => h) (Or.inl ⟨rfl, ?_⟩) ?_
  rotate_left 1
  · (intro w9 h9; go_simp; try with_reducible rfl)
  simp only [List.setIfInBounds_toArray, List.set_cons_zero, List.set_cons_succ]
  refine wpSeq_take (v := ?_) 92 rfl rfl (fun _ _ _ h => h) (Or.inl ⟨rfl, ?_⟩) ?_
  rotate_left 1
  · (intro w9 h9; go_simp; try with_reducible rfl)
  simp only [List.setIfInBounds_toArray, List.set_cons_zero, List.set_cons_succ]
  refine wpSeq_take (v := ?_) 93 rfl rfl (fun _ _ _ h => h) (Or.inl ⟨rfl, ?_⟩) ?_
  rotate_left 1
  · (intro w9 h9; go_simp; try with_reducible rfl)
  simp only [List.setIfInBounds_toArray, List.set_cons_zero, List.set_cons_succ]
  refine wpSeq_take (v := ?_) 95 rfl rfl (fun _ _ _ h => h) (Or.inl ⟨rfl, ?_⟩) ?_
  rotate_left 1
  · (intro w9 h9; have q0 := (hU.no h9).c0; have q1 := (hU.no h9).c1; clear h9; go_simp; try with_reducible rfl)
  simp only [List.setIfInBounds_toArray, List.set_cons_zero, List.set_cons_succ]
  refine wpSeq_next rfl rfl (fun K hK => ?_)
  go_wp2_with fail
  refine (Sum_all (hG15.no hv1)).mono ?_
  rintro e xhv2 ⟨rfl, hx⟩
  rw [← hfg.out.1, ← hfg.out.2.1]
  have hv2 := hv1.no hx
  clear hx
  refine hK.out _ _ (fun _ => hv2) ?_
  clear hK K
  refine wpSeq_take (v := ?_) 96 rfl rfl (fun _ _ _ h => h) (Or.inl ⟨rfl, ?_⟩) ?_
  rotate_left 1
  · (intro w9 h9; go_simp; try with_reducible rfl)
  simp only [List.setIfInBounds_toArray, List.set_cons_zero, List.set_cons_succ]
  refine wpSeq_take (v := ?_) 97 rfl rfl (fun _ _ _ h => h) (Or.inl ⟨rfl, ?_⟩) ?_
  rotate_left 1
  · (intro w9 h9; go_simp; try with_reducible rfl)
  simp only [List.setIfInBounds_toArray, List.set_cons_zero, List.set_cons_succ]
  refine wpSeq_take (v := ?_) 98 rfl rfl (fun _ _ _ h => h) (Or.inl ⟨rfl, ?_⟩) ?_
  rotate_left 1
  · (intro w9 h9; go_simp; try with_reducible rfl)
  simp only [List.setIfInBounds_toArray, List.set_cons_zero, List.set_cons_succ]
  refine wpSeq_take (v := ?_) 99 rfl rfl (fun _ _ _ h => h) (Or.inl ⟨rfl, ?_⟩) ?_
  rotate_left 1
  · (intro w9 h9; go_simp; try with_reducible rfl)
  simp only [List.setIfInBounds_toArray, List.set_cons_zero, List.set_cons_succ]
  refine wpSeq_take (v := ?_) 100 rfl rfl (fun _ _ _ h => h) (Or.inl ⟨rfl, ?_⟩) ?_
  rotate_left 1
  · (intro w9 h9; go_simp; try with_reducible rfl)
  simp only [List.setIfInBounds_toArray, List.set_cons_zero, List.set_cons_succ]
  refine wpSeq_take (v := ?_) 101 rfl rfl (fun _ _ _ h => h) (Or.inl ⟨rfl, ?_⟩) ?_
  rotate_left 1
  · (intro w9 h9; go_simp; try with_reducible rfl)
  simp only [List.setIfInBounds_toArray, List.set_cons_zero, List.set_cons_succ]
  refine wpSeq_take (v := ?_) 102 rfl rfl (fun _ _ _ h => h) (Or.inl ⟨rfl, ?_⟩) ?_
  rotate_left 1
  · (intro w9 h9; go_simp; try with_reducible rfl)
  simp only [List.setIfInBounds_toArray, List.set_cons_zero, List.set_cons_succ]
  refine wpSeq_take (v := ?_) 103 rfl rfl (fun _ _ _ h => h) (Or.inl ⟨rfl, ?_⟩) ?_
  rotate_left 1
  · (intro w9 h9; go_simp; try with_reducible rfl)
  simp only [List.setIfInBounds_toArray, List.set_cons_zero, List.set_cons_succ]
  refine wpSeq_take (v := ?_) 105 rfl rfl (fun _ _ _ h => h) (Or.inl ⟨rfl, ?_⟩) ?_
  rotate_left 1
  · (intro w9 h9; go_simp; try with_reducible rfl)
  simp only [List.setIfInBounds_toArray, List.set_cons_zero, List.set_cons_succ]
  refine wpSeq_take (v := ?_) 106 rfl rfl (fun _ _ _ h => h) (Or.inl ⟨rfl, ?_⟩) ?_
  rotate_left 1
  · (intro w9 h9; go_simp; try with_reducible rfl)
  simp only [List.setIfInBounds_toArray, List.set_cons_zero, List.set_cons_succ]
  refine wpSeq_next rfl rfl (fun K hK => ?_)
  go_wp2_with fail
  refine (Sum_all (hK15.no hv2)).mono ?_
  rintro e xhv3 ⟨rfl, hx⟩
  rw [← hfg.out.1, ← hfg.out.2.1]
  have hv3 := hv2.no hx
  clear hx
  refine hK.out _ _ (fun _ => hv3) ?_
  clear hK K
  refine wpSeq_next rfl rfl (fun K hK => ?_)
  go_wp2_with fail
  refine (refOne_any sd _ _ _ l1 _ (hy15.no hv3) (by omega)).mono ?_
  rintro e xhv4 ⟨rfl, hx⟩
  rw [← hfg.out.1, ← hfg.out.2.1]
  have hv4 := hv3.no hx
  clear hx
  refine hK.out _ _ (fun _ => hv4) ?_
  clear hK K
  refine wpSeq_take (v := ?_) 108 rfl rfl (fun _ _ _ h => h) (Or.inl ⟨rfl, ?_⟩) ?_
  rotate_left 1
  · (intro w9 h9; go_simp; try with_reducible rfl)
  simp only [List.setIfInBounds_toArray, List.set_cons_zero, List.set_cons_succ]
  refine wpSeq_take (v := ?_) 109 rfl rfl (fun _ _ _ h => h) (Or.inl ⟨rfl, ?_⟩) ?_
  rotate_left 1
  · (intro w9 h9; go_simp; try with_reducible rfl)
  simp only [List.setIfInBounds_toArray, List.set_cons_zero, List.set_cons_succ]
  refine wpSeq_take (v := ?_) 6 rfl rfl (fun _ _ _ h => h) (Or.inl ⟨rfl, ?_⟩) ?_
  rotate_left 1
  · (intro w9 h9; go_simp; try with_reducible rfl)
  simp only [List.setIfInBounds_toArray, List.set_cons_zero, List.set_cons_succ]
  refine wpSeq_done ?_
  go_wp2_with fail
  go_ret
  exact ⟨rfl, hL15.fr.no hv4⟩
end Go.Proofs.Ytdemhnkkohnflaf.StM86
