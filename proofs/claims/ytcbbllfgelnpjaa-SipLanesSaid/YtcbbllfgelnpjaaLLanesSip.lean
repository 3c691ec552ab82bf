/- SipLanes' walk. -/
import Derived.Test.YtcbbllfgelnpjaaLPiecesSip
import Derived.Deep.DeepCutAuto
namespace Go.Proofs.Ytcbbllfgelnpjaa.StSip
set_option linter.unusedVariables false
set_option linter.unusedSimpArgs false
open Go.RowKit

set_option maxHeartbeats 1000000 in
theorem SipLanes_long (kd : Int) (kh kl : BitVec 64) (a1 : Option Addr) (n1 c1 : Nat) (l1 : Bytes) (a2 : Option Addr) (n2 c2 : Nat) (l2 : Bytes) (w : World) (h : 300 < n1 ∨ 300 < n2 ∨ ¬ IsK kd) : Calls Try.prog 5 #[.int .i64 kd, .agg #[.int .u64 (W64 kh), .int .u64 (W64 kl)], .slice a1 n1 c1, .slice a2 n2 c2] w (Yes w) := by
  have hfa : Fr No w (w.alloc (.cells #[.int .u64 (W64 kh), .int .u64 (W64 kl)] 24)) := (Fr.refl No w).alloc _
  have hK := row2_new w 24 (.int .u64 (W64 kh)) (.int .u64 (W64 kl))
  go_enter Try.func5, Try.ntmps5
  go_wp2_with fail
  generalize w.heap.size = pb at hK ⊢
  generalize w.alloc (.cells #[.int .u64 (W64 kh), .int .u64 (W64 kl)] 24) = wa at hfa hK ⊢
  refine (awake_yes _).mono ?_
  rintro e w1 ⟨rfl, hf1⟩
  clear hK
  by_cases h1 : 300 < n1
  · have i1 : (300 : Int) < (n1 : Int) := by omega
    clear h h1
    go_wp2_with fail
    go_ret
    exact ⟨rfl, hfa.no hf1⟩
  · have i1 : (n1 : Int) ≤ 300 := by omega
    by_cases h2 : 300 < n2
    · have i2 : (300 : Int) < (n2 : Int) := by omega
      clear h h1 h2
      go_wp2_with fail
      go_ret
      exact ⟨rfl, hfa.no hf1⟩
    · have i2 : (n2 : Int) ≤ 300 := by omega
      have hk : ¬ IsK kd := h.resolve_left h1 |>.resolve_left h2
      clear h h1 h2
      go_wp2_with fail
      refine (refIs_no kd hk _).mono ?_
      rintro e w' ⟨rfl, rfl⟩
      go_wp2_with fail
      go_ret
      exact ⟨rfl, hfa.no hf1⟩
theorem right_of (s : ST) : RightP s.1 s.2.1 s.2.2.1 s.2.2.2 := trivial
theorem state_of (s : ST) : stateF s.1 s.2.1 s.2.2.1 s.2.2.2 = s := rfl
theorem lanesV_of (s : ST) : lanesV s = .agg #[.int .u64 (W64 s.1), .int .u64 (W64 s.2.1), .int .u64 (W64 s.2.2.1), .int .u64 (W64 s.2.2.2)] := rfl
theorem fits_of (k : Nat) (d : Bytes) (s : ST) (hd : d.length ≤ 1099511627776) : fitsB (foldF (stepG k) 8 s d).2.length (BitVec.ofNat 64 d.length) 8 = true := by
  unfold fitsB
  rw [ofNat_mod _ _ (by omega) (by omega), foldF_mod (by omega)]
  simp
set_option maxHeartbeats 4000000 in
set_option maxRecDepth 4096 in
theorem SipLanes_yes (kd : Int) (kh kl : BitVec 64) (a1 : Option Addr) (n1 c1 : Nat) (l1 : Bytes) (a2 : Option Addr) (n2 c2 : Nat) (l2 : Bytes) (w : World) (hb1 : IsBytes w a1 n1 c1 l1) (hb2 : IsBytes w a2 n2 c2 l2) :
    Calls Try.prog 5 #[.int .i64 kd, .agg #[.int .u64 (W64 kh), .int .u64 (W64 kl)], .slice a1 n1 c1, .slice a2 n2 c2] w (Yes w) := by
  obtain ⟨oh, ol, eh, el, hfg⟩ := tells_ex
  by_cases hbig : 300 < n1 ∨ 300 < n2 ∨ ¬ IsK kd
  · exact SipLanes_long kd kh kl a1 n1 c1 l1 a2 n2 c2 l2 w hbig
  have i1 : (n1 : Int) ≤ 300 := by omega
  have i2 : (n2 : Int) ≤ 300 := by omega
  have m1 : n1 ≤ 300 := by omega
  have m2 : n2 ≤ 300 := by omega
  have hk : IsK kd := by by_cases h : IsK kd; exact h; exact absurd (.inr (.inr h)) hbig
  have HLn := Lib.hid hb1.1
  clear hbig
  have hfa : Fr No w (w.alloc (.cells #[.int .u64 (W64 kh), .int .u64 (W64 kl)] 24)) := (Fr.refl No w).alloc _
  have hK := row2_new w 24 (.int .u64 (W64 kh)) (.int .u64 (W64 kl))
  go_enter Try.func5, Try.ntmps5
  go_wp2_with fail
  generalize w.heap.size = pb at hK ⊢
  generalize w.alloc (.cells #[.int .u64 (W64 kh), .int .u64 (W64 kl)] 24) = wa at hfa hK ⊢
  refine (awake_yes _).mono ?_
  rintro e w1 ⟨rfl, hf1⟩
  replace hb1 := hb1.no hfa
  replace hb2 := hb2.no hfa
  go_wp2_with fail
  refine (refIs_yes kd hk _).mono ?_
  rintro e w' ⟨rfl, rfl⟩
  have hK1 := hK.no hf1
  go_upto_region 5 with fail
  refine wp_region_seq (by kernel_rfl) (fun w' => Fr No w1 w') (fun _ => false) [(0, 1), (1, 1), (3, 1), (4, 1), (2, 0), (5, 0), (6, 1), (7, 1)] (by kernel_rfl) (Fr.refl No w1).drew ?_
  have hv0 : Fr No w1 w1.drew := (Fr.refl No w1).drew
  refine wpSeq_take (v := ?_) 33 rfl rfl (fun _ _ _ h => h) (Or.inl ⟨rfl, ?_⟩) ?_
  rotate_left 1
  · (intro w9 h9; go_simp; try with_reducible rfl)
  simp only [List.setIfInBounds_toArray, List.set_cons_zero, List.set_cons_succ]
  refine wpSeq_take (v := ?_) 34 rfl rfl (fun _ _ _ h => h) (Or.inl ⟨rfl, ?_⟩) ?_
  rotate_left 1
  · (intro w9 h9; have u0 := (hK1.no h9).c0; have u1 := (hK1.no h9).c1; clear h9; go_simp; try with_reducible rfl)
  simp only [List.setIfInBounds_toArray, List.set_cons_zero, List.set_cons_succ]
  refine wpSeq_take (v := ?_) 36 rfl rfl (fun _ _ _ h => h) (Or.inl ⟨rfl, ?_⟩) ?_
  rotate_left 1
  · (intro w9 h9; go_simp; try with_reducible rfl)
  simp only [List.setIfInBounds_toArray, List.set_cons_zero, List.set_cons_succ]
  refine wpSeq_take (v := ?_) 37 rfl rfl (fun _ _ _ h => h) (Or.inl ⟨rfl, ?_⟩) ?_
  rotate_left 1
  · (intro w9 h9; have u0 := (hK1.no h9).c0; have u1 := (hK1.no h9).c1; clear h9; go_simp; try with_reducible rfl)
  simp only [List.setIfInBounds_toArray, List.set_cons_zero, List.set_cons_succ]
  refine wpSeq_next rfl rfl (fun K hK => ?_)
  go_wp2_with fail
  refine (New_all kd kh kl hk wa _ (hf1.no hv0)).mono ?_
  rintro e w2 ⟨hb, sb, rfl, _, _, hL2, hx⟩
  have hv1 := hv0.no hx
  clear hx
  refine hK.out _ _ (fun _ => hv1) ?_
  clear hK K
  refine wpSeq_next rfl rfl (fun K hK => ?_)
  go_wp2_with fail
  refine (New_all kd kh kl hk wa _ (hf1.no hv1)).mono ?_
  rintro e w3 ⟨gb, tb, rfl, hge1, hge2, hG3, hx⟩
  have hL3 := hL2.no hx
  have hv2 := hv1.no hx
  refine hK.out _ _ (fun _ => hv2) ?_
  clear hK K
  refine wpSeq_take (v := ?_) 9 rfl rfl (fun _ _ _ h => h) (Or.inl ⟨rfl, ?_⟩) ?_
  rotate_left 1
  · (intro w9 h9; go_simp; try with_reducible rfl)
  simp only [List.setIfInBounds_toArray, List.set_cons_zero, List.set_cons_succ]
  refine wpSeq_take (v := ?_) 10 rfl rfl (fun _ _ _ h => h) (Or.inl ⟨rfl, ?_⟩) ?_
  rotate_left 1
  · (intro w9 h9; go_simp; try with_reducible rfl)
  simp only [List.setIfInBounds_toArray, List.set_cons_zero, List.set_cons_succ]
  refine wpSeq_done ?_
  have hsep3 : ∀ x, HFoot hb sb (.slice none 0 0) x → ¬ HFoot gb tb (.slice none 0 0) x := fun x h1 h2 => by
    have := hL2.lt x h1
    rcases h2 with h2 | h2 | h2
    · omega
    · omega
    · simp [Value.ownBlock] at h2
  clear hL2 hx hf1 hge1 hge2 hv0 hv1 hv2 hK1
  go_wp2_with fail
  refine (Write_all hL3 _ _ _ l1 (hb1.no hL3.fr) (hb1.old (fun x g => hL3.above x (.inr g))) (by omega)).mono ?_
  rw [List.nil_append]
  rintro e w4 ⟨rfl, tv4, hL4, hf4, hk4⟩
  have hG4 := hG3.keep hf4 (fun x h => hsep3 x (.inr h)) (fun x h => hL3.above x (.inr h)) hL3.con
  have hsep4 : ∀ x, HFoot hb sb tv4 x → ¬ HFoot gb tb (.slice none 0 0) x := fun x h1 h2 => by
    rcases h1 with h1 | h1 | h1
    · exact hsep3 x (.inl h1) h2
    · exact hsep3 x (.inr (.inl h1)) h2
    · rcases hk4 with e | e
      · exact hsep3 x (.inr (.inr (by rw [← e]; exact h1))) h2
      · have := e x h1; have := hG3.lt x h2; omega
  clear hL3 hG3 hsep3 hf4 hk4
  go_wp2_with fail
  refine (Lanes_all hL4).mono ?_
  rintro e w5 ⟨v5, rfl, ho5, hf5⟩
  have hL5 := hL4.no hf5
  have hG5 := hG4.no hf5
  obtain ⟨a5, c5, rfl, hy5, _⟩ := ho5.bytes
  clear hL4 hG4 hf5
  generalize hr : (foldF (stepG (cOf kd)) 8 (firstF kd kh kl) l1) = r at ho5 hy5
  have HR := Lib.hid hr
  clear hr
  have hA5 := row4_new w5 38 (.int .u64 (W64 r.1.1)) (.int .u64 (W64 r.1.2.1)) (.int .u64 (W64 r.1.2.2.1)) (.int .u64 (W64 r.1.2.2.2))
  have hfA := (Fr.refl No w5).alloc (.cells #[.int .u64 (W64 r.1.1), .int .u64 (W64 r.1.2.1), .int .u64 (W64 r.1.2.2.1), .int .u64 (W64 r.1.2.2.2)] 38)
  unfold lanesV
  go_upto_region 10 with fail
  have hL6 := hL5.no hfA
  have hG6 := hG5.no hfA
  have hy6 := hy5.no hfA
  generalize w5.heap.size = pa at hA5 ⊢
  generalize w5.alloc (.cells #[.int .u64 (W64 r.1.1), .int .u64 (W64 r.1.2.1), .int .u64 (W64 r.1.2.2.1), .int .u64 (W64 r.1.2.2.2)] 38) = w6 at hA5 hfA hL6 hG6 hy6 ⊢
  clear hL5 hG5 hy5 ho5
  have u0 := (hK.no hL6.fr).c0
  have u1 := (hK.no hL6.fr).c1
  go_wp2_with fail
  refine (refBlocks_any kd hk kh kl _ _ _ l1 _ (hb1.no hL6.fr) (by omega)).mono ?_
  rw [HR.out]
  rintro e w7 ⟨a7, n7, c7, rfl, hy7, hst7, hf7⟩
  have hL7 := hL6.no hf7
  have hG7 := hG6.no hf7
  have hA7 := hA5.no hf7
  have hy7' := hy6.no hf7
  clear hL6 hG6 hA5 hy6 hf7 hfA u0 u1
  have hB8 := row4_new w7 38 (.int .u64 (W64 r.1.1)) (.int .u64 (W64 r.1.2.1)) (.int .u64 (W64 r.1.2.2.1)) (.int .u64 (W64 r.1.2.2.2))
  have hfB := (Fr.refl No w7).alloc (.cells #[.int .u64 (W64 r.1.1), .int .u64 (W64 r.1.2.1), .int .u64 (W64 r.1.2.2.1), .int .u64 (W64 r.1.2.2.2)] 38)
  have hA8 := hA7.no hfB
  have hL8 := hL7.no hfB
  have hG8 := hG7.no hfB
  have hy8 := hst7 _ (hb1.no hL8.fr)
  have hy8' := hy7'.no hfB
  have e5 : Hid (r.2.length = n7) := hy8.1
  have HT : Hid (BitVec.ofNat 64 l1.length = BitVec.ofNat 64 n1) := by show _ = _; rw [HLn.out]
  unfold lanesV
  rw [HT.out]
  clear hL7 hG7 hA7 hy7 hy7'
  go_upto_region 11 with fail
  generalize w7.heap.size = pc at hB8 ⊢
  generalize w7.alloc (.cells #[.int .u64 (W64 r.1.1), .int .u64 (W64 r.1.2.1), .int .u64 (W64 r.1.2.2.1), .int .u64 (W64 r.1.2.2.2)] 38) = w8 at hB8 hfB hA8 hL8 hG8 hy8 hy8' ⊢
  have cA0 := hA8.c0
  have cA1 := hA8.c1
  have cA2 := hA8.c2
  have cA3 := hA8.c3
  have cB0 := hB8.c0
  have cB1 := hB8.c1
  have cB2 := hB8.c2
  have cB3 := hB8.c3
  go_wp2_with fail
  refine (refSame_any _ _ _ r.2 _ _ _ r.2 _ hy8' hy8).mono ?_
  rintro e w' ⟨rfl, rfl⟩
  rw [BEq.rfl]
  go_wp2_with fail
  have hfit := fits_of (cOf kd) l1 (firstF kd kh kl) (by have := HLn.out; omega)
  rw [HR.out, HLn.out] at hfit
  obtain ⟨qg, hG8q⟩ := hG8
  have hGc := hG8q.on.con
  refine (Set_right hG8q r.1.1 r.1.2.1 r.1.2.2.1 r.1.2.2.2 _ (lanesV_of r.1) _ _ _ _ (right_of r.1) hfit r.2 hy8' (by have := foldF_lt (F := stepG (cOf kd)) (size := 8) (by omega) (firstF kd kh kl) l1; rw [HR.out] at this; omega)).mono ?_
  rw [state_of]
  rintro e w9 ⟨tv9, rfl, hG9, hf9, hk9⟩
  have hG9' : HAll wa w9 gb tb kd kh kl l1 tv9 := by
    refine ⟨qg, ?_⟩
    rw [HR.out, HLn.out]
    exact hG9
  have hne : ∀ x, x = tb → ¬ HFoot hb sb tv4 x := fun x hx h => hsep4 x h (.inr (.inl hx))
  have hL9 := hL8.keep hf9 hne (fun x hx => by have := hG8q.above x (.inr (.inl hx)); exact this) (hGc.sub (fun x hx => .inl hx))
  have hsep9 : ∀ x, HFoot hb sb tv4 x → ¬ HFoot gb tb tv9 x := fun x h1 h2 => by
    rcases h2 with h2 | h2 | h2
    · exact hsep4 x h1 (.inl h2)
    · exact hsep4 x h1 (.inr (.inl h2))
    · have := hk9 x h2; have := hL8.lt x h1; omega
  clear hL8 hG8q hGc hG9 hy8 hy8' cA0 cA1 cA2 cA3 cB0 cB1 cB2 cB3 hA8 hB8 hfB hf9 hk9 hsep4 hne hst7
  go_wp2_with fail
  refine (Clone_all hL9).mono ?_
  rintro e w10 ⟨kb, ub, tvk, rfl, hK10, hf10, hkn⟩
  have hL10 := hL9.no hf10
  have hG10 := hG9'.no hf10
  have hKL : ∀ x, HFoot hb sb tv4 x → ¬ HFoot kb ub tvk x := fun x h1 h2 => by have := hL9.lt x h1; have := hkn x h2; omega
  have hKG : ∀ x, HFoot gb tb tv9 x → ¬ HFoot kb ub tvk x := fun x h1 h2 => by have := hG9'.lt x h1; have := hkn x h2; omega
  clear hL9 hG9' hf10 hkn
  go_wp2_with fail
  refine (Write_all hL10 _ _ _ l2 (hb2.no hL10.fr) (hb2.old (fun x g => hL10.above x (.inr g))) (by omega)).mono ?_
  rintro e w11 ⟨rfl, tv11, hL11, hf11, hk11⟩
  have hG11 := hG10.keep hf11 (fun x h => hsep9 x (.inr h)) (fun x h => hL10.above x (.inr h)) hL10.con
  have hK11 := hK10.keep hf11 (fun x h => hKL x (.inr h)) (fun x h => hL10.above x (.inr h)) hL10.con
  have hsep11 : ∀ x, HFoot hb sb tv11 x → ¬ HFoot gb tb tv9 x := fun x h1 h2 => by
    rcases h1 with h1 | h1 | h1
    · exact hsep9 x (.inl h1) h2
    · exact hsep9 x (.inr (.inl h1)) h2
    · rcases hk11 with e | e
      · exact hsep9 x (.inr (.inr (by rw [← e]; exact h1))) h2
      · have := e x h1; have := hG10.lt x h2; omega
  clear hL10 hG10 hK10 hsep9 hf11 hk11 hKL
  go_wp2_with fail
  refine (Write_all hG11 _ _ _ l2 (hb2.no hG11.fr) (hb2.old (fun x g => hG11.above x (.inr g))) (by omega)).mono ?_
  rintro e w12 ⟨rfl, tv12, hG12, hf12, _⟩
  have hL12 := hL11.keep hf12 (fun x h h' => hsep11 x h' (.inr h)) (fun x h => hG11.above x (.inr h)) hG11.con
  have hKh := hK11.keep hf12 (fun x h => hKG x (.inr h)) (fun x h => hG11.above x (.inr h)) hG11.con
  clear hL11 hG11 hK11 hsep11 hf12 hKG
  have hK12 := hK.no hL12.fr
  have g13 : l1.length + l2.length ≤ 1000 := by rw [hb1.1, hb2.1]; omega
  go_upto_region 16 with fail
  go_cut [17] (fun s17 wx => ∃ nb, s17 = .pointer (some ⟨nb, 0, none⟩) ∧ Row2 wx nb 24 (.int .u64 (W64 (oh kd kh kl (l1 ++ l2)))) (.int .u64 (W64 (ol kd kh kl (l1 ++ l2)))) ∧ Fr No w12 wx)
  case first =>
    refine wp_region_late (by kernel_rfl) (fun w' => Fr No w12 w') (fun _ => false) (Fr.refl No w12).drew (fun hv0 => ?_)
    refine wpLate_seg [(0, 1), (1, 1), (2, 1), (3, 1)] 4 #[true, true, true, true, false, false, false, false] (by kernel_rfl) rfl hv0 ?_
    refine wpSeq_take (v := ?_) 93 rfl rfl (fun _ _ _ h => h) (Or.inl ⟨rfl, ?_⟩) ?_
    rotate_left 1
    · (intro w9 h9; go_simp; try with_reducible rfl)
    simp only [List.setIfInBounds_toArray, List.set_cons_zero, List.set_cons_succ]
    refine wpSeq_take (v := ?_) 94 rfl rfl (fun _ _ _ h => h) (Or.inl ⟨rfl, ?_⟩) ?_
    rotate_left 1
    · (intro w9 h9; have u0 := (hK12.no h9).c0; have u1 := (hK12.no h9).c1; clear h9; go_simp; try with_reducible rfl)
    simp only [List.setIfInBounds_toArray, List.set_cons_zero, List.set_cons_succ]
    refine wpSeq_take (v := ?_) 95 rfl rfl (fun _ _ _ h => h) (Or.inl ⟨rfl, ?_⟩) ?_
    rotate_left 1
    · (intro w9 h9; go_simp; try with_reducible rfl)
    simp only [List.setIfInBounds_toArray, List.set_cons_zero, List.set_cons_succ]
    refine wpSeq_take (v := ?_) 96 rfl rfl (fun _ _ _ h => h) (Or.inl ⟨rfl, ?_⟩) ?_
    rotate_left 1
    · (intro w9 h9; go_simp; try with_reducible rfl)
    simp only [List.setIfInBounds_toArray, List.set_cons_zero, List.set_cons_succ]
    refine wpSeq_done ?_
    refine wpLate_two (i := 4) (j := 6) (by kernel_rfl) rfl rfl rfl rfl (fun K hK => ?_) (fun K hK => ?_)
    · go_wp2_with fail
      refine (refBoth_any _ _ _ l1 _ _ _ l2 _ (hb1.no (hL12.fr.no hv0)) (hb2.no (hL12.fr.no hv0)) (by omega)).mono ?_
      rintro e y1 ⟨vb, rfl, hob, hx⟩
      obtain ⟨ab, cab, rfl, hyb, _⟩ := hob.bytes
      rw [List.length_append] at hyb
      have hy1 := hv0.no hx
      clear hx hob
      refine hK.out _ _ (fun _ => hy1) ?_
      clear hK K
      refine wpLate_seg [] 3 #[true, true, true, true, true, false, false, false] (by kernel_rfl) rfl hy1 ?_
      refine wpSeq_done ?_
      refine wpLate_two (i := 5) (j := 6) (by kernel_rfl) rfl rfl rfl rfl (fun K hK => ?_) (fun K hK => ?_)
      · go_wp2_with fail
        refine (refOne_any kd kh kl _ _ _ (l1 ++ l2) _ hyb (by omega)).mono ?_
        rintro e y2 ⟨rfl, hx⟩
        rw [← hfg.out.1, ← hfg.out.2.1]
        have hy2 := hy1.no hx
        clear hx hyb
        refine hK.out _ _ (fun _ => hy2) ?_
        clear hK K
        refine wpLate_seg [(6, 0), (7, 0)] 0 #[true, true, true, true, true, true, true, true] (by kernel_rfl) rfl hy2 ?_
        refine wpSeq_next rfl rfl (fun K hK => ?_)
        go_wp2_with fail
        have hy3 : Fr No w12 (y2.alloc (.cells #[.int .u64 0, .int .u64 0] 24)) := hy2.alloc _
        refine hK.out _ _ (fun _ => hy3) ?_
        clear hK K
        have hZ : Row2 (y2.alloc (.cells #[.int .u64 0, .int .u64 0] 24)) y2.heap.size 24 (.int .u64 0) (.int .u64 0) := row2_new y2 24 (.int .u64 0) (.int .u64 0)
        obtain ⟨nb, hnb⟩ : ∃ nb, nb = y2.heap.size := ⟨_, rfl⟩
        have hrl : w12.heap.size ≤ nb := by rw [hnb]; exact hy2.size
        rw [← hnb] at hZ ⊢
        clear hnb
        generalize y2.alloc (.cells #[.int .u64 0, .int .u64 0] 24) = wz at hy3 hZ  ⊢
        have cr0 := hZ.c0
        have cr1 := hZ.c1
        have fr0 := hZ.fz 0
        have fr1 := hZ.fz 1
        refine wpSeq_next rfl rfl (fun K hK => ?_)
        go_wp2_with fail
        have hvB : Fr No w12 ((wz.setCell ⟨nb, 0, none⟩ (.int .u64 (W64 (oh kd kh kl (l1 ++ l2))))).setCell ⟨nb, 1, none⟩ (.int .u64 (W64 (ol kd kh kl (l1 ++ l2))))) := hy3.trans (fr_put2 wz nb (.int .u64 (W64 (oh kd kh kl (l1 ++ l2)))) (.int .u64 (W64 (ol kd kh kl (l1 ++ l2))))) (fun x hx => .inr (by omega))
        refine hK.out _ _ (fun _ => hvB) ?_
        clear hK K
        have hZF := row_put2 hZ (.int .u64 (W64 (oh kd kh kl (l1 ++ l2)))) (.int .u64 (W64 (ol kd kh kl (l1 ++ l2))))
        clear cr0 cr1 fr0 fr1
        refine wpSeq_done ?_
        refine wpLate_done (by kernel_rfl) ?_ _
        go_wp2_with fail
        go_meet
        exact ⟨nb, rfl, hZF, hvB⟩
      · go_wp2_with fail
        have hy2 : Fr No w12 (y1.alloc (.cells #[.int .u64 0, .int .u64 0] 24)) := hy1.alloc _
        refine hK.out _ _ (fun _ => hy2) ?_
        clear hK K
        have hZ : Row2 (y1.alloc (.cells #[.int .u64 0, .int .u64 0] 24)) y1.heap.size 24 (.int .u64 0) (.int .u64 0) := row2_new y1 24 (.int .u64 0) (.int .u64 0)
        replace hyb := hyb.no ((Fr.refl No y1).alloc (.cells #[.int .u64 0, .int .u64 0] 24))
        obtain ⟨nb, hnb⟩ : ∃ nb, nb = y1.heap.size := ⟨_, rfl⟩
        have hrl : w12.heap.size ≤ nb := by rw [hnb]; exact hy1.size
        rw [← hnb] at hZ ⊢
        clear hnb
        generalize y1.alloc (.cells #[.int .u64 0, .int .u64 0] 24) = wz at hy2 hZ hyb ⊢
        refine wpLate_seg [(5, 0), (7, 0)] 0 #[true, true, true, true, true, true, true, true] (by kernel_rfl) rfl hy2 ?_
        refine wpSeq_next rfl rfl (fun K hK => ?_)
        go_wp2_with fail
        refine (refOne_any kd kh kl _ _ _ (l1 ++ l2) _ hyb (by omega)).mono ?_
        rintro e y3 ⟨rfl, hx⟩
        rw [← hfg.out.1, ← hfg.out.2.1]
        have hy3 := hy2.no hx
        replace hZ := hZ.no hx
        clear hx hyb
        refine hK.out _ _ (fun _ => hy3) ?_
        clear hK K
        have cr0 := hZ.c0
        have cr1 := hZ.c1
        have fr0 := hZ.fz 0
        have fr1 := hZ.fz 1
        refine wpSeq_next rfl rfl (fun K hK => ?_)
        go_wp2_with fail
        have hvB : Fr No w12 ((y3.setCell ⟨nb, 0, none⟩ (.int .u64 (W64 (oh kd kh kl (l1 ++ l2))))).setCell ⟨nb, 1, none⟩ (.int .u64 (W64 (ol kd kh kl (l1 ++ l2))))) := hy3.trans (fr_put2 y3 nb (.int .u64 (W64 (oh kd kh kl (l1 ++ l2)))) (.int .u64 (W64 (ol kd kh kl (l1 ++ l2))))) (fun x hx => .inr (by omega))
        refine hK.out _ _ (fun _ => hvB) ?_
        clear hK K
        have hZF := row_put2 hZ (.int .u64 (W64 (oh kd kh kl (l1 ++ l2)))) (.int .u64 (W64 (ol kd kh kl (l1 ++ l2))))
        clear cr0 cr1 fr0 fr1
        refine wpSeq_done ?_
        refine wpLate_done (by kernel_rfl) ?_ _
        go_wp2_with fail
        go_meet
        exact ⟨nb, rfl, hZF, hvB⟩
    · go_wp2_with fail
      have hy1 : Fr No w12 (w12.alloc (.cells #[.int .u64 0, .int .u64 0] 24)).drew := ((Fr.refl No w12).alloc _).drew
      refine hK.out _ _ (fun _ => hy1) ?_
      clear hK K
      have hZ : Row2 (w12.alloc (.cells #[.int .u64 0, .int .u64 0] 24)).drew w12.heap.size 24 (.int .u64 0) (.int .u64 0) := (row2_new w12 24 (.int .u64 0) (.int .u64 0)).no (Fr.refl No _).drew
      obtain ⟨nb, hnb⟩ : ∃ nb, nb = w12.heap.size := ⟨_, rfl⟩
      have hrl : w12.heap.size ≤ nb := by rw [hnb]; exact hv0.size
      rw [← hnb] at hZ ⊢
      clear hnb
      generalize (w12.alloc (.cells #[.int .u64 0, .int .u64 0] 24)).drew = wz at hy1 hZ  ⊢
      refine wpLate_seg [(4, 0), (5, 0), (7, 0)] 0 #[true, true, true, true, true, true, true, true] (by kernel_rfl) rfl hy1 ?_
      refine wpSeq_next rfl rfl (fun K hK => ?_)
      go_wp2_with fail
      refine (refBoth_any _ _ _ l1 _ _ _ l2 _ (hb1.no (hL12.fr.no hy1)) (hb2.no (hL12.fr.no hy1)) (by omega)).mono ?_
      rintro e y2 ⟨vb, rfl, hob, hx⟩
      obtain ⟨ab, cab, rfl, hyb, _⟩ := hob.bytes
      rw [List.length_append] at hyb
      have hy2 := hy1.no hx
      replace hZ := hZ.no hx
      clear hx hob
      refine hK.out _ _ (fun _ => hy2) ?_
      clear hK K
      refine wpSeq_next rfl rfl (fun K hK => ?_)
      go_wp2_with fail
      refine (refOne_any kd kh kl _ _ _ (l1 ++ l2) _ hyb (by omega)).mono ?_
      rintro e y3 ⟨rfl, hx⟩
      rw [← hfg.out.1, ← hfg.out.2.1]
      have hy3 := hy2.no hx
      replace hZ := hZ.no hx
      clear hx hyb
      refine hK.out _ _ (fun _ => hy3) ?_
      clear hK K
      have cr0 := hZ.c0
      have cr1 := hZ.c1
      have fr0 := hZ.fz 0
      have fr1 := hZ.fz 1
      refine wpSeq_next rfl rfl (fun K hK => ?_)
      go_wp2_with fail
      have hvB : Fr No w12 ((y3.setCell ⟨nb, 0, none⟩ (.int .u64 (W64 (oh kd kh kl (l1 ++ l2))))).setCell ⟨nb, 1, none⟩ (.int .u64 (W64 (ol kd kh kl (l1 ++ l2))))) := hy3.trans (fr_put2 y3 nb (.int .u64 (W64 (oh kd kh kl (l1 ++ l2)))) (.int .u64 (W64 (ol kd kh kl (l1 ++ l2))))) (fun x hx => .inr (by omega))
      refine hK.out _ _ (fun _ => hvB) ?_
      clear hK K
      have hZF := row_put2 hZ (.int .u64 (W64 (oh kd kh kl (l1 ++ l2)))) (.int .u64 (W64 (ol kd kh kl (l1 ++ l2))))
      clear cr0 cr1 fr0 fr1
      refine wpSeq_done ?_
      refine wpLate_done (by kernel_rfl) ?_ _
      go_wp2_with fail
      go_meet
      exact ⟨nb, rfl, hZF, hvB⟩
  case rest =>
  obtain ⟨nb, rfl, hQ, hfc⟩ := hcut
  have hL14 := hL12.no hfc
  have hG14 := hG12.no hfc
  have hK14h := hKh.no hfc
  have hK14 := hK12.no hfc
  have hy14 := hb1.no hL14.fr
  clear hL12 hG12 hKh hK12 hfc
  go_upto_region 17 with fail
  refine wp_region_seq (by kernel_rfl) (fun w' => Fr No wc w') (fun _ => false) [(0, 1), (2, 1), (1, 0), (3, 1), (4, 1), (5, 1), (7, 1), (6, 0), (8, 1), (9, 1), (10, 1), (11, 1), (12, 1), (13, 1), (14, 1), (15, 1), (17, 1), (18, 1), (19, 1), (16, 0), (20, 0), (21, 1), (22, 1), (23, 1)] (by kernel_rfl) (Fr.refl No wc).drew ?_
  have hv0 : Fr No wc wc.drew := (Fr.refl No wc).drew
  refine wpSeq_take (v := ?_) 99 rfl rfl (fun _ _ _ h => h) (Or.inl ⟨rfl, ?_⟩) ?_
  rotate_left 1
  · (intro w9 h9; go_simp; try with_reducible rfl)
  simp only [List.setIfInBounds_toArray, List.set_cons_zero, List.set_cons_succ]
  refine wpSeq_take (v := ?_) 101 rfl rfl (fun _ _ _ h => h) (Or.inl ⟨rfl, ?_⟩) ?_
  rotate_left 1
  · (intro w9 h9; have q0 := (hQ.no h9).c0; have q1 := (hQ.no h9).c1; have u0 := (hK14.no h9).c0; have u1 := (hK14.no h9).c1; clear h9; go_simp; try with_reducible rfl)
  simp only [List.setIfInBounds_toArray, List.set_cons_zero, List.set_cons_succ]
  refine wpSeq_next rfl rfl (fun K hK => ?_)
  go_wp2_with fail
  refine (Sum_all (hL14.no hv0)).mono ?_
  rintro e xhv1 ⟨rfl, hx⟩
  rw [← hfg.out.1, ← hfg.out.2.1]
  have hv1 := hv0.no hx
  clear hx
  refine hK.out _ _ (fun _ => hv1) ?_
  clear hK K
  refine wpSeq_take (v := ?_) 102 rfl rfl (fun _ _ _ h => h) (Or.inl ⟨rfl, ?_⟩) ?_
  rotate_left 1
  · (intro w9 h9; go_simp; try with_reducible rfl)
  simp only [List.setIfInBounds_toArray, List.set_cons_zero, List.set_cons_succ]
  refine wpSeq_take (v := ?_) 103 rfl rfl (fun _ _ _ h => h) (Or.inl ⟨rfl, ?_⟩) ?_
  rotate_left 1
  · (intro w9 h9; go_simp; try with_reducible rfl)
  simp only [List.setIfInBounds_toArray, List.set_cons_zero, List.set_cons_succ]
  refine wpSeq_take (v := ?_) 104 rfl rfl (fun _ _ _ h => h) (Or.inl ⟨rfl, ?_⟩) ?_
  rotate_left 1
  · (intro w9 h9; go_simp; try with_reducible rfl)
  simp only [List.setIfInBounds_toArray, List.set_cons_zero, List.set_cons_succ]
  refine wpSeq_take (v := ?_) 106 rfl rfl (fun _ _ _ h => h) (Or.inl ⟨rfl, ?_⟩) ?_
  rotate_left 1
  · (intro w9 h9; have q0 := (hQ.no h9).c0; have q1 := (hQ.no h9).c1; have u0 := (hK14.no h9).c0; have u1 := (hK14.no h9).c1; clear h9; go_simp; try with_reducible rfl)
  simp only [List.setIfInBounds_toArray, List.set_cons_zero, List.set_cons_succ]
  refine wpSeq_next rfl rfl (fun K hK => ?_)
  go_wp2_with fail
  refine (Sum_all (hG14.no hv1)).mono ?_
  rintro e xhv2 ⟨rfl, hx⟩
  rw [← hfg.out.1, ← hfg.out.2.1]
  have hv2 := hv1.no hx
  clear hx
  refine hK.out _ _ (fun _ => hv2) ?_
  clear hK K
  refine wpSeq_take (v := ?_) 107 rfl rfl (fun _ _ _ h => h) (Or.inl ⟨rfl, ?_⟩) ?_
  rotate_left 1
  · (intro w9 h9; go_simp; try with_reducible rfl)
  simp only [List.setIfInBounds_toArray, List.set_cons_zero, List.set_cons_succ]
  refine wpSeq_take (v := ?_) 108 rfl rfl (fun _ _ _ h => h) (Or.inl ⟨rfl, ?_⟩) ?_
  rotate_left 1
  · (intro w9 h9; go_simp; try with_reducible rfl)
  simp only [List.setIfInBounds_toArray, List.set_cons_zero, List.set_cons_succ]
  refine wpSeq_take (v := ?_) 109 rfl rfl (fun _ _ _ h => h) (Or.inl ⟨rfl, ?_⟩) ?_
  rotate_left 1
  · (intro w9 h9; go_simp; try with_reducible rfl)
  simp only [List.setIfInBounds_toArray, List.set_cons_zero, List.set_cons_succ]
  refine wpSeq_take (v := ?_) 110 rfl rfl (fun _ _ _ h => h) (Or.inl ⟨rfl, ?_⟩) ?_
  rotate_left 1
  · (intro w9 h9; go_simp; try with_reducible rfl)
  simp only [List.setIfInBounds_toArray, List.set_cons_zero, List.set_cons_succ]
  refine wpSeq_take (v := ?_) 111 rfl rfl (fun _ _ _ h => h) (Or.inl ⟨rfl, ?_⟩) ?_
  rotate_left 1
  · (intro w9 h9; go_simp; try with_reducible rfl)
  simp only [List.setIfInBounds_toArray, List.set_cons_zero, List.set_cons_succ]
  refine wpSeq_take (v := ?_) 112 rfl rfl (fun _ _ _ h => h) (Or.inl ⟨rfl, ?_⟩) ?_
  rotate_left 1
  · (intro w9 h9; go_simp; try with_reducible rfl)
  simp only [List.setIfInBounds_toArray, List.set_cons_zero, List.set_cons_succ]
  refine wpSeq_take (v := ?_) 113 rfl rfl (fun _ _ _ h => h) (Or.inl ⟨rfl, ?_⟩) ?_
  rotate_left 1
  · (intro w9 h9; go_simp; try with_reducible rfl)
  simp only [List.setIfInBounds_toArray, List.set_cons_zero, List.set_cons_succ]
  refine wpSeq_take (v := ?_) 114 rfl rfl (fun _ _ _ h => h) (Or.inl ⟨rfl, ?_⟩) ?_
  rotate_left 1
  · (intro w9 h9; go_simp; try with_reducible rfl)
  simp only [List.setIfInBounds_toArray, List.set_cons_zero, List.set_cons_succ]
  refine wpSeq_take (v := ?_) 116 rfl rfl (fun _ _ _ h => h) (Or.inl ⟨rfl, ?_⟩) ?_
  rotate_left 1
  · (intro w9 h9; go_simp; try with_reducible rfl)
  simp only [List.setIfInBounds_toArray, List.set_cons_zero, List.set_cons_succ]
  refine wpSeq_take (v := ?_) 117 rfl rfl (fun _ _ _ h => h) (Or.inl ⟨rfl, ?_⟩) ?_
  rotate_left 1
  · (intro w9 h9; have q0 := (hQ.no h9).c0; have q1 := (hQ.no h9).c1; have u0 := (hK14.no h9).c0; have u1 := (hK14.no h9).c1; clear h9; go_simp; try with_reducible rfl)
  simp only [List.setIfInBounds_toArray, List.set_cons_zero, List.set_cons_succ]
  refine wpSeq_take (v := ?_) 118 rfl rfl (fun _ _ _ h => h) (Or.inl ⟨rfl, ?_⟩) ?_
  rotate_left 1
  · (intro w9 h9; go_simp; try with_reducible rfl)
  simp only [List.setIfInBounds_toArray, List.set_cons_zero, List.set_cons_succ]
  refine wpSeq_next rfl rfl (fun K hK => ?_)
  go_wp2_with fail
  refine (Sum_all (hK14h.no hv2)).mono ?_
  rintro e xhv3 ⟨rfl, hx⟩
  rw [← hfg.out.1, ← hfg.out.2.1]
  have hv3 := hv2.no hx
  clear hx
  refine hK.out _ _ (fun _ => hv3) ?_
  clear hK K
  refine wpSeq_next rfl rfl (fun K hK => ?_)
  go_wp2_with fail
  refine (refOne_any kd kh kl _ _ _ l1 _ (hy14.no hv3) (by omega)).mono ?_
  rintro e xhv4 ⟨rfl, hx⟩
  rw [← hfg.out.1, ← hfg.out.2.1]
  have hv4 := hv3.no hx
  clear hx
  refine hK.out _ _ (fun _ => hv4) ?_
  clear hK K
  refine wpSeq_take (v := ?_) 120 rfl rfl (fun _ _ _ h => h) (Or.inl ⟨rfl, ?_⟩) ?_
  rotate_left 1
  · (intro w9 h9; go_simp; try with_reducible rfl)
  simp only [List.setIfInBounds_toArray, List.set_cons_zero, List.set_cons_succ]
  refine wpSeq_take (v := ?_) 121 rfl rfl (fun _ _ _ h => h) (Or.inl ⟨rfl, ?_⟩) ?_
  rotate_left 1
  · (intro w9 h9; go_simp; try with_reducible rfl)
  simp only [List.setIfInBounds_toArray, List.set_cons_zero, List.set_cons_succ]
  refine wpSeq_take (v := ?_) 8 rfl rfl (fun _ _ _ h => h) (Or.inl ⟨rfl, ?_⟩) ?_
  rotate_left 1
  · (intro w9 h9; go_simp; try with_reducible rfl)
  simp only [List.setIfInBounds_toArray, List.set_cons_zero, List.set_cons_succ]
  refine wpSeq_done ?_
  go_wp2_with fail
  go_ret
  exact ⟨rfl, hfa.no (hL14.fr.no hv4)⟩
end Go.Proofs.Ytcbbllfgelnpjaa.StSip
