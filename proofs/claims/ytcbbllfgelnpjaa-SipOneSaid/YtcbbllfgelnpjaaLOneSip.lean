/- SipOne's walk. -/
import Derived.Test.YtcbbllfgelnpjaaAllSip
namespace Go.Proofs.Ytcbbllfgelnpjaa.StSip
set_option linter.unusedVariables false
set_option linter.unusedSimpArgs false
open Go.RowKit
set_option maxHeartbeats 1000000 in
theorem SipOne_yes (kd : Int) (kh kl : BitVec 64) (a1 : Option Addr) (n1 c1 : Nat) (l1 : Bytes) (w : World) (hb1 : IsBytes w a1 n1 c1 l1) :
    Calls Try.prog 3 #[.int .i64 kd, .agg #[.int .u64 (W64 kh), .int .u64 (W64 kl)], .slice a1 n1 c1] w (Yes w) := by
  obtain ⟨oh, ol, eh, el, hfg⟩ := tells_ex
  have hfa : Fr No w (w.alloc (.cells #[.int .u64 (W64 kh), .int .u64 (W64 kl)] 24)) := (Fr.refl No w).alloc _
  have hK := row2_new w 24 (.int .u64 (W64 kh)) (.int .u64 (W64 kl))
  go_enter Try.func3, Try.ntmps3
  go_wp2_with fail
  generalize w.heap.size = pb at hK ⊢
  generalize w.alloc (.cells #[.int .u64 (W64 kh), .int .u64 (W64 kl)] 24) = wa at hfa hK ⊢
  by_cases hbig : 2000 < n1
  · have i1 : (2000 : Int) < (n1 : Int) := by omega
    clear hb1 hbig
    refine (awake_yes _).mono ?_
    rintro e w1 ⟨rfl, hf1⟩
    go_wp2_with fail
    go_ret
    exact ⟨rfl, hfa.no hf1⟩
  · have i1 : (n1 : Int) ≤ 2000 := by omega
    refine (awake_yes _).mono ?_
    rintro e w1 ⟨rfl, hf1⟩
    have hK1 := hK.no hf1
    have hb2 := (hb1.no hfa).no hf1
    clear hK
    go_wp2_with fail
    refine wp_region_seq (by kernel_rfl) (fun w' => Fr No w1 w') (fun _ => false) [(0, 1), (1, 1), (2, 1), (4, 1), (5, 1), (6, 1), (3, 0), (7, 0), (8, 1), (9, 1)] (by kernel_rfl) (Fr.refl No w1).drew ?_
    have hv0 : Fr No w1 w1.drew := (Fr.refl No w1).drew
    refine wpSeq_take (v := ?_) 12 rfl rfl (fun _ _ _ h => h) (Or.inl ⟨rfl, ?_⟩) ?_
    rotate_left 1
    · (intro w9 h9; go_simp; try with_reducible rfl)
    simp only [List.setIfInBounds_toArray, List.set_cons_zero, List.set_cons_succ]
    refine wpSeq_take (v := ?_) 13 rfl rfl (fun _ _ _ h => h) (Or.inl ⟨rfl, ?_⟩) ?_
    rotate_left 1
    · (intro w9 h9; have u0 := (hK1.no h9).c0; have u1 := (hK1.no h9).c1; clear h9; go_simp; try with_reducible rfl)
    simp only [List.setIfInBounds_toArray, List.set_cons_zero, List.set_cons_succ]
    refine wpSeq_take (v := ?_) 14 rfl rfl (fun _ _ _ h => h) (Or.inl ⟨rfl, ?_⟩) ?_
    rotate_left 1
    · (intro w9 h9; go_simp; try with_reducible rfl)
    simp only [List.setIfInBounds_toArray, List.set_cons_zero, List.set_cons_succ]
    refine wpSeq_take (v := ?_) 16 rfl rfl (fun _ _ _ h => h) (Or.inl ⟨rfl, ?_⟩) ?_
    rotate_left 1
    · (intro w9 h9; go_simp; try with_reducible rfl)
    simp only [List.setIfInBounds_toArray, List.set_cons_zero, List.set_cons_succ]
    refine wpSeq_take (v := ?_) 17 rfl rfl (fun _ _ _ h => h) (Or.inl ⟨rfl, ?_⟩) ?_
    rotate_left 1
    · (intro w9 h9; have u0 := (hK1.no h9).c0; have u1 := (hK1.no h9).c1; clear h9; go_simp; try with_reducible rfl)
    simp only [List.setIfInBounds_toArray, List.set_cons_zero, List.set_cons_succ]
    refine wpSeq_take (v := ?_) 18 rfl rfl (fun _ _ _ h => h) (Or.inl ⟨rfl, ?_⟩) ?_
    rotate_left 1
    · (intro w9 h9; go_simp; try with_reducible rfl)
    simp only [List.setIfInBounds_toArray, List.set_cons_zero, List.set_cons_succ]
    refine wpSeq_next rfl rfl (fun K hK => ?_)
    go_wp2_with fail
    refine (One_any kd kh kl _ _ _ l1 _ (hb2.no hv0) (by omega)).mono ?_
    rintro e xhv1 ⟨rfl, hx⟩
    rw [← hfg.out.1, ← hfg.out.2.1]
    have hv1 := hv0.no hx
    clear hx
    refine hK.out _ _ (fun _ => hv1) ?_
    clear hK K
    refine wpSeq_next rfl rfl (fun K hK => ?_)
    go_wp2_with fail
    refine (refOne_any kd kh kl _ _ _ l1 _ (hb2.no hv1) (by omega)).mono ?_
    rintro e xhv2 ⟨rfl, hx⟩
    rw [← hfg.out.1, ← hfg.out.2.1]
    have hv2 := hv1.no hx
    clear hx
    refine hK.out _ _ (fun _ => hv2) ?_
    clear hK K
    refine wpSeq_take (v := ?_) 20 rfl rfl (fun _ _ _ h => h) (Or.inl ⟨rfl, ?_⟩) ?_
    rotate_left 1
    · (intro w9 h9; go_simp; try with_reducible rfl)
    simp only [List.setIfInBounds_toArray, List.set_cons_zero, List.set_cons_succ]
    refine wpSeq_take (v := ?_) 6 rfl rfl (fun _ _ _ h => h) (Or.inl ⟨rfl, ?_⟩) ?_
    rotate_left 1
    · (intro w9 h9; go_simp; try with_reducible rfl)
    simp only [List.setIfInBounds_toArray, List.set_cons_zero, List.set_cons_succ]
    refine wpSeq_done ?_
    go_wp2_with fail
    go_ret
    exact ⟨rfl, (hfa.no hf1).no hv2⟩
end Go.Proofs.Ytcbbllfgelnpjaa.StSip
