/- xx64.all, rest, end. -/
import Derived.Test.YtdemhnkkohnflaeCodeX64
namespace Go.Proofs.Ytdemhnkkohnflae.StX64
set_option linter.unusedVariables false
set_option linter.unusedSimpArgs false
open Go.RowKit

@[go_sem] theorem index4_0 (v0 v1 v2 v3 : Value) (w : World) : (Instr.index 35 (.agg #[v0, v1, v2, v3]) (.int .i64 0)).run Try.prog w = .ok v0 w := by simp [Instr.index, run_underlying Try.underlying35, asIntOf, go_sem]
@[go_sem] theorem index4_1 (v0 v1 v2 v3 : Value) (w : World) : (Instr.index 35 (.agg #[v0, v1, v2, v3]) (.int .i64 1)).run Try.prog w = .ok v1 w := by simp [Instr.index, run_underlying Try.underlying35, asIntOf, go_sem]
@[go_sem] theorem index4_2 (v0 v1 v2 v3 : Value) (w : World) : (Instr.index 35 (.agg #[v0, v1, v2, v3]) (.int .i64 2)).run Try.prog w = .ok v2 w := by simp [Instr.index, run_underlying Try.underlying35, asIntOf, go_sem]
@[go_sem] theorem index4_3 (v0 v1 v2 v3 : Value) (w : World) : (Instr.index 35 (.agg #[v0, v1, v2, v3]) (.int .i64 3)).run Try.prog w = .ok v3 w := by simp [Instr.index, run_underlying Try.underlying35, asIntOf, go_sem]
theorem round0_any (k : BitVec 64) (w : World) : Calls Try.prog 44 #[.int .u64 0, .int .u64 (W64 k)] w (Gives (.int .u64 (W64 (roundF 0#64 k))) w) := round_any 0#64 k w
theorem allTo1 (s : ST) : mergeF (allTo s 0) s.1 = allTo s 1 := rfl
theorem allTo2 (s : ST) : mergeF (allTo s 1) s.2.1 = allTo s 2 := rfl
theorem allTo3 (s : ST) : mergeF (allTo s 2) s.2.2.1 = allTo s 3 := rfl
theorem allTo4 (s : ST) : mergeF (allTo s 3) s.2.2.2 = allTo s 4 := rfl
theorem sumF_def (s : ST) : rotl64 s.1 1 + rotl64 s.2.1 7 + rotl64 s.2.2.1 12 + rotl64 s.2.2.2 18 = sumF s := rfl
set_option maxHeartbeats 2000000 in
theorem all_any (s : ST) (w : World) : Calls Try.prog 45 #[.agg #[.int .u64 (W64 s.1), .int .u64 (W64 s.2.1), .int .u64 (W64 s.2.2.1), .int .u64 (W64 s.2.2.2)]] w (GivesNew (.int .u64 (W64 (allF s))) w) := by
  have hf0 : Fr No w (w.alloc (.cells #[.int .u64 (W64 s.1), .int .u64 (W64 s.2.1), .int .u64 (W64 s.2.2.1), .int .u64 (W64 s.2.2.2)] 35)) := (Fr.refl No w).alloc _
  have hR := row4_new w 35 (.int .u64 (W64 s.1)) (.int .u64 (W64 s.2.1)) (.int .u64 (W64 s.2.2.1)) (.int .u64 (W64 s.2.2.2))
  go_enter Try.func45, Try.ntmps45
  go_wp2_with fail
  generalize w.heap.size = pb at hR ⊢
  generalize w.alloc (.cells #[.int .u64 (W64 s.1), .int .u64 (W64 s.2.1), .int .u64 (W64 s.2.2.1), .int .u64 (W64 s.2.2.2)] 35) = w0 at hf0 hR ⊢
  refine wp_region_seq (by kernel_rfl) (fun w' => Fr No w0 w') (fun _ => false) [(0, 1), (1, 1), (3, 1), (4, 1), (7, 1), (8, 1), (11, 1), (12, 1), (2, 0), (5, 0), (6, 1), (9, 0), (10, 1), (13, 0), (14, 1), (15, 1)] (by kernel_rfl) (Fr.refl No w0).drew ?_
  have hs0 : Fr No w0 w0.drew := (Fr.refl No w0).drew
  refine wpSeq_take (v := ?_) 8 rfl rfl (fun _ _ _ h => h) (Or.inl ⟨rfl, ?_⟩) ?_
  rotate_left 1
  · (intro w9 h9; go_simp; try with_reducible rfl)
  simp only [List.setIfInBounds_toArray, List.set_cons_zero, List.set_cons_succ]
  refine wpSeq_take (v := ?_) 9 rfl rfl (fun _ _ _ h => h) (Or.inl ⟨rfl, ?_⟩) ?_
  rotate_left 1
  · (intro w9 h9; have q0 := (hR.no h9).c0; have q1 := (hR.no h9).c1; have q2 := (hR.no h9).c2; have q3 := (hR.no h9).c3; clear h9; go_simp; try with_reducible rfl)
  simp only [List.setIfInBounds_toArray, List.set_cons_zero, List.set_cons_succ]
  refine wpSeq_take (v := ?_) 11 rfl rfl (fun _ _ _ h => h) (Or.inl ⟨rfl, ?_⟩) ?_
  rotate_left 1
  · (intro w9 h9; go_simp; try with_reducible rfl)
  simp only [List.setIfInBounds_toArray, List.set_cons_zero, List.set_cons_succ]
  refine wpSeq_take (v := ?_) 12 rfl rfl (fun _ _ _ h => h) (Or.inl ⟨rfl, ?_⟩) ?_
  rotate_left 1
  · (intro w9 h9; have q0 := (hR.no h9).c0; have q1 := (hR.no h9).c1; have q2 := (hR.no h9).c2; have q3 := (hR.no h9).c3; clear h9; go_simp; try with_reducible rfl)
  simp only [List.setIfInBounds_toArray, List.set_cons_zero, List.set_cons_succ]
  refine wpSeq_take (v := ?_) 15 rfl rfl (fun _ _ _ h => h) (Or.inl ⟨rfl, ?_⟩) ?_
  rotate_left 1
  · (intro w9 h9; go_simp; try with_reducible rfl)
  simp only [List.setIfInBounds_toArray, List.set_cons_zero, List.set_cons_succ]
  refine wpSeq_take (v := ?_) 16 rfl rfl (fun _ _ _ h => h) (Or.inl ⟨rfl, ?_⟩) ?_
  rotate_left 1
  · (intro w9 h9; have q0 := (hR.no h9).c0; have q1 := (hR.no h9).c1; have q2 := (hR.no h9).c2; have q3 := (hR.no h9).c3; clear h9; go_simp; try with_reducible rfl)
  simp only [List.setIfInBounds_toArray, List.set_cons_zero, List.set_cons_succ]
  refine wpSeq_take (v := ?_) 19 rfl rfl (fun _ _ _ h => h) (Or.inl ⟨rfl, ?_⟩) ?_
  rotate_left 1
  · (intro w9 h9; go_simp; try with_reducible rfl)
  simp only [List.setIfInBounds_toArray, List.set_cons_zero, List.set_cons_succ]
  refine wpSeq_take (v := ?_) 20 rfl rfl (fun _ _ _ h => h) (Or.inl ⟨rfl, ?_⟩) ?_
  rotate_left 1
  · (intro w9 h9; have q0 := (hR.no h9).c0; have q1 := (hR.no h9).c1; have q2 := (hR.no h9).c2; have q3 := (hR.no h9).c3; clear h9; go_simp; try with_reducible rfl)
  simp only [List.setIfInBounds_toArray, List.set_cons_zero, List.set_cons_succ]
  refine wpSeq_next rfl rfl (fun K hK => ?_)
  go_wp2_with fail
  refine (Rot64_any _ 1 _).mono ?_
  rintro e w' ⟨rfl, rfl⟩
  refine hK.out _ _ (fun _ => hs0) ?_
  clear hK K
  refine wpSeq_next rfl rfl (fun K hK => ?_)
  go_wp2_with fail
  refine (Rot64_any _ 7 _).mono ?_
  rintro e w' ⟨rfl, rfl⟩
  refine hK.out _ _ (fun _ => hs0) ?_
  clear hK K
  refine wpSeq_take (v := ?_) 14 rfl rfl (fun _ _ _ h => h) (Or.inl ⟨rfl, ?_⟩) ?_
  rotate_left 1
  · (intro w9 h9; go_simp; try with_reducible rfl)
  simp only [List.setIfInBounds_toArray, List.set_cons_zero, List.set_cons_succ]
  refine wpSeq_next rfl rfl (fun K hK => ?_)
  go_wp2_with fail
  refine (Rot64_any _ 12 _).mono ?_
  rintro e w' ⟨rfl, rfl⟩
  refine hK.out _ _ (fun _ => hs0) ?_
  clear hK K
  refine wpSeq_take (v := ?_) 18 rfl rfl (fun _ _ _ h => h) (Or.inl ⟨rfl, ?_⟩) ?_
  rotate_left 1
  · (intro w9 h9; go_simp; try with_reducible rfl)
  simp only [List.setIfInBounds_toArray, List.set_cons_zero, List.set_cons_succ]
  refine wpSeq_next rfl rfl (fun K hK => ?_)
  go_wp2_with fail
  refine (Rot64_any _ 18 _).mono ?_
  rintro e w' ⟨rfl, rfl⟩
  refine hK.out _ _ (fun _ => hs0) ?_
  clear hK K
  refine wpSeq_take (v := ?_) 22 rfl rfl (fun _ _ _ h => h) (Or.inl ⟨rfl, ?_⟩) ?_
  rotate_left 1
  · (intro w9 h9; go_simp; try with_reducible rfl)
  simp only [List.setIfInBounds_toArray, List.set_cons_zero, List.set_cons_succ]
  refine wpSeq_take (v := ?_) 4 rfl rfl (fun _ _ _ h => h) (Or.inl ⟨rfl, ?_⟩) ?_
  rotate_left 1
  · (intro w9 h9; go_simp; try with_reducible rfl)
  simp only [List.setIfInBounds_toArray, List.set_cons_zero, List.set_cons_succ]
  refine wpSeq_done ?_
  rw [sumF_def]
  have hf1 := hf0.no hs0
  have cq0 := (hR.no hs0).c0
  have cq1 := (hR.no hs0).c1
  have cq2 := (hR.no hs0).c2
  have cq3 := (hR.no hs0).c3
  clear hs0 hR hf0
  go_wp2_with fail
  generalize w0.drew = w1 at hf1 cq0 cq1 cq2 cq3 ⊢
  clear cq0 cq1 cq2 cq3
  go_loop [4, 24] (fun u i => ∃ k : Nat, k ≤ 4 ∧ i = .int .i64 k ∧ u = .int .u64 (W64 (allTo s k))) (fun _ i => 4 - (intOf i).toNat)
  case atStart => exact ⟨0, by omega, rfl, rfl⟩
  case round =>
    obtain ⟨k, hk, rfl, rfl⟩ := hrel
    rcases (show k = 0 ∨ k = 1 ∨ k = 2 ∨ k = 3 ∨ k = 4 by omega) with rfl | rfl | rfl | rfl | rfl
    · go_wp2_with fail
      refine (round0_any (s.1) _).mono ?_
      rintro e w' ⟨rfl, rfl⟩
      go_wp2_with fail
      refine ⟨⟨1, by omega, rfl, ?_⟩, by simp [intOf]⟩
      rw [mergeF_def, allTo1]
    · go_wp2_with fail
      refine (round0_any (s.2.1) _).mono ?_
      rintro e w' ⟨rfl, rfl⟩
      go_wp2_with fail
      refine ⟨⟨2, by omega, rfl, ?_⟩, by simp [intOf]⟩
      rw [mergeF_def, allTo2]
    · go_wp2_with fail
      refine (round0_any (s.2.2.1) _).mono ?_
      rintro e w' ⟨rfl, rfl⟩
      go_wp2_with fail
      refine ⟨⟨3, by omega, rfl, ?_⟩, by simp [intOf]⟩
      rw [mergeF_def, allTo3]
    · go_wp2_with fail
      refine (round0_any (s.2.2.2) _).mono ?_
      rintro e w' ⟨rfl, rfl⟩
      go_wp2_with fail
      refine ⟨⟨4, by omega, rfl, ?_⟩, by simp [intOf]⟩
      rw [mergeF_def, allTo4]
    · go_wp2_with fail
      go_ret
      exact ⟨rfl, hf1⟩
set_option maxHeartbeats 2000000 in
theorem rest_any (h : BitVec 64) (a : Option Addr) (n c : Nat) (l : Bytes) (w : World) (hb : IsBytes w a n c l) : Calls Try.prog 46 #[.int .u64 (W64 h), .slice a n c] w (Gives (.int .u64 (W64 (restF h l))) w) := by
  generalize hr : restF h l = r
  have HR := Lib.hid hr
  clear hr
  go_enter Try.func46, Try.ntmps46
  go_wp2_with fail
  go_step3
  go_wp2_with fail
  go_step3
  go_wp2_with fail
  go_loop [0, 1] (fun u v => ∃ m a' c' l' h', v = .slice a' m c' ∧ u = .int .u64 (W64 h') ∧ IsBytes w a' m c' l' ∧ restF h' l' = r) (fun _ v => match v with | .slice _ m _ => m | _ => 0)
  case atStart => exact ⟨n, a, c, l, _, rfl, rfl, hb, HR.out⟩
  case round =>
    obtain ⟨m, a', c', l', h', rfl, rfl, hb', hr'⟩ := hrel
    have hlen := Lib.hid hb'.1
    have hc : m ≤ c' := hb'.2.1
    have hc2 : c' ≤ 9223372036854775807 := hb'.2.2.1
    clear hb
    by_cases hlt : 8 ≤ m
    · have i2 : (8 : Int) ≤ (c' : Int) := by omega
      have i3 : (8 : Int) ≤ (m : Int) := by omega
      have hbig := Lib.hid (restF_big (h := h') (l := l') (by rw [hlen.out]; exact hlt))
      have hcut := hb'.cut_to_end 8 (n' := m - 8) (c' := c' - 8) hlt rfl rfl
      go_wp2_with fail
      refine (Le64_yes _ _ _ l' 0 _ hb' (by omega) (by omega)).mono ?_
      rintro e w' ⟨rfl, rfl⟩
      go_wp2_with fail
      refine (Le32_yes _ _ _ l' 0 _ hb' (by omega) (by omega)).mono ?_
      rintro e w' ⟨rfl, rfl⟩
      go_wp2_with fail
      refine (round0_any _ _).mono ?_
      rintro e w' ⟨rfl, rfl⟩
      go_wp2_with fail
      refine (Rot64_any _ _ _).mono ?_
      rintro e w' ⟨rfl, rfl⟩
      go_wp2_with fail
      refine ⟨⟨m - 8, _, _, _, g8 h' l', rfl, ?_, hcut, by rw [← hr', hbig.out]⟩, by simp; omega⟩
      rw [g8_def]
    · by_cases h4 : 4 ≤ m
      · have i2 : (4 : Int) ≤ (c' : Int) := by omega
        have i3 : (4 : Int) ≤ (m : Int) := by omega
        have hbig := Lib.hid (restF_four (h := h') (l := l') (by rw [hlen.out]; omega) (by rw [hlen.out]; exact h4))
        have hcut := hb'.cut_to_end 4 (n' := m - 4) (c' := c' - 4) h4 rfl rfl
        go_wp2_with fail
        refine (Le64_no _ _ _ 0 _ (by omega) (by omega) (by omega)).mono ?_
        rintro e w' ⟨rfl, rfl⟩
        go_wp2_with fail
        refine (Le32_yes _ _ _ l' 0 _ hb' (by omega) (by omega)).mono ?_
        rintro e w' ⟨rfl, rfl⟩
        go_wp2_with fail
        refine (Rot64_any _ _ _).mono ?_
        rintro e w' ⟨rfl, rfl⟩
        go_wp2_with fail
        refine ⟨⟨m - 4, _, _, _, g4 h' l', rfl, ?_, hcut, by rw [← hr', hbig.out]⟩, by simp; omega⟩
        rw [le4_back, g4_def]
      · rcases Nat.eq_zero_or_pos m with h0 | h0
        · subst h0
          have hnil : l' = [] := List.eq_nil_of_length_eq_zero hlen.out
          have hh : h' = r := by rw [← hr', hnil, restF_nil]
          rw [hh]
          clear hh hr' hnil
          go_wp2_with fail
          refine (Le64_no _ _ _ 0 _ (by omega) (by omega) (by omega)).mono ?_
          rintro e w' ⟨rfl, rfl⟩
          go_wp2_with fail
          refine (Le32_no _ _ _ 0 _ (by omega) (by omega) (by omega)).mono ?_
          rintro e w' ⟨rfl, rfl⟩
          go_wp2_with fail
          rw [Exit.noGoto_ret]
          go_ret
          exact ⟨rfl, rfl⟩
        · obtain ⟨k, hk⟩ : ∃ k, m = k + 1 := ⟨m - 1, by omega⟩
          obtain ⟨z, tl, hl', htl⟩ := cons_of (hlen.out.trans hk)
          obtain ⟨b, off, rfl, hcell⟩ := hb'.known h0
          have hc0 := hcell 0 h0
          rw [hl'] at hc0
          simp only [Nat.add_zero, List.getD_cons_zero] at hc0
          have hone := Lib.hid (restF_one (h := h') (b := z) (r := tl) (by rw [← hl', hlen.out]; omega))
          have hcut := hb'.cut_to_end 1 (n' := m - 1) (c' := c' - 1) (by omega) rfl rfl
          rw [hl'] at hcut hr'
          simp only [List.drop_succ_cons, List.drop_zero] at hcut
          have i2 : (1 : Int) ≤ (c' : Int) := by omega
          have i3 : (1 : Int) ≤ (m : Int) := by omega
          have i4 : (0 : Int) < (m : Int) := by omega
          clear hcell hl' htl hk
          go_wp2_with fail
          refine (Le64_no _ _ _ 0 _ (by omega) (by omega) (by omega)).mono ?_
          rintro e w' ⟨rfl, rfl⟩
          go_wp2_with fail
          refine (Le32_no _ _ _ 0 _ (by omega) (by omega) (by omega)).mono ?_
          rintro e w' ⟨rfl, rfl⟩
          go_wp2_with fail
          refine (Rot64_any _ _ _).mono ?_
          rintro e w' ⟨rfl, rfl⟩
          go_wp2_with fail
          refine ⟨⟨m - 1, _, _, _, g1 h' z, rfl, ?_, hcut, by rw [← hr', hone.out]⟩, by simp; omega⟩
          rw [g1_def]
set_option maxHeartbeats 2000000 in
theorem end_any (sd : BitVec 64) (s : ST) (a : Option Addr) (n c : Nat) (l : Bytes) (lo : BitVec 64) (w : World) (hb : IsBytes w a n c l) :
    Calls Try.prog 26 #[.int .u64 (W64 sd), .agg #[cS s 0, cS s 1, cS s 2, cS s 3], .slice a n c, .int .u64 (W64 lo)] w (GivesNew (.int .u64 (W64 (endF sd s l lo))) w) := by
  simp only [cS0, cS1, cS2, cS3]
  have hf0 : Fr No w (w.alloc (.cells #[.int .u64 (W64 s.1), .int .u64 (W64 s.2.1), .int .u64 (W64 s.2.2.1), .int .u64 (W64 s.2.2.2)] 35)) := (Fr.refl No w).alloc _
  have hR := row4_new w 35 (.int .u64 (W64 s.1)) (.int .u64 (W64 s.2.1)) (.int .u64 (W64 s.2.2.1)) (.int .u64 (W64 s.2.2.2))
  unfold endF headF
  by_cases hlo : 32 ≤ W64 lo
  · rw [if_pos hlo]
    go_enter Try.func26, Try.ntmps26
    go_wp2_with fail
    generalize w.heap.size = pb at hR ⊢
    generalize w.alloc (.cells #[.int .u64 (W64 s.1), .int .u64 (W64 s.2.1), .int .u64 (W64 s.2.2.1), .int .u64 (W64 s.2.2.2)] 35) = w0 at hf0 hR ⊢
    have cq0 := hR.c0
    have cq1 := hR.c1
    have cq2 := hR.c2
    have cq3 := hR.c3
    try go_wp2_with fail
    refine (all_any s _).mono ?_
    rintro e w1 ⟨rfl, hf1⟩
    have hy := (hb.no hf0).no hf1
    clear hb cq0 cq1 cq2 cq3
    go_wp2_with fail
    refine (rest_any _ _ _ _ l _ hy).mono ?_
    rintro e w' ⟨rfl, rfl⟩
    go_wp2_with fail
    go_ret
    rw [avalF_def]
    exact ⟨rfl, hf0.no hf1⟩
  · rw [if_neg hlo]
    have hlo2 : W64 lo < 32 := by omega
    clear hlo
    go_enter Try.func26, Try.ntmps26
    go_wp2_with fail
    refine (rest_any _ _ _ _ l _ (hb.no hf0)).mono ?_
    rintro e w' ⟨rfl, rfl⟩
    go_wp2_with fail
    go_ret
    rw [avalF_def]
    exact ⟨rfl, hf0⟩
end Go.Proofs.Ytdemhnkkohnflae.StX64
