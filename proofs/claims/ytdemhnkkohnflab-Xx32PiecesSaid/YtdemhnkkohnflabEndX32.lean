/- xx32.end. -/
import Derived.Test.YtdemhnkkohnflabCodeX32
namespace Go.Proofs.Ytdemhnkkohnflab.StX32
set_option linter.unusedVariables false
set_option linter.unusedSimpArgs false
open Go.RowKit

theorem g4_def (h : BitVec 32) (l : Bytes) : Value.int .u32 (W32 (rotl32 (h + BitVec.setWidth 32 (le (List.take 4 l)) * 3266489917#32) 17 * 668265263#32)) = .int .u32 (W32 (g4 h l)) := rfl
theorem g1_def (h : BitVec 32) (b : BitVec 8) : Value.int .u32 (W32 (rotl32 (h + BitVec.setWidth 32 b * 374761393#32) 11 * 2654435761#32)) = .int .u32 (W32 (g1 h b)) := rfl
set_option maxHeartbeats 2000000 in
theorem end_short (sd : BitVec 32) (s : ST) (a : Option Addr) (n c : Nat) (l : Bytes) (lo : BitVec 64) (w : World) (hb : IsBytes w a n c l) (hlo : W64 lo < 16) : Calls Try.prog 26 #[.int .u32 (W32 sd), .agg #[cS s 0, cS s 1, cS s 2, cS s 3], .slice a n c, .int .u64 (W64 lo)] w (GivesNew (.int .u32 (W32 (endF sd s l lo))) w) := by
  have hf0 : Fr No w (w.alloc (.cells #[cS s 0, cS s 1, cS s 2, cS s 3] 49)) := (Fr.refl No w).alloc _
  have hR : BoxAt (w.alloc (.cells #[cS s 0, cS s 1, cS s 2, cS s 3] 49)) w.heap.size s := heap_alloc_new w _
  have hH : headF sd s lo = sd + 374761393#32 := by unfold headF; rw [if_neg (by omega)]
  unfold endF
  rw [hH]
  generalize hr : restF (sd + 374761393#32 + lo.setWidth 32) l = r
  have HR := Lib.hid hr
  clear hr hH
  go_enter Try.func26, Try.ntmps26
  go_wp2_with fail
  go_step3
  go_wp2_with fail
  generalize w.alloc (.cells #[cS s 0, cS s 1, cS s 2, cS s 3] 49) = w1 at hf0 hR ⊢
  have hf1 := hf0
  have hy := hb.no hf1
  go_step3
  go_wp2_with fail
  clear hb
  go_loop [2, 9] (fun v u => ∃ m a' c' l' h', v = .slice a' m c' ∧ u = .int .u32 (W32 h') ∧ IsBytes w1 a' m c' l' ∧ restF h' l' = r) (fun v _ => match v with | .slice _ m _ => m | _ => 0)
  case atStart => exact ⟨n, a, c, l, _, rfl, rfl, hy, HR.out⟩
  case round =>
    obtain ⟨m, a', c', l', h', rfl, rfl, hb, hr'⟩ := hrel
    clear hy
    have hlen := Lib.hid hb.1
    have hc : m ≤ c' := hb.2.1
    have hc2 : c' ≤ 9223372036854775807 := hb.2.2.1
    by_cases hlt : 4 ≤ m
    · have i2 : (4 : Int) ≤ (c' : Int) := by omega
      have i3 : (4 : Int) ≤ (m : Int) := by omega
      have hbig := Lib.hid (restF_big (h := h') (l := l') (by rw [hlen.out]; exact hlt))
      have hcut := hb.cut_to_end 4 (n' := m - 4) (c' := c' - 4) hlt rfl rfl
      go_wp2_with fail
      refine (Le32_yes _ _ _ l' 0 _ hb (by omega) (by omega)).mono ?_
      rintro e w' ⟨rfl, rfl⟩
      go_wp2_with fail
      refine (Rot32_any _ _ _).mono ?_
      rintro e w' ⟨rfl, rfl⟩
      go_wp2_with fail
      refine ⟨⟨m - 4, _, _, _, g4 h' (l'.take 4), rfl, ?_, hcut, by rw [← hr', hbig.out]⟩, by simp; omega⟩
      rw [g4_take, g4_def]
    · rcases Nat.eq_zero_or_pos m with h0 | h0
      · subst h0
        have hnil : l' = [] := List.eq_nil_of_length_eq_zero hlen.out
        have hh : h' = r := by rw [← hr', hnil, restF_nil]
        rw [hh]
        clear hh hr' hnil
        go_wp2_with fail
        refine (Le32_no _ _ _ 0 _ (by omega) (by omega) (by omega)).mono ?_
        rintro e w' ⟨rfl, rfl⟩
        go_wp2_with fail
        rw [Exit.noGoto_ret]
        go_ret
        exact ⟨by unfold avalF; rfl, hf1⟩
      · obtain ⟨k, hk⟩ : ∃ k, m = k + 1 := ⟨m - 1, by omega⟩
        obtain ⟨z, tl, hl', htl⟩ := cons_of (hlen.out.trans hk)
        obtain ⟨b, off, rfl, hcell⟩ := hb.known h0
        have hc0 := hcell 0 h0
        rw [hl'] at hc0
        simp only [Nat.add_zero, List.getD_cons_zero] at hc0
        have hone := Lib.hid (restF_one (h := h') (b := z) (r := tl) (by rw [← hl', hlen.out]; omega))
        have hcut := hb.cut_to_end 1 (n' := m - 1) (c' := c' - 1) (by omega) rfl rfl
        rw [hl'] at hcut hr'
        simp only [List.drop_succ_cons, List.drop_zero] at hcut
        have i2 : (1 : Int) ≤ (c' : Int) := by omega
        have i3 : (1 : Int) ≤ (m : Int) := by omega
        have i4 : (0 : Int) < (m : Int) := by omega
        clear hcell hl' htl hk
        go_wp2_with fail
        refine (Le32_no _ _ _ 0 _ (by omega) (by omega) (by omega)).mono ?_
        rintro e w' ⟨rfl, rfl⟩
        go_wp2_with fail
        refine (Rot32_any _ _ _).mono ?_
        rintro e w' ⟨rfl, rfl⟩
        go_wp2_with fail
        refine ⟨⟨m - 1, _, _, _, g1 h' z, rfl, ?_, hcut, by rw [← hr', hone.out]⟩, by simp; omega⟩
        rw [g1_def]
set_option maxHeartbeats 2000000 in
theorem end_long (sd : BitVec 32) (s : ST) (a : Option Addr) (n c : Nat) (l : Bytes) (lo : BitVec 64) (w : World) (hb : IsBytes w a n c l) (hlo : 16 ≤ W64 lo) : Calls Try.prog 26 #[.int .u32 (W32 sd), .agg #[cS s 0, cS s 1, cS s 2, cS s 3], .slice a n c, .int .u64 (W64 lo)] w (GivesNew (.int .u32 (W32 (endF sd s l lo))) w) := by
  have hf0 : Fr No w (w.alloc (.cells #[cS s 0, cS s 1, cS s 2, cS s 3] 49)) := (Fr.refl No w).alloc _
  have hR : BoxAt (w.alloc (.cells #[cS s 0, cS s 1, cS s 2, cS s 3] 49)) w.heap.size s := heap_alloc_new w _
  have hH : headF sd s lo = sumF s := by unfold headF; rw [if_pos hlo]
  unfold endF
  rw [hH]
  generalize hr : restF (sumF s + lo.setWidth 32) l = r
  have HR := Lib.hid hr
  clear hr hH
  go_enter Try.func26, Try.ntmps26
  go_wp2_with fail
  go_step3
  go_wp2_with fail
  generalize w.heap.size = pb at hR ⊢
  generalize w.alloc (.cells #[cS s 0, cS s 1, cS s 2, cS s 3] 49) = w0 at hf0 hR ⊢
  refine wp_region_seq (by kernel_rfl) (fun w' => Fr No w0 w') (fun _ => false) [(0, 1), (1, 1), (3, 1), (4, 1), (7, 1), (8, 1), (11, 1), (12, 1), (2, 0), (5, 0), (6, 1), (9, 0), (10, 1), (13, 0), (14, 1), (15, 1)] (by kernel_rfl) (Fr.refl No w0).drew ?_
  have hs0 : Fr No w0 w0.drew := (Fr.refl No w0).drew
  refine wpSeq_take (v := ?_) 16 rfl rfl (fun _ _ _ h => h) (Or.inl ⟨rfl, ?_⟩) ?_
  rotate_left 1
  · (intro w9 h9; go_simp; try with_reducible rfl)
  simp only [List.setIfInBounds_toArray, List.set_cons_zero, List.set_cons_succ]
  refine wpSeq_take (v := ?_) 17 rfl rfl (fun _ _ _ h => h) (Or.inl ⟨rfl, ?_⟩) ?_
  rotate_left 1
  · (intro w9 h9; have q0 : w9.cell? ⟨pb, 0, none⟩ = some (cS s 0) := (hR.fr h9 (fun h => h)).cell 0 rfl; have q1 : w9.cell? ⟨pb, 1, none⟩ = some (cS s 1) := (hR.fr h9 (fun h => h)).cell 1 rfl; have q2 : w9.cell? ⟨pb, 2, none⟩ = some (cS s 2) := (hR.fr h9 (fun h => h)).cell 2 rfl; have q3 : w9.cell? ⟨pb, 3, none⟩ = some (cS s 3) := (hR.fr h9 (fun h => h)).cell 3 rfl; clear h9; simp only [cS0, cS1, cS2, cS3] at q0 q1 q2 q3; go_simp; try with_reducible rfl)
  simp only [List.setIfInBounds_toArray, List.set_cons_zero, List.set_cons_succ]
  refine wpSeq_take (v := ?_) 19 rfl rfl (fun _ _ _ h => h) (Or.inl ⟨rfl, ?_⟩) ?_
  rotate_left 1
  · (intro w9 h9; go_simp; try with_reducible rfl)
  simp only [List.setIfInBounds_toArray, List.set_cons_zero, List.set_cons_succ]
  refine wpSeq_take (v := ?_) 20 rfl rfl (fun _ _ _ h => h) (Or.inl ⟨rfl, ?_⟩) ?_
  rotate_left 1
  · (intro w9 h9; have q0 : w9.cell? ⟨pb, 0, none⟩ = some (cS s 0) := (hR.fr h9 (fun h => h)).cell 0 rfl; have q1 : w9.cell? ⟨pb, 1, none⟩ = some (cS s 1) := (hR.fr h9 (fun h => h)).cell 1 rfl; have q2 : w9.cell? ⟨pb, 2, none⟩ = some (cS s 2) := (hR.fr h9 (fun h => h)).cell 2 rfl; have q3 : w9.cell? ⟨pb, 3, none⟩ = some (cS s 3) := (hR.fr h9 (fun h => h)).cell 3 rfl; clear h9; simp only [cS0, cS1, cS2, cS3] at q0 q1 q2 q3; go_simp; try with_reducible rfl)
  simp only [List.setIfInBounds_toArray, List.set_cons_zero, List.set_cons_succ]
  refine wpSeq_take (v := ?_) 23 rfl rfl (fun _ _ _ h => h) (Or.inl ⟨rfl, ?_⟩) ?_
  rotate_left 1
  · (intro w9 h9; go_simp; try with_reducible rfl)
  simp only [List.setIfInBounds_toArray, List.set_cons_zero, List.set_cons_succ]
  refine wpSeq_take (v := ?_) 24 rfl rfl (fun _ _ _ h => h) (Or.inl ⟨rfl, ?_⟩) ?_
  rotate_left 1
  · (intro w9 h9; have q0 : w9.cell? ⟨pb, 0, none⟩ = some (cS s 0) := (hR.fr h9 (fun h => h)).cell 0 rfl; have q1 : w9.cell? ⟨pb, 1, none⟩ = some (cS s 1) := (hR.fr h9 (fun h => h)).cell 1 rfl; have q2 : w9.cell? ⟨pb, 2, none⟩ = some (cS s 2) := (hR.fr h9 (fun h => h)).cell 2 rfl; have q3 : w9.cell? ⟨pb, 3, none⟩ = some (cS s 3) := (hR.fr h9 (fun h => h)).cell 3 rfl; clear h9; simp only [cS0, cS1, cS2, cS3] at q0 q1 q2 q3; go_simp; try with_reducible rfl)
  simp only [List.setIfInBounds_toArray, List.set_cons_zero, List.set_cons_succ]
  refine wpSeq_take (v := ?_) 27 rfl rfl (fun _ _ _ h => h) (Or.inl ⟨rfl, ?_⟩) ?_
  rotate_left 1
  · (intro w9 h9; go_simp; try with_reducible rfl)
  simp only [List.setIfInBounds_toArray, List.set_cons_zero, List.set_cons_succ]
  refine wpSeq_take (v := ?_) 28 rfl rfl (fun _ _ _ h => h) (Or.inl ⟨rfl, ?_⟩) ?_
  rotate_left 1
  · (intro w9 h9; have q0 : w9.cell? ⟨pb, 0, none⟩ = some (cS s 0) := (hR.fr h9 (fun h => h)).cell 0 rfl; have q1 : w9.cell? ⟨pb, 1, none⟩ = some (cS s 1) := (hR.fr h9 (fun h => h)).cell 1 rfl; have q2 : w9.cell? ⟨pb, 2, none⟩ = some (cS s 2) := (hR.fr h9 (fun h => h)).cell 2 rfl; have q3 : w9.cell? ⟨pb, 3, none⟩ = some (cS s 3) := (hR.fr h9 (fun h => h)).cell 3 rfl; clear h9; simp only [cS0, cS1, cS2, cS3] at q0 q1 q2 q3; go_simp; try with_reducible rfl)
  simp only [List.setIfInBounds_toArray, List.set_cons_zero, List.set_cons_succ]
  refine wpSeq_next rfl rfl (fun K hK => ?_)
  go_wp2_with fail
  refine (Rot32_any _ 1 _).mono ?_
  rintro e w' ⟨rfl, rfl⟩
  refine hK.out _ _ (fun _ => hs0) ?_
  clear hK K
  refine wpSeq_next rfl rfl (fun K hK => ?_)
  go_wp2_with fail
  refine (Rot32_any _ 7 _).mono ?_
  rintro e w' ⟨rfl, rfl⟩
  refine hK.out _ _ (fun _ => hs0) ?_
  clear hK K
  refine wpSeq_take (v := ?_) 22 rfl rfl (fun _ _ _ h => h) (Or.inl ⟨rfl, ?_⟩) ?_
  rotate_left 1
  · (intro w9 h9; go_simp; try with_reducible rfl)
  simp only [List.setIfInBounds_toArray, List.set_cons_zero, List.set_cons_succ]
  refine wpSeq_next rfl rfl (fun K hK => ?_)
  go_wp2_with fail
  refine (Rot32_any _ 12 _).mono ?_
  rintro e w' ⟨rfl, rfl⟩
  refine hK.out _ _ (fun _ => hs0) ?_
  clear hK K
  refine wpSeq_take (v := ?_) 26 rfl rfl (fun _ _ _ h => h) (Or.inl ⟨rfl, ?_⟩) ?_
  rotate_left 1
  · (intro w9 h9; go_simp; try with_reducible rfl)
  simp only [List.setIfInBounds_toArray, List.set_cons_zero, List.set_cons_succ]
  refine wpSeq_next rfl rfl (fun K hK => ?_)
  go_wp2_with fail
  refine (Rot32_any _ 18 _).mono ?_
  rintro e w' ⟨rfl, rfl⟩
  refine hK.out _ _ (fun _ => hs0) ?_
  clear hK K
  refine wpSeq_take (v := ?_) 30 rfl rfl (fun _ _ _ h => h) (Or.inl ⟨rfl, ?_⟩) ?_
  rotate_left 1
  · (intro w9 h9; go_simp; try with_reducible rfl)
  simp only [List.setIfInBounds_toArray, List.set_cons_zero, List.set_cons_succ]
  refine wpSeq_take (v := ?_) 9 rfl rfl (fun _ _ _ h => h) (Or.inl ⟨rfl, ?_⟩) ?_
  rotate_left 1
  · (intro w9 h9; go_simp; try with_reducible rfl)
  simp only [List.setIfInBounds_toArray, List.set_cons_zero, List.set_cons_succ]
  refine wpSeq_done ?_
  go_wp2_with fail
  have hf1 := hf0.no hs0
  have hy := hb.no hf1
  generalize w0.drew = w1 at hf1 hy ⊢
  clear hs0
  go_step3
  go_wp2_with fail
  clear hb
  go_loop [2, 9] (fun v u => ∃ m a' c' l' h', v = .slice a' m c' ∧ u = .int .u32 (W32 h') ∧ IsBytes w1 a' m c' l' ∧ restF h' l' = r) (fun v _ => match v with | .slice _ m _ => m | _ => 0)
  case atStart => exact ⟨n, a, c, l, _, rfl, rfl, hy, HR.out⟩
  case round =>
    obtain ⟨m, a', c', l', h', rfl, rfl, hb, hr'⟩ := hrel
    clear hy
    have hlen := Lib.hid hb.1
    have hc : m ≤ c' := hb.2.1
    have hc2 : c' ≤ 9223372036854775807 := hb.2.2.1
    by_cases hlt : 4 ≤ m
    · have i2 : (4 : Int) ≤ (c' : Int) := by omega
      have i3 : (4 : Int) ≤ (m : Int) := by omega
      have hbig := Lib.hid (restF_big (h := h') (l := l') (by rw [hlen.out]; exact hlt))
      have hcut := hb.cut_to_end 4 (n' := m - 4) (c' := c' - 4) hlt rfl rfl
      go_wp2_with fail
      refine (Le32_yes _ _ _ l' 0 _ hb (by omega) (by omega)).mono ?_
      rintro e w' ⟨rfl, rfl⟩
      go_wp2_with fail
      refine (Rot32_any _ _ _).mono ?_
      rintro e w' ⟨rfl, rfl⟩
      go_wp2_with fail
      refine ⟨⟨m - 4, _, _, _, g4 h' (l'.take 4), rfl, ?_, hcut, by rw [← hr', hbig.out]⟩, by simp; omega⟩
      rw [g4_take, g4_def]
    · rcases Nat.eq_zero_or_pos m with h0 | h0
      · subst h0
        have hnil : l' = [] := List.eq_nil_of_length_eq_zero hlen.out
        have hh : h' = r := by rw [← hr', hnil, restF_nil]
        rw [hh]
        clear hh hr' hnil
        go_wp2_with fail
        refine (Le32_no _ _ _ 0 _ (by omega) (by omega) (by omega)).mono ?_
        rintro e w' ⟨rfl, rfl⟩
        go_wp2_with fail
        rw [Exit.noGoto_ret]
        go_ret
        exact ⟨by unfold avalF; rfl, hf1⟩
      · obtain ⟨k, hk⟩ : ∃ k, m = k + 1 := ⟨m - 1, by omega⟩
        obtain ⟨z, tl, hl', htl⟩ := cons_of (hlen.out.trans hk)
        obtain ⟨b, off, rfl, hcell⟩ := hb.known h0
        have hc0 := hcell 0 h0
        rw [hl'] at hc0
        simp only [Nat.add_zero, List.getD_cons_zero] at hc0
        have hone := Lib.hid (restF_one (h := h') (b := z) (r := tl) (by rw [← hl', hlen.out]; omega))
        have hcut := hb.cut_to_end 1 (n' := m - 1) (c' := c' - 1) (by omega) rfl rfl
        rw [hl'] at hcut hr'
        simp only [List.drop_succ_cons, List.drop_zero] at hcut
        have i2 : (1 : Int) ≤ (c' : Int) := by omega
        have i3 : (1 : Int) ≤ (m : Int) := by omega
        have i4 : (0 : Int) < (m : Int) := by omega
        clear hcell hl' htl hk
        go_wp2_with fail
        refine (Le32_no _ _ _ 0 _ (by omega) (by omega) (by omega)).mono ?_
        rintro e w' ⟨rfl, rfl⟩
        go_wp2_with fail
        refine (Rot32_any _ _ _).mono ?_
        rintro e w' ⟨rfl, rfl⟩
        go_wp2_with fail
        refine ⟨⟨m - 1, _, _, _, g1 h' z, rfl, ?_, hcut, by rw [← hr', hone.out]⟩, by simp; omega⟩
        rw [g1_def]
theorem end_any (sd : BitVec 32) (s : ST) (a : Option Addr) (n c : Nat) (l : Bytes) (lo : BitVec 64) (w : World) (hb : IsBytes w a n c l) : Calls Try.prog 26 #[.int .u32 (W32 sd), .agg #[cS s 0, cS s 1, cS s 2, cS s 3], .slice a n c, .int .u64 (W64 lo)] w (GivesNew (.int .u32 (W32 (endF sd s l lo))) w) := by
  by_cases h : 16 ≤ W64 lo
  · exact end_long sd s a n c l lo w hb h
  · exact end_short sd s a n c l lo w hb (by omega)
end Go.Proofs.Ytdemhnkkohnflab.StX32
