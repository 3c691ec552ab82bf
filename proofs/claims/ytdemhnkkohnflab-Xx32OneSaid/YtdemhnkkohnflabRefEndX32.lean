/- The reference of xx32: Blocks, End, One. -/
import Derived.Test.YtdemhnkkohnflabRefX32
import Derived.Test.YtdemhnkkohnflabEndX32
namespace Go.Proofs.Ytdemhnkkohnflab.StX32
set_option linter.unusedVariables false
set_option linter.unusedSimpArgs false
open Go.RowKit
theorem g1_def2 (h : BitVec 32) (b : BitVec 8) : rotl32 (h + BitVec.setWidth 32 b * 374761393#32) 11 * 2654435761#32 = g1 h b := rfl
set_option maxHeartbeats 2000000 in
theorem refEnd_short (sd : BitVec 32) (x0 x1 x2 x3 : BitVec 64) (s : ST) (a : Option Addr) (n c : Nat) (l : Bytes) (lo : BitVec 64) (w : World) (hs : Hid (s = (x0.setWidth 32, x1.setWidth 32, x2.setWidth 32, x3.setWidth 32))) (hb : IsBytes w a n c l) (hlo : W64 lo < 16) : Calls Try.prog 22 #[.int .u32 (W32 sd), .agg #[.int .u64 (W64 x0), .int .u64 (W64 x1), .int .u64 (W64 x2), .int .u64 (W64 x3)], .slice a n c, .int .u64 (W64 lo)] w (GivesNew (.int .u32 (W32 (endF sd s l lo))) w) := by
  have hf0 : Fr No w (w.alloc (.cells #[.int .u64 (W64 x0), .int .u64 (W64 x1), .int .u64 (W64 x2), .int .u64 (W64 x3)] 36)) := (Fr.refl No w).alloc _
  have hR := row4_new w 36 (.int .u64 (W64 x0)) (.int .u64 (W64 x1)) (.int .u64 (W64 x2)) (.int .u64 (W64 x3))
  have hH : headF sd s lo = sd + 374761393#32 := by unfold headF; rw [if_neg (by omega)]
  unfold endF
  rw [hH]
  generalize hr : restF (sd + 374761393#32 + lo.setWidth 32) l = r
  have HR := Lib.hid hr
  clear hr hH
  go_enter Try.func22, Try.ntmps22
  go_wp2_with fail
  generalize w.heap.size = pb at hR ⊢
  generalize w.alloc (.cells #[.int .u64 (W64 x0), .int .u64 (W64 x1), .int .u64 (W64 x2), .int .u64 (W64 x3)] 36) = w0 at hf0 hR ⊢
  have hf1 := hf0
  go_loopw [2, 9] (fun v u wr => ∃ m a' c' l' h', v = .slice a' m c' ∧ u = .int .u32 (W32 h') ∧ IsBytes w a' m c' l' ∧ Fr No w wr ∧ Hid (restF h' l' = r)) (fun v _ _ => match v with | .slice _ m _ => m | _ => 0)
  case atStart => exact ⟨n, a, c, l, _, rfl, by first | rfl | rw [mod32], hb, hf1, HR⟩
  case round =>
    obtain ⟨m, a', c', l', h', rfl, rfl, hb', hfr, hr'⟩ := hrel
    have hlen := Lib.hid hb'.1
    have hc : m ≤ c' := hb'.2.1
    have hc2 : c' ≤ 9223372036854775807 := hb'.2.2.1
    have hy := hb'.no hfr
    by_cases hlt : 4 ≤ m
    · have i2 : (4 : Int) ≤ (c' : Int) := by omega
      have i3 : (4 : Int) ≤ (m : Int) := by omega
      have hbig := Lib.hid (restF_big (h := h') (l := l') (by rw [hlen.out]; exact hlt))
      have hcut := hb'.cut_to_end 4 (n' := m - 4) (c' := c' - 4) hlt rfl rfl
      go_wp2_with fail
      refine (refNum_any _ _ _ l' 0 4 _ hy (by omega) (by omega) (by omega) (by omega)).mono ?_
      rintro e w' ⟨rfl, rfl⟩
      go_wp2_with fail
      refine (refRot32_any _ 17 _ (by omega) (by omega)).mono ?_
      rintro e w' ⟨rfl, rfl⟩
      go_wp2_with fail
      go_roundw
      case rel =>
        refine ⟨m - 4, _, _, _, g4 h' (l'.take 4), rfl, ?_, hcut, hfr, (by show _ = _; rw [← hr'.out, hbig.out])⟩
        rw [g4_take, ← g4_def]
      case measure => simp; omega
    · have hbl : Hid (l'.foldl g1 h' = r) := by show _ = _; rw [← restF_small (by rw [hlen.out]; omega), hr'.out]
      have i3 : (m : Int) < 4 := by omega
      clear hr'
      go_wp2_with fail
      obtain ⟨wo, rfl⟩ : ∃ wo : World, wo = wr := ⟨_, rfl⟩
      go_loopw [9, 52] (fun u i wr => ∃ (k : Nat) (h2 : BitVec 32), k ≤ m ∧ i = .int .i64 k ∧ u = .int .u32 (W32 h2) ∧ Fr No w wr ∧ Hid ((l'.drop k).foldl g1 h2 = r)) (fun _ i _ => m - (intOf i).toNat)
      case atStart => exact ⟨0, h', by omega, rfl, rfl, hfr, by show _ = _; rw [List.drop_zero]; exact hbl.out⟩
      case round =>
        obtain ⟨k, h2, hk, rfl, rfl, hf2, hr2⟩ := hrel
        clear hfr hbl
        by_cases hkm : k < m
        · have i4 : (k : Int) < (m : Int) := by omega
          have hkl : k < l'.length := by rw [hlen.out]; exact hkm
          obtain ⟨b, off, rfl, hcell⟩ := (hb'.no hf2).known (by omega)
          have hc0 := hcell k hkm
          have hd := Lib.hid (List.drop_eq_getElem_cons hkl)
          clear hcell
          go_wp2_with fail
          refine (refRot32_any _ 11 _ (by omega) (by omega)).mono ?_
          rintro e w' ⟨rfl, rfl⟩
          go_wp2_with fail
          go_roundw
          case rel =>
            refine ⟨k + 1, g1 h2 l'[k], by omega, rfl, by rw [g1_def2], hf2, ?_⟩
            show _ = _
            rw [← hr2.out, hd.out, List.foldl_cons]
          case measure => simp only [intOf, Int.toNat_natCast]; omega
        · have hkm2 : k = m := by omega
          subst hkm2
          have i4 : ¬ (k : Int) < (k : Int) := by omega
          have hh : h2 = r := by have := hr2.out; rw [List.drop_eq_nil_of_le (by rw [hlen.out]; exact Nat.le_refl _)] at this; exact this
          rw [hh]
          clear hh hr2
          go_wp2_with fail
          go_ret
          exact ⟨by unfold avalF; rfl, hf2⟩
/-- The first k of the four. -/
def sumTo (s : ST) : Nat → BitVec 32
  | 0 => 0#32
  | 1 => rotl32 s.1 1
  | 2 => rotl32 s.1 1 + rotl32 s.2.1 7
  | 3 => rotl32 s.1 1 + rotl32 s.2.1 7 + rotl32 s.2.2.1 12
  | _ => rotl32 s.1 1 + rotl32 s.2.1 7 + rotl32 s.2.2.1 12 + rotl32 s.2.2.2 18
set_option maxHeartbeats 2000000 in
theorem refEnd_long (sd : BitVec 32) (x0 x1 x2 x3 : BitVec 64) (s : ST) (a : Option Addr) (n c : Nat) (l : Bytes) (lo : BitVec 64) (w : World) (hs : Hid (s = (x0.setWidth 32, x1.setWidth 32, x2.setWidth 32, x3.setWidth 32))) (hb : IsBytes w a n c l) (hlo : 16 ≤ W64 lo) : Calls Try.prog 22 #[.int .u32 (W32 sd), .agg #[.int .u64 (W64 x0), .int .u64 (W64 x1), .int .u64 (W64 x2), .int .u64 (W64 x3)], .slice a n c, .int .u64 (W64 lo)] w (GivesNew (.int .u32 (W32 (endF sd s l lo))) w) := by
  have hf0 : Fr No w (w.alloc (.cells #[.int .u64 (W64 x0), .int .u64 (W64 x1), .int .u64 (W64 x2), .int .u64 (W64 x3)] 36)) := (Fr.refl No w).alloc _
  have hR := row4_new w 36 (.int .u64 (W64 x0)) (.int .u64 (W64 x1)) (.int .u64 (W64 x2)) (.int .u64 (W64 x3))
  have hH : headF sd s lo = sumF s := by unfold headF; rw [if_pos hlo]
  unfold endF
  rw [hH]
  generalize hr : restF (sumF s + lo.setWidth 32) l = r
  have HR := Lib.hid hr
  clear hr hH
  go_enter Try.func22, Try.ntmps22
  go_wp2_with fail
  generalize w.heap.size = pb at hR ⊢
  generalize w.alloc (.cells #[.int .u64 (W64 x0), .int .u64 (W64 x1), .int .u64 (W64 x2), .int .u64 (W64 x3)] 36) = w0 at hf0 hR ⊢
  go_loopw [9, 10] (fun u i wr => ∃ k : Nat, k ≤ 4 ∧ i = .int .i64 k ∧ u = .int .u32 (W32 (sumTo s k)) ∧ Fr No w0 wr) (fun _ i _ => 4 - (intOf i).toNat)
  case atStart => exact ⟨0, by omega, rfl, rfl, Fr.refl No w0⟩
  case round =>
    obtain ⟨k, hk, rfl, rfl, hfi⟩ := hrel
    obtain ⟨wi, rfl⟩ : ∃ wi : World, wi = wr := ⟨_, rfl⟩
    rcases (show k = 0 ∨ k = 1 ∨ k = 2 ∨ k = 3 ∨ k = 4 by omega) with rfl | rfl | rfl | rfl | rfl
    · have hRw := hR.no hfi
      go_wp2_with fail
      refine wp_region_seq (by kernel_rfl) (fun w' => Fr No wi w') (fun _ => false) [(0, 1), (1, 1), (2, 1), (3, 1), (4, 1), (6, 1), (5, 0), (7, 1), (8, 0), (9, 0), (10, 1), (11, 1)] (by kernel_rfl) (Fr.refl No wi).drew ?_
      have hv0 : Fr No wi wi.drew := (Fr.refl No wi).drew
      refine wpSeq_take (v := ?_) 21 rfl rfl (fun _ _ _ h => h) (Or.inl ⟨rfl, ?_⟩) ?_
      rotate_left 1
      · (intro w9 h9; go_simp; try with_reducible rfl)
      simp only [List.setIfInBounds_toArray, List.set_cons_zero, List.set_cons_succ]
      refine wpSeq_take (v := ?_) 22 rfl rfl (fun _ _ _ h => h) (Or.inl ⟨rfl, ?_⟩) ?_
      rotate_left 1
      · (intro w9 h9; go_simp; try with_reducible rfl)
      simp only [List.setIfInBounds_toArray, List.set_cons_zero, List.set_cons_succ]
      refine wpSeq_take (v := ?_) 23 rfl rfl (fun _ _ _ h => h) (Or.inl ⟨rfl, ?_⟩) ?_
      rotate_left 1
      · (intro w9 h9; go_simp; try with_reducible rfl)
      simp only [List.setIfInBounds_toArray, List.set_cons_zero, List.set_cons_succ]
      refine wpSeq_take (v := ?_) 24 rfl rfl (fun _ _ _ h => h) (Or.inl ⟨rfl, ?_⟩) ?_
      rotate_left 1
      · (intro w9 h9; have q0 := (hRw.no h9).c0; clear h9; go_simp; try with_reducible rfl)
      simp only [List.setIfInBounds_toArray, List.set_cons_zero, List.set_cons_succ]
      refine wpSeq_take (v := ?_) 25 rfl rfl (fun _ _ _ h => h) (Or.inl ⟨rfl, ?_⟩) ?_
      rotate_left 1
      · (intro w9 h9; go_simp; try with_reducible rfl)
      simp only [List.setIfInBounds_toArray, List.set_cons_zero, List.set_cons_succ]
      refine wpSeq_take (v := ?_) 27 rfl rfl (fun _ _ _ h => h) (Or.inl ⟨rfl, ?_⟩) ?_
      rotate_left 1
      · (intro w9 h9; go_simp; try with_reducible rfl)
      simp only [List.setIfInBounds_toArray, List.set_cons_zero, List.set_cons_succ]
      have hv1 : Fr No wi (wi.alloc (.cells #[.int .i64 1, .int .i64 7, .int .i64 12, .int .i64 18] 3)).drew := ((Fr.refl No wi).alloc _).drew
      refine wpSeq_next rfl rfl (fun K hK => ?_)
      go_wp2_with fail
      refine hK.out _ _ (fun _ => hv1) ?_
      clear hK K
      refine wpSeq_take (v := ?_) 28 rfl rfl (fun _ _ _ h => h) (Or.inl ⟨rfl, ?_⟩) ?_
      rotate_left 1
      · (intro w9 h9; go_simp; try with_reducible rfl)
      simp only [List.setIfInBounds_toArray, List.set_cons_zero, List.set_cons_succ]
      refine wpSeq_next rfl rfl (fun K hK => ?_)
      go_wp2_with fail
      refine hK.out _ _ (fun _ => hv1) ?_
      clear hK K
      refine wpSeq_next rfl rfl (fun K hK => ?_)
      go_wp2_with fail
      refine (refRot32_any _ 1 _ (by omega) (by omega)).mono ?_
      rintro e w' ⟨rfl, rfl⟩
      refine hK.out _ _ (fun _ => hv1) ?_
      clear hK K
      refine wpSeq_take (v := ?_) 31 rfl rfl (fun _ _ _ h => h) (Or.inl ⟨rfl, ?_⟩) ?_
      rotate_left 1
      · (intro w9 h9; go_simp; try with_reducible rfl)
      simp only [List.setIfInBounds_toArray, List.set_cons_zero, List.set_cons_succ]
      refine wpSeq_take (v := ?_) 9 rfl rfl (fun _ _ _ h => h) (Or.inl ⟨rfl, ?_⟩) ?_
      rotate_left 1
      · (intro w9 h9; go_simp; try with_reducible rfl)
      simp only [List.setIfInBounds_toArray, List.set_cons_zero, List.set_cons_succ]
      refine wpSeq_done ?_
      clear hRw
      go_wp2_with fail
      go_roundw
      case rel =>
        refine ⟨1, by omega, by simp, ?_, hfi.no hv1⟩
        simp only [sumTo]
        rw [hs.out]
        try simp
      case measure => simp [intOf]
    · have hRw := hR.no hfi
      go_wp2_with fail
      refine wp_region_seq (by kernel_rfl) (fun w' => Fr No wi w') (fun _ => false) [(0, 1), (1, 1), (2, 1), (3, 1), (4, 1), (6, 1), (5, 0), (7, 1), (8, 0), (9, 0), (10, 1), (11, 1)] (by kernel_rfl) (Fr.refl No wi).drew ?_
      have hv0 : Fr No wi wi.drew := (Fr.refl No wi).drew
      refine wpSeq_take (v := ?_) 21 rfl rfl (fun _ _ _ h => h) (Or.inl ⟨rfl, ?_⟩) ?_
      rotate_left 1
      · (intro w9 h9; go_simp; try with_reducible rfl)
      simp only [List.setIfInBounds_toArray, List.set_cons_zero, List.set_cons_succ]
      refine wpSeq_take (v := ?_) 22 rfl rfl (fun _ _ _ h => h) (Or.inl ⟨rfl, ?_⟩) ?_
      rotate_left 1
      · (intro w9 h9; go_simp; try with_reducible rfl)
      simp only [List.setIfInBounds_toArray, List.set_cons_zero, List.set_cons_succ]
      refine wpSeq_take (v := ?_) 23 rfl rfl (fun _ _ _ h => h) (Or.inl ⟨rfl, ?_⟩) ?_
      rotate_left 1
      · (intro w9 h9; go_simp; try with_reducible rfl)
      simp only [List.setIfInBounds_toArray, List.set_cons_zero, List.set_cons_succ]
      refine wpSeq_take (v := ?_) 24 rfl rfl (fun _ _ _ h => h) (Or.inl ⟨rfl, ?_⟩) ?_
      rotate_left 1
      · (intro w9 h9; have q1 := (hRw.no h9).c1; clear h9; go_simp; try with_reducible rfl)
      simp only [List.setIfInBounds_toArray, List.set_cons_zero, List.set_cons_succ]
      refine wpSeq_take (v := ?_) 25 rfl rfl (fun _ _ _ h => h) (Or.inl ⟨rfl, ?_⟩) ?_
      rotate_left 1
      · (intro w9 h9; go_simp; try with_reducible rfl)
      simp only [List.setIfInBounds_toArray, List.set_cons_zero, List.set_cons_succ]
      refine wpSeq_take (v := ?_) 27 rfl rfl (fun _ _ _ h => h) (Or.inl ⟨rfl, ?_⟩) ?_
      rotate_left 1
      · (intro w9 h9; go_simp; try with_reducible rfl)
      simp only [List.setIfInBounds_toArray, List.set_cons_zero, List.set_cons_succ]
      have hv1 : Fr No wi (wi.alloc (.cells #[.int .i64 1, .int .i64 7, .int .i64 12, .int .i64 18] 3)).drew := ((Fr.refl No wi).alloc _).drew
      refine wpSeq_next rfl rfl (fun K hK => ?_)
      go_wp2_with fail
      refine hK.out _ _ (fun _ => hv1) ?_
      clear hK K
      refine wpSeq_take (v := ?_) 28 rfl rfl (fun _ _ _ h => h) (Or.inl ⟨rfl, ?_⟩) ?_
      rotate_left 1
      · (intro w9 h9; go_simp; try with_reducible rfl)
      simp only [List.setIfInBounds_toArray, List.set_cons_zero, List.set_cons_succ]
      refine wpSeq_next rfl rfl (fun K hK => ?_)
      go_wp2_with fail
      refine hK.out _ _ (fun _ => hv1) ?_
      clear hK K
      refine wpSeq_next rfl rfl (fun K hK => ?_)
      go_wp2_with fail
      refine (refRot32_any _ 7 _ (by omega) (by omega)).mono ?_
      rintro e w' ⟨rfl, rfl⟩
      refine hK.out _ _ (fun _ => hv1) ?_
      clear hK K
      refine wpSeq_take (v := ?_) 31 rfl rfl (fun _ _ _ h => h) (Or.inl ⟨rfl, ?_⟩) ?_
      rotate_left 1
      · (intro w9 h9; go_simp; try with_reducible rfl)
      simp only [List.setIfInBounds_toArray, List.set_cons_zero, List.set_cons_succ]
      refine wpSeq_take (v := ?_) 9 rfl rfl (fun _ _ _ h => h) (Or.inl ⟨rfl, ?_⟩) ?_
      rotate_left 1
      · (intro w9 h9; go_simp; try with_reducible rfl)
      simp only [List.setIfInBounds_toArray, List.set_cons_zero, List.set_cons_succ]
      refine wpSeq_done ?_
      clear hRw
      go_wp2_with fail
      go_roundw
      case rel =>
        refine ⟨2, by omega, by simp, ?_, hfi.no hv1⟩
        simp only [sumTo]
        rw [hs.out]
        try simp
      case measure => simp [intOf]
    · have hRw := hR.no hfi
      go_wp2_with fail
      refine wp_region_seq (by kernel_rfl) (fun w' => Fr No wi w') (fun _ => false) [(0, 1), (1, 1), (2, 1), (3, 1), (4, 1), (6, 1), (5, 0), (7, 1), (8, 0), (9, 0), (10, 1), (11, 1)] (by kernel_rfl) (Fr.refl No wi).drew ?_
      have hv0 : Fr No wi wi.drew := (Fr.refl No wi).drew
      refine wpSeq_take (v := ?_) 21 rfl rfl (fun _ _ _ h => h) (Or.inl ⟨rfl, ?_⟩) ?_
      rotate_left 1
      · (intro w9 h9; go_simp; try with_reducible rfl)
      simp only [List.setIfInBounds_toArray, List.set_cons_zero, List.set_cons_succ]
      refine wpSeq_take (v := ?_) 22 rfl rfl (fun _ _ _ h => h) (Or.inl ⟨rfl, ?_⟩) ?_
      rotate_left 1
      · (intro w9 h9; go_simp; try with_reducible rfl)
      simp only [List.setIfInBounds_toArray, List.set_cons_zero, List.set_cons_succ]
      refine wpSeq_take (v := ?_) 23 rfl rfl (fun _ _ _ h => h) (Or.inl ⟨rfl, ?_⟩) ?_
      rotate_left 1
      · (intro w9 h9; go_simp; try with_reducible rfl)
      simp only [List.setIfInBounds_toArray, List.set_cons_zero, List.set_cons_succ]
      refine wpSeq_take (v := ?_) 24 rfl rfl (fun _ _ _ h => h) (Or.inl ⟨rfl, ?_⟩) ?_
      rotate_left 1
      · (intro w9 h9; have q2 := (hRw.no h9).c2; clear h9; go_simp; try with_reducible rfl)
      simp only [List.setIfInBounds_toArray, List.set_cons_zero, List.set_cons_succ]
      refine wpSeq_take (v := ?_) 25 rfl rfl (fun _ _ _ h => h) (Or.inl ⟨rfl, ?_⟩) ?_
      rotate_left 1
      · (intro w9 h9; go_simp; try with_reducible rfl)
      simp only [List.setIfInBounds_toArray, List.set_cons_zero, List.set_cons_succ]
      refine wpSeq_take (v := ?_) 27 rfl rfl (fun _ _ _ h => h) (Or.inl ⟨rfl, ?_⟩) ?_
      rotate_left 1
      · (intro w9 h9; go_simp; try with_reducible rfl)
      simp only [List.setIfInBounds_toArray, List.set_cons_zero, List.set_cons_succ]
      have hv1 : Fr No wi (wi.alloc (.cells #[.int .i64 1, .int .i64 7, .int .i64 12, .int .i64 18] 3)).drew := ((Fr.refl No wi).alloc _).drew
      refine wpSeq_next rfl rfl (fun K hK => ?_)
      go_wp2_with fail
      refine hK.out _ _ (fun _ => hv1) ?_
      clear hK K
      refine wpSeq_take (v := ?_) 28 rfl rfl (fun _ _ _ h => h) (Or.inl ⟨rfl, ?_⟩) ?_
      rotate_left 1
      · (intro w9 h9; go_simp; try with_reducible rfl)
      simp only [List.setIfInBounds_toArray, List.set_cons_zero, List.set_cons_succ]
      refine wpSeq_next rfl rfl (fun K hK => ?_)
      go_wp2_with fail
      refine hK.out _ _ (fun _ => hv1) ?_
      clear hK K
      refine wpSeq_next rfl rfl (fun K hK => ?_)
      go_wp2_with fail
      refine (refRot32_any _ 12 _ (by omega) (by omega)).mono ?_
      rintro e w' ⟨rfl, rfl⟩
      refine hK.out _ _ (fun _ => hv1) ?_
      clear hK K
      refine wpSeq_take (v := ?_) 31 rfl rfl (fun _ _ _ h => h) (Or.inl ⟨rfl, ?_⟩) ?_
      rotate_left 1
      · (intro w9 h9; go_simp; try with_reducible rfl)
      simp only [List.setIfInBounds_toArray, List.set_cons_zero, List.set_cons_succ]
      refine wpSeq_take (v := ?_) 9 rfl rfl (fun _ _ _ h => h) (Or.inl ⟨rfl, ?_⟩) ?_
      rotate_left 1
      · (intro w9 h9; go_simp; try with_reducible rfl)
      simp only [List.setIfInBounds_toArray, List.set_cons_zero, List.set_cons_succ]
      refine wpSeq_done ?_
      clear hRw
      go_wp2_with fail
      go_roundw
      case rel =>
        refine ⟨3, by omega, by simp, ?_, hfi.no hv1⟩
        simp only [sumTo]
        rw [hs.out]
        try simp
      case measure => simp [intOf]
    · have hRw := hR.no hfi
      go_wp2_with fail
      refine wp_region_seq (by kernel_rfl) (fun w' => Fr No wi w') (fun _ => false) [(0, 1), (1, 1), (2, 1), (3, 1), (4, 1), (6, 1), (5, 0), (7, 1), (8, 0), (9, 0), (10, 1), (11, 1)] (by kernel_rfl) (Fr.refl No wi).drew ?_
      have hv0 : Fr No wi wi.drew := (Fr.refl No wi).drew
      refine wpSeq_take (v := ?_) 21 rfl rfl (fun _ _ _ h => h) (Or.inl ⟨rfl, ?_⟩) ?_
      rotate_left 1
      · (intro w9 h9; go_simp; try with_reducible rfl)
      simp only [List.setIfInBounds_toArray, List.set_cons_zero, List.set_cons_succ]
      refine wpSeq_take (v := ?_) 22 rfl rfl (fun _ _ _ h => h) (Or.inl ⟨rfl, ?_⟩) ?_
      rotate_left 1
      · (intro w9 h9; go_simp; try with_reducible rfl)
      simp only [List.setIfInBounds_toArray, List.set_cons_zero, List.set_cons_succ]
      refine wpSeq_take (v := ?_) 23 rfl rfl (fun _ _ _ h => h) (Or.inl ⟨rfl, ?_⟩) ?_
      rotate_left 1
      · (intro w9 h9; go_simp; try with_reducible rfl)
      simp only [List.setIfInBounds_toArray, List.set_cons_zero, List.set_cons_succ]
      refine wpSeq_take (v := ?_) 24 rfl rfl (fun _ _ _ h => h) (Or.inl ⟨rfl, ?_⟩) ?_
      rotate_left 1
      · (intro w9 h9; have q3 := (hRw.no h9).c3; clear h9; go_simp; try with_reducible rfl)
      simp only [List.setIfInBounds_toArray, List.set_cons_zero, List.set_cons_succ]
      refine wpSeq_take (v := ?_) 25 rfl rfl (fun _ _ _ h => h) (Or.inl ⟨rfl, ?_⟩) ?_
      rotate_left 1
      · (intro w9 h9; go_simp; try with_reducible rfl)
      simp only [List.setIfInBounds_toArray, List.set_cons_zero, List.set_cons_succ]
      refine wpSeq_take (v := ?_) 27 rfl rfl (fun _ _ _ h => h) (Or.inl ⟨rfl, ?_⟩) ?_
      rotate_left 1
      · (intro w9 h9; go_simp; try with_reducible rfl)
      simp only [List.setIfInBounds_toArray, List.set_cons_zero, List.set_cons_succ]
      have hv1 : Fr No wi (wi.alloc (.cells #[.int .i64 1, .int .i64 7, .int .i64 12, .int .i64 18] 3)).drew := ((Fr.refl No wi).alloc _).drew
      refine wpSeq_next rfl rfl (fun K hK => ?_)
      go_wp2_with fail
      refine hK.out _ _ (fun _ => hv1) ?_
      clear hK K
      refine wpSeq_take (v := ?_) 28 rfl rfl (fun _ _ _ h => h) (Or.inl ⟨rfl, ?_⟩) ?_
      rotate_left 1
      · (intro w9 h9; go_simp; try with_reducible rfl)
      simp only [List.setIfInBounds_toArray, List.set_cons_zero, List.set_cons_succ]
      refine wpSeq_next rfl rfl (fun K hK => ?_)
      go_wp2_with fail
      refine hK.out _ _ (fun _ => hv1) ?_
      clear hK K
      refine wpSeq_next rfl rfl (fun K hK => ?_)
      go_wp2_with fail
      refine (refRot32_any _ 18 _ (by omega) (by omega)).mono ?_
      rintro e w' ⟨rfl, rfl⟩
      refine hK.out _ _ (fun _ => hv1) ?_
      clear hK K
      refine wpSeq_take (v := ?_) 31 rfl rfl (fun _ _ _ h => h) (Or.inl ⟨rfl, ?_⟩) ?_
      rotate_left 1
      · (intro w9 h9; go_simp; try with_reducible rfl)
      simp only [List.setIfInBounds_toArray, List.set_cons_zero, List.set_cons_succ]
      refine wpSeq_take (v := ?_) 9 rfl rfl (fun _ _ _ h => h) (Or.inl ⟨rfl, ?_⟩) ?_
      rotate_left 1
      · (intro w9 h9; go_simp; try with_reducible rfl)
      simp only [List.setIfInBounds_toArray, List.set_cons_zero, List.set_cons_succ]
      refine wpSeq_done ?_
      clear hRw
      go_wp2_with fail
      go_roundw
      case rel =>
        refine ⟨4, by omega, by simp, ?_, hfi.no hv1⟩
        simp only [sumTo]
        rw [hs.out]
        try simp
      case measure => simp [intOf]
    · have hf1 := hf0.no hfi
      have hsum : sumTo s 4 = sumF s := rfl
      rw [hsum, show ((4 : Nat) : Int) = 4 from rfl]
      clear hsum hR hfi hf0
      go_wp2_with fail
      go_loopw [2, 9] (fun v u wr => ∃ m a' c' l' h', v = .slice a' m c' ∧ u = .int .u32 (W32 h') ∧ IsBytes w a' m c' l' ∧ Fr No w wr ∧ Hid (restF h' l' = r)) (fun v _ _ => match v with | .slice _ m _ => m | _ => 0)
      case atStart => exact ⟨n, a, c, l, _, rfl, by first | rfl | rw [mod32], hb, hf1, HR⟩
      case round =>
        obtain ⟨m, a', c', l', h', rfl, rfl, hb', hfr, hr'⟩ := hrel
        have hlen := Lib.hid hb'.1
        have hc : m ≤ c' := hb'.2.1
        have hc2 : c' ≤ 9223372036854775807 := hb'.2.2.1
        have hy := hb'.no hfr
        by_cases hlt : 4 ≤ m
        · have i2 : (4 : Int) ≤ (c' : Int) := by omega
          have i3 : (4 : Int) ≤ (m : Int) := by omega
          have hbig := Lib.hid (restF_big (h := h') (l := l') (by rw [hlen.out]; exact hlt))
          have hcut := hb'.cut_to_end 4 (n' := m - 4) (c' := c' - 4) hlt rfl rfl
          go_wp2_with fail
          refine (refNum_any _ _ _ l' 0 4 _ hy (by omega) (by omega) (by omega) (by omega)).mono ?_
          rintro e w' ⟨rfl, rfl⟩
          go_wp2_with fail
          refine (refRot32_any _ 17 _ (by omega) (by omega)).mono ?_
          rintro e w' ⟨rfl, rfl⟩
          go_wp2_with fail
          go_roundw
          case rel =>
            refine ⟨m - 4, _, _, _, g4 h' (l'.take 4), rfl, ?_, hcut, hfr, (by show _ = _; rw [← hr'.out, hbig.out])⟩
            rw [g4_take, ← g4_def]
          case measure => simp; omega
        · have hbl : Hid (l'.foldl g1 h' = r) := by show _ = _; rw [← restF_small (by rw [hlen.out]; omega), hr'.out]
          have i3 : (m : Int) < 4 := by omega
          clear hr'
          go_wp2_with fail
          obtain ⟨wo, rfl⟩ : ∃ wo : World, wo = wr := ⟨_, rfl⟩
          go_loopw [9, 52] (fun u i wr => ∃ (k : Nat) (h2 : BitVec 32), k ≤ m ∧ i = .int .i64 k ∧ u = .int .u32 (W32 h2) ∧ Fr No w wr ∧ Hid ((l'.drop k).foldl g1 h2 = r)) (fun _ i _ => m - (intOf i).toNat)
          case atStart => exact ⟨0, h', by omega, rfl, rfl, hfr, by show _ = _; rw [List.drop_zero]; exact hbl.out⟩
          case round =>
            obtain ⟨k, h2, hk, rfl, rfl, hf2, hr2⟩ := hrel
            clear hfr hbl
            by_cases hkm : k < m
            · have i4 : (k : Int) < (m : Int) := by omega
              have hkl : k < l'.length := by rw [hlen.out]; exact hkm
              obtain ⟨b, off, rfl, hcell⟩ := (hb'.no hf2).known (by omega)
              have hc0 := hcell k hkm
              have hd := Lib.hid (List.drop_eq_getElem_cons hkl)
              clear hcell
              go_wp2_with fail
              refine (refRot32_any _ 11 _ (by omega) (by omega)).mono ?_
              rintro e w' ⟨rfl, rfl⟩
              go_wp2_with fail
              go_roundw
              case rel =>
                refine ⟨k + 1, g1 h2 l'[k], by omega, rfl, by rw [g1_def2], hf2, ?_⟩
                show _ = _
                rw [← hr2.out, hd.out, List.foldl_cons]
              case measure => simp only [intOf, Int.toNat_natCast]; omega
            · have hkm2 : k = m := by omega
              subst hkm2
              have i4 : ¬ (k : Int) < (k : Int) := by omega
              have hh : h2 = r := by have := hr2.out; rw [List.drop_eq_nil_of_le (by rw [hlen.out]; exact Nat.le_refl _)] at this; exact this
              rw [hh]
              clear hh hr2
              go_wp2_with fail
              go_ret
              exact ⟨by unfold avalF; rfl, hf2⟩
theorem refEnd_any (sd : BitVec 32) (x0 x1 x2 x3 : BitVec 64) (s : ST) (a : Option Addr) (n c : Nat) (l : Bytes) (lo : BitVec 64) (w : World) (hs : Hid (s = (x0.setWidth 32, x1.setWidth 32, x2.setWidth 32, x3.setWidth 32))) (hb : IsBytes w a n c l) : Calls Try.prog 22 #[.int .u32 (W32 sd), .agg #[.int .u64 (W64 x0), .int .u64 (W64 x1), .int .u64 (W64 x2), .int .u64 (W64 x3)], .slice a n c, .int .u64 (W64 lo)] w (GivesNew (.int .u32 (W32 (endF sd s l lo))) w) := by
  by_cases h : 16 ≤ W64 lo
  · exact refEnd_long sd x0 x1 x2 x3 s a n c l lo w hs hb h
  · exact refEnd_short sd x0 x1 x2 x3 s a n c l lo w hs hb (by omega)
end Go.Proofs.Ytdemhnkkohnflab.StX32
