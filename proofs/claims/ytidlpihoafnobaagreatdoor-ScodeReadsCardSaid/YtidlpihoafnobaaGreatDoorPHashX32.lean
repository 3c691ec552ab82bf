/- RefEndX32 HashX32 -/
import Derived.Test.YtidlpihoafnobaaGreatDoorPEndX32
set_option linter.unusedVariables false
set_option linter.unusedSimpArgs false
namespace Go.Proofs.YtidlpihoafnobaaGreatDoor.StX32
set_option maxRecDepth 100000
open Go.Proofs.YtidlpihoafnobaaGreatDoor.StG32
open Go.RowKit
theorem g1_def2 (h : BitVec 32) (b : BitVec 8) : rotl32 (h + BitVec.setWidth 32 b * 374761393#32) 11 * 2654435761#32 = g1 h b := rfl
set_option maxHeartbeats 2000000 in
theorem refEnd_short (sd : BitVec 32) (x0 x1 x2 x3 : BitVec 64) (s : ST) (a : Option Addr) (n c : Nat) (l : Bytes) (lo : BitVec 64) (w : World) (hs : Hid (s = (x0.setWidth 32, x1.setWidth 32, x2.setWidth 32, x3.setWidth 32))) (hb : IsBytes w a n c l) (hlo : W64 lo < 16) : Calls Tryz.prog 37 #[.int .u32 (W32 sd), .agg #[.int .u64 (W64 x0), .int .u64 (W64 x1), .int .u64 (W64 x2), .int .u64 (W64 x3)], .slice a n c, .int .u64 (W64 lo)] w (GivesNew (.int .u32 (W32 (endF sd s l lo))) w) := by
 have hf0 : Fr No w (w.alloc (.cells #[.int .u64 (W64 x0), .int .u64 (W64 x1), .int .u64 (W64 x2), .int .u64 (W64 x3)] 31)) := (Fr.refl No w).alloc _
 have hR := row4_new w 31 (.int .u64 (W64 x0)) (.int .u64 (W64 x1)) (.int .u64 (W64 x2)) (.int .u64 (W64 x3))
 have hH : headF sd s lo = sd + 374761393#32 := by unfold headF; rw [if_neg (by omega)]
 unfold endF
 rw [hH]
 generalize hr : restF (sd + 374761393#32 + lo.setWidth 32) l = r
 have HR := Lib.hid hr
 clear hr hH
 go_enter Tryz.func37, Tryz.ntmps37
 go_wp2_with fail
 generalize w.heap.size = pb at hR ⊢
 generalize w.alloc (.cells #[.int .u64 (W64 x0), .int .u64 (W64 x1), .int .u64 (W64 x2), .int .u64 (W64 x3)] 31) = w0 at hf0 hR ⊢
 have hf1 := hf0
 go_loopw [2, 9] (fun v u wr => ∃ m a' c' l' h', v = .slice a' m c' ∧ u = .int .u32 (W32 h') ∧ IsBytes w a' m c' l' ∧ Fr No w wr ∧ Hid (restF h' l' = r)) (fun v _ _ => match v with | .slice _ m _ => m | _ => 0)
 case atStart => exact ⟨n, a, c, l, _, rfl, by first | rfl | rw [mod32], hb, hf1, HR⟩
 case round =>
  obtain ⟨m, a', c', l', h', rfl, rfl, hb', hfr, hr'⟩ := hrel
  have hlen := Lib.hid hb'.1
  have hc : m ≤ c' := hb'.2.1
  have hc2 : c' ≤ 9223372036854775807 := hb'.2.2.1
  have hy := hb'.no hfr
  by_cases hlt : 4 ≤ m
  · have i2 : (4 : Int) ≤ (c' : Int) := by omega
    have i3 : (4 : Int) ≤ (m : Int) := by omega
    have hbig := Lib.hid (restF_big (h := h') (l := l') (by rw [hlen.out]; exact hlt))
    have hcut := hb'.cut_to_end 4 (n' := m - 4) (c' := c' - 4) hlt rfl rfl
    go_wp2_with fail
    refine (refNum_any _ _ _ l' 0 4 _ hy (by omega) (by omega) (by omega) (by omega)).mono ?_
    rintro e w' ⟨rfl, rfl⟩
    go_wp2_with fail
    refine (refRot32_any _ 17 _ (by omega) (by omega)).mono ?_
    rintro e w' ⟨rfl, rfl⟩
    go_wp2_with fail
    go_roundw
    case rel =>
     refine ⟨m - 4, _, _, _, g4 h' (l'.take 4), rfl, ?_, hcut, hfr, (by show _ = _; rw [← hr'.out, hbig.out])⟩
     rw [g4_take, ← g4_def]
    case measure => simp; omega
  · have hbl : Hid (l'.foldl g1 h' = r) := by show _ = _; rw [← restF_small (by rw [hlen.out]; omega), hr'.out]
    have i3 : (m : Int) < 4 := by omega
    clear hr'
    go_wp2_with fail
    obtain ⟨wo, rfl⟩ : ∃ wo : World, wo = wr := ⟨_, rfl⟩
    go_loopw [9, 52] (fun u i wr => ∃ (k : Nat) (h2 : BitVec 32), k ≤ m ∧ i = .int .i64 k ∧ u = .int .u32 (W32 h2) ∧ Fr No w wr ∧ Hid ((l'.drop k).foldl g1 h2 = r)) (fun _ i _ => m - (intOf i).toNat)
    case atStart => exact ⟨0, h', by omega, rfl, rfl, hfr, by show _ = _; rw [List.drop_zero]; exact hbl.out⟩
    case round =>
     obtain ⟨k, h2, hk, rfl, rfl, hf2, hr2⟩ := hrel
     clear hfr hbl
     by_cases hkm : k < m
     · have i4 : (k : Int) < (m : Int) := by omega
       have hkl : k < l'.length := by rw [hlen.out]; exact hkm
       obtain ⟨b, off, rfl, hcell⟩ := (hb'.no hf2).known (by omega)
       have hc0 := hcell k hkm
       have hd := Lib.hid (List.drop_eq_getElem_cons hkl)
       clear hcell
       go_wp2_with fail
       refine (refRot32_any _ 11 _ (by omega) (by omega)).mono ?_
       rintro e w' ⟨rfl, rfl⟩
       go_wp2_with fail
       go_roundw
       case rel =>
        refine ⟨k + 1, g1 h2 l'[k], by omega, rfl, by rw [g1_def2], hf2, ?_⟩
        show _ = _
        rw [← hr2.out, hd.out, List.foldl_cons]
       case measure => simp only [intOf, Int.toNat_natCast]; omega
     · have hkm2 : k = m := by omega
       subst hkm2
       have i4 : ¬ (k : Int) < (k : Int) := by omega
       have hh : h2 = r := by have := hr2.out; rw [List.drop_eq_nil_of_le (by rw [hlen.out]; exact Nat.le_refl _)] at this; exact this
       rw [hh]
       clear hh hr2
       go_wp2_with fail
       go_ret
       exact ⟨by unfold avalF; rfl, hf2⟩
def sumTo (s : ST) : Nat → BitVec 32
 | 0 => 0#32
 | 1 => rotl32 s.1 1
 | 2 => rotl32 s.1 1 + rotl32 s.2.1 7
 | 3 => rotl32 s.1 1 + rotl32 s.2.1 7 + rotl32 s.2.2.1 12
 | _ => rotl32 s.1 1 + rotl32 s.2.1 7 + rotl32 s.2.2.1 12 + rotl32 s.2.2.2 18
set_option maxHeartbeats 2000000 in
theorem refEnd_long (sd : BitVec 32) (x0 x1 x2 x3 : BitVec 64) (s : ST) (a : Option Addr) (n c : Nat) (l : Bytes) (lo : BitVec 64) (w : World) (hs : Hid (s = (x0.setWidth 32, x1.setWidth 32, x2.setWidth 32, x3.setWidth 32))) (hb : IsBytes w a n c l) (hlo : 16 ≤ W64 lo) : Calls Tryz.prog 37 #[.int .u32 (W32 sd), .agg #[.int .u64 (W64 x0), .int .u64 (W64 x1), .int .u64 (W64 x2), .int .u64 (W64 x3)], .slice a n c, .int .u64 (W64 lo)] w (GivesNew (.int .u32 (W32 (endF sd s l lo))) w) := by
 have hf0 : Fr No w (w.alloc (.cells #[.int .u64 (W64 x0), .int .u64 (W64 x1), .int .u64 (W64 x2), .int .u64 (W64 x3)] 31)) := (Fr.refl No w).alloc _
 have hR := row4_new w 31 (.int .u64 (W64 x0)) (.int .u64 (W64 x1)) (.int .u64 (W64 x2)) (.int .u64 (W64 x3))
 have hH : headF sd s lo = sumF s := by unfold headF; rw [if_pos hlo]
 unfold endF
 rw [hH]
 generalize hr : restF (sumF s + lo.setWidth 32) l = r
 have HR := Lib.hid hr
 clear hr hH
 go_enter Tryz.func37, Tryz.ntmps37
 go_wp2_with fail
 generalize w.heap.size = pb at hR ⊢
 generalize w.alloc (.cells #[.int .u64 (W64 x0), .int .u64 (W64 x1), .int .u64 (W64 x2), .int .u64 (W64 x3)] 31) = w0 at hf0 hR ⊢
 go_loopw [9, 10] (fun u i wr => ∃ k : Nat, k ≤ 4 ∧ i = .int .i64 k ∧ u = .int .u32 (W32 (sumTo s k)) ∧ Fr No w0 wr) (fun _ i _ => 4 - (intOf i).toNat)
 case atStart => exact ⟨0, by omega, rfl, rfl, Fr.refl No w0⟩
 case round =>
  obtain ⟨k, hk, rfl, rfl, hfi⟩ := hrel
  obtain ⟨wi, rfl⟩ : ∃ wi : World, wi = wr := ⟨_, rfl⟩
  rcases (show k = 0 ∨ k = 1 ∨ k = 2 ∨ k = 3 ∨ k = 4 by omega) with rfl | rfl | rfl | rfl | rfl
  · have hRw := hR.no hfi
    go_wp2_with fail
    refine rsq (by kernel_rfl) [(0, 1), (1, 1), (2, 1), (3, 1), (4, 1), (6, 1), (5, 0), (7, 1), (8, 0), (9, 0), (10, 1), (11, 1)] (by kernel_rfl) ?_
    have hv0 : Fr No wi wi.drew := (Fr.refl No wi).drew
    iterate 6 refine tq _ rfl rfl (by intro w9 h9; have q0 := (hRw.no h9).c0; clear h9; go_simp; try with_reducible rfl) ?_; simp only [es1, es2, es3]
    have hv1 : Fr No wi (wi.alloc (.cells #[.int .i64 1, .int .i64 7, .int .i64 12, .int .i64 18] 3)).drew := ((Fr.refl No wi).alloc _).drew
    refine wpSeq_next rfl rfl (fun K hK => ?_)
    go_wp2_with fail
    refine hK.out _ _ (fun _ => hv1) ?_
    clear hK K
    refine tp _ rfl rfl ?_; simp only [es1, es2, es3]
    refine wpSeq_next rfl rfl (fun K hK => ?_)
    go_wp2_with fail
    refine hK.out _ _ (fun _ => hv1) ?_
    clear hK K
    refine wpSeq_next rfl rfl (fun K hK => ?_)
    go_wp2_with fail
    refine (refRot32_any _ 1 _ (by omega) (by omega)).mono ?_
    rintro e w' ⟨rfl, rfl⟩
    refine hK.out _ _ (fun _ => hv1) ?_
    clear hK K
    iterate 2 refine tp _ rfl rfl ?_; simp only [es1, es2, es3]
    refine wpSeq_done ?_
    clear hRw
    go_wp2_with fail
    go_roundw
    case rel =>
     refine ⟨1, by omega, by simp, ?_, hfi.no hv1⟩
     simp only [sumTo]
     rw [hs.out]
     try simp
    case measure => simp [intOf]
  · have hRw := hR.no hfi
    go_wp2_with fail
    refine rsq (by kernel_rfl) [(0, 1), (1, 1), (2, 1), (3, 1), (4, 1), (6, 1), (5, 0), (7, 1), (8, 0), (9, 0), (10, 1), (11, 1)] (by kernel_rfl) ?_
    have hv0 : Fr No wi wi.drew := (Fr.refl No wi).drew
    iterate 6 refine tq _ rfl rfl (by intro w9 h9; have q1 := (hRw.no h9).c1; clear h9; go_simp; try with_reducible rfl) ?_; simp only [es1, es2, es3]
    have hv1 : Fr No wi (wi.alloc (.cells #[.int .i64 1, .int .i64 7, .int .i64 12, .int .i64 18] 3)).drew := ((Fr.refl No wi).alloc _).drew
    refine wpSeq_next rfl rfl (fun K hK => ?_)
    go_wp2_with fail
    refine hK.out _ _ (fun _ => hv1) ?_
    clear hK K
    refine tp _ rfl rfl ?_; simp only [es1, es2, es3]
    refine wpSeq_next rfl rfl (fun K hK => ?_)
    go_wp2_with fail
    refine hK.out _ _ (fun _ => hv1) ?_
    clear hK K
    refine wpSeq_next rfl rfl (fun K hK => ?_)
    go_wp2_with fail
    refine (refRot32_any _ 7 _ (by omega) (by omega)).mono ?_
    rintro e w' ⟨rfl, rfl⟩
    refine hK.out _ _ (fun _ => hv1) ?_
    clear hK K
    iterate 2 refine tp _ rfl rfl ?_; simp only [es1, es2, es3]
    refine wpSeq_done ?_
    clear hRw
    go_wp2_with fail
    go_roundw
    case rel =>
     refine ⟨2, by omega, by simp, ?_, hfi.no hv1⟩
     simp only [sumTo]
     rw [hs.out]
     try simp
    case measure => simp [intOf]
  · have hRw := hR.no hfi
    go_wp2_with fail
    refine rsq (by kernel_rfl) [(0, 1), (1, 1), (2, 1), (3, 1), (4, 1), (6, 1), (5, 0), (7, 1), (8, 0), (9, 0), (10, 1), (11, 1)] (by kernel_rfl) ?_
    have hv0 : Fr No wi wi.drew := (Fr.refl No wi).drew
    iterate 6 refine tq _ rfl rfl (by intro w9 h9; have q2 := (hRw.no h9).c2; clear h9; go_simp; try with_reducible rfl) ?_; simp only [es1, es2, es3]
    have hv1 : Fr No wi (wi.alloc (.cells #[.int .i64 1, .int .i64 7, .int .i64 12, .int .i64 18] 3)).drew := ((Fr.refl No wi).alloc _).drew
    refine wpSeq_next rfl rfl (fun K hK => ?_)
    go_wp2_with fail
    refine hK.out _ _ (fun _ => hv1) ?_
    clear hK K
    refine tp _ rfl rfl ?_; simp only [es1, es2, es3]
    refine wpSeq_next rfl rfl (fun K hK => ?_)
    go_wp2_with fail
    refine hK.out _ _ (fun _ => hv1) ?_
    clear hK K
    refine wpSeq_next rfl rfl (fun K hK => ?_)
    go_wp2_with fail
    refine (refRot32_any _ 12 _ (by omega) (by omega)).mono ?_
    rintro e w' ⟨rfl, rfl⟩
    refine hK.out _ _ (fun _ => hv1) ?_
    clear hK K
    iterate 2 refine tp _ rfl rfl ?_; simp only [es1, es2, es3]
    refine wpSeq_done ?_
    clear hRw
    go_wp2_with fail
    go_roundw
    case rel =>
     refine ⟨3, by omega, by simp, ?_, hfi.no hv1⟩
     simp only [sumTo]
     rw [hs.out]
     try simp
    case measure => simp [intOf]
  · have hRw := hR.no hfi
    go_wp2_with fail
    refine rsq (by kernel_rfl) [(0, 1), (1, 1), (2, 1), (3, 1), (4, 1), (6, 1), (5, 0), (7, 1), (8, 0), (9, 0), (10, 1), (11, 1)] (by kernel_rfl) ?_
    have hv0 : Fr No wi wi.drew := (Fr.refl No wi).drew
    iterate 6 refine tq _ rfl rfl (by intro w9 h9; have q3 := (hRw.no h9).c3; clear h9; go_simp; try with_reducible rfl) ?_; simp only [es1, es2, es3]
    have hv1 : Fr No wi (wi.alloc (.cells #[.int .i64 1, .int .i64 7, .int .i64 12, .int .i64 18] 3)).drew := ((Fr.refl No wi).alloc _).drew
    refine wpSeq_next rfl rfl (fun K hK => ?_)
    go_wp2_with fail
    refine hK.out _ _ (fun _ => hv1) ?_
    clear hK K
    refine tp _ rfl rfl ?_; simp only [es1, es2, es3]
    refine wpSeq_next rfl rfl (fun K hK => ?_)
    go_wp2_with fail
    refine hK.out _ _ (fun _ => hv1) ?_
    clear hK K
    refine wpSeq_next rfl rfl (fun K hK => ?_)
    go_wp2_with fail
    refine (refRot32_any _ 18 _ (by omega) (by omega)).mono ?_
    rintro e w' ⟨rfl, rfl⟩
    refine hK.out _ _ (fun _ => hv1) ?_
    clear hK K
    iterate 2 refine tp _ rfl rfl ?_; simp only [es1, es2, es3]
    refine wpSeq_done ?_
    clear hRw
    go_wp2_with fail
    go_roundw
    case rel =>
     refine ⟨4, by omega, by simp, ?_, hfi.no hv1⟩
     simp only [sumTo]
     rw [hs.out]
     try simp
    case measure => simp [intOf]
  · have hf1 := hf0.no hfi
    have hsum : sumTo s 4 = sumF s := rfl
    rw [hsum, show ((4 : Nat) : Int) = 4 from rfl]
    clear hsum hR hfi hf0
    go_wp2_with fail
    go_loopw [2, 9] (fun v u wr => ∃ m a' c' l' h', v = .slice a' m c' ∧ u = .int .u32 (W32 h') ∧ IsBytes w a' m c' l' ∧ Fr No w wr ∧ Hid (restF h' l' = r)) (fun v _ _ => match v with | .slice _ m _ => m | _ => 0)
    case atStart => exact ⟨n, a, c, l, _, rfl, by first | rfl | rw [mod32], hb, hf1, HR⟩
    case round =>
     obtain ⟨m, a', c', l', h', rfl, rfl, hb', hfr, hr'⟩ := hrel
     have hlen := Lib.hid hb'.1
     have hc : m ≤ c' := hb'.2.1
     have hc2 : c' ≤ 9223372036854775807 := hb'.2.2.1
     have hy := hb'.no hfr
     by_cases hlt : 4 ≤ m
     · have i2 : (4 : Int) ≤ (c' : Int) := by omega
       have i3 : (4 : Int) ≤ (m : Int) := by omega
       have hbig := Lib.hid (restF_big (h := h') (l := l') (by rw [hlen.out]; exact hlt))
       have hcut := hb'.cut_to_end 4 (n' := m - 4) (c' := c' - 4) hlt rfl rfl
       go_wp2_with fail
       refine (refNum_any _ _ _ l' 0 4 _ hy (by omega) (by omega) (by omega) (by omega)).mono ?_
       rintro e w' ⟨rfl, rfl⟩
       go_wp2_with fail
       refine (refRot32_any _ 17 _ (by omega) (by omega)).mono ?_
       rintro e w' ⟨rfl, rfl⟩
       go_wp2_with fail
       go_roundw
       case rel =>
        refine ⟨m - 4, _, _, _, g4 h' (l'.take 4), rfl, ?_, hcut, hfr, (by show _ = _; rw [← hr'.out, hbig.out])⟩
        rw [g4_take, ← g4_def]
       case measure => simp; omega
     · have hbl : Hid (l'.foldl g1 h' = r) := by show _ = _; rw [← restF_small (by rw [hlen.out]; omega), hr'.out]
       have i3 : (m : Int) < 4 := by omega
       clear hr'
       go_wp2_with fail
       obtain ⟨wo, rfl⟩ : ∃ wo : World, wo = wr := ⟨_, rfl⟩
       go_loopw [9, 52] (fun u i wr => ∃ (k : Nat) (h2 : BitVec 32), k ≤ m ∧ i = .int .i64 k ∧ u = .int .u32 (W32 h2) ∧ Fr No w wr ∧ Hid ((l'.drop k).foldl g1 h2 = r)) (fun _ i _ => m - (intOf i).toNat)
       case atStart => exact ⟨0, h', by omega, rfl, rfl, hfr, by show _ = _; rw [List.drop_zero]; exact hbl.out⟩
       case round =>
        obtain ⟨k, h2, hk, rfl, rfl, hf2, hr2⟩ := hrel
        clear hfr hbl
        by_cases hkm : k < m
        · have i4 : (k : Int) < (m : Int) := by omega
          have hkl : k < l'.length := by rw [hlen.out]; exact hkm
          obtain ⟨b, off, rfl, hcell⟩ := (hb'.no hf2).known (by omega)
          have hc0 := hcell k hkm
          have hd := Lib.hid (List.drop_eq_getElem_cons hkl)
          clear hcell
          go_wp2_with fail
          refine (refRot32_any _ 11 _ (by omega) (by omega)).mono ?_
          rintro e w' ⟨rfl, rfl⟩
          go_wp2_with fail
          go_roundw
          case rel =>
           refine ⟨k + 1, g1 h2 l'[k], by omega, rfl, by rw [g1_def2], hf2, ?_⟩
           show _ = _
           rw [← hr2.out, hd.out, List.foldl_cons]
          case measure => simp only [intOf, Int.toNat_natCast]; omega
        · have hkm2 : k = m := by omega
          subst hkm2
          have i4 : ¬ (k : Int) < (k : Int) := by omega
          have hh : h2 = r := by have := hr2.out; rw [List.drop_eq_nil_of_le (by rw [hlen.out]; exact Nat.le_refl _)] at this; exact this
          rw [hh]
          clear hh hr2
          go_wp2_with fail
          go_ret
          exact ⟨by unfold avalF; rfl, hf2⟩
theorem refEnd_any (sd : BitVec 32) (x0 x1 x2 x3 : BitVec 64) (s : ST) (a : Option Addr) (n c : Nat) (l : Bytes) (lo : BitVec 64) (w : World) (hs : Hid (s = (x0.setWidth 32, x1.setWidth 32, x2.setWidth 32, x3.setWidth 32))) (hb : IsBytes w a n c l) : Calls Tryz.prog 37 #[.int .u32 (W32 sd), .agg #[.int .u64 (W64 x0), .int .u64 (W64 x1), .int .u64 (W64 x2), .int .u64 (W64 x3)], .slice a n c, .int .u64 (W64 lo)] w (GivesNew (.int .u32 (W32 (endF sd s l lo))) w) := by
 by_cases h : 16 ≤ W64 lo
 · exact refEnd_long sd x0 x1 x2 x3 s a n c l lo w hs hb h
 · exact refEnd_short sd x0 x1 x2 x3 s a n c l lo w hs hb (by omega)
end Go.Proofs.YtidlpihoafnobaaGreatDoor.StX32
namespace Go.Proofs.YtidlpihoafnobaaGreatDoor.StX32
set_option maxRecDepth 100000
open Go.Proofs.YtidlpihoafnobaaGreatDoor.StG32
open Go.RowKit
structure HLive (w0 w : World) (hb sb : Nat) (sd : BitVec 32) (s : ST) (tl : Bytes) (lo : BitVec 64) (tv : Value) : Prop where
 on : Live w0 w sb 16 (firstF sd) s q0 tl lo tv
 hc : w.heap[hb]? = some (.cells #[.int .u32 (W32 sd), .pointer (some ⟨sb, 0, none⟩)] 224 (0, 0))
 ge : w0.heap.size ≤ hb
 ne : ¬ Foot sb tv hb
 tlen : tl.length < 16
def HFoot (hb sb : Nat) (tv : Value) (x : Nat) : Prop := x = hb ∨ Foot sb tv x
section
variable {w0 w w' : World} {hb sb : Nat} {sd : BitVec 32} {s : ST} {tl : Bytes} {lo : BitVec 64} {tv : Value}
theorem HLive.lt (h : HLive w0 w hb sb sd s tl lo tv) : ∀ x, HFoot hb sb tv x → x < w.heap.size := fun x hx => by
 rcases hx with rfl | hx
 · exact (Array.getElem?_eq_some_iff.1 h.hc).1
 · exact h.on.lt x hx
theorem HLive.fr (h : HLive w0 w hb sb sd s tl lo tv) : Fr No w0 w := h.on.fr
theorem HLive.keep {F : Nat → Prop} (h : HLive w0 w hb sb sd s tl lo tv) (k : Fr F w w') (hF : ∀ x, F x → ¬ HFoot hb sb tv x) (hA : ∀ x, F x → w0.heap.size ≤ x) : HLive w0 w' hb sb sd s tl lo tv :=
 ⟨h.on.keep k (fun x hx g => hF x hx (.inr g)) hA, k.heap (fun g => hF _ g (.inl rfl)) h.hc, h.ge, h.ne, h.tlen⟩
theorem HLive.no (h : HLive w0 w hb sb sd s tl lo tv) (k : Fr No w w') : HLive w0 w' hb sb sd s tl lo tv := h.keep k (fun _ g => g.elim) (fun _ g => g.elim)
theorem HLive.cell (h : HLive w0 w hb sb sd s tl lo tv) : w.cell? ⟨hb, 1, none⟩ = some (.pointer (some ⟨sb, 0, none⟩)) := by rw [cell_of_row w hb 1 _ _ _ h.hc]; rfl
theorem HLive.cell0 (h : HLive w0 w hb sb sd s tl lo tv) : w.cell? ⟨hb, 0, none⟩ = some (.int .u32 (W32 sd)) := by rw [cell_of_row w hb 0 _ _ _ h.hc]; rfl
end
theorem made_h {w0 w : World} {hb sb : Nat} {sd : BitVec 32} {s : ST} {tl : Bytes} {lo : BitVec 64} {tv : Value} (h : HLive w0 w hb sb sd s tl lo tv) : Calls Tryz.prog 155 #[.pointer (some ⟨hb, 0, none⟩)] w (Gives (.bool true) w) := by
 have cc := h.cell
 go_enter Tryz.func155, Tryz.ntmps155
 go_wp2
 go_ret
 exact ⟨rfl, rfl⟩
def GivesHash (w0 w : World) (sd : BitVec 32) (e : Ending) (w' : World) : Prop := ∃ hb sb, e = .returned (.pointer (some ⟨hb, 0, none⟩)) ∧ w.heap.size ≤ hb ∧ w.heap.size ≤ sb ∧ HLive w0 w' hb sb sd (firstF sd) [] 0#64 (.slice none 0 0) ∧ Fr No w w'
set_option maxHeartbeats 400000 in
theorem New_h (sd : BitVec 32) (w0 w : World) (hf : Fr No w0 w) : Calls Tryz.prog 92 #[.int .u32 (W32 sd)] w (GivesHash w0 w sd) := by
 go_enter Tryz.func92, Tryz.ntmps92
 go_wp2_with fail
 refine (first_any sd _).mono ?_
 rintro e w1 ⟨rfl, hW1⟩
 go_wp2_with fail
 refine (New_any 16 (firstF sd) q0 _ (by omega) (by omega)).mono ?_
 rintro e w2 ⟨sb, rfl, hge, hlt, hst, hfr⟩
 have hz : sizeOk 16 = ((16 : Nat) : Int) := rfl
 rw [hz] at hst
 have hW := hW1.no hfr
 have g0 := hf.size
 have g1 := hW1.size
 have g2 := hfr.size
 clear hz
 go_wp2_with fail
 go_ret
 have h3 : Fr No w2 (w2.alloc (.cells #[.int .u32 (W32 sd), .pointer (some ⟨sb, 0, none⟩)] 224)) := (Fr.refl No w2).alloc _
 refine ⟨w2.heap.size, sb, rfl, by omega, by omega, ⟨⟨hst.fr h3 (fun h => h), Owns.nil _ _, by omega, (hf.no hW).no h3⟩, heap_alloc_new w2 _, by omega, ?_, by simp⟩, hW.no h3⟩
 rintro (g | g)
 · omega
 · simp [Value.ownBlock] at g
set_option maxHeartbeats 800000 in
theorem Sum_h {w0 w : World} {hb sb : Nat} {sd : BitVec 32} {s : ST} {tl : Bytes} {lo : BitVec 64} {tv : Value} (h : HLive w0 w hb sb sd s tl lo tv) : Calls Tryz.prog 93 #[.pointer (some ⟨hb, 0, none⟩)] w (GivesNew (.int .u32 (W32 (endF sd s tl lo))) w) := by
 go_enter Tryz.func93, Tryz.ntmps93
 go_wp2_with (go_at_call 155; refine (made_h h).mono ?_; rintro e w' ⟨rfl, rfl⟩)
 obtain ⟨w1, rfl⟩ : ∃ w1 : World, w1 = w := ⟨_, rfl⟩
 have hf1 : Fr No w1 w1 := Fr.refl No w1
 have h1 := h
 have cc := h1.cell
 have cc0 := h1.cell0
 refine rsq (by kernel_rfl) [(0, 1), (1, 1), (2, 1), (3, 1), (4, 1), (5, 1), (6, 1), (7, 1), (9, 1), (10, 1), (11, 1), (12, 1), (14, 1), (15, 1), (16, 1), (17, 1), (8, 0), (13, 0), (18, 0), (19, 0), (20, 1)] (by kernel_rfl) ?_
 have hv0 : Fr No w1 w1.drew := (Fr.refl No w1).drew
 iterate 16 refine tq _ rfl rfl (by intro w9 h9; have ccc := h9.cell (fun h => h) cc; have ccc0 := h9.cell (fun h => h) cc0; clear h9; go_simp; try with_reducible rfl) ?_; simp only [es1, es2, es3]
 refine wpSeq_next rfl rfl (fun K hK => ?_)
 go_wp2_with fail
 refine (State_any (h1.no hv0).on.st).mono ?_
 rintro e xhv1 ⟨rfl, hx⟩
 have hv1 := hv0.no hx
 clear hx
 refine hK.out _ _ (fun _ => hv1) ?_
 clear hK K
 refine wpSeq_next rfl rfl (fun K hK => ?_)
 go_wp2_with fail
 refine (StG32.Tail_any (h1.no hv1).on.st (h1.no hv1).on.ow (by have := h.tlen; omega)).mono ?_
 rintro e xhv2 ⟨vt, rfl, ho, hx⟩
 have hv2 := hv1.no hx
 obtain ⟨at_, ct, rfl, hbt, _⟩ := ho.bytes
 clear hx
 refine hK.out _ _ (fun _ => hv2) ?_
 clear hK K
 refine wpSeq_next rfl rfl (fun K hK => ?_)
 go_wp2_with fail
 refine (Long_any (h1.no hv2).on.st).mono ?_
 rintro e w' ⟨rfl, rfl⟩
 refine hK.out _ _ (fun _ => hv2) ?_
 clear hK K
 refine wpSeq_next rfl rfl (fun K hK => ?_)
 go_wp2_with fail
 refine (end_any sd s _ _ _ tl lo _ hbt).mono ?_
 rintro e xhv3 ⟨rfl, hx⟩
 have hv3 := hv2.no hx
 clear hx
 refine hK.out _ _ (fun _ => hv3) ?_
 clear hK K
 refine tp _ rfl rfl ?_; simp only [es1, es2, es3]
 refine wpSeq_done ?_
 go_wp2_with fail
 go_ret
 exact ⟨rfl, hf1.no hv3⟩
def GivesHLanes (s : ST) (tl : Bytes) (lo : BitVec 64) (w : World) (e : Ending) (w' : World) : Prop := ∃ v, e = .returned (.tuple #[lanesV s, .int .u64 (W64 lo), v]) ∧ Owns w' w.heap.size v tl ∧ Fr No w w'
set_option maxHeartbeats 1000000 in
theorem Lanes_h {w0 w : World} {hb sb : Nat} {sd : BitVec 32} {s : ST} {tl : Bytes} {lo : BitVec 64} {tv : Value} (h : HLive w0 w hb sb sd s tl lo tv) : Calls Tryz.prog 294 #[.pointer (some ⟨hb, 0, none⟩)] w (GivesHLanes s tl lo w) := by
 have hlt := h.lt hb (.inl rfl)
 have hF1 : Fr No w (w.alloc (.cells #[.int .u64 0, .int .u64 0, .int .u64 0, .int .u64 0] 31)) := (Fr.refl No w).alloc _
 have h1 := h.no hF1
 have hR := row4_new w 31 (.int .u64 0) (.int .u64 0) (.int .u64 0) (.int .u64 0)
 go_enter Tryz.func294, Tryz.ntmps294
 go_wp2_with (go_at_call 155; refine (made_h h1).mono ?_; rintro e w' ⟨rfl, rfl⟩)
 obtain ⟨rb, hrb⟩ : ∃ rb, rb = w.heap.size := ⟨_, rfl⟩
 have hnb : ¬ hb = rb := by omega
 have hk := Lib.hid (fun (w' : World) (k : Fr (fun x => x = rb) (w.alloc (.cells #[.int .u64 0, .int .u64 0, .int .u64 0, .int .u64 0] 31)) w') => h1.keep k (fun x hx g => by have := h.lt x g; omega) (fun x hx => by have := h.on.fr.size; omega))
 rw [← hrb] at hR ⊢
 have hrg : w.heap.size ≤ rb := by omega
 clear hrb
 generalize w.alloc (.cells #[.int .u64 0, .int .u64 0, .int .u64 0, .int .u64 0] 31) = w1 at hF1 h1 hR hk ⊢
 have hrl := hR.lt
 have cc := h1.cell
 have cc0 := h1.cell0
 refine wp_region_seq (by kernel_rfl) (fun w' => Fr (fun x => x = rb) w1 w') (fun _ => false) [(0, 1), (1, 1), (2, 1), (3, 1), (6, 1), (7, 1), (8, 1), (9, 1), (11, 1), (12, 1), (13, 1), (14, 1), (4, 0), (5, 0), (10, 0), (15, 0), (16, 0), (17, 1), (18, 1)] (by kernel_rfl) (Fr.refl _ w1).drew ?_
 have hv0 : Fr No w1 w1.drew := (Fr.refl No w1).drew
 iterate 12 refine tq _ rfl rfl (by intro w9 h9; have ccc := h9.cell hnb cc; have ccc0 := h9.cell hnb cc0; clear h9; go_simp; try with_reducible rfl) ?_; simp only [es1, es2, es3]
 refine wpSeq_next rfl rfl (fun K hK => ?_)
 go_wp2_with fail
 refine (State_any (hk.out _ (hv0.mono (fun _ _ f => f.elim))).on.st).mono ?_
 rintro e xhv1 ⟨rfl, hx⟩
 have hv1 := hv0.no hx
 clear hx
 refine hK.out _ _ (fun _ => (hv1.mono (fun _ _ f => f.elim))) ?_
 clear hK K
 refine wpSeq_next rfl rfl (fun K hK => ?_)
 go_wp2_with fail
 refine (wide_any s _).mono ?_
 rintro e xhv2 ⟨rfl, hx⟩
 have hv2 := hv1.no hx
 clear hx
 unfold lanesV
 refine hK.out _ _ (fun _ => (hv2.mono (fun _ _ f => f.elim))) ?_
 clear hK K
 refine wpSeq_next rfl rfl (fun K hK => ?_)
 go_wp2_with fail
 refine (Long_any (hk.out _ (hv2.mono (fun _ _ f => f.elim))).on.st).mono ?_
 rintro e w' ⟨rfl, rfl⟩
 refine hK.out _ _ (fun _ => (hv2.mono (fun _ _ f => f.elim))) ?_
 clear hK K
 refine wpSeq_next rfl rfl (fun K hK => ?_)
 go_wp2_with fail
 refine (StG32.Tail_any (hk.out _ (hv2.mono (fun _ _ f => f.elim))).on.st (hk.out _ (hv2.mono (fun _ _ f => f.elim))).on.ow (by have := h.tlen; omega)).mono ?_
 rintro e xhv3 ⟨vt, rfl, ho, hx⟩
 have hsz := hv2.size
 have hv3 := hv2.no hx
 obtain ⟨at_, ct, rfl, _, _⟩ := ho.bytes
 clear hx
 refine hK.out _ _ (fun _ => (hv3.mono (fun _ _ f => f.elim))) ?_
 clear hK K
 have hRx := hR.no hv3
 have cr0 := hRx.c0
 have cr1 := hRx.c1
 have cr2 := hRx.c2
 have cr3 := hRx.c3
 have fr0 := hRx.fz 0
 have fr1 := hRx.fz 1
 have fr2 := hRx.fz 2
 have fr3 := hRx.fz 3
 refine wpSeq_next rfl rfl (fun K hK => ?_)
 go_wp2_with fail
 have hF3 := fr_put4 xhv3 rb (.int .u64 (W64 (s.1.setWidth 64))) (.int .u64 (W64 (s.2.1.setWidth 64))) (.int .u64 (W64 (s.2.2.1.setWidth 64))) (.int .u64 (W64 (s.2.2.2.setWidth 64)))
 have hR3 := row_put4 hRx (.int .u64 (W64 (s.1.setWidth 64))) (.int .u64 (W64 (s.2.1.setWidth 64))) (.int .u64 (W64 (s.2.2.1.setWidth 64))) (.int .u64 (W64 (s.2.2.2.setWidth 64)))
 have hs3 : Fr (fun x => x = rb) w1 _ := (hv3.mono (fun _ _ f => f.elim)).trans hF3 (fun _ h => .inl h)
 refine hK.out _ _ (fun _ => hs3) ?_
 clear hK K
 clear cr0 fr0 cr1 fr1 cr2 fr2 cr3 fr3
 generalize ((((xhv3.setCell ⟨rb, 0, none⟩ (.int .u64 (W64 (s.1.setWidth 64)))).setCell ⟨rb, 1, none⟩ (.int .u64 (W64 (s.2.1.setWidth 64)))).setCell ⟨rb, 2, none⟩ (.int .u64 (W64 (s.2.2.1.setWidth 64)))).setCell ⟨rb, 3, none⟩ (.int .u64 (W64 (s.2.2.2.setWidth 64)))) = w3 at hF3 hR3 hs3 ⊢
 iterate 2 refine tp _ rfl rfl ?_; simp only [es1, es2, es3]
 refine wpSeq_done ?_
 have cd0 := hR3.c0
 have cd1 := hR3.c1
 have cd2 := hR3.c2
 have cd3 := hR3.c3
 have g1 := hF1.size
 go_wp2_with fail
 refine bodyPost_ret (v := .tuple #[lanesV s, .int .u64 (W64 lo), .slice at_ tl.length ct]) (by simp [results, Tryz.results294, go_sem, cd0, cd1, cd2, cd3, lanesV]) rfl ?_
 exact ⟨_, rfl, (ho.fr hF3 (fun x hx e => by have := own_ge ho hx; omega)).mono (by omega), hF1.trans hs3 (fun x hx => .inr (by omega))⟩
theorem fits_lt {n : Nat} {lo : BitVec 64} {size : Nat} (h : fitsB n lo size = true) (hn : n ≤ 1099511627776) (h1 : 1 ≤ size) (h2 : size ≤ 64) : n < size := by
 unfold fitsB at h
 have := congrArg BitVec.toNat (beq_iff_eq.1 h)
 simp only [BitVec.toNat_umod, BitVec.toNat_ofNat] at this
 rw [Nat.mod_eq_of_lt (show n < 2 ^ 64 by omega), Nat.mod_eq_of_lt (show size < 2 ^ 64 by omega)] at this
 rw [this]
 exact Nat.mod_lt _ (by omega)
def RightP (x0 x1 x2 x3 : BitVec 64) : Prop := (x0.setWidth 32).setWidth 64 = x0 ∧ (x1.setWidth 32).setWidth 64 = x1 ∧ (x2.setWidth 32).setWidth 64 = x2 ∧ (x3.setWidth 32).setWidth 64 = x3
def stateF (x0 x1 x2 x3 : BitVec 64) : ST := (x0.setWidth 32, x1.setWidth 32, x2.setWidth 32, x3.setWidth 32)
def HSets (w0 : World) (hb sb : Nat) (sd : BitVec 32) (s2 : ST) (l : Bytes) (lo2 : BitVec 64) (w : World) (e : Ending) (w' : World) : Prop :=
 ∃ tv2, e = .returned (.bool true) ∧ HLive w0 w' hb sb sd s2 l lo2 tv2 ∧ Fr (fun x => x = sb) w w' ∧ ∀ x, tv2.ownBlock = some x → w.heap.size ≤ x
theorem lanesV_state (x0 x1 x2 x3 : BitVec 64) : lanesV (stateF x0 x1 x2 x3) = .agg #[.int .u64 (W64 ((x0.setWidth 32).setWidth 64)), .int .u64 (W64 ((x1.setWidth 32).setWidth 64)), .int .u64 (W64 ((x2.setWidth 32).setWidth 64)), .int .u64 (W64 ((x3.setWidth 32).setWidth 64))] := rfl
set_option maxHeartbeats 800000 in
theorem Set_right {w0 w : World} {hb sb : Nat} {sd : BitVec 32} {s : ST} {tl : Bytes} {lo : BitVec 64} {tv : Value} (h : HLive w0 w hb sb sd s tl lo tv) (x0 x1 x2 x3 : BitVec 64) (lv : Value) (hlv : lv = .agg #[.int .u64 (W64 x0), .int .u64 (W64 x1), .int .u64 (W64 x2), .int .u64 (W64 x3)]) (lo2 : BitVec 64) (a : Option Addr) (n c : Nat) (hw : RightP x0 x1 x2 x3) (hfit : fitsB n lo2 16 = true) (l : Bytes) (hy : IsBytes w a n c l) (hn : n ≤ 1099511627776) : Calls Tryz.prog 296 #[.pointer (some ⟨hb, 0, none⟩), lv, .int .u64 (W64 lo2), .slice a n c] w (HSets w0 hb sb sd (stateF x0 x1 x2 x3) l lo2 w) := by
 subst hlv
 have hF1 : Fr No w (w.alloc (.cells #[.int .u64 (W64 x0), .int .u64 (W64 x1), .int .u64 (W64 x2), .int .u64 (W64 x3)] 31)) := (Fr.refl No w).alloc _
 have hR1 := row4_new w 31 (.int .u64 (W64 x0)) (.int .u64 (W64 x1)) (.int .u64 (W64 x2)) (.int .u64 (W64 x3))
 have h1 := h.no hF1
 have cc := h1.cell
 obtain ⟨pb0, hpb0⟩ : ∃ pb0, pb0 = w.heap.size := ⟨_, rfl⟩
 have hHid := Lib.hid hpb0
 clear hpb0
 go_enter Tryz.func296, Tryz.ntmps296
 go_wp2_with fail
 have hpb0 := hHid.out
 clear hHid
 have g2 := hF1.size
 have hps : ¬ pb0 = sb := by have := h.lt sb (.inr (.inl rfl)); omega
 rw [← hpb0] at hR1 ⊢
 clear hpb0
 obtain ⟨pb, rfl⟩ : ∃ pb, pb = pb0 := ⟨_, rfl⟩
 generalize w.alloc (.cells #[.int .u64 (W64 x0), .int .u64 (W64 x1), .int .u64 (W64 x2), .int .u64 (W64 x3)] 31) = w1 at hF1 hR1 h1 cc g2 ⊢
 have hq : ((x0.setWidth 32).setWidth 64 == x0 && (x1.setWidth 32).setWidth 64 == x1 && (x2.setWidth 32).setWidth 64 == x2 && (x3.setWidth 32).setWidth 64 == x3) = true := by
  obtain ⟨e0, e1, e2, e3⟩ := hw
  rw [e0, e1, e2, e3]
  simp
 refine rsq (by kernel_rfl) [(0, 1), (1, 0), (2, 1), (3, 1), (4, 1), (7, 1), (5, 0), (6, 0), (8, 1), (9, 1)] (by kernel_rfl) ?_
 have hv0 : Fr No w1 w1.drew := (Fr.refl No w1).drew
 refine tp _ rfl rfl ?_; simp only [es1, es2, es3]
 refine wpSeq_next rfl rfl (fun K hK => ?_)
 go_wp2_with fail
 refine (made_h (h1.no hv0)).mono ?_
 rintro e w' ⟨rfl, rfl⟩
 refine hK.out _ _ (fun _ => hv0) ?_
 clear hK K
 iterate 4 refine tq _ rfl rfl (by intro w9 h9; have q0 := (hR1.no h9).c0; have q1 := (hR1.no h9).c1; have q2 := (hR1.no h9).c2; have q3 := (hR1.no h9).c3; have ch := (h1.no h9).cell; clear h9; go_simp; try with_reducible rfl) ?_; simp only [es1, es2, es3]
 refine wpSeq_next rfl rfl (fun K hK => ?_)
 go_wp2_with fail
 refine (narrow_any x0 x1 x2 x3 _).mono ?_
 rintro e xhv1 ⟨rfl, hx⟩
 have hv1 := hv0.no hx
 clear hx
 refine hK.out _ _ (fun _ => hv1) ?_
 clear hK K
 refine wpSeq_next rfl rfl (fun K hK => ?_)
 go_wp2_with fail
 refine (wide_any (stateF x0 x1 x2 x3) _).mono ?_
 rintro e xhv2 ⟨rfl, hx⟩
 have hv2 := hv1.no hx
 clear hx
 rw [lanesV_state]
 refine hK.out _ _ (fun _ => hv2) ?_
 clear hK K
 iterate 2 refine tp _ rfl rfl ?_; simp only [es1, es2, es3]
 refine wpSeq_done ?_
 go_wp2_with fail
 have h2 := h1.no hv2
 have hR2 := hR1.no hv2
 have hF2 := hF1.no hv2
 generalize xhv2 = w2 at h2 hR2 hF2 ⊢
 clear hR1 hv0 cc hv1 hv2
 have hb2 := hy.no hF2
 have cc := h2.cell
 have hnb : ¬ hb = sb := fun e => h2.ne (.inl e)
 refine wp_region_seq (by kernel_rfl) (fun w' => Fr (fun x => x = sb) w2 w') (fun _ => false) [(0, 1), (1, 1), (2, 1), (3, 1), (4, 1), (6, 1), (7, 1), (5, 0), (8, 0), (9, 1)] (by kernel_rfl) (Fr.refl _ w2).drew ?_
 have hv0 : Fr No w2 w2.drew := (Fr.refl No w2).drew
 iterate 7 refine tq _ rfl rfl (by intro w9 h9; have q0 := (hR2.fr h9 hps).c0; have q1 := (hR2.fr h9 hps).c1; have q2 := (hR2.fr h9 hps).c2; have q3 := (hR2.fr h9 hps).c3; have ch := h9.cell hnb cc; clear h9; go_simp; try with_reducible rfl) ?_; simp only [es1, es2, es3]
 refine wpSeq_next rfl rfl (fun K hK => ?_)
 go_wp2_with fail
 refine (narrow_any x0 x1 x2 x3 _).mono ?_
 rintro e xhv1 ⟨rfl, hx⟩
 have hv1 := hv0.no hx
 clear hx
 refine hK.out _ _ (fun _ => (hv1.mono (fun _ _ f => f.elim))) ?_
 clear hK K
 refine wpSeq_next rfl rfl (fun K hK => ?_)
 go_wp2_with fail
 refine (Set_yes (h2.no hv1).on.st (by omega) (by omega) (stateF x0 x1 x2 x3) lo2 _ n c l (hb2.no hv1) hn hfit).mono ?_
 rintro e w4 ⟨tv2, rfl, hst, hown, hfr⟩
 have hy4 : Fr (fun x => x = sb) w2 w4 := (hv1.mono (fun _ _ f => f.elim)).trans hfr (fun _ h => .inl h)
 refine hK.out _ _ (fun _ => hy4) ?_
 clear hK K
 refine tp _ rfl rfl ?_; simp only [es1, es2, es3]
 refine wpSeq_done ?_
 have h3 := h2.no hv1
 have hF3 := hF2.no hv1
 have hne : hb ≠ sb := fun e => h.ne (.inl e)
 have hlt := h3.lt hb (.inl rfl)
 have g1 := h3.on.fr.size
 have g3 := hF3.size
 have hH : HLive w0 w4 hb sb sd (stateF x0 x1 x2 x3) l lo2 tv2 :=
  ⟨⟨hst, hown.mono (by omega), h.on.ge, h3.on.fr.trans hfr (fun x hx => .inr (by have := h.on.ge; omega))⟩, hfr.heap hne h3.hc, h.ge, (fun g => by rcases g with g | g; exact hne g; have := own_ge hown g; omega), by rw [hy.1]; exact fits_lt hfit hn (by omega) (by omega)⟩
 go_wp2_with fail
 go_ret
 exact ⟨tv2, rfl, hH, (hF3.mono (fun x _ f => f.elim)).trans hfr (fun x h => .inl h), fun x hx => by have := own_ge hown hx; omega⟩
end Go.Proofs.YtidlpihoafnobaaGreatDoor.StX32
