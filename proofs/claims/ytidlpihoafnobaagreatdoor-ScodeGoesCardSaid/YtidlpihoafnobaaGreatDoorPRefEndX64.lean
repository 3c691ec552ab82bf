/- RefEndX64 -/
import Derived.Test.YtidlpihoafnobaaGreatDoorPRefX64
set_option linter.unusedVariables false
set_option linter.unusedSimpArgs false
namespace Go.Proofs.YtidlpihoafnobaaGreatDoor.StX64
set_option maxRecDepth 100000
open Go.Proofs.YtidlpihoafnobaaGreatDoor.StG64
open Go.RowKit
theorem refRound0_any (k : BitVec 64) (w : World) : Calls Tryz.prog 70 #[.int .u64 0, .int .u64 (W64 k)] w (Gives (.int .u64 (W64 (roundF 0#64 k))) w) := refRound_any 0#64 k w
def sumTo (s : ST) : Nat → BitVec 64
 | 0 => 0#64
 | 1 => rotl64 s.1 1
 | 2 => rotl64 s.1 1 + rotl64 s.2.1 7
 | 3 => rotl64 s.1 1 + rotl64 s.2.1 7 + rotl64 s.2.2.1 12
 | _ => rotl64 s.1 1 + rotl64 s.2.1 7 + rotl64 s.2.2.1 12 + rotl64 s.2.2.2 18
set_option maxHeartbeats 2000000 in
theorem refEnd_short (sd : BitVec 64) (s : ST) (a : Option Addr) (n c : Nat) (l : Bytes) (lo : BitVec 64) (w : World) (hb : IsBytes w a n c l) (hlo : W64 lo < 32) : Calls Tryz.prog 38 #[.int .u64 (W64 sd), .agg #[.int .u64 (W64 s.1), .int .u64 (W64 s.2.1), .int .u64 (W64 s.2.2.1), .int .u64 (W64 s.2.2.2)], .slice a n c, .int .u64 (W64 lo)] w (GivesNew (.int .u64 (W64 (endF sd s l lo))) w) := by
 have hf0 : Fr No w (w.alloc (.cells #[.int .u64 (W64 s.1), .int .u64 (W64 s.2.1), .int .u64 (W64 s.2.2.1), .int .u64 (W64 s.2.2.2)] 31)) := (Fr.refl No w).alloc _
 have hR := row4_new w 31 (.int .u64 (W64 s.1)) (.int .u64 (W64 s.2.1)) (.int .u64 (W64 s.2.2.1)) (.int .u64 (W64 s.2.2.2))
 have hH : headF sd s lo = sd + 2870177450012600261#64 := by unfold headF; rw [if_neg (by omega)]
 unfold endF
 rw [hH]
 generalize hr : restF (sd + 2870177450012600261#64 + lo) l = r
 have HR := Lib.hid hr
 clear hr hH
 go_enter Tryz.func38, Tryz.ntmps38
 go_wp2_with fail
 generalize w.heap.size = pb at hR ⊢
 generalize w.alloc (.cells #[.int .u64 (W64 s.1), .int .u64 (W64 s.2.1), .int .u64 (W64 s.2.2.1), .int .u64 (W64 s.2.2.2)] 31) = w0 at hf0 hR ⊢
 have hf1 := hf0
 go_loopw [2, 9] (fun v u wr => ∃ m a' c' l' h', v = .slice a' m c' ∧ u = .int .u64 (W64 h') ∧ IsBytes w a' m c' l' ∧ Fr No w wr ∧ Hid (restF h' l' = r)) (fun v _ _ => match v with | .slice _ m _ => m | _ => 0)
 case atStart => exact ⟨n, a, c, l, _, rfl, rfl, hb, hf1, HR⟩
 case round =>
  obtain ⟨m, a', c', l', h', rfl, rfl, hb', hfr, hr'⟩ := hrel
  have hlen := Lib.hid hb'.1
  have hc : m ≤ c' := hb'.2.1
  have hc2 : c' ≤ 9223372036854775807 := hb'.2.2.1
  have hy := hb'.no hfr
  by_cases hlt : 8 ≤ m
  · have i2 : (8 : Int) ≤ (c' : Int) := by omega
    have i3 : (8 : Int) ≤ (m : Int) := by omega
    have hbig := Lib.hid (restF_big (h := h') (l := l') (by rw [hlen.out]; exact hlt))
    have hcut := hb'.cut_to_end 8 (n' := m - 8) (c' := c' - 8) hlt rfl rfl
    go_wp2_with fail
    refine (refNum_any _ _ _ l' 0 8 _ hy (by omega) (by omega) (by omega) (by omega)).mono ?_
    rintro e w' ⟨rfl, rfl⟩
    go_wp2_with fail
    refine (refRound0_any _ _).mono ?_
    rintro e w' ⟨rfl, rfl⟩
    go_wp2_with fail
    refine (refRot64_any _ 27 _ (by omega) (by omega)).mono ?_
    rintro e w' ⟨rfl, rfl⟩
    go_wp2_with fail
    go_roundw
    case rel =>
     refine ⟨m - 8, _, _, _, g8 h' l', rfl, ?_, hcut, hfr, (by show _ = _; rw [← hr'.out, hbig.out])⟩
     rw [g8_def]
    case measure => simp; omega
  · by_cases h4 : 4 ≤ m
    · have hbl : Hid ((l'.drop 4).foldl g1 (g4 h' l') = r) := by
       show _ = _
       rw [← hr'.out, restF_small (by rw [hlen.out]; omega)]
       unfold smallF
       rw [if_pos (by rw [hlen.out]; exact h4)]
      have i1 : (m : Int) < 8 := by omega
      have i2 : (4 : Int) ≤ (c' : Int) := by omega
      have i3 : (4 : Int) ≤ (m : Int) := by omega
      have hcut := hb'.cut_to_end 4 (n' := m - 4) (c' := c' - 4) h4 rfl rfl
      have hlen4 := Lib.hid hcut.1
      generalize l'.drop 4 = ld at hbl hcut hlen4
      clear hr'
      go_wp2_with fail
      refine (refNum_any _ _ _ l' 0 4 _ hy (by omega) (by omega) (by omega) (by omega)).mono ?_
      rintro e w' ⟨rfl, rfl⟩
      go_wp2_with fail
      refine (refRot64_any _ 23 _ (by omega) (by omega)).mono ?_
      rintro e w' ⟨rfl, rfl⟩
      clear hy
      go_wp2_with fail
      obtain ⟨wo, rfl⟩ : ∃ wo : World, wo = wr := ⟨_, rfl⟩
      go_loopw [9, 75] (fun u i wr => ∃ (k : Nat) (h2 : BitVec 64), k ≤ (m - 4) ∧ i = .int .i64 k ∧ u = .int .u64 (W64 h2) ∧ Fr No w wr ∧ Hid ((ld.drop k).foldl g1 h2 = r)) (fun _ i _ => (m - 4) - (intOf i).toNat)
      case atStart => exact ⟨0, g4 h' l', by omega, rfl, by first | rfl | rw [g4_def], hfr, by show _ = _; rw [List.drop_zero]; exact hbl.out⟩
      case round =>
       obtain ⟨k, h2, hk, rfl, rfl, hf2, hr2⟩ := hrel
       clear hfr hbl
       by_cases hkm : k < (m - 4)
       · have i4 : (k : Int) < (((m - 4) : Nat) : Int) := by omega
         have hkl : k < ld.length := by rw [hlen4.out]; exact hkm
         obtain ⟨b, off, hbo, hcell⟩ := (hcut.no hf2).known (by omega)
         have hc0 := hcell k hkm
         have hd := Lib.hid (List.drop_eq_getElem_cons hkl)
         rw [hbo]
         clear hcell hbo
         go_wp2_with fail
         refine (refRot64_any _ 11 _ (by omega) (by omega)).mono ?_
         rintro e w' ⟨rfl, rfl⟩
         go_wp2_with fail
         go_roundw
         case rel =>
          refine ⟨k + 1, g1 h2 (ld[k]'hkl), by omega, rfl, by rw [g1_def], hf2, ?_⟩
          show _ = _
          rw [← hr2.out, hd.out, List.foldl_cons]
         case measure => simp only [intOf, Int.toNat_natCast]; omega
       · have hkm2 : k = (m - 4) := by omega
         have i4 : ¬ (k : Int) < (((m - 4) : Nat) : Int) := by omega
         have hh : h2 = r := by have := hr2.out; rw [List.drop_eq_nil_of_le (by rw [hlen4.out]; omega)] at this; exact this
         rw [hh]
         clear hh hr2
         go_wp2_with fail
         rw [avalF_def]
         go_ret
         exact ⟨rfl, hf2⟩
    · have hbl : Hid (l'.foldl g1 h' = r) := by
       show _ = _
       rw [← hr'.out, restF_small (by rw [hlen.out]; omega)]
       unfold smallF
       rw [if_neg (by rw [hlen.out]; exact h4)]
      have i1 : (m : Int) < 8 := by omega
      have i3 : (m : Int) < 4 := by omega
      clear hr' hy
      go_wp2_with fail
      obtain ⟨wo, rfl⟩ : ∃ wo : World, wo = wr := ⟨_, rfl⟩
      go_loopw [9, 75] (fun u i wr => ∃ (k : Nat) (h2 : BitVec 64), k ≤ m ∧ i = .int .i64 k ∧ u = .int .u64 (W64 h2) ∧ Fr No w wr ∧ Hid ((l'.drop k).foldl g1 h2 = r)) (fun _ i _ => m - (intOf i).toNat)
      case atStart => exact ⟨0, h', by omega, rfl, by first | rfl | rw [g4_def], hfr, by show _ = _; rw [List.drop_zero]; exact hbl.out⟩
      case round =>
       obtain ⟨k, h2, hk, rfl, rfl, hf2, hr2⟩ := hrel
       clear hfr hbl
       by_cases hkm : k < m
       · have i4 : (k : Int) < ((m : Nat) : Int) := by omega
         have hkl : k < l'.length := by rw [hlen.out]; exact hkm
         obtain ⟨b, off, hbo, hcell⟩ := (hb'.no hf2).known (by omega)
         have hc0 := hcell k hkm
         have hd := Lib.hid (List.drop_eq_getElem_cons hkl)
         rw [hbo]
         clear hcell hbo
         go_wp2_with fail
         refine (refRot64_any _ 11 _ (by omega) (by omega)).mono ?_
         rintro e w' ⟨rfl, rfl⟩
         go_wp2_with fail
         go_roundw
         case rel =>
          refine ⟨k + 1, g1 h2 (l'[k]'hkl), by omega, rfl, by rw [g1_def], hf2, ?_⟩
          show _ = _
          rw [← hr2.out, hd.out, List.foldl_cons]
         case measure => simp only [intOf, Int.toNat_natCast]; omega
       · have hkm2 : k = m := by omega
         have i4 : ¬ (k : Int) < ((m : Nat) : Int) := by omega
         have hh : h2 = r := by have := hr2.out; rw [List.drop_eq_nil_of_le (by rw [hlen.out]; omega)] at this; exact this
         rw [hh]
         clear hh hr2
         go_wp2_with fail
         rw [avalF_def]
         go_ret
         exact ⟨rfl, hf2⟩
set_option maxHeartbeats 4000000 in
theorem refEnd_long (sd : BitVec 64) (s : ST) (a : Option Addr) (n c : Nat) (l : Bytes) (lo : BitVec 64) (w : World) (hb : IsBytes w a n c l) (hlo : 32 ≤ W64 lo) : Calls Tryz.prog 38 #[.int .u64 (W64 sd), .agg #[.int .u64 (W64 s.1), .int .u64 (W64 s.2.1), .int .u64 (W64 s.2.2.1), .int .u64 (W64 s.2.2.2)], .slice a n c, .int .u64 (W64 lo)] w (GivesNew (.int .u64 (W64 (endF sd s l lo))) w) := by
 have hf0 : Fr No w (w.alloc (.cells #[.int .u64 (W64 s.1), .int .u64 (W64 s.2.1), .int .u64 (W64 s.2.2.1), .int .u64 (W64 s.2.2.2)] 31)) := (Fr.refl No w).alloc _
 have hR := row4_new w 31 (.int .u64 (W64 s.1)) (.int .u64 (W64 s.2.1)) (.int .u64 (W64 s.2.2.1)) (.int .u64 (W64 s.2.2.2))
 have hH : headF sd s lo = allF s := by unfold headF; rw [if_pos hlo]
 unfold endF
 rw [hH]
 generalize hr : restF (allF s + lo) l = r
 have HR := Lib.hid hr
 clear hr hH
 go_enter Tryz.func38, Tryz.ntmps38
 go_wp2_with fail
 generalize w.heap.size = pb at hR ⊢
 generalize w.alloc (.cells #[.int .u64 (W64 s.1), .int .u64 (W64 s.2.1), .int .u64 (W64 s.2.2.1), .int .u64 (W64 s.2.2.2)] 31) = w0 at hf0 hR ⊢
 go_loopw [9, 10] (fun u i wr => ∃ k : Nat, k ≤ 4 ∧ i = .int .i64 k ∧ u = .int .u64 (W64 (sumTo s k)) ∧ Fr No w0 wr) (fun _ i _ => 4 - (intOf i).toNat)
 case atStart => exact ⟨0, by omega, rfl, rfl, Fr.refl No w0⟩
 case round =>
  obtain ⟨k, hk, rfl, rfl, hfi⟩ := hrel
  obtain ⟨wi, rfl⟩ : ∃ wi : World, wi = wr := ⟨_, rfl⟩
  rcases (show k = 0 ∨ k = 1 ∨ k = 2 ∨ k = 3 ∨ k = 4 by omega) with rfl | rfl | rfl | rfl | rfl
  · have hRw := hR.no hfi
    go_wp2_with fail
    refine rsq (by kernel_rfl) [(0, 1), (1, 1), (2, 1), (3, 1), (5, 1), (4, 0), (6, 1), (7, 0), (8, 0), (9, 1), (10, 1)] (by kernel_rfl) ?_
    have hv0 : Fr No wi wi.drew := (Fr.refl No wi).drew
    iterate 5 refine tq _ rfl rfl (by intro w9 h9; have q0 := (hRw.no h9).c0; clear h9; go_simp; try with_reducible rfl) ?_; simp only [es1, es2, es3]
    have hv1 : Fr No wi (wi.alloc (.cells #[.int .i64 1, .int .i64 7, .int .i64 12, .int .i64 18] 3)).drew := ((Fr.refl No wi).alloc _).drew
    refine wpSeq_next rfl rfl (fun K hK => ?_)
    go_wp2_with fail
    refine hK.out _ _ (fun _ => hv1) ?_
    clear hK K
    refine tp _ rfl rfl ?_; simp only [es1, es2, es3]
    refine wpSeq_next rfl rfl (fun K hK => ?_)
    go_wp2_with fail
    refine hK.out _ _ (fun _ => hv1) ?_
    clear hK K
    refine wpSeq_next rfl rfl (fun K hK => ?_)
    go_wp2_with fail
    refine (refRot64_any _ 1 _ (by omega) (by omega)).mono ?_
    rintro e w' ⟨rfl, rfl⟩
    refine hK.out _ _ (fun _ => hv1) ?_
    clear hK K
    iterate 2 refine tp _ rfl rfl ?_; simp only [es1, es2, es3]
    refine wpSeq_done ?_
    clear hRw
    go_wp2_with fail
    go_roundw
    case rel =>
     refine ⟨1, by omega, by simp, ?_, hfi.no hv1⟩
     simp only [sumTo]
     try simp
    case measure => simp [intOf]
  · have hRw := hR.no hfi
    go_wp2_with fail
    refine rsq (by kernel_rfl) [(0, 1), (1, 1), (2, 1), (3, 1), (5, 1), (4, 0), (6, 1), (7, 0), (8, 0), (9, 1), (10, 1)] (by kernel_rfl) ?_
    have hv0 : Fr No wi wi.drew := (Fr.refl No wi).drew
    iterate 5 refine tq _ rfl rfl (by intro w9 h9; have q1 := (hRw.no h9).c1; clear h9; go_simp; try with_reducible rfl) ?_; simp only [es1, es2, es3]
    have hv1 : Fr No wi (wi.alloc (.cells #[.int .i64 1, .int .i64 7, .int .i64 12, .int .i64 18] 3)).drew := ((Fr.refl No wi).alloc _).drew
    refine wpSeq_next rfl rfl (fun K hK => ?_)
    go_wp2_with fail
    refine hK.out _ _ (fun _ => hv1) ?_
    clear hK K
    refine tp _ rfl rfl ?_; simp only [es1, es2, es3]
    refine wpSeq_next rfl rfl (fun K hK => ?_)
    go_wp2_with fail
    refine hK.out _ _ (fun _ => hv1) ?_
    clear hK K
    refine wpSeq_next rfl rfl (fun K hK => ?_)
    go_wp2_with fail
    refine (refRot64_any _ 7 _ (by omega) (by omega)).mono ?_
    rintro e w' ⟨rfl, rfl⟩
    refine hK.out _ _ (fun _ => hv1) ?_
    clear hK K
    iterate 2 refine tp _ rfl rfl ?_; simp only [es1, es2, es3]
    refine wpSeq_done ?_
    clear hRw
    go_wp2_with fail
    go_roundw
    case rel =>
     refine ⟨2, by omega, by simp, ?_, hfi.no hv1⟩
     simp only [sumTo]
     try simp
    case measure => simp [intOf]
  · have hRw := hR.no hfi
    go_wp2_with fail
    refine rsq (by kernel_rfl) [(0, 1), (1, 1), (2, 1), (3, 1), (5, 1), (4, 0), (6, 1), (7, 0), (8, 0), (9, 1), (10, 1)] (by kernel_rfl) ?_
    have hv0 : Fr No wi wi.drew := (Fr.refl No wi).drew
    iterate 5 refine tq _ rfl rfl (by intro w9 h9; have q2 := (hRw.no h9).c2; clear h9; go_simp; try with_reducible rfl) ?_; simp only [es1, es2, es3]
    have hv1 : Fr No wi (wi.alloc (.cells #[.int .i64 1, .int .i64 7, .int .i64 12, .int .i64 18] 3)).drew := ((Fr.refl No wi).alloc _).drew
    refine wpSeq_next rfl rfl (fun K hK => ?_)
    go_wp2_with fail
    refine hK.out _ _ (fun _ => hv1) ?_
    clear hK K
    refine tp _ rfl rfl ?_; simp only [es1, es2, es3]
    refine wpSeq_next rfl rfl (fun K hK => ?_)
    go_wp2_with fail
    refine hK.out _ _ (fun _ => hv1) ?_
    clear hK K
    refine wpSeq_next rfl rfl (fun K hK => ?_)
    go_wp2_with fail
    refine (refRot64_any _ 12 _ (by omega) (by omega)).mono ?_
    rintro e w' ⟨rfl, rfl⟩
    refine hK.out _ _ (fun _ => hv1) ?_
    clear hK K
    iterate 2 refine tp _ rfl rfl ?_; simp only [es1, es2, es3]
    refine wpSeq_done ?_
    clear hRw
    go_wp2_with fail
    go_roundw
    case rel =>
     refine ⟨3, by omega, by simp, ?_, hfi.no hv1⟩
     simp only [sumTo]
     try simp
    case measure => simp [intOf]
  · have hRw := hR.no hfi
    go_wp2_with fail
    refine rsq (by kernel_rfl) [(0, 1), (1, 1), (2, 1), (3, 1), (5, 1), (4, 0), (6, 1), (7, 0), (8, 0), (9, 1), (10, 1)] (by kernel_rfl) ?_
    have hv0 : Fr No wi wi.drew := (Fr.refl No wi).drew
    iterate 5 refine tq _ rfl rfl (by intro w9 h9; have q3 := (hRw.no h9).c3; clear h9; go_simp; try with_reducible rfl) ?_; simp only [es1, es2, es3]
    have hv1 : Fr No wi (wi.alloc (.cells #[.int .i64 1, .int .i64 7, .int .i64 12, .int .i64 18] 3)).drew := ((Fr.refl No wi).alloc _).drew
    refine wpSeq_next rfl rfl (fun K hK => ?_)
    go_wp2_with fail
    refine hK.out _ _ (fun _ => hv1) ?_
    clear hK K
    refine tp _ rfl rfl ?_; simp only [es1, es2, es3]
    refine wpSeq_next rfl rfl (fun K hK => ?_)
    go_wp2_with fail
    refine hK.out _ _ (fun _ => hv1) ?_
    clear hK K
    refine wpSeq_next rfl rfl (fun K hK => ?_)
    go_wp2_with fail
    refine (refRot64_any _ 18 _ (by omega) (by omega)).mono ?_
    rintro e w' ⟨rfl, rfl⟩
    refine hK.out _ _ (fun _ => hv1) ?_
    clear hK K
    iterate 2 refine tp _ rfl rfl ?_; simp only [es1, es2, es3]
    refine wpSeq_done ?_
    clear hRw
    go_wp2_with fail
    go_roundw
    case rel =>
     refine ⟨4, by omega, by simp, ?_, hfi.no hv1⟩
     simp only [sumTo]
     try simp
    case measure => simp [intOf]
  · rw [show sumTo s 4 = allTo s 0 from rfl, show ((4 : Nat) : Int) = 4 from rfl]
    go_wp2_with fail
    go_loopw [9, 11] (fun u i wr => ∃ k : Nat, k ≤ 4 ∧ i = .int .i64 k ∧ u = .int .u64 (W64 (allTo s k)) ∧ Fr No w0 wr) (fun _ i _ => 4 - (intOf i).toNat)
    case atStart => exact ⟨0, by omega, rfl, rfl, hfi⟩
    case round =>
    obtain ⟨k, hk, rfl, rfl, hfj⟩ := hrel
    clear hfi
    rcases (show k = 0 ∨ k = 1 ∨ k = 2 ∨ k = 3 ∨ k = 4 by omega) with rfl | rfl | rfl | rfl | rfl
    · have q0 := (hR.no hfj).c0
      go_wp2_with fail
      refine (refRound0_any (s.1) _).mono ?_
      rintro e w' ⟨rfl, rfl⟩
      go_wp2_with fail
      go_roundw
      case rel =>
       refine ⟨1, by omega, by simp, ?_, hfj⟩
       rw [mergeF_def, allTo1]
      case measure => simp [intOf]
    · have q1 := (hR.no hfj).c1
      go_wp2_with fail
      refine (refRound0_any (s.2.1) _).mono ?_
      rintro e w' ⟨rfl, rfl⟩
      go_wp2_with fail
      go_roundw
      case rel =>
       refine ⟨2, by omega, by simp, ?_, hfj⟩
       rw [mergeF_def, allTo2]
      case measure => simp [intOf]
    · have q2 := (hR.no hfj).c2
      go_wp2_with fail
      refine (refRound0_any (s.2.2.1) _).mono ?_
      rintro e w' ⟨rfl, rfl⟩
      go_wp2_with fail
      go_roundw
      case rel =>
       refine ⟨3, by omega, by simp, ?_, hfj⟩
       rw [mergeF_def, allTo3]
      case measure => simp [intOf]
    · have q3 := (hR.no hfj).c3
      go_wp2_with fail
      refine (refRound0_any (s.2.2.2) _).mono ?_
      rintro e w' ⟨rfl, rfl⟩
      go_wp2_with fail
      go_roundw
      case rel =>
       refine ⟨4, by omega, by simp, ?_, hfj⟩
       rw [mergeF_def, allTo4]
      case measure => simp [intOf]
    · have hf1 := hf0.no hfj
      rw [show allTo s 4 = allF s from rfl, show ((4 : Nat) : Int) = 4 from rfl]
      clear hR hfj hf0
      go_wp2_with fail
      go_loopw [2, 9] (fun v u wr => ∃ m a' c' l' h', v = .slice a' m c' ∧ u = .int .u64 (W64 h') ∧ IsBytes w a' m c' l' ∧ Fr No w wr ∧ Hid (restF h' l' = r)) (fun v _ _ => match v with | .slice _ m _ => m | _ => 0)
      case atStart => exact ⟨n, a, c, l, _, rfl, rfl, hb, hf1, HR⟩
      case round =>
       obtain ⟨m, a', c', l', h', rfl, rfl, hb', hfr, hr'⟩ := hrel
       have hlen := Lib.hid hb'.1
       have hc : m ≤ c' := hb'.2.1
       have hc2 : c' ≤ 9223372036854775807 := hb'.2.2.1
       have hy := hb'.no hfr
       by_cases hlt : 8 ≤ m
       · have i2 : (8 : Int) ≤ (c' : Int) := by omega
         have i3 : (8 : Int) ≤ (m : Int) := by omega
         have hbig := Lib.hid (restF_big (h := h') (l := l') (by rw [hlen.out]; exact hlt))
         have hcut := hb'.cut_to_end 8 (n' := m - 8) (c' := c' - 8) hlt rfl rfl
         go_wp2_with fail
         refine (refNum_any _ _ _ l' 0 8 _ hy (by omega) (by omega) (by omega) (by omega)).mono ?_
         rintro e w' ⟨rfl, rfl⟩
         go_wp2_with fail
         refine (refRound0_any _ _).mono ?_
         rintro e w' ⟨rfl, rfl⟩
         go_wp2_with fail
         refine (refRot64_any _ 27 _ (by omega) (by omega)).mono ?_
         rintro e w' ⟨rfl, rfl⟩
         go_wp2_with fail
         go_roundw
         case rel =>
          refine ⟨m - 8, _, _, _, g8 h' l', rfl, ?_, hcut, hfr, (by show _ = _; rw [← hr'.out, hbig.out])⟩
          rw [g8_def]
         case measure => simp; omega
       · by_cases h4 : 4 ≤ m
         · have hbl : Hid ((l'.drop 4).foldl g1 (g4 h' l') = r) := by
            show _ = _
            rw [← hr'.out, restF_small (by rw [hlen.out]; omega)]
            unfold smallF
            rw [if_pos (by rw [hlen.out]; exact h4)]
           have i1 : (m : Int) < 8 := by omega
           have i2 : (4 : Int) ≤ (c' : Int) := by omega
           have i3 : (4 : Int) ≤ (m : Int) := by omega
           have hcut := hb'.cut_to_end 4 (n' := m - 4) (c' := c' - 4) h4 rfl rfl
           have hlen4 := Lib.hid hcut.1
           generalize l'.drop 4 = ld at hbl hcut hlen4
           clear hr'
           go_wp2_with fail
           refine (refNum_any _ _ _ l' 0 4 _ hy (by omega) (by omega) (by omega) (by omega)).mono ?_
           rintro e w' ⟨rfl, rfl⟩
           go_wp2_with fail
           refine (refRot64_any _ 23 _ (by omega) (by omega)).mono ?_
           rintro e w' ⟨rfl, rfl⟩
           clear hy
           go_wp2_with fail
           obtain ⟨wo, rfl⟩ : ∃ wo : World, wo = wr := ⟨_, rfl⟩
           go_loopw [9, 75] (fun u i wr => ∃ (k : Nat) (h2 : BitVec 64), k ≤ (m - 4) ∧ i = .int .i64 k ∧ u = .int .u64 (W64 h2) ∧ Fr No w wr ∧ Hid ((ld.drop k).foldl g1 h2 = r)) (fun _ i _ => (m - 4) - (intOf i).toNat)
           case atStart => exact ⟨0, g4 h' l', by omega, rfl, by first | rfl | rw [g4_def], hfr, by show _ = _; rw [List.drop_zero]; exact hbl.out⟩
           case round =>
            obtain ⟨k, h2, hk, rfl, rfl, hf2, hr2⟩ := hrel
            clear hfr hbl
            by_cases hkm : k < (m - 4)
            · have i4 : (k : Int) < (((m - 4) : Nat) : Int) := by omega
              have hkl : k < ld.length := by rw [hlen4.out]; exact hkm
              obtain ⟨b, off, hbo, hcell⟩ := (hcut.no hf2).known (by omega)
              have hc0 := hcell k hkm
              have hd := Lib.hid (List.drop_eq_getElem_cons hkl)
              rw [hbo]
              clear hcell hbo
              go_wp2_with fail
              refine (refRot64_any _ 11 _ (by omega) (by omega)).mono ?_
              rintro e w' ⟨rfl, rfl⟩
              go_wp2_with fail
              go_roundw
              case rel =>
               refine ⟨k + 1, g1 h2 (ld[k]'hkl), by omega, rfl, by rw [g1_def], hf2, ?_⟩
               show _ = _
               rw [← hr2.out, hd.out, List.foldl_cons]
              case measure => simp only [intOf, Int.toNat_natCast]; omega
            · have hkm2 : k = (m - 4) := by omega
              have i4 : ¬ (k : Int) < (((m - 4) : Nat) : Int) := by omega
              have hh : h2 = r := by have := hr2.out; rw [List.drop_eq_nil_of_le (by rw [hlen4.out]; omega)] at this; exact this
              rw [hh]
              clear hh hr2
              go_wp2_with fail
              rw [avalF_def]
              go_ret
              exact ⟨rfl, hf2⟩
         · have hbl : Hid (l'.foldl g1 h' = r) := by
            show _ = _
            rw [← hr'.out, restF_small (by rw [hlen.out]; omega)]
            unfold smallF
            rw [if_neg (by rw [hlen.out]; exact h4)]
           have i1 : (m : Int) < 8 := by omega
           have i3 : (m : Int) < 4 := by omega
           clear hr' hy
           go_wp2_with fail
           obtain ⟨wo, rfl⟩ : ∃ wo : World, wo = wr := ⟨_, rfl⟩
           go_loopw [9, 75] (fun u i wr => ∃ (k : Nat) (h2 : BitVec 64), k ≤ m ∧ i = .int .i64 k ∧ u = .int .u64 (W64 h2) ∧ Fr No w wr ∧ Hid ((l'.drop k).foldl g1 h2 = r)) (fun _ i _ => m - (intOf i).toNat)
           case atStart => exact ⟨0, h', by omega, rfl, by first | rfl | rw [g4_def], hfr, by show _ = _; rw [List.drop_zero]; exact hbl.out⟩
           case round =>
            obtain ⟨k, h2, hk, rfl, rfl, hf2, hr2⟩ := hrel
            clear hfr hbl
            by_cases hkm : k < m
            · have i4 : (k : Int) < ((m : Nat) : Int) := by omega
              have hkl : k < l'.length := by rw [hlen.out]; exact hkm
              obtain ⟨b, off, hbo, hcell⟩ := (hb'.no hf2).known (by omega)
              have hc0 := hcell k hkm
              have hd := Lib.hid (List.drop_eq_getElem_cons hkl)
              rw [hbo]
              clear hcell hbo
              go_wp2_with fail
              refine (refRot64_any _ 11 _ (by omega) (by omega)).mono ?_
              rintro e w' ⟨rfl, rfl⟩
              go_wp2_with fail
              go_roundw
              case rel =>
               refine ⟨k + 1, g1 h2 (l'[k]'hkl), by omega, rfl, by rw [g1_def], hf2, ?_⟩
               show _ = _
               rw [← hr2.out, hd.out, List.foldl_cons]
              case measure => simp only [intOf, Int.toNat_natCast]; omega
            · have hkm2 : k = m := by omega
              have i4 : ¬ (k : Int) < ((m : Nat) : Int) := by omega
              have hh : h2 = r := by have := hr2.out; rw [List.drop_eq_nil_of_le (by rw [hlen.out]; omega)] at this; exact this
              rw [hh]
              clear hh hr2
              go_wp2_with fail
              rw [avalF_def]
              go_ret
              exact ⟨rfl, hf2⟩
theorem refEnd_any (sd : BitVec 64) (s : ST) (a : Option Addr) (n c : Nat) (l : Bytes) (lo : BitVec 64) (w : World) (hb : IsBytes w a n c l) : Calls Tryz.prog 38 #[.int .u64 (W64 sd), .agg #[.int .u64 (W64 s.1), .int .u64 (W64 s.2.1), .int .u64 (W64 s.2.2.1), .int .u64 (W64 s.2.2.2)], .slice a n c, .int .u64 (W64 lo)] w (GivesNew (.int .u64 (W64 (endF sd s l lo))) w) := by
 by_cases h : 32 ≤ W64 lo
 · exact refEnd_long sd s a n c l lo w hb h
 · exact refEnd_short sd s a n c l lo w hb (by omega)
end Go.Proofs.YtidlpihoafnobaaGreatDoor.StX64
