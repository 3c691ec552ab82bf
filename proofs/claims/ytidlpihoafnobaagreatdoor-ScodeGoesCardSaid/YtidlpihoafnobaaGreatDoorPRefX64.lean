/- EndX64 RefX64 -/
import Derived.Test.YtidlpihoafnobaaGreatDoorPCodeX64
set_option linter.unusedVariables false
set_option linter.unusedSimpArgs false
namespace Go.Proofs.YtidlpihoafnobaaGreatDoor.StX64
set_option maxRecDepth 100000
open Go.Proofs.YtidlpihoafnobaaGreatDoor.StG64
open Go.RowKit
@[go_sem] theorem index4_0 (v0 v1 v2 v3 : Value) (w : World) : (Instr.index 31 (.agg #[v0, v1, v2, v3]) (.int .i64 0)).run Tryz.prog w = .ok v0 w := by simp [Instr.index, run_underlying Tryz.underlying31, asIntOf, go_sem]
@[go_sem] theorem index4_1 (v0 v1 v2 v3 : Value) (w : World) : (Instr.index 31 (.agg #[v0, v1, v2, v3]) (.int .i64 1)).run Tryz.prog w = .ok v1 w := by simp [Instr.index, run_underlying Tryz.underlying31, asIntOf, go_sem]
@[go_sem] theorem index4_2 (v0 v1 v2 v3 : Value) (w : World) : (Instr.index 31 (.agg #[v0, v1, v2, v3]) (.int .i64 2)).run Tryz.prog w = .ok v2 w := by simp [Instr.index, run_underlying Tryz.underlying31, asIntOf, go_sem]
@[go_sem] theorem index4_3 (v0 v1 v2 v3 : Value) (w : World) : (Instr.index 31 (.agg #[v0, v1, v2, v3]) (.int .i64 3)).run Tryz.prog w = .ok v3 w := by simp [Instr.index, run_underlying Tryz.underlying31, asIntOf, go_sem]
theorem round0_any (k : BitVec 64) (w : World) : Calls Tryz.prog 237 #[.int .u64 0, .int .u64 (W64 k)] w (Gives (.int .u64 (W64 (roundF 0#64 k))) w) := round_any 0#64 k w
theorem allTo1 (s : ST) : mergeF (allTo s 0) s.1 = allTo s 1 := rfl
theorem allTo2 (s : ST) : mergeF (allTo s 1) s.2.1 = allTo s 2 := rfl
theorem allTo3 (s : ST) : mergeF (allTo s 2) s.2.2.1 = allTo s 3 := rfl
theorem allTo4 (s : ST) : mergeF (allTo s 3) s.2.2.2 = allTo s 4 := rfl
theorem sumF_def (s : ST) : rotl64 s.1 1 + rotl64 s.2.1 7 + rotl64 s.2.2.1 12 + rotl64 s.2.2.2 18 = sumF s := rfl
set_option maxHeartbeats 2000000 in
theorem all_any (s : ST) (w : World) : Calls Tryz.prog 238 #[.agg #[.int .u64 (W64 s.1), .int .u64 (W64 s.2.1), .int .u64 (W64 s.2.2.1), .int .u64 (W64 s.2.2.2)]] w (GivesNew (.int .u64 (W64 (allF s))) w) := by
 have hf0 : Fr No w (w.alloc (.cells #[.int .u64 (W64 s.1), .int .u64 (W64 s.2.1), .int .u64 (W64 s.2.2.1), .int .u64 (W64 s.2.2.2)] 31)) := (Fr.refl No w).alloc _
 have hR := row4_new w 31 (.int .u64 (W64 s.1)) (.int .u64 (W64 s.2.1)) (.int .u64 (W64 s.2.2.1)) (.int .u64 (W64 s.2.2.2))
 go_enter Tryz.func238, Tryz.ntmps238
 go_wp2_with fail
 generalize w.heap.size = pb at hR ⊢
 generalize w.alloc (.cells #[.int .u64 (W64 s.1), .int .u64 (W64 s.2.1), .int .u64 (W64 s.2.2.1), .int .u64 (W64 s.2.2.2)] 31) = w0 at hf0 hR ⊢
 refine rsq (by kernel_rfl) [(0, 1), (1, 1), (3, 1), (4, 1), (7, 1), (8, 1), (11, 1), (12, 1), (2, 0), (5, 0), (6, 1), (9, 0), (10, 1), (13, 0), (14, 1), (15, 1)] (by kernel_rfl) ?_
 have hs0 : Fr No w0 w0.drew := (Fr.refl No w0).drew
 iterate 8 refine tq _ rfl rfl (by intro w9 h9; have q0 := (hR.no h9).c0; have q1 := (hR.no h9).c1; have q2 := (hR.no h9).c2; have q3 := (hR.no h9).c3; clear h9; go_simp; try with_reducible rfl) ?_; simp only [es1, es2, es3]
 refine wpSeq_next rfl rfl (fun K hK => ?_)
 go_wp2_with fail
 refine (Rot64_any _ 1 _).mono ?_
 rintro e w' ⟨rfl, rfl⟩
 refine hK.out _ _ (fun _ => hs0) ?_
 clear hK K
 refine wpSeq_next rfl rfl (fun K hK => ?_)
 go_wp2_with fail
 refine (Rot64_any _ 7 _).mono ?_
 rintro e w' ⟨rfl, rfl⟩
 refine hK.out _ _ (fun _ => hs0) ?_
 clear hK K
 refine tp _ rfl rfl ?_; simp only [es1, es2, es3]
 refine wpSeq_next rfl rfl (fun K hK => ?_)
 go_wp2_with fail
 refine (Rot64_any _ 12 _).mono ?_
 rintro e w' ⟨rfl, rfl⟩
 refine hK.out _ _ (fun _ => hs0) ?_
 clear hK K
 refine tp _ rfl rfl ?_; simp only [es1, es2, es3]
 refine wpSeq_next rfl rfl (fun K hK => ?_)
 go_wp2_with fail
 refine (Rot64_any _ 18 _).mono ?_
 rintro e w' ⟨rfl, rfl⟩
 refine hK.out _ _ (fun _ => hs0) ?_
 clear hK K
 iterate 2 refine tp _ rfl rfl ?_; simp only [es1, es2, es3]
 refine wpSeq_done ?_
 rw [sumF_def]
 have hf1 := hf0.no hs0
 have cq0 := (hR.no hs0).c0
 have cq1 := (hR.no hs0).c1
 have cq2 := (hR.no hs0).c2
 have cq3 := (hR.no hs0).c3
 clear hs0 hR hf0
 go_wp2_with fail
 generalize w0.drew = w1 at hf1 cq0 cq1 cq2 cq3 ⊢
 clear cq0 cq1 cq2 cq3
 go_loop [4, 24] (fun u i => ∃ k : Nat, k ≤ 4 ∧ i = .int .i64 k ∧ u = .int .u64 (W64 (allTo s k))) (fun _ i => 4 - (intOf i).toNat)
 case atStart => exact ⟨0, by omega, rfl, rfl⟩
 case round =>
  obtain ⟨k, hk, rfl, rfl⟩ := hrel
  rcases (show k = 0 ∨ k = 1 ∨ k = 2 ∨ k = 3 ∨ k = 4 by omega) with rfl | rfl | rfl | rfl | rfl
  · go_wp2_with fail
    refine (round0_any (s.1) _).mono ?_
    rintro e w' ⟨rfl, rfl⟩
    go_wp2_with fail
    refine ⟨⟨1, by omega, rfl, ?_⟩, by simp [intOf]⟩
    rw [mergeF_def, allTo1]
  · go_wp2_with fail
    refine (round0_any (s.2.1) _).mono ?_
    rintro e w' ⟨rfl, rfl⟩
    go_wp2_with fail
    refine ⟨⟨2, by omega, rfl, ?_⟩, by simp [intOf]⟩
    rw [mergeF_def, allTo2]
  · go_wp2_with fail
    refine (round0_any (s.2.2.1) _).mono ?_
    rintro e w' ⟨rfl, rfl⟩
    go_wp2_with fail
    refine ⟨⟨3, by omega, rfl, ?_⟩, by simp [intOf]⟩
    rw [mergeF_def, allTo3]
  · go_wp2_with fail
    refine (round0_any (s.2.2.2) _).mono ?_
    rintro e w' ⟨rfl, rfl⟩
    go_wp2_with fail
    refine ⟨⟨4, by omega, rfl, ?_⟩, by simp [intOf]⟩
    rw [mergeF_def, allTo4]
  · go_wp2_with fail
    go_ret
    exact ⟨rfl, hf1⟩
set_option maxHeartbeats 2000000 in
theorem rest_any (h : BitVec 64) (a : Option Addr) (n c : Nat) (l : Bytes) (w : World) (hb : IsBytes w a n c l) : Calls Tryz.prog 239 #[.int .u64 (W64 h), .slice a n c] w (Gives (.int .u64 (W64 (restF h l))) w) := by
 generalize hr : restF h l = r
 have HR := Lib.hid hr
 clear hr
 go_enter Tryz.func239, Tryz.ntmps239
 go_wp2_with fail
 go_step3
 go_wp2_with fail
 go_step3
 go_wp2_with fail
 go_loop [0, 1] (fun u v => ∃ m a' c' l' h', v = .slice a' m c' ∧ u = .int .u64 (W64 h') ∧ IsBytes w a' m c' l' ∧ restF h' l' = r) (fun _ v => match v with | .slice _ m _ => m | _ => 0)
 case atStart => exact ⟨n, a, c, l, _, rfl, rfl, hb, HR.out⟩
 case round =>
  obtain ⟨m, a', c', l', h', rfl, rfl, hb', hr'⟩ := hrel
  have hlen := Lib.hid hb'.1
  have hc : m ≤ c' := hb'.2.1
  have hc2 : c' ≤ 9223372036854775807 := hb'.2.2.1
  clear hb
  by_cases hlt : 8 ≤ m
  · have i2 : (8 : Int) ≤ (c' : Int) := by omega
    have i3 : (8 : Int) ≤ (m : Int) := by omega
    have hbig := Lib.hid (restF_big (h := h') (l := l') (by rw [hlen.out]; exact hlt))
    have hcut := hb'.cut_to_end 8 (n' := m - 8) (c' := c' - 8) hlt rfl rfl
    go_wp2_with fail
    refine (Le64_yes _ _ _ l' 0 _ hb' (by omega) (by omega)).mono ?_
    rintro e w' ⟨rfl, rfl⟩
    go_wp2_with fail
    refine (Le32_yes _ _ _ l' 0 _ hb' (by omega) (by omega)).mono ?_
    rintro e w' ⟨rfl, rfl⟩
    go_wp2_with fail
    refine (round0_any _ _).mono ?_
    rintro e w' ⟨rfl, rfl⟩
    go_wp2_with fail
    refine (Rot64_any _ _ _).mono ?_
    rintro e w' ⟨rfl, rfl⟩
    go_wp2_with fail
    refine ⟨⟨m - 8, _, _, _, g8 h' l', rfl, ?_, hcut, by rw [← hr', hbig.out]⟩, by simp; omega⟩
    rw [g8_def]
  · by_cases h4 : 4 ≤ m
    · have i2 : (4 : Int) ≤ (c' : Int) := by omega
      have i3 : (4 : Int) ≤ (m : Int) := by omega
      have hbig := Lib.hid (restF_four (h := h') (l := l') (by rw [hlen.out]; omega) (by rw [hlen.out]; exact h4))
      have hcut := hb'.cut_to_end 4 (n' := m - 4) (c' := c' - 4) h4 rfl rfl
      go_wp2_with fail
      refine (Le64_no _ _ _ 0 _ (by omega) (by omega) (by omega)).mono ?_
      rintro e w' ⟨rfl, rfl⟩
      go_wp2_with fail
      refine (Le32_yes _ _ _ l' 0 _ hb' (by omega) (by omega)).mono ?_
      rintro e w' ⟨rfl, rfl⟩
      go_wp2_with fail
      refine (Rot64_any _ _ _).mono ?_
      rintro e w' ⟨rfl, rfl⟩
      go_wp2_with fail
      refine ⟨⟨m - 4, _, _, _, g4 h' l', rfl, ?_, hcut, by rw [← hr', hbig.out]⟩, by simp; omega⟩
      rw [le4_back, g4_def]
    · rcases Nat.eq_zero_or_pos m with h0 | h0
      · subst h0
        have hnil : l' = [] := List.eq_nil_of_length_eq_zero hlen.out
        have hh : h' = r := by rw [← hr', hnil, restF_nil]
        rw [hh]
        clear hh hr' hnil
        go_wp2_with fail
        refine (Le64_no _ _ _ 0 _ (by omega) (by omega) (by omega)).mono ?_
        rintro e w' ⟨rfl, rfl⟩
        go_wp2_with fail
        refine (Le32_no _ _ _ 0 _ (by omega) (by omega) (by omega)).mono ?_
        rintro e w' ⟨rfl, rfl⟩
        go_wp2_with fail
        rw [Exit.noGoto_ret]
        go_ret
        exact ⟨rfl, rfl⟩
      · obtain ⟨k, hk⟩ : ∃ k, m = k + 1 := ⟨m - 1, by omega⟩
        obtain ⟨z, tl, hl', htl⟩ := cons_of (hlen.out.trans hk)
        obtain ⟨b, off, rfl, hcell⟩ := hb'.known h0
        have hc0 := hcell 0 h0
        rw [hl'] at hc0
        simp only [Nat.add_zero, List.getD_cons_zero] at hc0
        have hone := Lib.hid (restF_one (h := h') (b := z) (r := tl) (by rw [← hl', hlen.out]; omega))
        have hcut := hb'.cut_to_end 1 (n' := m - 1) (c' := c' - 1) (by omega) rfl rfl
        rw [hl'] at hcut hr'
        simp only [List.drop_succ_cons, List.drop_zero] at hcut
        have i2 : (1 : Int) ≤ (c' : Int) := by omega
        have i3 : (1 : Int) ≤ (m : Int) := by omega
        have i4 : (0 : Int) < (m : Int) := by omega
        clear hcell hl' htl hk
        go_wp2_with fail
        refine (Le64_no _ _ _ 0 _ (by omega) (by omega) (by omega)).mono ?_
        rintro e w' ⟨rfl, rfl⟩
        go_wp2_with fail
        refine (Le32_no _ _ _ 0 _ (by omega) (by omega) (by omega)).mono ?_
        rintro e w' ⟨rfl, rfl⟩
        go_wp2_with fail
        refine (Rot64_any _ _ _).mono ?_
        rintro e w' ⟨rfl, rfl⟩
        go_wp2_with fail
        refine ⟨⟨m - 1, _, _, _, g1 h' z, rfl, ?_, hcut, by rw [← hr', hone.out]⟩, by simp; omega⟩
        rw [g1_def]
set_option maxHeartbeats 2000000 in
theorem end_any (sd : BitVec 64) (s : ST) (a : Option Addr) (n c : Nat) (l : Bytes) (lo : BitVec 64) (w : World) (hb : IsBytes w a n c l) :
 Calls Tryz.prog 212 #[.int .u64 (W64 sd), .agg #[cS s 0, cS s 1, cS s 2, cS s 3], .slice a n c, .int .u64 (W64 lo)] w (GivesNew (.int .u64 (W64 (endF sd s l lo))) w) := by
 simp only [cS0, cS1, cS2, cS3]
 have hf0 : Fr No w (w.alloc (.cells #[.int .u64 (W64 s.1), .int .u64 (W64 s.2.1), .int .u64 (W64 s.2.2.1), .int .u64 (W64 s.2.2.2)] 31)) := (Fr.refl No w).alloc _
 have hR := row4_new w 31 (.int .u64 (W64 s.1)) (.int .u64 (W64 s.2.1)) (.int .u64 (W64 s.2.2.1)) (.int .u64 (W64 s.2.2.2))
 unfold endF headF
 by_cases hlo : 32 ≤ W64 lo
 · rw [if_pos hlo]
   go_enter Tryz.func212, Tryz.ntmps212
   go_wp2_with fail
   generalize w.heap.size = pb at hR ⊢
   generalize w.alloc (.cells #[.int .u64 (W64 s.1), .int .u64 (W64 s.2.1), .int .u64 (W64 s.2.2.1), .int .u64 (W64 s.2.2.2)] 31) = w0 at hf0 hR ⊢
   have cq0 := hR.c0
   have cq1 := hR.c1
   have cq2 := hR.c2
   have cq3 := hR.c3
   try go_wp2_with fail
   refine (all_any s _).mono ?_
   rintro e w1 ⟨rfl, hf1⟩
   have hy := (hb.no hf0).no hf1
   clear hb cq0 cq1 cq2 cq3
   go_wp2_with fail
   refine (rest_any _ _ _ _ l _ hy).mono ?_
   rintro e w' ⟨rfl, rfl⟩
   go_wp2_with fail
   go_ret
   rw [avalF_def]
   exact ⟨rfl, hf0.no hf1⟩
 · rw [if_neg hlo]
   have hlo2 : W64 lo < 32 := by omega
   clear hlo
   go_enter Tryz.func212, Tryz.ntmps212
   go_wp2_with fail
   refine (rest_any _ _ _ _ l _ (hb.no hf0)).mono ?_
   rintro e w' ⟨rfl, rfl⟩
   go_wp2_with fail
   go_ret
   rw [avalF_def]
   exact ⟨rfl, hf0⟩
end Go.Proofs.YtidlpihoafnobaaGreatDoor.StX64
namespace Go.Proofs.YtidlpihoafnobaaGreatDoor.StX64
set_option maxRecDepth 100000
open Go.Proofs.YtidlpihoafnobaaGreatDoor.StG64
open Go.RowKit
theorem refRound_any (v k : BitVec 64) (w : World) : Calls Tryz.prog 70 #[.int .u64 (W64 v), .int .u64 (W64 k)] w (Gives (.int .u64 (W64 (roundF v k))) w) := by
 go_enter Tryz.func70, Tryz.ntmps70
 go_wp2_with fail
 refine (refRot64_any _ 31 _ (by omega) (by omega)).mono ?_
 rintro e w' ⟨rfl, rfl⟩
 go_wp2_with fail
 go_ret
 exact ⟨by rw [roundF_def]; rfl, rfl⟩
def GivesLanes (a : Option Addr) (n c : Nat) (l : Bytes) (r : ST × Bytes) (w : World) (e : Ending) (w' : World) : Prop :=
 ∃ a' n' c', e = .returned (.tuple #[lanesV r.1, .slice a' n' c']) ∧ IsBytes w' a' n' c' r.2 ∧ (∀ w2, IsBytes w2 a n c l → IsBytes w2 a' n' c' r.2) ∧ Fr No w w'
set_option maxHeartbeats 4000000 in
theorem refFrom_any (s : ST) (a : Option Addr) (n c : Nat) (l : Bytes) (w : World) (h : IsBytes w a n c l) (hn : n ≤ 1099511627776) :
 Calls Tryz.prog 176 #[.agg #[.int .u64 (W64 s.1), .int .u64 (W64 s.2.1), .int .u64 (W64 s.2.2.1), .int .u64 (W64 s.2.2.2)], .slice a n c] w (GivesLanes a n c l (foldF stepG 32 s l) w) := by
 obtain ⟨r, hr⟩ : ∃ r, r = foldF stepG 32 s l := ⟨_, rfl⟩
 rw [← hr]
 have HR := Lib.hid hr
 clear hr
 have hF : Fr No w ((w.alloc (.cells #[.int .u64 (W64 s.1), .int .u64 (W64 s.2.1), .int .u64 (W64 s.2.2.1), .int .u64 (W64 s.2.2.2)] 31)).alloc (.cells #[.int .u64 0, .int .u64 0, .int .u64 0, .int .u64 0] 31)) := ((Fr.refl No w).alloc _).alloc _
 have hB0 : BoxAt ((w.alloc (.cells #[.int .u64 (W64 s.1), .int .u64 (W64 s.2.1), .int .u64 (W64 s.2.2.1), .int .u64 (W64 s.2.2.2)] 31)).alloc (.cells #[.int .u64 0, .int .u64 0, .int .u64 0, .int .u64 0] 31)) w.heap.size s := BoxAt.fr (row_box (row4_new w 31 (.int .u64 (W64 s.1)) (.int .u64 (W64 s.2.1)) (.int .u64 (W64 s.2.2.1)) (.int .u64 (W64 s.2.2.2)))) ((Fr.refl No _).alloc _) (fun h => h)
 have hR0 : Row4 ((w.alloc (.cells #[.int .u64 (W64 s.1), .int .u64 (W64 s.2.1), .int .u64 (W64 s.2.2.1), .int .u64 (W64 s.2.2.2)] 31)).alloc (.cells #[.int .u64 0, .int .u64 0, .int .u64 0, .int .u64 0] 31)) (w.heap.size + 1) 31 (.int .u64 0) (.int .u64 0) (.int .u64 0) (.int .u64 0) := heap_alloc2_new w _ _
 go_enter Tryz.func176, Tryz.ntmps176
 go_wp2
 go_loopw [1] (fun v wr => ∃ m a' c' l' s', v = .slice a' m c' ∧ IsBytes w a' m c' l' ∧ (∀ w2, IsBytes w2 a n c l → IsBytes w2 a' m c' l') ∧ BoxAt wr w.heap.size s' ∧ Row4 wr (w.heap.size + 1) 31 (.int .u64 0) (.int .u64 0) (.int .u64 0) (.int .u64 0) ∧ Fr No w wr ∧ Hid (foldF stepG 32 s' l' = r)) (fun v _ => match v with | .slice _ m _ => m | _ => 0)
 case atStart => exact ⟨n, a, c, l, s, rfl, h, fun _ h => h, hB0, hR0, hF, HR.out.symm⟩
 case round =>
  obtain ⟨m, a', c', l', s', rfl, hb, hst, hBx, hRx, hfx, hr'⟩ := hrel
  clear hF hB0 hR0
  have hlen := Lib.hid hb.1
  have hc : m ≤ c' := hb.2.1
  have hc2 : c' ≤ 9223372036854775807 := hb.2.2.1
  by_cases hlt : 32 ≤ m
  · have i1 : (32 : Int) ≤ (m : Int) := by omega
    have i2 : (32 : Int) ≤ (c' : Int) := by omega
    go_wp2_with fail
    obtain ⟨wo, rfl⟩ : ∃ wo : World, wo = wr := ⟨_, rfl⟩
    go_loopw [6] (fun i wi => ∃ (k : Nat) (s'' : ST), k ≤ 4 ∧ i = .int .i64 k ∧ BoxAt wi w.heap.size s'' ∧ Hid (s'' = stepTo s' l' k) ∧ Row4 wi (w.heap.size + 1) 31 (.int .u64 0) (.int .u64 0) (.int .u64 0) (.int .u64 0) ∧ Fr No w wi) (fun i _ => 4 - (intOf i).toNat)
    case atStart => exact ⟨0, s', by omega, rfl, hBx, rfl, hRx, hfx⟩
    case round =>
     obtain ⟨k, s'', hk, rfl, hB, hs2, hR2, hf2⟩ := hrel
     clear hBx hRx hfx
     obtain ⟨wi, rfl⟩ : ∃ wi : World, wi = wr := ⟨_, rfl⟩
     rcases (show k = 0 ∨ k = 1 ∨ k = 2 ∨ k = 3 ∨ k = 4 by omega) with rfl | rfl | rfl | rfl | rfl
     · have hy := (hb.no hf2)
       have cq0 := (box_row hB).c0
       have hBd : BoxAt wi.drew w.heap.size s'' := hB.fr (Fr.refl No wi).drew (fun h => h)
       go_wp2_with fail
       refine wp_region_seq (by kernel_rfl) (fun w' => Fr No wi w') (fun i => decide (10 ≤ i)) [(0, 1), (1, 1), (2, 1), (3, 1), (4, 1), (5, 1), (6, 1), (7, 0), (8, 0), (9, 1), (10, 0)] (by kernel_rfl) (Fr.refl No wi).drew ?_
       have hs0 : Fr No wi wi.drew := (Fr.refl No wi).drew
       iterate 7 refine tq _ rfl rfl (by intro w9 h9; have cq := h9.cell (fun h => h) cq0; clear h9; go_simp; try with_reducible rfl) ?_; simp only [es1, es2, es3]
       refine wpSeq_next rfl rfl (fun K hK => ?_)
       go_wp2_with fail
       refine (refNum_any _ _ _ l' 0 8 _ (hy.no hs0) (by omega) (by omega) (by omega) (by omega)).mono ?_
       rintro e w' ⟨rfl, rfl⟩
       refine hK.out _ _ (fun _ => hs0) ?_
       clear hK K
       refine wpSeq_next rfl rfl (fun K hK => ?_)
       go_wp2_with fail
       refine (refRound_any _ _ _).mono ?_
       rintro e w' ⟨rfl, rfl⟩
       rw [num8_zero]
       obtain ⟨yy, hyy⟩ : ∃ yy, yy = roundF (s''.1) (num8 l' 0) := ⟨_, rfl⟩
       rw [← hyy]
       have HYY := Lib.hid hyy
       clear hyy
       refine hK.out _ _ (fun _ => hs0) ?_
       clear hK K
       refine tp _ rfl rfl ?_; simp only [es1, es2, es3]
       have hRow := box_row hBd
       have cx := hRow.c0
       have fx := hRow.fz 0
       refine wpSeq_next rfl rfl (fun K hK => ?_)
       go_wp2_with fail
       refine hK.out _ _ (fun h => by simp at h) ?_
       clear hK K
       refine wpSeq_done ?_
       have hB3 := BoxAt.fr (box_put0 hB yy) (Fr.refl No _).drew (fun h => h)
       have hf3 := ((Fr.refl (fun x => x = w.heap.size) wi).setCell (p := ⟨w.heap.size, 0, none⟩) (.inl rfl) (.int .u64 (W64 yy))).no (Fr.refl No _).drew
       have hR3 := hR2.fr hf3 (by omega)
       have hf4 := hf2.trans hf3 (fun x hx => .inr (by omega))
       clear hs0 cq0 cx fx hRow hBd hy
       go_wp2_with fail
       go_roundw
       case rel =>
        refine ⟨1, (yy, s''.2.1, s''.2.2.1, s''.2.2.2), by omega, rfl, hB3, ?_, hR3, hf4⟩
        show _ = _
        rw [HYY.out, hs2.out]
        simp only [stepTo]
       case measure => simp [intOf]
     · have hy := (hb.no hf2)
       have cq0 := (box_row hB).c1
       have hBd : BoxAt wi.drew w.heap.size s'' := hB.fr (Fr.refl No wi).drew (fun h => h)
       go_wp2_with fail
       refine wp_region_seq (by kernel_rfl) (fun w' => Fr No wi w') (fun i => decide (10 ≤ i)) [(0, 1), (1, 1), (2, 1), (3, 1), (4, 1), (5, 1), (6, 1), (7, 0), (8, 0), (9, 1), (10, 0)] (by kernel_rfl) (Fr.refl No wi).drew ?_
       have hs0 : Fr No wi wi.drew := (Fr.refl No wi).drew
       iterate 7 refine tq _ rfl rfl (by intro w9 h9; have cq := h9.cell (fun h => h) cq0; clear h9; go_simp; try with_reducible rfl) ?_; simp only [es1, es2, es3]
       refine wpSeq_next rfl rfl (fun K hK => ?_)
       go_wp2_with fail
       refine (refNum_any _ _ _ l' 8 8 _ (hy.no hs0) (by omega) (by omega) (by omega) (by omega)).mono ?_
       rintro e w' ⟨rfl, rfl⟩
       refine hK.out _ _ (fun _ => hs0) ?_
       clear hK K
       refine wpSeq_next rfl rfl (fun K hK => ?_)
       go_wp2_with fail
       refine (refRound_any _ _ _).mono ?_
       rintro e w' ⟨rfl, rfl⟩
       rw [num8_def]
       obtain ⟨yy, hyy⟩ : ∃ yy, yy = roundF (s''.2.1) (num8 l' 8) := ⟨_, rfl⟩
       rw [← hyy]
       have HYY := Lib.hid hyy
       clear hyy
       refine hK.out _ _ (fun _ => hs0) ?_
       clear hK K
       refine tp _ rfl rfl ?_; simp only [es1, es2, es3]
       have hRow := box_row hBd
       have cx := hRow.c1
       have fx := hRow.fz 1
       refine wpSeq_next rfl rfl (fun K hK => ?_)
       go_wp2_with fail
       refine hK.out _ _ (fun h => by simp at h) ?_
       clear hK K
       refine wpSeq_done ?_
       have hB3 := BoxAt.fr (box_put1 hB yy) (Fr.refl No _).drew (fun h => h)
       have hf3 := ((Fr.refl (fun x => x = w.heap.size) wi).setCell (p := ⟨w.heap.size, 1, none⟩) (.inl rfl) (.int .u64 (W64 yy))).no (Fr.refl No _).drew
       have hR3 := hR2.fr hf3 (by omega)
       have hf4 := hf2.trans hf3 (fun x hx => .inr (by omega))
       clear hs0 cq0 cx fx hRow hBd hy
       go_wp2_with fail
       go_roundw
       case rel =>
        refine ⟨2, (s''.1, yy, s''.2.2.1, s''.2.2.2), by omega, rfl, hB3, ?_, hR3, hf4⟩
        show _ = _
        rw [HYY.out, hs2.out]
        simp only [stepTo]
       case measure => simp [intOf]
     · have hy := (hb.no hf2)
       have cq0 := (box_row hB).c2
       have hBd : BoxAt wi.drew w.heap.size s'' := hB.fr (Fr.refl No wi).drew (fun h => h)
       go_wp2_with fail
       refine wp_region_seq (by kernel_rfl) (fun w' => Fr No wi w') (fun i => decide (10 ≤ i)) [(0, 1), (1, 1), (2, 1), (3, 1), (4, 1), (5, 1), (6, 1), (7, 0), (8, 0), (9, 1), (10, 0)] (by kernel_rfl) (Fr.refl No wi).drew ?_
       have hs0 : Fr No wi wi.drew := (Fr.refl No wi).drew
       iterate 7 refine tq _ rfl rfl (by intro w9 h9; have cq := h9.cell (fun h => h) cq0; clear h9; go_simp; try with_reducible rfl) ?_; simp only [es1, es2, es3]
       refine wpSeq_next rfl rfl (fun K hK => ?_)
       go_wp2_with fail
       refine (refNum_any _ _ _ l' 16 8 _ (hy.no hs0) (by omega) (by omega) (by omega) (by omega)).mono ?_
       rintro e w' ⟨rfl, rfl⟩
       refine hK.out _ _ (fun _ => hs0) ?_
       clear hK K
       refine wpSeq_next rfl rfl (fun K hK => ?_)
       go_wp2_with fail
       refine (refRound_any _ _ _).mono ?_
       rintro e w' ⟨rfl, rfl⟩
       rw [num8_def]
       obtain ⟨yy, hyy⟩ : ∃ yy, yy = roundF (s''.2.2.1) (num8 l' 16) := ⟨_, rfl⟩
       rw [← hyy]
       have HYY := Lib.hid hyy
       clear hyy
       refine hK.out _ _ (fun _ => hs0) ?_
       clear hK K
       refine tp _ rfl rfl ?_; simp only [es1, es2, es3]
       have hRow := box_row hBd
       have cx := hRow.c2
       have fx := hRow.fz 2
       refine wpSeq_next rfl rfl (fun K hK => ?_)
       go_wp2_with fail
       refine hK.out _ _ (fun h => by simp at h) ?_
       clear hK K
       refine wpSeq_done ?_
       have hB3 := BoxAt.fr (box_put2 hB yy) (Fr.refl No _).drew (fun h => h)
       have hf3 := ((Fr.refl (fun x => x = w.heap.size) wi).setCell (p := ⟨w.heap.size, 2, none⟩) (.inl rfl) (.int .u64 (W64 yy))).no (Fr.refl No _).drew
       have hR3 := hR2.fr hf3 (by omega)
       have hf4 := hf2.trans hf3 (fun x hx => .inr (by omega))
       clear hs0 cq0 cx fx hRow hBd hy
       go_wp2_with fail
       go_roundw
       case rel =>
        refine ⟨3, (s''.1, s''.2.1, yy, s''.2.2.2), by omega, rfl, hB3, ?_, hR3, hf4⟩
        show _ = _
        rw [HYY.out, hs2.out]
        simp only [stepTo]
       case measure => simp [intOf]
     · have hy := (hb.no hf2)
       have cq0 := (box_row hB).c3
       have hBd : BoxAt wi.drew w.heap.size s'' := hB.fr (Fr.refl No wi).drew (fun h => h)
       go_wp2_with fail
       refine wp_region_seq (by kernel_rfl) (fun w' => Fr No wi w') (fun i => decide (10 ≤ i)) [(0, 1), (1, 1), (2, 1), (3, 1), (4, 1), (5, 1), (6, 1), (7, 0), (8, 0), (9, 1), (10, 0)] (by kernel_rfl) (Fr.refl No wi).drew ?_
       have hs0 : Fr No wi wi.drew := (Fr.refl No wi).drew
       iterate 7 refine tq _ rfl rfl (by intro w9 h9; have cq := h9.cell (fun h => h) cq0; clear h9; go_simp; try with_reducible rfl) ?_; simp only [es1, es2, es3]
       refine wpSeq_next rfl rfl (fun K hK => ?_)
       go_wp2_with fail
       refine (refNum_any _ _ _ l' 24 8 _ (hy.no hs0) (by omega) (by omega) (by omega) (by omega)).mono ?_
       rintro e w' ⟨rfl, rfl⟩
       refine hK.out _ _ (fun _ => hs0) ?_
       clear hK K
       refine wpSeq_next rfl rfl (fun K hK => ?_)
       go_wp2_with fail
       refine (refRound_any _ _ _).mono ?_
       rintro e w' ⟨rfl, rfl⟩
       rw [num8_def]
       obtain ⟨yy, hyy⟩ : ∃ yy, yy = roundF (s''.2.2.2) (num8 l' 24) := ⟨_, rfl⟩
       rw [← hyy]
       have HYY := Lib.hid hyy
       clear hyy
       refine hK.out _ _ (fun _ => hs0) ?_
       clear hK K
       refine tp _ rfl rfl ?_; simp only [es1, es2, es3]
       have hRow := box_row hBd
       have cx := hRow.c3
       have fx := hRow.fz 3
       refine wpSeq_next rfl rfl (fun K hK => ?_)
       go_wp2_with fail
       refine hK.out _ _ (fun h => by simp at h) ?_
       clear hK K
       refine wpSeq_done ?_
       have hB3 := BoxAt.fr (box_put3 hB yy) (Fr.refl No _).drew (fun h => h)
       have hf3 := ((Fr.refl (fun x => x = w.heap.size) wi).setCell (p := ⟨w.heap.size, 3, none⟩) (.inl rfl) (.int .u64 (W64 yy))).no (Fr.refl No _).drew
       have hR3 := hR2.fr hf3 (by omega)
       have hf4 := hf2.trans hf3 (fun x hx => .inr (by omega))
       clear hs0 cq0 cx fx hRow hBd hy
       go_wp2_with fail
       go_roundw
       case rel =>
        refine ⟨4, (s''.1, s''.2.1, s''.2.2.1, yy), by omega, rfl, hB3, ?_, hR3, hf4⟩
        show _ = _
        rw [HYY.out, hs2.out]
        simp only [stepTo]
       case measure => simp [intOf]
     · have hcut := hb.cut_to_end 32 (n' := m - 32) (c' := c' - 32) hlt rfl rfl
       go_wp2_with fail
       go_roundw
       case rel =>
        refine ⟨m - 32, _, _, _, s'', rfl, hcut, fun w2 h2 => (hst w2 h2).cut_to_end 32 hlt rfl rfl, hB, hR2, hf2, ?_⟩
        show _ = _
        rw [← hr'.out, foldF_step (s := s') (l := l') (by omega) (by rw [hlen.out]; exact hlt), hs2.out, stepG_take]
       case measure => simp; omega
  · have i1 : (m : Int) < 32 := by omega
    have HS := Lib.hid (foldF_short (F := stepG) (size := 32) (s := s') (l := l') (by rw [hlen.out]; omega))
    have hRow := box_row hBx
    have cb0 := hRow.c0
    have cb1 := hRow.c1
    have cb2 := hRow.c2
    have cb3 := hRow.c3
    have cr0 := hRx.c0
    have cr1 := hRx.c1
    have cr2 := hRx.c2
    have cr3 := hRx.c3
    have fr0 := hRx.fz 0
    have fr1 := hRx.fz 1
    have fr2 := hRx.fz 2
    have fr3 := hRx.fz 3
    go_wp2_with fail
    have hF3 := fr_put4 wr (w.heap.size + 1) (.int .u64 (W64 s'.1)) (.int .u64 (W64 s'.2.1)) (.int .u64 (W64 s'.2.2.1)) (.int .u64 (W64 s'.2.2.2))
    have hR3 := row_put4 hRx (.int .u64 (W64 s'.1)) (.int .u64 (W64 s'.2.1)) (.int .u64 (W64 s'.2.2.1)) (.int .u64 (W64 s'.2.2.2))
    clear cr0 cr1 cr2 cr3 fr0 fr1 fr2 fr3
    generalize (((wr.setCell ⟨w.heap.size + 1, 0, none⟩ (.int .u64 (W64 s'.1))).setCell ⟨w.heap.size + 1, 1, none⟩ (.int .u64 (W64 s'.2.1))).setCell ⟨w.heap.size + 1, 2, none⟩ (.int .u64 (W64 s'.2.2.1))).setCell ⟨w.heap.size + 1, 3, none⟩ (.int .u64 (W64 s'.2.2.2)) = w3 at hF3 hR3 ⊢
    have cd0 := hR3.c0
    have cd1 := hR3.c1
    have cd2 := hR3.c2
    have cd3 := hR3.c3
    have hFe : Fr No w w3 := hfx.trans hF3 (fun x hx => .inr (by omega))
    refine bodyPost_ret (v := .tuple #[lanesV s', .slice a' m c']) (by simp [results, Tryz.results176, go_sem, cd0, cd1, cd2, cd3, lanesV]) rfl ?_
    refine ⟨a', m, c', by rw [← hr'.out, HS.out], ?_, ?_, hFe⟩
    · rw [← hr'.out, HS.out]; exact hb.no hFe
    · rw [← hr'.out, HS.out]; exact hst
set_option maxHeartbeats 1000000 in
theorem refBlocks_any (sd : BitVec 64) (a : Option Addr) (n c : Nat) (l : Bytes) (w : World) (h : IsBytes w a n c l) (hn : n ≤ 1099511627776) :
 Calls Tryz.prog 101 #[.int .u64 (W64 sd), .slice a n c] w (GivesLanes a n c l (foldF stepG 32 (firstF sd) l) w) := by
 have hF1 := (Fr.refl No w).alloc (.cells #[.int .u64 0, .int .u64 0, .int .u64 0, .int .u64 0] 31)
 have hA := row4_new w 31 (.int .u64 0) (.int .u64 0) (.int .u64 0) (.int .u64 0)
 generalize hr : foldF stepG 32 (firstF sd) l = r
 have HR := Lib.hid hr
 clear hr
 have hF2 : Fr No w ((w.alloc (.cells #[.int .u64 0, .int .u64 0, .int .u64 0, .int .u64 0] 31)).alloc (.cells #[.int .u64 (W64 (firstF sd).1), .int .u64 (W64 (firstF sd).2.1), .int .u64 (W64 (firstF sd).2.2.1), .int .u64 (W64 (firstF sd).2.2.2)] 31)) := hF1.alloc _
 have hA2 := hA.no ((Fr.refl No (w.alloc (.cells #[.int .u64 0, .int .u64 0, .int .u64 0, .int .u64 0] 31))).alloc (.cells #[.int .u64 (W64 (firstF sd).1), .int .u64 (W64 (firstF sd).2.1), .int .u64 (W64 (firstF sd).2.2.1), .int .u64 (W64 (firstF sd).2.2.2)] 31))
 have h1 := h.no hF2
 go_enter Tryz.func101, Tryz.ntmps101
 go_wp2_with fail
 refine (refFrom_any (firstF sd) _ _ _ l _ h1 hn).mono ?_
 rintro e w2 ⟨a', n', c', rfl, hb, hst, hf⟩
 rw [HR.out] at hb hst ⊢
 have hR := hA2.no hf
 have hF := hF2.no hf
 clear hf h1 hA hA2 hF1 hF2
 have cr0 := hR.c0
 have cr1 := hR.c1
 have cr2 := hR.c2
 have cr3 := hR.c3
 have fr0 := hR.fz 0
 have fr1 := hR.fz 1
 have fr2 := hR.fz 2
 have fr3 := hR.fz 3
 unfold lanesV
 go_wp2_with fail
 have hF3 := fr_put4 w2 (w.heap.size) (.int .u64 (W64 r.1.1)) (.int .u64 (W64 r.1.2.1)) (.int .u64 (W64 r.1.2.2.1)) (.int .u64 (W64 r.1.2.2.2))
 have hR3 := row_put4 hR (.int .u64 (W64 r.1.1)) (.int .u64 (W64 r.1.2.1)) (.int .u64 (W64 r.1.2.2.1)) (.int .u64 (W64 r.1.2.2.2))
 clear cr0 cr1 cr2 cr3 fr0 fr1 fr2 fr3
 generalize (((w2.setCell ⟨w.heap.size, 0, none⟩ (.int .u64 (W64 r.1.1))).setCell ⟨w.heap.size, 1, none⟩ (.int .u64 (W64 r.1.2.1))).setCell ⟨w.heap.size, 2, none⟩ (.int .u64 (W64 r.1.2.2.1))).setCell ⟨w.heap.size, 3, none⟩ (.int .u64 (W64 r.1.2.2.2)) = w3 at hF3 hR3 ⊢
 have cd0 := hR3.c0
 have cd1 := hR3.c1
 have cd2 := hR3.c2
 have cd3 := hR3.c3
 have hFe : Fr No w w3 := hF.trans hF3 (fun x hx => .inr (by omega))
 refine bodyPost_ret (v := .tuple #[lanesV r.1, .slice a' n' c']) (by simp [results, Tryz.results101, go_sem, cd0, cd1, cd2, cd3, lanesV]) rfl ?_
 exact ⟨a', n', c', rfl, (hst _ (h.no hFe)), hst, hFe⟩
end Go.Proofs.YtidlpihoafnobaaGreatDoor.StX64
