/- SetG32 HashM86 HashX32 SetG64 HashX64 StrHasher StrIM86 StrIX64 -/
import Derived.Stop.IfaceNil
import Derived.Test.YtidlpihoafnobaaGreatPStrHasherAx
import Derived.Test.YtidlpihoafnobaaGreatPStrAnyEx
set_option linter.unusedVariables false
set_option linter.unusedSimpArgs false
namespace Go.Proofs.YtidlpihoafnobaaGreat.StG32
set_option maxRecDepth 100000
open Go.RowKit
theorem Set_no {w : World} {sb size : Nat} {f s : ST} {q : QT} {tv : Value} {lo : BitVec 64} (hst : StreamAt w sb size f s q tv lo) (hz1 : 1 ≤ size) (hz2 : size ≤ 64) (s2 : ST) (lo2 : BitVec 64) (a : Option Addr) (n c : Nat) (hfit : fitsB n lo2 size = false) :
 Calls Tryz.prog 274 #[.pointer (some ⟨sb, 0, none⟩), .agg #[cS s2 0, cS s2 1, cS s2 2, cS s2 3], .int .u64 (W64 lo2), .slice a n c] w (GivesNew (.bool false) w) := by
 have hz := size_ne size hz1 hz2
 have hz' : ¬ BitVec.ofNat 64 size = 0#64 := by simpa using hz
 unfold fitsB at hfit
 have hfit' : (BitVec.ofNat 64 n != lo2 % BitVec.ofNat 64 size) = true := by simp [bne, hfit]
 have hfit2 : ¬ BitVec.ofNat 64 n = lo2 % BitVec.ofNat 64 size := by simpa using hfit
 have hst1 : StreamAt (w.alloc (.cells #[cS s2 0, cS s2 1, cS s2 2, cS s2 3] 122)) sb size f s q tv lo := hst.fr ((Fr.refl No w).alloc _) (fun h => h)
 have cz : (w.alloc (.cells #[cS s2 0, cS s2 1, cS s2 2, cS s2 3] 122)).cell? ⟨sb, 0, none⟩ = some (.int .i64 size) := hst1.cell 0 rfl
 go_enter Tryz.func274, Tryz.ntmps274
 go_wp2_with (go_at_call 190; refine (made_any hst1).mono ?_; rintro e w' ⟨rfl, rfl⟩)
 go_ret
 exact ⟨rfl, (Fr.refl _ _).alloc _⟩
end Go.Proofs.YtidlpihoafnobaaGreat.StG32
namespace Go.Proofs.YtidlpihoafnobaaGreat.StM86
set_option maxRecDepth 100000
open Go.Proofs.YtidlpihoafnobaaGreat.StG32
open Go.RowKit
set_option maxHeartbeats 400000 in
theorem Set_wrong {w0 w : World} {hb sb : Nat} {sd : BitVec 32} {s : ST} {tl : Bytes} {lo : BitVec 64} {tv : Value} (h : HLive w0 w hb sb sd s tl lo tv) (x0 x1 x2 x3 : BitVec 64) (lv : Value) (hlv : lv = .agg #[.int .u64 (W64 x0), .int .u64 (W64 x1), .int .u64 (W64 x2), .int .u64 (W64 x3)]) (lo2 : BitVec 64) (a : Option Addr) (n c : Nat) (hw : ¬ RightP x0 x1 x2 x3) : Calls Tryz.prog 270 #[.pointer (some ⟨hb, 0, none⟩), lv, .int .u64 (W64 lo2), .slice a n c] w (GivesNew (.bool false) w) := by
 subst hlv
 have hF1 : Fr No w (w.alloc (.cells #[.int .u64 (W64 x0), .int .u64 (W64 x1), .int .u64 (W64 x2), .int .u64 (W64 x3)] 49)) := (Fr.refl No w).alloc _
 have hR1 := row4_new w 49 (.int .u64 (W64 x0)) (.int .u64 (W64 x1)) (.int .u64 (W64 x2)) (.int .u64 (W64 x3))
 have h1 := h.no hF1
 have cc := h1.cell
 obtain ⟨pb0, hpb0⟩ : ∃ pb0, pb0 = w.heap.size := ⟨_, rfl⟩
 have hHid := Lib.hid hpb0
 clear hpb0
 go_enter Tryz.func270, Tryz.ntmps270
 go_wp2_with fail
 have hpb0 := hHid.out
 clear hHid
 have g2 := hF1.size
 have hps : ¬ pb0 = sb := by have := h.lt sb (.inr (.inl rfl)); omega
 rw [← hpb0] at hR1 ⊢
 clear hpb0
 obtain ⟨pb, rfl⟩ : ∃ pb, pb = pb0 := ⟨_, rfl⟩
 generalize w.alloc (.cells #[.int .u64 (W64 x0), .int .u64 (W64 x1), .int .u64 (W64 x2), .int .u64 (W64 x3)] 49) = w1 at hF1 hR1 h1 cc g2 ⊢
 have hq : ((x0.setWidth 32).setWidth 64 == x0 && (x1.setWidth 32).setWidth 64 == x1 && (x2.setWidth 32).setWidth 64 == x2 && (x3.setWidth 32).setWidth 64 == x3) = false := by
  unfold RightP at hw
  by_cases e0 : (x0.setWidth 32).setWidth 64 = x0 <;> by_cases e1 : (x1.setWidth 32).setWidth 64 = x1 <;> by_cases e2 : (x2.setWidth 32).setWidth 64 = x2 <;> by_cases e3 : (x3.setWidth 32).setWidth 64 = x3 <;> simp_all
 refine rsq (by kernel_rfl) [(0, 1), (1, 0), (2, 1), (3, 1), (4, 1), (7, 1), (5, 0), (6, 0), (8, 1), (9, 1)] (by kernel_rfl) ?_
 have hv0 : Fr No w1 w1.drew := (Fr.refl No w1).drew
 refine tp _ rfl rfl ?_; simp only [es1, es2, es3]
 refine wpSeq_next rfl rfl (fun K hK => ?_)
 go_wp2_with fail
 refine (made_h (h1.no hv0)).mono ?_
 rintro e w' ⟨rfl, rfl⟩
 refine hK.out _ _ (fun _ => hv0) ?_
 clear hK K
 iterate 4 refine tq _ rfl rfl (by intro w9 h9; have q0 := (hR1.no h9).c0; have q1 := (hR1.no h9).c1; have q2 := (hR1.no h9).c2; have q3 := (hR1.no h9).c3; have ch := (h1.no h9).cell; clear h9; go_simp; try with_reducible rfl) ?_; simp only [es1, es2, es3]
 refine wpSeq_next rfl rfl (fun K hK => ?_)
 go_wp2_with fail
 refine (narrow_any x0 x1 x2 x3 _).mono ?_
 rintro e xhv1 ⟨rfl, hx⟩
 have hv1 := hv0.no hx
 clear hx
 refine hK.out _ _ (fun _ => hv1) ?_
 clear hK K
 refine wpSeq_next rfl rfl (fun K hK => ?_)
 go_wp2_with fail
 refine (wide_any (stateF x0 x1 x2 x3) _).mono ?_
 rintro e xhv2 ⟨rfl, hx⟩
 have hv2 := hv1.no hx
 clear hx
 rw [lanesV_state]
 refine hK.out _ _ (fun _ => hv2) ?_
 clear hK K
 iterate 2 refine tp _ rfl rfl ?_; simp only [es1, es2, es3]
 refine wpSeq_done ?_
 go_wp2_with fail
 go_ret
 exact ⟨rfl, hF1.no hv2⟩
set_option maxHeartbeats 400000 in
theorem Set_unfit {w0 w : World} {hb sb : Nat} {sd : BitVec 32} {s : ST} {tl : Bytes} {lo : BitVec 64} {tv : Value} (h : HLive w0 w hb sb sd s tl lo tv) (x0 x1 x2 x3 : BitVec 64) (lv : Value) (hlv : lv = .agg #[.int .u64 (W64 x0), .int .u64 (W64 x1), .int .u64 (W64 x2), .int .u64 (W64 x3)]) (lo2 : BitVec 64) (a : Option Addr) (n c : Nat) (hw : RightP x0 x1 x2 x3) (hfit : fitsB n lo2 16 = false) : Calls Tryz.prog 270 #[.pointer (some ⟨hb, 0, none⟩), lv, .int .u64 (W64 lo2), .slice a n c] w (GivesNew (.bool false) w) := by
 subst hlv
 have hF1 : Fr No w (w.alloc (.cells #[.int .u64 (W64 x0), .int .u64 (W64 x1), .int .u64 (W64 x2), .int .u64 (W64 x3)] 49)) := (Fr.refl No w).alloc _
 have hR1 := row4_new w 49 (.int .u64 (W64 x0)) (.int .u64 (W64 x1)) (.int .u64 (W64 x2)) (.int .u64 (W64 x3))
 have h1 := h.no hF1
 have cc := h1.cell
 obtain ⟨pb0, hpb0⟩ : ∃ pb0, pb0 = w.heap.size := ⟨_, rfl⟩
 have hHid := Lib.hid hpb0
 clear hpb0
 go_enter Tryz.func270, Tryz.ntmps270
 go_wp2_with fail
 have hpb0 := hHid.out
 clear hHid
 have g2 := hF1.size
 have hps : ¬ pb0 = sb := by have := h.lt sb (.inr (.inl rfl)); omega
 rw [← hpb0] at hR1 ⊢
 clear hpb0
 obtain ⟨pb, rfl⟩ : ∃ pb, pb = pb0 := ⟨_, rfl⟩
 generalize w.alloc (.cells #[.int .u64 (W64 x0), .int .u64 (W64 x1), .int .u64 (W64 x2), .int .u64 (W64 x3)] 49) = w1 at hF1 hR1 h1 cc g2 ⊢
 have hq : ((x0.setWidth 32).setWidth 64 == x0 && (x1.setWidth 32).setWidth 64 == x1 && (x2.setWidth 32).setWidth 64 == x2 && (x3.setWidth 32).setWidth 64 == x3) = true := by
  obtain ⟨e0, e1, e2, e3⟩ := hw
  rw [e0, e1, e2, e3]
  simp
 refine rsq (by kernel_rfl) [(0, 1), (1, 0), (2, 1), (3, 1), (4, 1), (7, 1), (5, 0), (6, 0), (8, 1), (9, 1)] (by kernel_rfl) ?_
 have hv0 : Fr No w1 w1.drew := (Fr.refl No w1).drew
 refine tp _ rfl rfl ?_; simp only [es1, es2, es3]
 refine wpSeq_next rfl rfl (fun K hK => ?_)
 go_wp2_with fail
 refine (made_h (h1.no hv0)).mono ?_
 rintro e w' ⟨rfl, rfl⟩
 refine hK.out _ _ (fun _ => hv0) ?_
 clear hK K
 iterate 4 refine tq _ rfl rfl (by intro w9 h9; have q0 := (hR1.no h9).c0; have q1 := (hR1.no h9).c1; have q2 := (hR1.no h9).c2; have q3 := (hR1.no h9).c3; have ch := (h1.no h9).cell; clear h9; go_simp; try with_reducible rfl) ?_; simp only [es1, es2, es3]
 refine wpSeq_next rfl rfl (fun K hK => ?_)
 go_wp2_with fail
 refine (narrow_any x0 x1 x2 x3 _).mono ?_
 rintro e xhv1 ⟨rfl, hx⟩
 have hv1 := hv0.no hx
 clear hx
 refine hK.out _ _ (fun _ => hv1) ?_
 clear hK K
 refine wpSeq_next rfl rfl (fun K hK => ?_)
 go_wp2_with fail
 refine (wide_any (stateF x0 x1 x2 x3) _).mono ?_
 rintro e xhv2 ⟨rfl, hx⟩
 have hv2 := hv1.no hx
 clear hx
 rw [lanesV_state]
 refine hK.out _ _ (fun _ => hv2) ?_
 clear hK K
 iterate 2 refine tp _ rfl rfl ?_; simp only [es1, es2, es3]
 refine wpSeq_done ?_
 go_wp2_with fail
 have h2 := h1.no hv2
 have hR2 := hR1.no hv2
 have hF2 := hF1.no hv2
 generalize xhv2 = w2 at h2 hR2 hF2 ⊢
 clear hR1 hv0 cc hv1 hv2
 refine rsq (by kernel_rfl) [(0, 1), (1, 1), (2, 1), (3, 1), (4, 1), (6, 1), (7, 1), (5, 0), (8, 0), (9, 1)] (by kernel_rfl) ?_
 have hv0 : Fr No w2 w2.drew := (Fr.refl No w2).drew
 iterate 7 refine tq _ rfl rfl (by intro w9 h9; have q0 := (hR2.no h9).c0; have q1 := (hR2.no h9).c1; have q2 := (hR2.no h9).c2; have q3 := (hR2.no h9).c3; have ch := (h2.no h9).cell; clear h9; go_simp; try with_reducible rfl) ?_; simp only [es1, es2, es3]
 refine wpSeq_next rfl rfl (fun K hK => ?_)
 go_wp2_with fail
 refine (narrow_any x0 x1 x2 x3 _).mono ?_
 rintro e xhv1 ⟨rfl, hx⟩
 have hv1 := hv0.no hx
 clear hx
 refine hK.out _ _ (fun _ => hv1) ?_
 clear hK K
 refine wpSeq_next rfl rfl (fun K hK => ?_)
 go_wp2_with fail
 refine (Set_no (h2.no hv1).on.st (by omega) (by omega) (stateF x0 x1 x2 x3) lo2 _ n c hfit).mono ?_
 rintro e xhv2 ⟨rfl, hx⟩
 have hv2 := hv1.no hx
 clear hx
 refine hK.out _ _ (fun _ => hv2) ?_
 clear hK K
 refine tp _ rfl rfl ?_; simp only [es1, es2, es3]
 refine wpSeq_done ?_
 go_wp2_with fail
 go_ret
 exact ⟨rfl, hF2.no hv2⟩
end Go.Proofs.YtidlpihoafnobaaGreat.StM86
namespace Go.Proofs.YtidlpihoafnobaaGreat.StX32
set_option maxRecDepth 100000
open Go.Proofs.YtidlpihoafnobaaGreat.StG32
open Go.RowKit
set_option maxHeartbeats 400000 in
theorem Set_wrong {w0 w : World} {hb sb : Nat} {sd : BitVec 32} {s : ST} {tl : Bytes} {lo : BitVec 64} {tv : Value} (h : HLive w0 w hb sb sd s tl lo tv) (x0 x1 x2 x3 : BitVec 64) (lv : Value) (hlv : lv = .agg #[.int .u64 (W64 x0), .int .u64 (W64 x1), .int .u64 (W64 x2), .int .u64 (W64 x3)]) (lo2 : BitVec 64) (a : Option Addr) (n c : Nat) (hw : ¬ RightP x0 x1 x2 x3) : Calls Tryz.prog 287 #[.pointer (some ⟨hb, 0, none⟩), lv, .int .u64 (W64 lo2), .slice a n c] w (GivesNew (.bool false) w) := by
 subst hlv
 have hF1 : Fr No w (w.alloc (.cells #[.int .u64 (W64 x0), .int .u64 (W64 x1), .int .u64 (W64 x2), .int .u64 (W64 x3)] 49)) := (Fr.refl No w).alloc _
 have hR1 := row4_new w 49 (.int .u64 (W64 x0)) (.int .u64 (W64 x1)) (.int .u64 (W64 x2)) (.int .u64 (W64 x3))
 have h1 := h.no hF1
 have cc := h1.cell
 obtain ⟨pb0, hpb0⟩ : ∃ pb0, pb0 = w.heap.size := ⟨_, rfl⟩
 have hHid := Lib.hid hpb0
 clear hpb0
 go_enter Tryz.func287, Tryz.ntmps287
 go_wp2_with fail
 have hpb0 := hHid.out
 clear hHid
 have g2 := hF1.size
 have hps : ¬ pb0 = sb := by have := h.lt sb (.inr (.inl rfl)); omega
 rw [← hpb0] at hR1 ⊢
 clear hpb0
 obtain ⟨pb, rfl⟩ : ∃ pb, pb = pb0 := ⟨_, rfl⟩
 generalize w.alloc (.cells #[.int .u64 (W64 x0), .int .u64 (W64 x1), .int .u64 (W64 x2), .int .u64 (W64 x3)] 49) = w1 at hF1 hR1 h1 cc g2 ⊢
 have hq : ((x0.setWidth 32).setWidth 64 == x0 && (x1.setWidth 32).setWidth 64 == x1 && (x2.setWidth 32).setWidth 64 == x2 && (x3.setWidth 32).setWidth 64 == x3) = false := by
  unfold RightP at hw
  by_cases e0 : (x0.setWidth 32).setWidth 64 = x0 <;> by_cases e1 : (x1.setWidth 32).setWidth 64 = x1 <;> by_cases e2 : (x2.setWidth 32).setWidth 64 = x2 <;> by_cases e3 : (x3.setWidth 32).setWidth 64 = x3 <;> simp_all
 refine rsq (by kernel_rfl) [(0, 1), (1, 0), (2, 1), (3, 1), (4, 1), (7, 1), (5, 0), (6, 0), (8, 1), (9, 1)] (by kernel_rfl) ?_
 have hv0 : Fr No w1 w1.drew := (Fr.refl No w1).drew
 refine tp _ rfl rfl ?_; simp only [es1, es2, es3]
 refine wpSeq_next rfl rfl (fun K hK => ?_)
 go_wp2_with fail
 refine (made_h (h1.no hv0)).mono ?_
 rintro e w' ⟨rfl, rfl⟩
 refine hK.out _ _ (fun _ => hv0) ?_
 clear hK K
 iterate 4 refine tq _ rfl rfl (by intro w9 h9; have q0 := (hR1.no h9).c0; have q1 := (hR1.no h9).c1; have q2 := (hR1.no h9).c2; have q3 := (hR1.no h9).c3; have ch := (h1.no h9).cell; clear h9; go_simp; try with_reducible rfl) ?_; simp only [es1, es2, es3]
 refine wpSeq_next rfl rfl (fun K hK => ?_)
 go_wp2_with fail
 refine (narrow_any x0 x1 x2 x3 _).mono ?_
 rintro e xhv1 ⟨rfl, hx⟩
 have hv1 := hv0.no hx
 clear hx
 refine hK.out _ _ (fun _ => hv1) ?_
 clear hK K
 refine wpSeq_next rfl rfl (fun K hK => ?_)
 go_wp2_with fail
 refine (wide_any (stateF x0 x1 x2 x3) _).mono ?_
 rintro e xhv2 ⟨rfl, hx⟩
 have hv2 := hv1.no hx
 clear hx
 rw [lanesV_state]
 refine hK.out _ _ (fun _ => hv2) ?_
 clear hK K
 iterate 2 refine tp _ rfl rfl ?_; simp only [es1, es2, es3]
 refine wpSeq_done ?_
 go_wp2_with fail
 go_ret
 exact ⟨rfl, hF1.no hv2⟩
set_option maxHeartbeats 400000 in
theorem Set_unfit {w0 w : World} {hb sb : Nat} {sd : BitVec 32} {s : ST} {tl : Bytes} {lo : BitVec 64} {tv : Value} (h : HLive w0 w hb sb sd s tl lo tv) (x0 x1 x2 x3 : BitVec 64) (lv : Value) (hlv : lv = .agg #[.int .u64 (W64 x0), .int .u64 (W64 x1), .int .u64 (W64 x2), .int .u64 (W64 x3)]) (lo2 : BitVec 64) (a : Option Addr) (n c : Nat) (hw : RightP x0 x1 x2 x3) (hfit : fitsB n lo2 16 = false) : Calls Tryz.prog 287 #[.pointer (some ⟨hb, 0, none⟩), lv, .int .u64 (W64 lo2), .slice a n c] w (GivesNew (.bool false) w) := by
 subst hlv
 have hF1 : Fr No w (w.alloc (.cells #[.int .u64 (W64 x0), .int .u64 (W64 x1), .int .u64 (W64 x2), .int .u64 (W64 x3)] 49)) := (Fr.refl No w).alloc _
 have hR1 := row4_new w 49 (.int .u64 (W64 x0)) (.int .u64 (W64 x1)) (.int .u64 (W64 x2)) (.int .u64 (W64 x3))
 have h1 := h.no hF1
 have cc := h1.cell
 obtain ⟨pb0, hpb0⟩ : ∃ pb0, pb0 = w.heap.size := ⟨_, rfl⟩
 have hHid := Lib.hid hpb0
 clear hpb0
 go_enter Tryz.func287, Tryz.ntmps287
 go_wp2_with fail
 have hpb0 := hHid.out
 clear hHid
 have g2 := hF1.size
 have hps : ¬ pb0 = sb := by have := h.lt sb (.inr (.inl rfl)); omega
 rw [← hpb0] at hR1 ⊢
 clear hpb0
 obtain ⟨pb, rfl⟩ : ∃ pb, pb = pb0 := ⟨_, rfl⟩
 generalize w.alloc (.cells #[.int .u64 (W64 x0), .int .u64 (W64 x1), .int .u64 (W64 x2), .int .u64 (W64 x3)] 49) = w1 at hF1 hR1 h1 cc g2 ⊢
 have hq : ((x0.setWidth 32).setWidth 64 == x0 && (x1.setWidth 32).setWidth 64 == x1 && (x2.setWidth 32).setWidth 64 == x2 && (x3.setWidth 32).setWidth 64 == x3) = true := by
  obtain ⟨e0, e1, e2, e3⟩ := hw
  rw [e0, e1, e2, e3]
  simp
 refine rsq (by kernel_rfl) [(0, 1), (1, 0), (2, 1), (3, 1), (4, 1), (7, 1), (5, 0), (6, 0), (8, 1), (9, 1)] (by kernel_rfl) ?_
 have hv0 : Fr No w1 w1.drew := (Fr.refl No w1).drew
 refine tp _ rfl rfl ?_; simp only [es1, es2, es3]
 refine wpSeq_next rfl rfl (fun K hK => ?_)
 go_wp2_with fail
 refine (made_h (h1.no hv0)).mono ?_
 rintro e w' ⟨rfl, rfl⟩
 refine hK.out _ _ (fun _ => hv0) ?_
 clear hK K
 iterate 4 refine tq _ rfl rfl (by intro w9 h9; have q0 := (hR1.no h9).c0; have q1 := (hR1.no h9).c1; have q2 := (hR1.no h9).c2; have q3 := (hR1.no h9).c3; have ch := (h1.no h9).cell; clear h9; go_simp; try with_reducible rfl) ?_; simp only [es1, es2, es3]
 refine wpSeq_next rfl rfl (fun K hK => ?_)
 go_wp2_with fail
 refine (narrow_any x0 x1 x2 x3 _).mono ?_
 rintro e xhv1 ⟨rfl, hx⟩
 have hv1 := hv0.no hx
 clear hx
 refine hK.out _ _ (fun _ => hv1) ?_
 clear hK K
 refine wpSeq_next rfl rfl (fun K hK => ?_)
 go_wp2_with fail
 refine (wide_any (stateF x0 x1 x2 x3) _).mono ?_
 rintro e xhv2 ⟨rfl, hx⟩
 have hv2 := hv1.no hx
 clear hx
 rw [lanesV_state]
 refine hK.out _ _ (fun _ => hv2) ?_
 clear hK K
 iterate 2 refine tp _ rfl rfl ?_; simp only [es1, es2, es3]
 refine wpSeq_done ?_
 go_wp2_with fail
 have h2 := h1.no hv2
 have hR2 := hR1.no hv2
 have hF2 := hF1.no hv2
 generalize xhv2 = w2 at h2 hR2 hF2 ⊢
 clear hR1 hv0 cc hv1 hv2
 refine rsq (by kernel_rfl) [(0, 1), (1, 1), (2, 1), (3, 1), (4, 1), (6, 1), (7, 1), (5, 0), (8, 0), (9, 1)] (by kernel_rfl) ?_
 have hv0 : Fr No w2 w2.drew := (Fr.refl No w2).drew
 iterate 7 refine tq _ rfl rfl (by intro w9 h9; have q0 := (hR2.no h9).c0; have q1 := (hR2.no h9).c1; have q2 := (hR2.no h9).c2; have q3 := (hR2.no h9).c3; have ch := (h2.no h9).cell; clear h9; go_simp; try with_reducible rfl) ?_; simp only [es1, es2, es3]
 refine wpSeq_next rfl rfl (fun K hK => ?_)
 go_wp2_with fail
 refine (narrow_any x0 x1 x2 x3 _).mono ?_
 rintro e xhv1 ⟨rfl, hx⟩
 have hv1 := hv0.no hx
 clear hx
 refine hK.out _ _ (fun _ => hv1) ?_
 clear hK K
 refine wpSeq_next rfl rfl (fun K hK => ?_)
 go_wp2_with fail
 refine (Set_no (h2.no hv1).on.st (by omega) (by omega) (stateF x0 x1 x2 x3) lo2 _ n c hfit).mono ?_
 rintro e xhv2 ⟨rfl, hx⟩
 have hv2 := hv1.no hx
 clear hx
 refine hK.out _ _ (fun _ => hv2) ?_
 clear hK K
 refine tp _ rfl rfl ?_; simp only [es1, es2, es3]
 refine wpSeq_done ?_
 go_wp2_with fail
 go_ret
 exact ⟨rfl, hF2.no hv2⟩
end Go.Proofs.YtidlpihoafnobaaGreat.StX32
namespace Go.Proofs.YtidlpihoafnobaaGreat.StG64
set_option maxRecDepth 100000
open Go.RowKit
theorem Set_no {w : World} {sb size : Nat} {f s : ST} {q : QT} {tv : Value} {lo : BitVec 64} (hst : StreamAt w sb size f s q tv lo) (hz1 : 1 ≤ size) (hz2 : size ≤ 64) (s2 : ST) (lo2 : BitVec 64) (a : Option Addr) (n c : Nat) (hfit : fitsB n lo2 size = false) :
 Calls Tryz.prog 296 #[.pointer (some ⟨sb, 0, none⟩), .agg #[cS s2 0, cS s2 1, cS s2 2, cS s2 3], .int .u64 (W64 lo2), .slice a n c] w (GivesNew (.bool false) w) := by
 have hz := size_ne size hz1 hz2
 have hz' : ¬ BitVec.ofNat 64 size = 0#64 := by simpa using hz
 unfold fitsB at hfit
 have hfit' : (BitVec.ofNat 64 n != lo2 % BitVec.ofNat 64 size) = true := by simp [bne, hfit]
 have hfit2 : ¬ BitVec.ofNat 64 n = lo2 % BitVec.ofNat 64 size := by simpa using hfit
 have hst1 : StreamAt (w.alloc (.cells #[cS s2 0, cS s2 1, cS s2 2, cS s2 3] 49)) sb size f s q tv lo := hst.fr ((Fr.refl No w).alloc _) (fun h => h)
 have cz : (w.alloc (.cells #[cS s2 0, cS s2 1, cS s2 2, cS s2 3] 49)).cell? ⟨sb, 0, none⟩ = some (.int .i64 size) := hst1.cell 0 rfl
 go_enter Tryz.func296, Tryz.ntmps296
 go_wp2_with (go_at_call 234; refine (made_any hst1).mono ?_; rintro e w' ⟨rfl, rfl⟩)
 go_ret
 exact ⟨rfl, (Fr.refl _ _).alloc _⟩
end Go.Proofs.YtidlpihoafnobaaGreat.StG64
namespace Go.Proofs.YtidlpihoafnobaaGreat.StX64
set_option maxRecDepth 100000
open Go.Proofs.YtidlpihoafnobaaGreat.StG64
open Go.RowKit
theorem Set_wrong {w0 w : World} {hb sb : Nat} {sd : BitVec 64} {s : ST} {tl : Bytes} {lo : BitVec 64} {tv : Value} (h : HLive w0 w hb sb sd s tl lo tv) (x0 x1 x2 x3 : BitVec 64) (lv : Value) (hlv : lv = .agg #[.int .u64 (W64 x0), .int .u64 (W64 x1), .int .u64 (W64 x2), .int .u64 (W64 x3)]) (lo2 : BitVec 64) (a : Option Addr) (n c : Nat) (hw : ¬ RightP x0 x1 x2 x3) : Calls Tryz.prog 293 #[.pointer (some ⟨hb, 0, none⟩), lv, .int .u64 (W64 lo2), .slice a n c] w (GivesNew (.bool false) w) := absurd trivial hw
set_option maxHeartbeats 400000 in
theorem Set_unfit {w0 w : World} {hb sb : Nat} {sd : BitVec 64} {s : ST} {tl : Bytes} {lo : BitVec 64} {tv : Value} (h : HLive w0 w hb sb sd s tl lo tv) (x0 x1 x2 x3 : BitVec 64) (lv : Value) (hlv : lv = .agg #[.int .u64 (W64 x0), .int .u64 (W64 x1), .int .u64 (W64 x2), .int .u64 (W64 x3)]) (lo2 : BitVec 64) (a : Option Addr) (n c : Nat) (hw : RightP x0 x1 x2 x3) (hfit : fitsB n lo2 32 = false) : Calls Tryz.prog 293 #[.pointer (some ⟨hb, 0, none⟩), lv, .int .u64 (W64 lo2), .slice a n c] w (GivesNew (.bool false) w) := by
 subst hlv
 have hF1 : Fr No w (w.alloc (.cells #[.int .u64 (W64 x0), .int .u64 (W64 x1), .int .u64 (W64 x2), .int .u64 (W64 x3)] 49)) := (Fr.refl No w).alloc _
 have hR1 := row4_new w 49 (.int .u64 (W64 x0)) (.int .u64 (W64 x1)) (.int .u64 (W64 x2)) (.int .u64 (W64 x3))
 have h1 := h.no hF1
 have cc := h1.cell
 obtain ⟨pb0, hpb0⟩ : ∃ pb0, pb0 = w.heap.size := ⟨_, rfl⟩
 have hHid := Lib.hid hpb0
 clear hpb0
 go_enter Tryz.func293, Tryz.ntmps293
 go_wp2_with fail
 have hpb0 := hHid.out
 clear hHid
 have g2 := hF1.size
 have hps : ¬ pb0 = sb := by have := h.lt sb (.inr (.inl rfl)); omega
 have hnb : ¬ hb = sb := fun e => h.ne (.inl e)
 rw [← hpb0] at hR1 ⊢
 clear hpb0
 obtain ⟨pb, rfl⟩ : ∃ pb, pb = pb0 := ⟨_, rfl⟩
 generalize w.alloc (.cells #[.int .u64 (W64 x0), .int .u64 (W64 x1), .int .u64 (W64 x2), .int .u64 (W64 x3)] 49) = w1 at hF1 hR1 h1 cc g2 ⊢
 refine wp_region_seq (by kernel_rfl) (fun w' => Fr (fun x => x = sb) w1 w') (fun _ => false) [(0, 1), (1, 0), (2, 1), (3, 1), (4, 1), (5, 1), (6, 1), (7, 1), (8, 1), (9, 1), (10, 0), (11, 1), (12, 1)] (by kernel_rfl) (Fr.refl _ w1).drew ?_
 have hv0 : Fr No w1 w1.drew := (Fr.refl No w1).drew
 refine tp _ rfl rfl ?_; simp only [es1, es2, es3]
 refine wpSeq_next rfl rfl (fun K hK => ?_)
 go_wp2_with fail
 refine (made_h (h1.no hv0)).mono ?_
 rintro e w' ⟨rfl, rfl⟩
 refine hK.out _ _ (fun _ => (hv0.mono (fun _ _ f => f.elim))) ?_
 clear hK K
 iterate 8 refine tq _ rfl rfl (by intro w9 h9; have q0 := (hR1.fr h9 hps).c0; have q1 := (hR1.fr h9 hps).c1; have q2 := (hR1.fr h9 hps).c2; have q3 := (hR1.fr h9 hps).c3; have ch := h9.cell hnb cc; clear h9; go_simp; try with_reducible rfl) ?_; simp only [es1, es2, es3]
 refine wpSeq_next rfl rfl (fun K hK => ?_)
 go_wp2_with fail
 refine (Set_no (h1.no hv0).on.st (by omega) (by omega) (stateF x0 x1 x2 x3) lo2 _ n c hfit).mono ?_
 rintro e xhv1 ⟨rfl, hx⟩
 have hv1 := hv0.no hx
 clear hx
 refine hK.out _ _ (fun _ => (hv1.mono (fun _ _ f => f.elim))) ?_
 clear hK K
 iterate 2 refine tp _ rfl rfl ?_; simp only [es1, es2, es3]
 refine wpSeq_done ?_
 go_wp2_with fail
 go_ret
 exact ⟨rfl, hF1.no hv1⟩
end Go.Proofs.YtidlpihoafnobaaGreat.StX64
namespace Go.Proofs.YtidlpihoafnobaaGreat
set_option maxRecDepth 100000
open Go.RowKit
theorem hWrite_no (a : Option Addr) (n c : Nat) (w : World) : Calls Tryz.prog 24 #[.pointer none, .slice a n c] w (Gives (.int .i64 10) w) := by
 go_enter Tryz.func24, Tryz.ntmps24
 go_wp2_with (go_at_call 38; refine (hmade_no _).mono ?_; rintro e w' ⟨rfl, rfl⟩)
 go_ret
 exact ⟨rfl, rfl⟩
theorem hReset_no (w : World) : Calls Tryz.prog 26 #[.pointer none] w (Gives (.int .i64 10) w) := by
 go_enter Tryz.func26, Tryz.ntmps26
 go_wp2_with (go_at_call 38; refine (hmade_no _).mono ?_; rintro e w' ⟨rfl, rfl⟩)
 go_ret
 exact ⟨rfl, rfl⟩
theorem hSum_no (w : World) : Calls Tryz.prog 25 #[.pointer none] w (Gives (.tuple #[.slice none 0 0, .int .i64 10]) w) := by
 go_enter Tryz.func25, Tryz.ntmps25
 go_wp2_with (go_at_call 38; refine (hmade_no _).mono ?_; rintro e w' ⟨rfl, rfl⟩)
 go_ret2
 exact ⟨rfl, rfl⟩
theorem hClone_no (w : World) : Calls Tryz.prog 30 #[.pointer none] w (Gives (.pointer none) w) := by
 go_enter Tryz.func30, Tryz.ntmps30
 go_wp2_with (go_at_call 38; refine (hmade_no _).mono ?_; rintro e w' ⟨rfl, rfl⟩)
 go_ret
 exact ⟨rfl, rfl⟩
theorem hLanes_no (w : World) : Calls Tryz.prog 27 #[.pointer none] w (GivesNew (.tuple #[.agg #[.int .u64 0, .int .u64 0, .int .u64 0, .int .u64 0], .int .u64 0, .slice none 0 0]) w) := by
 go_enter Tryz.func27, Tryz.ntmps27
 go_wp2_with (go_at_call 38; refine (hmade_no _).mono ?_; rintro e w' ⟨rfl, rfl⟩)
 have hR := row4_new w 49 (.int .u64 0) (.int .u64 0) (.int .u64 0) (.int .u64 0)
 have hF1 : Fr No w (w.alloc (.cells #[.int .u64 0, .int .u64 0, .int .u64 0, .int .u64 0] 49)) := (Fr.refl No w).alloc _
 generalize w.alloc (.cells #[.int .u64 0, .int .u64 0, .int .u64 0, .int .u64 0] 49) = w1 at hF1 hR ⊢
 have cd0 := hR.c0
 have cd1 := hR.c1
 have cd2 := hR.c2
 have cd3 := hR.c3
 refine bodyPost_ret (v := .tuple #[.agg #[.int .u64 0, .int .u64 0, .int .u64 0, .int .u64 0], .int .u64 0, .slice none 0 0]) (by simp [results, Tryz.results27, go_sem, cd0, cd1, cd2, cd3]) rfl ?_
 exact ⟨rfl, hF1⟩
theorem hSet_no (x0 x1 x2 x3 : BitVec 64) (lo : BitVec 64) (a : Option Addr) (n c : Nat) (w : World) : Calls Tryz.prog 29 #[.pointer none, .agg #[.int .u64 (W64 x0), .int .u64 (W64 x1), .int .u64 (W64 x2), .int .u64 (W64 x3)], .int .u64 (W64 lo), .slice a n c] w (GivesNew (.int .i64 10) w) := by
 go_enter Tryz.func29, Tryz.ntmps29
 go_wp2_with (go_at_call 38; refine (hmade_no _).mono ?_; rintro e w' ⟨rfl, rfl⟩)
 go_ret
 exact ⟨rfl, (Fr.refl No w).alloc _⟩
theorem hKey_no (w : World) : Calls Tryz.prog 22 #[.pointer none] w (GivesNew (.agg #[.int .u64 0, .int .u64 0]) w) := by
 go_enter Tryz.func22, Tryz.ntmps22
 go_wp2_with (go_at_call 38; refine (hmade_no _).mono ?_; rintro e w' ⟨rfl, rfl⟩)
 have hR := row2_new w 24 (.int .u64 0) (.int .u64 0)
 have hF1 := (Fr.refl No w).alloc (.cells #[.int .u64 0, .int .u64 0] 24)
 generalize w.alloc (.cells #[.int .u64 0, .int .u64 0] 24) = w1 at hF1 hR ⊢
 have cd0 := hR.c0
 have cd1 := hR.c1
 refine bodyPost_ret (v := .agg #[.int .u64 0, .int .u64 0]) (by simp [results, Tryz.results22, go_sem, cd0, cd1]) rfl ?_
 exact ⟨rfl, hF1⟩
end Go.Proofs.YtidlpihoafnobaaGreat
namespace Go.Proofs.YtidlpihoafnobaaGreat.StM86
open Go.Proofs.YtidlpihoafnobaaGreat.StG32
set_option maxRecDepth 100000
open Go.RowKit
theorem HS.set_wrong {w0 w : World} {hb : Nat} {F : Nat → Prop} {k : Int} {kh kl : BitVec 64} {s : ST} {tl : Bytes} {lo : BitVec 64} (h : HS w0 w hb (F) k kh kl s tl lo) (x0 x1 x2 x3 lo2 : BitVec 64) (a : Option Addr) (n c : Nat) (hw : ¬ (RightP x0 x1 x2 x3 ∧ fitsB n lo2 16 = true)) :
 Calls Tryz.prog 29 #[.pointer (some ⟨hb, 0, none⟩), .agg #[.int .u64 (W64 x0), .int .u64 (W64 x1), .int .u64 (W64 x2), .int .u64 (W64 x3)], .int .u64 (W64 lo2), .slice a n c] w (fun e w' => e = .returned (.int .i64 5) ∧ Fr No w w') := by
 obtain ⟨ib, sb, tv, c6, c7, c8, c9, c10, c11, hr, hc, hL, rfl⟩ := h
 refine hSet_of hr.c3 270 (fun W => by kernel_rfl) (calls_enter Tryz.func270 (by kernel_rfl) (by kernel_rfl)) x0 x1 x2 x3 lo2 a n c false (F := Foot sb tv) (Q := fun w' => Fr No w w') (hL.on.con _ _ hr ⟨_, _, rfl, by decide⟩) (fun x hx => hL.lt x (.inr hx)) (fun W hW => ?_)
 by_cases hp : RightP x0 x1 x2 x3
 · refine (Set_unfit (hL.no hW) x0 x1 x2 x3 _ rfl lo2 a n c hp (by simpa [hp] using hw)).mono ?_
   rintro e w' ⟨rfl, hf⟩
   exact ⟨rfl, hW.no hf, hf.mono (fun x _ g => g.elim)⟩
 · refine (Set_wrong (hL.no hW) x0 x1 x2 x3 _ rfl lo2 a n c hp).mono ?_
   rintro e w' ⟨rfl, hf⟩
   exact ⟨rfl, hW.no hf, hf.mono (fun x _ g => g.elim)⟩
end Go.Proofs.YtidlpihoafnobaaGreat.StM86
namespace Go.Proofs.YtidlpihoafnobaaGreat.StX64
open Go.Proofs.YtidlpihoafnobaaGreat.StG64
set_option maxRecDepth 100000
open Go.RowKit
theorem HS.set_wrong {w0 w : World} {hb : Nat} {F : Nat → Prop} {k : Int} {kh kl : BitVec 64} {s : ST} {tl : Bytes} {lo : BitVec 64} (h : HS w0 w hb (F) k kh kl s tl lo) (x0 x1 x2 x3 lo2 : BitVec 64) (a : Option Addr) (n c : Nat) (hw : ¬ (RightP x0 x1 x2 x3 ∧ fitsB n lo2 32 = true)) :
 Calls Tryz.prog 29 #[.pointer (some ⟨hb, 0, none⟩), .agg #[.int .u64 (W64 x0), .int .u64 (W64 x1), .int .u64 (W64 x2), .int .u64 (W64 x3)], .int .u64 (W64 lo2), .slice a n c] w (fun e w' => e = .returned (.int .i64 5) ∧ Fr No w w') := by
 obtain ⟨ib, sb, tv, c6, c7, c8, c9, c10, c11, hr, hc, hL, rfl⟩ := h
 refine hSet_of hr.c3 293 (fun W => by kernel_rfl) (calls_enter Tryz.func293 (by kernel_rfl) (by kernel_rfl)) x0 x1 x2 x3 lo2 a n c false (F := Foot sb tv) (Q := fun w' => Fr No w w') (hL.on.con _ _ hr ⟨_, _, rfl, by decide⟩) (fun x hx => hL.lt x (.inr hx)) (fun W hW => ?_)
 by_cases hp : RightP x0 x1 x2 x3
 · refine (Set_unfit (hL.no hW) x0 x1 x2 x3 _ rfl lo2 a n c hp (by simpa [hp] using hw)).mono ?_
   rintro e w' ⟨rfl, hf⟩
   exact ⟨rfl, hW.no hf, hf.mono (fun x _ g => g.elim)⟩
 · refine (Set_wrong (hL.no hW) x0 x1 x2 x3 _ rfl lo2 a n c hp).mono ?_
   rintro e w' ⟨rfl, hf⟩
   exact ⟨rfl, hW.no hf, hf.mono (fun x _ g => g.elim)⟩
end Go.Proofs.YtidlpihoafnobaaGreat.StX64
