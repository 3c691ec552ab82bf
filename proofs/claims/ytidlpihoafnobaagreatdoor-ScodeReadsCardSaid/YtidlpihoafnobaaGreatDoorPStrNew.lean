/- SetG64 HashX64 StrIX64 HashSip StrISip SetM64 HashM64 SetM32 HashM32 StrRef StrIX32 StrIM86 StrIM64 StrIM32 StrAny StrNew -/
import Derived.Test.YtidlpihoafnobaaGreatDoorPHashX32Ax
import Derived.Test.YtidlpihoafnobaaGreatDoorPScoPlain
set_option linter.unusedVariables false
set_option linter.unusedSimpArgs false
namespace Go.Proofs.YtidlpihoafnobaaGreatDoor.StG64
set_option maxRecDepth 100000
open Go.RowKit
theorem Set_no {w : World} {sb size : Nat} {f s : ST} {q : QT} {tv : Value} {lo : BitVec 64} (hst : StreamAt w sb size f s q tv lo) (hz1 : 1 ≤ size) (hz2 : size ≤ 64) (s2 : ST) (lo2 : BitVec 64) (a : Option Addr) (n c : Nat) (hfit : fitsB n lo2 size = false) :
 Calls Tryz.prog 318 #[.pointer (some ⟨sb, 0, none⟩), .agg #[cS s2 0, cS s2 1, cS s2 2, cS s2 3], .int .u64 (W64 lo2), .slice a n c] w (GivesNew (.bool false) w) := by
 have hz := size_ne size hz1 hz2
 have hz' : ¬ BitVec.ofNat 64 size = 0#64 := by simpa using hz
 unfold fitsB at hfit
 have hfit' : (BitVec.ofNat 64 n != lo2 % BitVec.ofNat 64 size) = true := by simp [bne, hfit]
 have hfit2 : ¬ BitVec.ofNat 64 n = lo2 % BitVec.ofNat 64 size := by simpa using hfit
 have hst1 : StreamAt (w.alloc (.cells #[cS s2 0, cS s2 1, cS s2 2, cS s2 3] 31)) sb size f s q tv lo := hst.fr ((Fr.refl No w).alloc _) (fun h => h)
 have cz : (w.alloc (.cells #[cS s2 0, cS s2 1, cS s2 2, cS s2 3] 31)).cell? ⟨sb, 0, none⟩ = some (.int .i64 size) := hst1.cell 0 rfl
 go_enter Tryz.func318, Tryz.ntmps318
 go_wp2_with (go_at_call 240; refine (made_any hst1).mono ?_; rintro e w' ⟨rfl, rfl⟩)
 go_ret
 exact ⟨rfl, (Fr.refl _ _).alloc _⟩
end Go.Proofs.YtidlpihoafnobaaGreatDoor.StG64
namespace Go.Proofs.YtidlpihoafnobaaGreatDoor.StX64
set_option maxRecDepth 100000
open Go.Proofs.YtidlpihoafnobaaGreatDoor.StG64
open Go.RowKit
theorem Set_wrong {w0 w : World} {hb sb : Nat} {sd : BitVec 64} {s : ST} {tl : Bytes} {lo : BitVec 64} {tv : Value} (h : HLive w0 w hb sb sd s tl lo tv) (x0 x1 x2 x3 : BitVec 64) (lv : Value) (hlv : lv = .agg #[.int .u64 (W64 x0), .int .u64 (W64 x1), .int .u64 (W64 x2), .int .u64 (W64 x3)]) (lo2 : BitVec 64) (a : Option Addr) (n c : Nat) (hw : ¬ RightP x0 x1 x2 x3) : Calls Tryz.prog 316 #[.pointer (some ⟨hb, 0, none⟩), lv, .int .u64 (W64 lo2), .slice a n c] w (GivesNew (.bool false) w) := absurd trivial hw
set_option maxHeartbeats 400000 in
theorem Set_unfit {w0 w : World} {hb sb : Nat} {sd : BitVec 64} {s : ST} {tl : Bytes} {lo : BitVec 64} {tv : Value} (h : HLive w0 w hb sb sd s tl lo tv) (x0 x1 x2 x3 : BitVec 64) (lv : Value) (hlv : lv = .agg #[.int .u64 (W64 x0), .int .u64 (W64 x1), .int .u64 (W64 x2), .int .u64 (W64 x3)]) (lo2 : BitVec 64) (a : Option Addr) (n c : Nat) (hw : RightP x0 x1 x2 x3) (hfit : fitsB n lo2 32 = false) : Calls Tryz.prog 316 #[.pointer (some ⟨hb, 0, none⟩), lv, .int .u64 (W64 lo2), .slice a n c] w (GivesNew (.bool false) w) := by
 subst hlv
 have hF1 : Fr No w (w.alloc (.cells #[.int .u64 (W64 x0), .int .u64 (W64 x1), .int .u64 (W64 x2), .int .u64 (W64 x3)] 31)) := (Fr.refl No w).alloc _
 have hR1 := row4_new w 31 (.int .u64 (W64 x0)) (.int .u64 (W64 x1)) (.int .u64 (W64 x2)) (.int .u64 (W64 x3))
 have h1 := h.no hF1
 have cc := h1.cell
 obtain ⟨pb0, hpb0⟩ : ∃ pb0, pb0 = w.heap.size := ⟨_, rfl⟩
 have hHid := Lib.hid hpb0
 clear hpb0
 go_enter Tryz.func316, Tryz.ntmps316
 go_wp2_with fail
 have hpb0 := hHid.out
 clear hHid
 have g2 := hF1.size
 have hps : ¬ pb0 = sb := by have := h.lt sb (.inr (.inl rfl)); omega
 have hnb : ¬ hb = sb := fun e => h.ne (.inl e)
 rw [← hpb0] at hR1 ⊢
 clear hpb0
 obtain ⟨pb, rfl⟩ : ∃ pb, pb = pb0 := ⟨_, rfl⟩
 generalize w.alloc (.cells #[.int .u64 (W64 x0), .int .u64 (W64 x1), .int .u64 (W64 x2), .int .u64 (W64 x3)] 31) = w1 at hF1 hR1 h1 cc g2 ⊢
 refine wp_region_seq (by kernel_rfl) (fun w' => Fr (fun x => x = sb) w1 w') (fun _ => false) [(0, 1), (1, 0), (2, 1), (3, 1), (4, 1), (5, 1), (6, 1), (7, 1), (8, 1), (9, 1), (10, 0), (11, 1), (12, 1)] (by kernel_rfl) (Fr.refl _ w1).drew ?_
 have hv0 : Fr No w1 w1.drew := (Fr.refl No w1).drew
 refine tp _ rfl rfl ?_; simp only [es1, es2, es3]
 refine wpSeq_next rfl rfl (fun K hK => ?_)
 go_wp2_with fail
 refine (made_h (h1.no hv0)).mono ?_
 rintro e w' ⟨rfl, rfl⟩
 refine hK.out _ _ (fun _ => (hv0.mono (fun _ _ f => f.elim))) ?_
 clear hK K
 iterate 8 refine tq _ rfl rfl (by intro w9 h9; have q0 := (hR1.fr h9 hps).c0; have q1 := (hR1.fr h9 hps).c1; have q2 := (hR1.fr h9 hps).c2; have q3 := (hR1.fr h9 hps).c3; have ch := h9.cell hnb cc; clear h9; go_simp; try with_reducible rfl) ?_; simp only [es1, es2, es3]
 refine wpSeq_next rfl rfl (fun K hK => ?_)
 go_wp2_with fail
 refine (Set_no (h1.no hv0).on.st (by omega) (by omega) (stateF x0 x1 x2 x3) lo2 _ n c hfit).mono ?_
 rintro e xhv1 ⟨rfl, hx⟩
 have hv1 := hv0.no hx
 clear hx
 refine hK.out _ _ (fun _ => (hv1.mono (fun _ _ f => f.elim))) ?_
 clear hK K
 iterate 2 refine tp _ rfl rfl ?_; simp only [es1, es2, es3]
 refine wpSeq_done ?_
 go_wp2_with fail
 go_ret
 exact ⟨rfl, hF1.no hv1⟩
end Go.Proofs.YtidlpihoafnobaaGreatDoor.StX64
namespace Go.Proofs.YtidlpihoafnobaaGreatDoor.StX64
open Go.Proofs.YtidlpihoafnobaaGreatDoor.StG64
set_option maxRecDepth 100000
open Go.RowKit
theorem HS.set_wrong {w0 w : World} {hb : Nat} {F : Nat → Prop} {k : Int} {kh kl : BitVec 64} {s : ST} {tl : Bytes} {lo : BitVec 64} (h : HS w0 w hb (F) k kh kl s tl lo) (x0 x1 x2 x3 lo2 : BitVec 64) (a : Option Addr) (n c : Nat) (hw : ¬ (RightP x0 x1 x2 x3 ∧ fitsB n lo2 32 = true)) :
 Calls Tryz.prog 25 #[.pointer (some ⟨hb, 0, none⟩), .agg #[.int .u64 (W64 x0), .int .u64 (W64 x1), .int .u64 (W64 x2), .int .u64 (W64 x3)], .int .u64 (W64 lo2), .slice a n c] w (fun e w' => e = .returned (.int .i64 5) ∧ Fr No w w') := by
 obtain ⟨ib, sb, tv, c6, c7, c8, c9, c10, c11, hr, hc, hL, rfl⟩ := h
 refine hSet_of hr.c3 316 (fun W => by kernel_rfl) (calls_enter Tryz.func316 (by kernel_rfl) (by kernel_rfl)) x0 x1 x2 x3 lo2 a n c false (F := Foot sb tv) (Q := fun w' => Fr No w w') (hL.on.con _ _ hr ⟨_, _, rfl, by decide⟩) (fun x hx => hL.lt x (.inr hx)) (fun W hW => ?_)
 by_cases hp : RightP x0 x1 x2 x3
 · refine (Set_unfit (hL.no hW) x0 x1 x2 x3 _ rfl lo2 a n c hp (by simpa [hp] using hw)).mono ?_
   rintro e w' ⟨rfl, hf⟩
   exact ⟨rfl, hW.no hf, hf.mono (fun x _ g => g.elim)⟩
 · refine (Set_wrong (hL.no hW) x0 x1 x2 x3 _ rfl lo2 a n c hp).mono ?_
   rintro e w' ⟨rfl, hf⟩
   exact ⟨rfl, hW.no hf, hf.mono (fun x _ g => g.elim)⟩
end Go.Proofs.YtidlpihoafnobaaGreatDoor.StX64
namespace Go.Proofs.YtidlpihoafnobaaGreatDoor.StSip
set_option maxRecDepth 100000
open Go.Proofs.YtidlpihoafnobaaGreatDoor.StG64
open Go.RowKit
theorem Set_wrong {w0 w : World} {hb sb : Nat} {kd : Int} {kh kl : BitVec 64} {q : Nat} {s : ST} {tl : Bytes} {lo : BitVec 64} {tv : Value} (h : HLive w0 w hb sb kd kh kl q s tl lo tv) (x0 x1 x2 x3 : BitVec 64) (lv : Value) (hlv : lv = .agg #[.int .u64 (W64 x0), .int .u64 (W64 x1), .int .u64 (W64 x2), .int .u64 (W64 x3)]) (lo2 : BitVec 64) (a : Option Addr) (n c : Nat) (hw : ¬ RightP x0 x1 x2 x3) : Calls Tryz.prog 322 #[.pointer (some ⟨hb, 0, none⟩), lv, .int .u64 (W64 lo2), .slice a n c] w (GivesNew (.bool false) w) := absurd trivial hw
set_option maxHeartbeats 400000 in
theorem Set_unfit {w0 w : World} {hb sb : Nat} {kd : Int} {kh kl : BitVec 64} {q : Nat} {s : ST} {tl : Bytes} {lo : BitVec 64} {tv : Value} (h : HLive w0 w hb sb kd kh kl q s tl lo tv) (x0 x1 x2 x3 : BitVec 64) (lv : Value) (hlv : lv = .agg #[.int .u64 (W64 x0), .int .u64 (W64 x1), .int .u64 (W64 x2), .int .u64 (W64 x3)]) (lo2 : BitVec 64) (a : Option Addr) (n c : Nat) (hw : RightP x0 x1 x2 x3) (hfit : fitsB n lo2 8 = false) : Calls Tryz.prog 322 #[.pointer (some ⟨hb, 0, none⟩), lv, .int .u64 (W64 lo2), .slice a n c] w (GivesNew (.bool false) w) := by
 subst hlv
 have hF1 : Fr No w (w.alloc (.cells #[.int .u64 (W64 x0), .int .u64 (W64 x1), .int .u64 (W64 x2), .int .u64 (W64 x3)] 31)) := (Fr.refl No w).alloc _
 have hR1 := row4_new w 31 (.int .u64 (W64 x0)) (.int .u64 (W64 x1)) (.int .u64 (W64 x2)) (.int .u64 (W64 x3))
 have h1 := h.no hF1
 have cc := h1.cell
 obtain ⟨pb0, hpb0⟩ : ∃ pb0, pb0 = w.heap.size := ⟨_, rfl⟩
 have hHid := Lib.hid hpb0
 clear hpb0
 go_enter Tryz.func322, Tryz.ntmps322
 go_wp2_with fail
 have hpb0 := hHid.out
 clear hHid
 have g2 := hF1.size
 have hps : ¬ pb0 = sb := by have := h.lt sb (.inr (.inl rfl)); omega
 have hnb : ¬ hb = sb := fun e => h.ne (.inl e)
 rw [← hpb0] at hR1 ⊢
 clear hpb0
 obtain ⟨pb, rfl⟩ : ∃ pb, pb = pb0 := ⟨_, rfl⟩
 generalize w.alloc (.cells #[.int .u64 (W64 x0), .int .u64 (W64 x1), .int .u64 (W64 x2), .int .u64 (W64 x3)] 31) = w1 at hF1 hR1 h1 cc g2 ⊢
 refine wp_region_seq (by kernel_rfl) (fun w' => Fr (fun x => x = sb) w1 w') (fun _ => false) [(0, 1), (1, 0), (2, 1), (3, 1), (4, 1), (5, 1), (6, 1), (7, 1), (8, 1), (9, 1), (10, 0), (11, 1), (12, 1)] (by kernel_rfl) (Fr.refl _ w1).drew ?_
 have hv0 : Fr No w1 w1.drew := (Fr.refl No w1).drew
 refine tp _ rfl rfl ?_; simp only [es1, es2, es3]
 refine wpSeq_next rfl rfl (fun K hK => ?_)
 go_wp2_with fail
 refine (made_h (h1.no hv0)).mono ?_
 rintro e w' ⟨rfl, rfl⟩
 refine hK.out _ _ (fun _ => (hv0.mono (fun _ _ f => f.elim))) ?_
 clear hK K
 iterate 8 refine tq _ rfl rfl (by intro w9 h9; have q0 := (hR1.fr h9 hps).c0; have q1 := (hR1.fr h9 hps).c1; have q2 := (hR1.fr h9 hps).c2; have q3 := (hR1.fr h9 hps).c3; have ch := h9.cell hnb cc; clear h9; go_simp; try with_reducible rfl) ?_; simp only [es1, es2, es3]
 refine wpSeq_next rfl rfl (fun K hK => ?_)
 go_wp2_with fail
 refine (Set_no (h1.no hv0).on.st (by omega) (by omega) (stateF x0 x1 x2 x3) lo2 _ n c hfit).mono ?_
 rintro e xhv1 ⟨rfl, hx⟩
 have hv1 := hv0.no hx
 clear hx
 refine hK.out _ _ (fun _ => (hv1.mono (fun _ _ f => f.elim))) ?_
 clear hK K
 iterate 2 refine tp _ rfl rfl ?_; simp only [es1, es2, es3]
 refine wpSeq_done ?_
 go_wp2_with fail
 go_ret
 exact ⟨rfl, hF1.no hv1⟩
end Go.Proofs.YtidlpihoafnobaaGreatDoor.StSip
namespace Go.Proofs.YtidlpihoafnobaaGreatDoor.StSip
open Go.Proofs.YtidlpihoafnobaaGreatDoor.StG64
set_option maxRecDepth 100000
open Go.RowKit
theorem HS.set_wrong {w0 w : World} {hb : Nat} {F : Nat → Prop} {k : Int} {kh kl : BitVec 64} {s : ST} {tl : Bytes} {lo : BitVec 64} {sz : Nat} (h : HS w0 w hb (F) k kh kl s tl lo sz) (x0 x1 x2 x3 lo2 : BitVec 64) (a : Option Addr) (n c : Nat) (hw : ¬ (RightP x0 x1 x2 x3 ∧ fitsB n lo2 8 = true)) :
 Calls Tryz.prog 25 #[.pointer (some ⟨hb, 0, none⟩), .agg #[.int .u64 (W64 x0), .int .u64 (W64 x1), .int .u64 (W64 x2), .int .u64 (W64 x3)], .int .u64 (W64 lo2), .slice a n c] w (fun e w' => e = .returned (.int .i64 5) ∧ Fr No w w') := by
 obtain ⟨ib, sb, tv, c6, c7, c8, c9, c10, c11, q, c5, hr, hc, hL, rfl⟩ := h
 refine hSet_of hr.c3 322 (fun W => by kernel_rfl) (calls_enter Tryz.func322 (by kernel_rfl) (by kernel_rfl)) x0 x1 x2 x3 lo2 a n c false (F := Foot sb tv) (Q := fun w' => Fr No w w') (hL.on.con _ _ hr ⟨_, _, rfl, by decide⟩) (fun x hx => hL.lt x (.inr hx)) (fun W hW => ?_)
 by_cases hp : RightP x0 x1 x2 x3
 · refine (Set_unfit (hL.no hW) x0 x1 x2 x3 _ rfl lo2 a n c hp (by simpa [hp] using hw)).mono ?_
   rintro e w' ⟨rfl, hf⟩
   exact ⟨rfl, hW.no hf, hf.mono (fun x _ g => g.elim)⟩
 · refine (Set_wrong (hL.no hW) x0 x1 x2 x3 _ rfl lo2 a n c hp).mono ?_
   rintro e w' ⟨rfl, hf⟩
   exact ⟨rfl, hW.no hf, hf.mono (fun x _ g => g.elim)⟩
end Go.Proofs.YtidlpihoafnobaaGreatDoor.StSip
namespace Go.Proofs.YtidlpihoafnobaaGreatDoor.StM64
set_option maxRecDepth 100000
open Go.RowKit
theorem Set_no {w : World} {sb size : Nat} {f s : ST} {q : Nat} {tv : Value} {lo : BitVec 64} (hst : StreamAt w sb size f s q tv lo) (hz1 : 1 ≤ size) (hz2 : size ≤ 64) (s2 : ST) (lo2 : BitVec 64) (a : Option Addr) (n c : Nat) (hfit : fitsB n lo2 size = false) :
 Calls Tryz.prog 292 #[.pointer (some ⟨sb, 0, none⟩), .agg #[cS s2 0, cS s2 1], .int .u64 (W64 lo2), .slice a n c] w (GivesNew (.bool false) w) := by
 have hz := size_ne size hz1 hz2
 have hz' : ¬ BitVec.ofNat 64 size = 0#64 := by simpa using hz
 unfold fitsB at hfit
 have hfit' : (BitVec.ofNat 64 n != lo2 % BitVec.ofNat 64 size) = true := by simp [bne, hfit]
 have hfit2 : ¬ BitVec.ofNat 64 n = lo2 % BitVec.ofNat 64 size := by simpa using hfit
 have hst1 : StreamAt (w.alloc (.cells #[cS s2 0, cS s2 1] 208)) sb size f s q tv lo := hst.fr ((Fr.refl No w).alloc _) (fun h => h)
 have cz : (w.alloc (.cells #[cS s2 0, cS s2 1] 208)).cell? ⟨sb, 0, none⟩ = some (.int .i64 size) := hst1.cell 0 rfl
 go_enter Tryz.func292, Tryz.ntmps292
 go_wp2_with (go_at_call 206; refine (made_any hst1).mono ?_; rintro e w' ⟨rfl, rfl⟩)
 go_ret
 exact ⟨rfl, (Fr.refl _ _).alloc _⟩
end Go.Proofs.YtidlpihoafnobaaGreatDoor.StM64
namespace Go.Proofs.YtidlpihoafnobaaGreatDoor.StM64
set_option maxRecDepth 100000
open Go.RowKit
set_option maxHeartbeats 400000 in
theorem Set_wrong {w0 w : World} {hb sb : Nat} {sd : BitVec 32} {s : ST} {tl : Bytes} {lo : BitVec 64} {tv : Value} (h : HLive w0 w hb sb sd s tl lo tv) (x0 x1 x2 x3 : BitVec 64) (lv : Value) (hlv : lv = .agg #[.int .u64 (W64 x0), .int .u64 (W64 x1), .int .u64 (W64 x2), .int .u64 (W64 x3)]) (lo2 : BitVec 64) (a : Option Addr) (n c : Nat) (hw : ¬ RightP x0 x1 x2 x3) : Calls Tryz.prog 288 #[.pointer (some ⟨hb, 0, none⟩), lv, .int .u64 (W64 lo2), .slice a n c] w (GivesNew (.bool false) w) := by
 subst hlv
 have hF1 : Fr No w (w.alloc (.cells #[.int .u64 (W64 x0), .int .u64 (W64 x1), .int .u64 (W64 x2), .int .u64 (W64 x3)] 31)) := (Fr.refl No w).alloc _
 have hR1 := row4_new w 31 (.int .u64 (W64 x0)) (.int .u64 (W64 x1)) (.int .u64 (W64 x2)) (.int .u64 (W64 x3))
 have h1 := h.no hF1
 have cc := h1.cell
 obtain ⟨pb0, hpb0⟩ : ∃ pb0, pb0 = w.heap.size := ⟨_, rfl⟩
 have hHid := Lib.hid hpb0
 clear hpb0
 go_enter Tryz.func288, Tryz.ntmps288
 go_wp2_with fail
 have hpb0 := hHid.out
 clear hHid
 have g2 := hF1.size
 have hps : ¬ pb0 = sb := by have := h.lt sb (.inr (.inl rfl)); omega
 rw [← hpb0] at hR1 ⊢
 clear hpb0
 obtain ⟨pb, rfl⟩ : ∃ pb, pb = pb0 := ⟨_, rfl⟩
 generalize w.alloc (.cells #[.int .u64 (W64 x0), .int .u64 (W64 x1), .int .u64 (W64 x2), .int .u64 (W64 x3)] 31) = w1 at hF1 hR1 h1 cc g2 ⊢
 have hq : (0#64 == x2 && 0#64 == x3) = false := by
  cases hh : (0#64 == x2 && 0#64 == x3) with
  | false => rfl
  | true =>
   rw [Bool.and_eq_true, beq_iff_eq, beq_iff_eq] at hh
   exact absurd (show RightP x0 x1 x2 x3 from ⟨hh.1.symm, hh.2.symm⟩) hw
 refine rsq (by kernel_rfl) [(0, 1), (1, 0), (2, 1), (3, 1), (4, 1), (7, 1), (5, 0), (6, 0), (8, 1), (9, 1)] (by kernel_rfl) ?_
 have hv0 : Fr No w1 w1.drew := (Fr.refl No w1).drew
 refine tp _ rfl rfl ?_; simp only [es1, es2, es3]
 refine wpSeq_next rfl rfl (fun K hK => ?_)
 go_wp2_with fail
 refine (made_h (h1.no hv0)).mono ?_
 rintro e w' ⟨rfl, rfl⟩
 refine hK.out _ _ (fun _ => hv0) ?_
 clear hK K
 iterate 4 refine tq _ rfl rfl (by intro w9 h9; have q0 := (hR1.no h9).c0; have q1 := (hR1.no h9).c1; have q2 := (hR1.no h9).c2; have q3 := (hR1.no h9).c3; have ch := (h1.no h9).cell; clear h9; go_simp; try with_reducible rfl) ?_; simp only [es1, es2, es3]
 refine wpSeq_next rfl rfl (fun K hK => ?_)
 go_wp2_with fail
 refine (two_any x0 x1 x2 x3 _).mono ?_
 rintro e xhv1 ⟨rfl, hx⟩
 have hv1 := hv0.no hx
 clear hx
 refine hK.out _ _ (fun _ => hv1) ?_
 clear hK K
 refine wpSeq_next rfl rfl (fun K hK => ?_)
 go_wp2_with fail
 refine (four_any (stateF x0 x1 x2 x3) _).mono ?_
 rintro e xhv2 ⟨rfl, hx⟩
 have hv2 := hv1.no hx
 clear hx
 rw [lanesV_state]
 refine hK.out _ _ (fun _ => hv2) ?_
 clear hK K
 iterate 2 refine tp _ rfl rfl ?_; simp only [es1, es2, es3]
 refine wpSeq_done ?_
 go_wp2_with fail
 go_ret
 exact ⟨rfl, hF1.no hv2⟩
set_option maxHeartbeats 400000 in
theorem Set_unfit {w0 w : World} {hb sb : Nat} {sd : BitVec 32} {s : ST} {tl : Bytes} {lo : BitVec 64} {tv : Value} (h : HLive w0 w hb sb sd s tl lo tv) (x0 x1 x2 x3 : BitVec 64) (lv : Value) (hlv : lv = .agg #[.int .u64 (W64 x0), .int .u64 (W64 x1), .int .u64 (W64 x2), .int .u64 (W64 x3)]) (lo2 : BitVec 64) (a : Option Addr) (n c : Nat) (hw : RightP x0 x1 x2 x3) (hfit : fitsB n lo2 16 = false) : Calls Tryz.prog 288 #[.pointer (some ⟨hb, 0, none⟩), lv, .int .u64 (W64 lo2), .slice a n c] w (GivesNew (.bool false) w) := by
 subst hlv
 have hF1 : Fr No w (w.alloc (.cells #[.int .u64 (W64 x0), .int .u64 (W64 x1), .int .u64 (W64 x2), .int .u64 (W64 x3)] 31)) := (Fr.refl No w).alloc _
 have hR1 := row4_new w 31 (.int .u64 (W64 x0)) (.int .u64 (W64 x1)) (.int .u64 (W64 x2)) (.int .u64 (W64 x3))
 have h1 := h.no hF1
 have cc := h1.cell
 obtain ⟨pb0, hpb0⟩ : ∃ pb0, pb0 = w.heap.size := ⟨_, rfl⟩
 have hHid := Lib.hid hpb0
 clear hpb0
 go_enter Tryz.func288, Tryz.ntmps288
 go_wp2_with fail
 have hpb0 := hHid.out
 clear hHid
 have g2 := hF1.size
 have hps : ¬ pb0 = sb := by have := h.lt sb (.inr (.inl rfl)); omega
 rw [← hpb0] at hR1 ⊢
 clear hpb0
 obtain ⟨pb, rfl⟩ : ∃ pb, pb = pb0 := ⟨_, rfl⟩
 generalize w.alloc (.cells #[.int .u64 (W64 x0), .int .u64 (W64 x1), .int .u64 (W64 x2), .int .u64 (W64 x3)] 31) = w1 at hF1 hR1 h1 cc g2 ⊢
 have hq : (0#64 == x2 && 0#64 == x3) = true := by
  obtain ⟨e2, e3⟩ := hw
  rw [e2, e3]
  rfl
 refine rsq (by kernel_rfl) [(0, 1), (1, 0), (2, 1), (3, 1), (4, 1), (7, 1), (5, 0), (6, 0), (8, 1), (9, 1)] (by kernel_rfl) ?_
 have hv0 : Fr No w1 w1.drew := (Fr.refl No w1).drew
 refine tp _ rfl rfl ?_; simp only [es1, es2, es3]
 refine wpSeq_next rfl rfl (fun K hK => ?_)
 go_wp2_with fail
 refine (made_h (h1.no hv0)).mono ?_
 rintro e w' ⟨rfl, rfl⟩
 refine hK.out _ _ (fun _ => hv0) ?_
 clear hK K
 iterate 4 refine tq _ rfl rfl (by intro w9 h9; have q0 := (hR1.no h9).c0; have q1 := (hR1.no h9).c1; have q2 := (hR1.no h9).c2; have q3 := (hR1.no h9).c3; have ch := (h1.no h9).cell; clear h9; go_simp; try with_reducible rfl) ?_; simp only [es1, es2, es3]
 refine wpSeq_next rfl rfl (fun K hK => ?_)
 go_wp2_with fail
 refine (two_any x0 x1 x2 x3 _).mono ?_
 rintro e xhv1 ⟨rfl, hx⟩
 have hv1 := hv0.no hx
 clear hx
 refine hK.out _ _ (fun _ => hv1) ?_
 clear hK K
 refine wpSeq_next rfl rfl (fun K hK => ?_)
 go_wp2_with fail
 refine (four_any (stateF x0 x1 x2 x3) _).mono ?_
 rintro e xhv2 ⟨rfl, hx⟩
 have hv2 := hv1.no hx
 clear hx
 rw [lanesV_state]
 refine hK.out _ _ (fun _ => hv2) ?_
 clear hK K
 iterate 2 refine tp _ rfl rfl ?_; simp only [es1, es2, es3]
 refine wpSeq_done ?_
 go_wp2_with fail
 have h2 := h1.no hv2
 have hR2 := hR1.no hv2
 have hF2 := hF1.no hv2
 generalize xhv2 = w2 at h2 hR2 hF2 ⊢
 clear hR1 hv0 cc hv1 hv2
 refine rsq (by kernel_rfl) [(0, 1), (1, 1), (2, 1), (3, 1), (4, 1), (6, 1), (7, 1), (5, 0), (8, 0), (9, 1)] (by kernel_rfl) ?_
 have hv0 : Fr No w2 w2.drew := (Fr.refl No w2).drew
 iterate 7 refine tq _ rfl rfl (by intro w9 h9; have q0 := (hR2.no h9).c0; have q1 := (hR2.no h9).c1; have q2 := (hR2.no h9).c2; have q3 := (hR2.no h9).c3; have ch := (h2.no h9).cell; clear h9; go_simp; try with_reducible rfl) ?_; simp only [es1, es2, es3]
 refine wpSeq_next rfl rfl (fun K hK => ?_)
 go_wp2_with fail
 refine (two_any x0 x1 x2 x3 _).mono ?_
 rintro e xhv1 ⟨rfl, hx⟩
 have hv1 := hv0.no hx
 clear hx
 refine hK.out _ _ (fun _ => hv1) ?_
 clear hK K
 refine wpSeq_next rfl rfl (fun K hK => ?_)
 go_wp2_with fail
 refine (Set_no (h2.no hv1).on.st (by omega) (by omega) (stateF x0 x1 x2 x3) lo2 _ n c hfit).mono ?_
 rintro e xhv2 ⟨rfl, hx⟩
 have hv2 := hv1.no hx
 clear hx
 refine hK.out _ _ (fun _ => hv2) ?_
 clear hK K
 refine tp _ rfl rfl ?_; simp only [es1, es2, es3]
 refine wpSeq_done ?_
 go_wp2_with fail
 go_ret
 exact ⟨rfl, hF2.no hv2⟩
end Go.Proofs.YtidlpihoafnobaaGreatDoor.StM64
namespace Go.Proofs.YtidlpihoafnobaaGreatDoor.StM32
set_option maxRecDepth 100000
open Go.RowKit
theorem Set_no {w : World} {sb size : Nat} {f s : ST} {q : Nat} {tv : Value} {lo : BitVec 64} (hst : StreamAt w sb size f s q tv lo) (hz1 : 1 ≤ size) (hz2 : size ≤ 64) (s2 : ST) (lo2 : BitVec 64) (a : Option Addr) (n c : Nat) (hfit : fitsB n lo2 size = false) :
 Calls Tryz.prog 277 #[.pointer (some ⟨sb, 0, none⟩), (.int .u32 (W32 s2)), .int .u64 (W64 lo2), .slice a n c] w (GivesNew (.bool false) w) := by
 have hz := size_ne size hz1 hz2
 have hz' : ¬ BitVec.ofNat 64 size = 0#64 := by simpa using hz
 unfold fitsB at hfit
 have hfit' : (BitVec.ofNat 64 n != lo2 % BitVec.ofNat 64 size) = true := by simp [bne, hfit]
 have hfit2 : ¬ BitVec.ofNat 64 n = lo2 % BitVec.ofNat 64 size := by simpa using hfit
 have hst1 : StreamAt w sb size f s q tv lo := hst
 have cz : w.cell? ⟨sb, 0, none⟩ = some (.int .i64 size) := hst1.cell 0 rfl
 go_enter Tryz.func277, Tryz.ntmps277
 go_wp2_with (go_at_call 185; refine (made_any hst1).mono ?_; rintro e w' ⟨rfl, rfl⟩)
 go_ret
 exact ⟨rfl, Fr.refl _ _⟩
end Go.Proofs.YtidlpihoafnobaaGreatDoor.StM32
namespace Go.Proofs.YtidlpihoafnobaaGreatDoor.StM32
set_option maxRecDepth 100000
open Go.RowKit
theorem Set_wrong {w0 w : World} {hb sb : Nat} {sd : BitVec 32} {s : ST} {tl : Bytes} {lo : BitVec 64} {tv : Value} (h : HLive w0 w hb sb sd s tl lo tv) (x0 x1 x2 x3 : BitVec 64) (lv : Value) (hlv : lv = .agg #[.int .u64 (W64 x0), .int .u64 (W64 x1), .int .u64 (W64 x2), .int .u64 (W64 x3)]) (lo2 : BitVec 64) (a : Option Addr) (n c : Nat) (hw : ¬ RightP x0 x1 x2 x3) : Calls Tryz.prog 275 #[.pointer (some ⟨hb, 0, none⟩), lv, .int .u64 (W64 lo2), .slice a n c] w (GivesNew (.bool false) w) := by
 subst hlv
 have hF1 : Fr No w (w.alloc (.cells #[.int .u64 (W64 x0), .int .u64 (W64 x1), .int .u64 (W64 x2), .int .u64 (W64 x3)] 31)) := (Fr.refl No w).alloc _
 have hR1 := row4_new w 31 (.int .u64 (W64 x0)) (.int .u64 (W64 x1)) (.int .u64 (W64 x2)) (.int .u64 (W64 x3))
 have h1 := h.no hF1
 have cc := h1.cell
 unfold RightP at hw
 by_cases hA : (x1 = 0#64 ∧ x2 = 0#64) ∧ x3 = 0#64
 · obtain ⟨⟨rfl, rfl⟩, rfl⟩ := hA
   have hB : ¬ x0 / 4294967296#64 = 0#64 := fun e => hw ⟨rfl, rfl, rfl, e⟩
   have hB2 : (x0 / 4294967296#64 == 0#64) = false := by simpa using hB
   have hB3 : (x0 / 4294967296#64 != 0#64) = true := by simp [bne, hB2]
   go_enter Tryz.func275, Tryz.ntmps275
   go_wp2_with (go_at_call 119; refine (made_h h1).mono ?_; rintro e w' ⟨rfl, rfl⟩)
   go_ret
   exact ⟨rfl, hF1⟩
 · have hAb : (!(x1 == 0#64) || !(x2 == 0#64) || !(x3 == 0#64)) = true := by
    by_cases e1 : x1 = 0#64 <;> by_cases e2 : x2 = 0#64 <;> by_cases e3 : x3 = 0#64 <;> simp_all
   clear hA hw
   go_enter Tryz.func275, Tryz.ntmps275
   go_wp2_with (go_at_call 119; refine (made_h h1).mono ?_; rintro e w' ⟨rfl, rfl⟩)
   go_ret
   exact ⟨rfl, hF1⟩
theorem Set_unfit {w0 w : World} {hb sb : Nat} {sd : BitVec 32} {s : ST} {tl : Bytes} {lo : BitVec 64} {tv : Value} (h : HLive w0 w hb sb sd s tl lo tv) (x0 x1 x2 x3 : BitVec 64) (lv : Value) (hlv : lv = .agg #[.int .u64 (W64 x0), .int .u64 (W64 x1), .int .u64 (W64 x2), .int .u64 (W64 x3)]) (lo2 : BitVec 64) (a : Option Addr) (n c : Nat) (hw : RightP x0 x1 x2 x3) (hfit : fitsB n lo2 4 = false) : Calls Tryz.prog 275 #[.pointer (some ⟨hb, 0, none⟩), lv, .int .u64 (W64 lo2), .slice a n c] w (GivesNew (.bool false) w) := by
 obtain ⟨rfl, rfl, rfl, hB⟩ := hw
 subst hlv
 have hF1 : Fr No w (w.alloc (.cells #[.int .u64 (W64 x0), .int .u64 (W64 0#64), .int .u64 (W64 0#64), .int .u64 (W64 0#64)] 31)) := (Fr.refl No w).alloc _
 have hR1 := row4_new w 31 (.int .u64 (W64 x0)) (.int .u64 (W64 0#64)) (.int .u64 (W64 0#64)) (.int .u64 (W64 0#64))
 have h1 := h.no hF1
 have cc := h1.cell
 have hB2 : (x0 / 4294967296#64 == 0#64) = true := by simpa using hB
 have hB3 : (x0 / 4294967296#64 != 0#64) = false := by simp [bne, hB2]
 clear hB
 go_enter Tryz.func275, Tryz.ntmps275
 go_wp2_with (go_at_call 119; refine (made_h h1).mono ?_; rintro e w' ⟨rfl, rfl⟩)
 refine (Set_no h1.on.st (by omega) (by omega) (x0.setWidth 32) lo2 _ n c hfit).mono ?_
 rintro e w2 ⟨rfl, hf⟩
 clear cc
 go_wp2_with fail
 go_ret
 exact ⟨rfl, hF1.no hf⟩
end Go.Proofs.YtidlpihoafnobaaGreatDoor.StM32
namespace Go.Proofs.YtidlpihoafnobaaGreatDoor
set_option maxRecDepth 100000
open Go.RowKit
theorem refBlock_any (k : Int) (w : World) : Calls Tryz.prog 56 #[.int .i64 k] w (GivesNew (.int .i64 (blockN k)) w) := by
 by_cases hk : KindOk k
 · rcases hk with rfl | rfl | rfl | rfl | rfl | rfl | rfl | rfl
   · have hv : blockN 1 = 4 := rfl
     rw [hv]
     clear hv
     go_enter Tryz.func56, Tryz.ntmps56
     go_wp2_with fail
     go_ret
     exact ⟨rfl, (Fr.refl No w).alloc _⟩
   · have hv : blockN 2 = 16 := rfl
     rw [hv]
     clear hv
     go_enter Tryz.func56, Tryz.ntmps56
     go_wp2_with fail
     go_ret
     exact ⟨rfl, (Fr.refl No w).alloc _⟩
   · have hv : blockN 3 = 16 := rfl
     rw [hv]
     clear hv
     go_enter Tryz.func56, Tryz.ntmps56
     go_wp2_with fail
     go_ret
     exact ⟨rfl, (Fr.refl No w).alloc _⟩
   · have hv : blockN 4 = 16 := rfl
     rw [hv]
     clear hv
     go_enter Tryz.func56, Tryz.ntmps56
     go_wp2_with fail
     go_ret
     exact ⟨rfl, (Fr.refl No w).alloc _⟩
   · have hv : blockN 5 = 32 := rfl
     rw [hv]
     clear hv
     go_enter Tryz.func56, Tryz.ntmps56
     go_wp2_with fail
     go_ret
     exact ⟨rfl, (Fr.refl No w).alloc _⟩
   · have hv : blockN 6 = 8 := rfl
     rw [hv]
     clear hv
     go_enter Tryz.func56, Tryz.ntmps56
     go_wp2_with fail
     go_ret
     exact ⟨rfl, (Fr.refl No w).alloc _⟩
   · have hv : blockN 7 = 8 := rfl
     rw [hv]
     clear hv
     go_enter Tryz.func56, Tryz.ntmps56
     go_wp2_with fail
     go_ret
     exact ⟨rfl, (Fr.refl No w).alloc _⟩
   · have hv : blockN 8 = 8 := rfl
     rw [hv]
     clear hv
     go_enter Tryz.func56, Tryz.ntmps56
     go_wp2_with fail
     go_ret
     exact ⟨rfl, (Fr.refl No w).alloc _⟩
 · have hv : blockN k = 0 := by
    unfold blockN
    have h := kindOk_of k hk
    rw [if_neg (by omega)]; rw [if_neg (by omega)]; rw [if_neg (by omega)]; rw [if_neg (by omega)]; rw [if_neg (by omega)]; rw [if_neg (by omega)]; rw [if_neg (by omega)]; rw [if_neg (by omega)]; try rfl
   rw [hv]
   clear hv
   rcases kindOk_of k hk with i1 | i1
   · clear hk
     go_enter Tryz.func56, Tryz.ntmps56
     go_wp2_with fail
     go_ret
     exact ⟨rfl, Fr.refl No w⟩
   · have i2 : ¬ k < 1 := by omega
     clear hk
     go_enter Tryz.func56, Tryz.ntmps56
     go_wp2_with fail
     go_ret
     exact ⟨rfl, Fr.refl No w⟩
end Go.Proofs.YtidlpihoafnobaaGreatDoor
namespace Go.Proofs.YtidlpihoafnobaaGreatDoor.StX32
open Go.Proofs.YtidlpihoafnobaaGreatDoor.StG32
set_option maxRecDepth 100000
open Go.RowKit
theorem HS.set_wrong {w0 w : World} {hb : Nat} {F : Nat → Prop} {k : Int} {kh kl : BitVec 64} {s : ST} {tl : Bytes} {lo : BitVec 64} (h : HS w0 w hb (F) k kh kl s tl lo) (x0 x1 x2 x3 lo2 : BitVec 64) (a : Option Addr) (n c : Nat) (hw : ¬ (RightP x0 x1 x2 x3 ∧ fitsB n lo2 16 = true)) :
 Calls Tryz.prog 25 #[.pointer (some ⟨hb, 0, none⟩), .agg #[.int .u64 (W64 x0), .int .u64 (W64 x1), .int .u64 (W64 x2), .int .u64 (W64 x3)], .int .u64 (W64 lo2), .slice a n c] w (fun e w' => e = .returned (.int .i64 5) ∧ Fr No w w') := by
 obtain ⟨ib, sb, tv, c6, c7, c8, c9, c10, c11, hr, hc, hL, rfl⟩ := h
 refine hSet_of hr.c3 296 (fun W => by kernel_rfl) (calls_enter Tryz.func296 (by kernel_rfl) (by kernel_rfl)) x0 x1 x2 x3 lo2 a n c false (F := Foot sb tv) (Q := fun w' => Fr No w w') (hL.on.con _ _ hr ⟨_, _, rfl, by decide⟩) (fun x hx => hL.lt x (.inr hx)) (fun W hW => ?_)
 by_cases hp : RightP x0 x1 x2 x3
 · refine (Set_unfit (hL.no hW) x0 x1 x2 x3 _ rfl lo2 a n c hp (by simpa [hp] using hw)).mono ?_
   rintro e w' ⟨rfl, hf⟩
   exact ⟨rfl, hW.no hf, hf.mono (fun x _ g => g.elim)⟩
 · refine (Set_wrong (hL.no hW) x0 x1 x2 x3 _ rfl lo2 a n c hp).mono ?_
   rintro e w' ⟨rfl, hf⟩
   exact ⟨rfl, hW.no hf, hf.mono (fun x _ g => g.elim)⟩
end Go.Proofs.YtidlpihoafnobaaGreatDoor.StX32
namespace Go.Proofs.YtidlpihoafnobaaGreatDoor.StM86
open Go.Proofs.YtidlpihoafnobaaGreatDoor.StG32
set_option maxRecDepth 100000
open Go.RowKit
theorem HS.set_wrong {w0 w : World} {hb : Nat} {F : Nat → Prop} {k : Int} {kh kl : BitVec 64} {s : ST} {tl : Bytes} {lo : BitVec 64} (h : HS w0 w hb (F) k kh kl s tl lo) (x0 x1 x2 x3 lo2 : BitVec 64) (a : Option Addr) (n c : Nat) (hw : ¬ (RightP x0 x1 x2 x3 ∧ fitsB n lo2 16 = true)) :
 Calls Tryz.prog 25 #[.pointer (some ⟨hb, 0, none⟩), .agg #[.int .u64 (W64 x0), .int .u64 (W64 x1), .int .u64 (W64 x2), .int .u64 (W64 x3)], .int .u64 (W64 lo2), .slice a n c] w (fun e w' => e = .returned (.int .i64 5) ∧ Fr No w w') := by
 obtain ⟨ib, sb, tv, c6, c7, c8, c9, c10, c11, hr, hc, hL, rfl⟩ := h
 refine hSet_of hr.c3 281 (fun W => by kernel_rfl) (calls_enter Tryz.func281 (by kernel_rfl) (by kernel_rfl)) x0 x1 x2 x3 lo2 a n c false (F := Foot sb tv) (Q := fun w' => Fr No w w') (hL.on.con _ _ hr ⟨_, _, rfl, by decide⟩) (fun x hx => hL.lt x (.inr hx)) (fun W hW => ?_)
 by_cases hp : RightP x0 x1 x2 x3
 · refine (Set_unfit (hL.no hW) x0 x1 x2 x3 _ rfl lo2 a n c hp (by simpa [hp] using hw)).mono ?_
   rintro e w' ⟨rfl, hf⟩
   exact ⟨rfl, hW.no hf, hf.mono (fun x _ g => g.elim)⟩
 · refine (Set_wrong (hL.no hW) x0 x1 x2 x3 _ rfl lo2 a n c hp).mono ?_
   rintro e w' ⟨rfl, hf⟩
   exact ⟨rfl, hW.no hf, hf.mono (fun x _ g => g.elim)⟩
end Go.Proofs.YtidlpihoafnobaaGreatDoor.StM86
namespace Go.Proofs.YtidlpihoafnobaaGreatDoor.StM64
set_option maxRecDepth 100000
open Go.RowKit
theorem HS.set_wrong {w0 w : World} {hb : Nat} {F : Nat → Prop} {k : Int} {kh kl : BitVec 64} {s : ST} {tl : Bytes} {lo : BitVec 64} (h : HS w0 w hb (F) k kh kl s tl lo) (x0 x1 x2 x3 lo2 : BitVec 64) (a : Option Addr) (n c : Nat) (hw : ¬ (RightP x0 x1 x2 x3 ∧ fitsB n lo2 16 = true)) :
 Calls Tryz.prog 25 #[.pointer (some ⟨hb, 0, none⟩), .agg #[.int .u64 (W64 x0), .int .u64 (W64 x1), .int .u64 (W64 x2), .int .u64 (W64 x3)], .int .u64 (W64 lo2), .slice a n c] w (fun e w' => e = .returned (.int .i64 5) ∧ Fr No w w') := by
 obtain ⟨ib, sb, tv, c6, c7, c8, c9, c10, c11, hr, hc, hL, rfl⟩ := h
 refine hSet_of hr.c3 288 (fun W => by kernel_rfl) (calls_enter Tryz.func288 (by kernel_rfl) (by kernel_rfl)) x0 x1 x2 x3 lo2 a n c false (F := Foot sb tv) (Q := fun w' => Fr No w w') (hL.on.con _ _ hr ⟨_, _, rfl, by decide⟩) (fun x hx => hL.lt x (.inr hx)) (fun W hW => ?_)
 by_cases hp : RightP x0 x1 x2 x3
 · refine (Set_unfit (hL.no hW) x0 x1 x2 x3 _ rfl lo2 a n c hp (by simpa [hp] using hw)).mono ?_
   rintro e w' ⟨rfl, hf⟩
   exact ⟨rfl, hW.no hf, hf.mono (fun x _ g => g.elim)⟩
 · refine (Set_wrong (hL.no hW) x0 x1 x2 x3 _ rfl lo2 a n c hp).mono ?_
   rintro e w' ⟨rfl, hf⟩
   exact ⟨rfl, hW.no hf, hf.mono (fun x _ g => g.elim)⟩
end Go.Proofs.YtidlpihoafnobaaGreatDoor.StM64
namespace Go.Proofs.YtidlpihoafnobaaGreatDoor.StM32
set_option maxRecDepth 100000
open Go.RowKit
theorem HS.set_wrong {w0 w : World} {hb : Nat} {F : Nat → Prop} {k : Int} {kh kl : BitVec 64} {s : ST} {tl : Bytes} {lo : BitVec 64} (h : HS w0 w hb (F) k kh kl s tl lo) (x0 x1 x2 x3 lo2 : BitVec 64) (a : Option Addr) (n c : Nat) (hw : ¬ (RightP x0 x1 x2 x3 ∧ fitsB n lo2 4 = true)) :
 Calls Tryz.prog 25 #[.pointer (some ⟨hb, 0, none⟩), .agg #[.int .u64 (W64 x0), .int .u64 (W64 x1), .int .u64 (W64 x2), .int .u64 (W64 x3)], .int .u64 (W64 lo2), .slice a n c] w (fun e w' => e = .returned (.int .i64 5) ∧ Fr No w w') := by
 obtain ⟨ib, sb, tv, c6, c7, c8, c9, c10, c11, hr, hc, hL, rfl⟩ := h
 refine hSet_of hr.c3 275 (fun W => by kernel_rfl) (calls_enter Tryz.func275 (by kernel_rfl) (by kernel_rfl)) x0 x1 x2 x3 lo2 a n c false (F := Foot sb tv) (Q := fun w' => Fr No w w') (hL.on.con _ _ hr ⟨_, _, rfl, by decide⟩) (fun x hx => hL.lt x (.inr hx)) (fun W hW => ?_)
 by_cases hp : RightP x0 x1 x2 x3
 · refine (Set_unfit (hL.no hW) x0 x1 x2 x3 _ rfl lo2 a n c hp (by simpa [hp] using hw)).mono ?_
   rintro e w' ⟨rfl, hf⟩
   exact ⟨rfl, hW.no hf, hf.mono (fun x _ g => g.elim)⟩
 · refine (Set_wrong (hL.no hW) x0 x1 x2 x3 _ rfl lo2 a n c hp).mono ?_
   rintro e w' ⟨rfl, hf⟩
   exact ⟨rfl, hW.no hf, hf.mono (fun x _ g => g.elim)⟩
end Go.Proofs.YtidlpihoafnobaaGreatDoor.StM32
namespace Go.Proofs.YtidlpihoafnobaaGreatDoor
set_option maxRecDepth 100000
open Go.RowKit
theorem HSAny.set_wrong {w0 w : World} {hb : Nat} {F : Nat → Prop} {k : Int} {kh kl : BitVec 64} {s : HSt} {tl : Bytes} {lo : BitVec 64} (h : HSAny w0 w hb F k kh kl s tl lo) (x : L4) (lo2 : BitVec 64) (a : Option Addr) (n c : Nat) (hw : ¬ (RightS k x ∧ FitS k n lo2)) :
 Calls Tryz.prog 25 #[.pointer (some ⟨hb, 0, none⟩), .agg #[.int .u64 (W64 x.1), .int .u64 (W64 x.2.1), .int .u64 (W64 x.2.2.1), .int .u64 (W64 x.2.2.2)], .int .u64 (W64 lo2), .slice a n c] w (fun e w' => e = .returned (.int .i64 5) ∧ Fr No w w') := by
 cases s with
 | m32 s =>
  obtain ⟨hk, h⟩ := h
  subst hk
  rw [RightS_m32, fit_m32] at hw
  exact h.set_wrong x.1 x.2.1 x.2.2.1 x.2.2.2 lo2 a n c hw
 | m86 s =>
  obtain ⟨hk, h⟩ := h
  subst hk
  rw [RightS_m86, fit_m86] at hw
  exact h.set_wrong x.1 x.2.1 x.2.2.1 x.2.2.2 lo2 a n c hw
 | m64 s =>
  obtain ⟨hk, h⟩ := h
  subst hk
  rw [RightS_m64, fit_m64] at hw
  exact h.set_wrong x.1 x.2.1 x.2.2.1 x.2.2.2 lo2 a n c hw
 | x32 s =>
  obtain ⟨hk, h⟩ := h
  subst hk
  rw [RightS_x32, fit_x32] at hw
  exact h.set_wrong x.1 x.2.1 x.2.2.1 x.2.2.2 lo2 a n c hw
 | x64 s =>
  obtain ⟨hk, h⟩ := h
  subst hk
  rw [RightS_x64, fit_x64] at hw
  exact h.set_wrong x.1 x.2.1 x.2.2.1 x.2.2.2 lo2 a n c hw
 | sip s =>
  obtain ⟨hk, h⟩ := h
  rw [RightS_sip hk, fit_sip hk] at hw
  exact h.set_wrong x.1 x.2.1 x.2.2.1 x.2.2.2 lo2 a n c hw
end Go.Proofs.YtidlpihoafnobaaGreatDoor
namespace Go.Proofs.YtidlpihoafnobaaGreatDoor
set_option maxRecDepth 100000
open Go.RowKit
theorem New_no {k : Int} {kh kl : BitVec 64} (hc : ¬ checkN k kh kl = 0) (w : World) : Calls Tryz.prog 13 #[.int .i64 k, .agg #[.int .u64 (W64 kh), .int .u64 (W64 kl)]] w (GivesNew (.tuple #[.pointer none, .int .i64 (checkN k kh kl)]) w) := by
 have hC := Check_any k kh kl
 generalize checkN k kh kl = z at hC hc ⊢
 have hU := row2_new w 30 (.int .u64 (W64 kh)) (.int .u64 (W64 kl))
 have hF := (Fr.refl No w).alloc (.cells #[.int .u64 (W64 kh), .int .u64 (W64 kl)] 30)
 have u0 := hU.c0
 have u1 := hU.c1
 go_enter Tryz.func13, Tryz.ntmps13
 go_wp2_with fail
 refine (hC _).mono ?_
 rintro e w1 ⟨rfl, hf⟩
 go_wp2_with fail
 go_ret2
 exact ⟨rfl, hF.no hf⟩
end Go.Proofs.YtidlpihoafnobaaGreatDoor
