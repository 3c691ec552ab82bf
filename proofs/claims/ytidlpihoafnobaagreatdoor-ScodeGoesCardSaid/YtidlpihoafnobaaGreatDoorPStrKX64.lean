/- HashX64 AllX64 StrHX64 StrIX64 StrKX64 -/
import Derived.Deep.Cut
import Derived.Test.YtidlpihoafnobaaGreatDoorPRefEndX64
set_option linter.unusedVariables false
set_option linter.unusedSimpArgs false
namespace Go.Proofs.YtidlpihoafnobaaGreatDoor.StX64
set_option maxRecDepth 100000
open Go.Proofs.YtidlpihoafnobaaGreatDoor.StG64
open Go.RowKit
structure HLive (w0 w : World) (hb sb : Nat) (sd : BitVec 64) (s : ST) (tl : Bytes) (lo : BitVec 64) (tv : Value) : Prop where
 on : Live w0 w sb 32 (firstF sd) s q0 tl lo tv
 hc : w.heap[hb]? = some (.cells #[.int .u64 (W64 sd), .pointer (some ⟨sb, 0, none⟩)] 271 (0, 0))
 ge : w0.heap.size ≤ hb
 ne : ¬ Foot sb tv hb
 tlen : tl.length < 32
def HFoot (hb sb : Nat) (tv : Value) (x : Nat) : Prop := x = hb ∨ Foot sb tv x
section
variable {w0 w w' : World} {hb sb : Nat} {sd : BitVec 64} {s : ST} {tl : Bytes} {lo : BitVec 64} {tv : Value}
theorem HLive.lt (h : HLive w0 w hb sb sd s tl lo tv) : ∀ x, HFoot hb sb tv x → x < w.heap.size := fun x hx => by
 rcases hx with rfl | hx
 · exact (Array.getElem?_eq_some_iff.1 h.hc).1
 · exact h.on.lt x hx
theorem HLive.above (h : HLive w0 w hb sb sd s tl lo tv) : ∀ x, HFoot hb sb tv x → w0.heap.size ≤ x := fun x hx => by
 rcases hx with rfl | hx
 · exact h.ge
 · exact h.on.above x hx
theorem HLive.fr (h : HLive w0 w hb sb sd s tl lo tv) : Fr No w0 w := h.on.fr
theorem HLive.keep {F : Nat → Prop} (h : HLive w0 w hb sb sd s tl lo tv) (k : Fr F w w') (hF : ∀ x, F x → ¬ HFoot hb sb tv x) (hA : ∀ x, F x → w0.heap.size ≤ x) : HLive w0 w' hb sb sd s tl lo tv :=
 ⟨h.on.keep k (fun x hx g => hF x hx (.inr g)) hA, k.heap (fun g => hF _ g (.inl rfl)) h.hc, h.ge, h.ne, h.tlen⟩
theorem HLive.no (h : HLive w0 w hb sb sd s tl lo tv) (k : Fr No w w') : HLive w0 w' hb sb sd s tl lo tv := h.keep k (fun _ g => g.elim) (fun _ g => g.elim)
theorem HLive.cell (h : HLive w0 w hb sb sd s tl lo tv) : w.cell? ⟨hb, 1, none⟩ = some (.pointer (some ⟨sb, 0, none⟩)) := by rw [cell_of_row w hb 1 _ _ _ h.hc]; rfl
theorem HLive.cell0 (h : HLive w0 w hb sb sd s tl lo tv) : w.cell? ⟨hb, 0, none⟩ = some (.int .u64 (W64 sd)) := by rw [cell_of_row w hb 0 _ _ _ h.hc]; rfl
end
theorem made_h {w0 w : World} {hb sb : Nat} {sd : BitVec 64} {s : ST} {tl : Bytes} {lo : BitVec 64} {tv : Value} (h : HLive w0 w hb sb sd s tl lo tv) : Calls Tryz.prog 216 #[.pointer (some ⟨hb, 0, none⟩)] w (Gives (.bool true) w) := by
 have cc := h.cell
 go_enter Tryz.func216, Tryz.ntmps216
 go_wp2
 go_ret
 exact ⟨rfl, rfl⟩
def GivesHash (w0 w : World) (sd : BitVec 64) (e : Ending) (w' : World) : Prop := ∃ hb sb, e = .returned (.pointer (some ⟨hb, 0, none⟩)) ∧ w.heap.size ≤ hb ∧ w.heap.size ≤ sb ∧ HLive w0 w' hb sb sd (firstF sd) [] 0#64 (.slice none 0 0) ∧ Fr No w w'
set_option maxHeartbeats 400000 in
theorem New_h (sd : BitVec 64) (w0 w : World) (hf : Fr No w0 w) : Calls Tryz.prog 161 #[.int .u64 (W64 sd)] w (GivesHash w0 w sd) := by
 go_enter Tryz.func161, Tryz.ntmps161
 go_wp2_with fail
 refine (first_any sd _).mono ?_
 rintro e w1 ⟨rfl, hW1⟩
 go_wp2_with fail
 refine (New_any 32 (firstF sd) q0 _ (by omega) (by omega)).mono ?_
 rintro e w2 ⟨sb, rfl, hge, hlt, hst, hfr⟩
 have hz : sizeOk 32 = ((32 : Nat) : Int) := rfl
 rw [hz] at hst
 have hW := hW1.no hfr
 have g0 := hf.size
 have g1 := hW1.size
 have g2 := hfr.size
 clear hz
 go_wp2_with fail
 go_ret
 have h3 : Fr No w2 (w2.alloc (.cells #[.int .u64 (W64 sd), .pointer (some ⟨sb, 0, none⟩)] 271)) := (Fr.refl No w2).alloc _
 refine ⟨w2.heap.size, sb, rfl, by omega, by omega, ⟨⟨hst.fr h3 (fun h => h), Owns.nil _ _, by omega, (hf.no hW).no h3⟩, heap_alloc_new w2 _, by omega, ?_, by simp⟩, hW.no h3⟩
 rintro (g | g)
 · omega
 · simp [Value.ownBlock] at g
def HWrote (w0 : World) (hb sb : Nat) (sd : BitVec 64) (tv : Value) (r : ST × Bytes) (lo : BitVec 64) (w : World) (e : Ending) (w' : World) : Prop :=
 e = .returned (.tuple #[]) ∧ ∃ tv', HLive w0 w' hb sb sd r.1 r.2 lo tv' ∧ Fr (Foot sb tv) w w' ∧ (tv'.ownBlock = tv.ownBlock ∨ ∀ x, tv'.ownBlock = some x → w.heap.size ≤ x)
theorem Write_h {w0 w : World} {hb sb : Nat} {sd : BitVec 64} {s : ST} {tl : Bytes} {lo : BitVec 64} {tv : Value} (h : HLive w0 w hb sb sd s tl lo tv) (a : Option Addr) (n c : Nat) (l : Bytes) (hy : IsBytes w a n c l) (hap : Apart (Foot sb tv) a n) (hn : n ≤ 1099511627776) :
 Calls Tryz.prog 317 #[.pointer (some ⟨hb, 0, none⟩), .slice a n c] w (HWrote w0 hb sb sd tv (foldF stepG 32 s (tl ++ l)) (lo + BitVec.ofNat 64 n) w) := by
 have cc := h.cell
 have q4 := foldF_lt (F := stepG) (size := 32) (by omega) s (tl ++ l)
 have hlt := h.lt hb (.inl rfl)
 generalize hr : foldF stepG 32 s (tl ++ l) = r at q4 ⊢
 have HR := Lib.hid hr
 clear hr
 go_enter Tryz.func317, Tryz.ntmps317
 go_wp2_with (go_at_call 216; refine (made_h h).mono ?_; rintro e w' ⟨rfl, rfl⟩)
 refine (live_write (fun _ => True) stepG h.on (fun _ _ => trivial) steps_any (by omega) (by omega) h.tlen a n c l hy hap hn).mono ?_
 rw [HR.out]
 rintro e w2 ⟨rfl, tv2, hL, hf, hk⟩
 have hn2 : ¬ Foot sb tv2 hb := fun g => by
  rcases g with g | g
  · exact h.ne (.inl g)
  · rcases hk with e | e
    · exact h.ne (.inr (by rw [← e]; exact g))
    · have := e _ g; omega
 have hH : HLive w0 w2 hb sb sd r.1 r.2 (lo + BitVec.ofNat 64 n) tv2 := ⟨hL, hf.heap h.ne h.hc, h.ge, hn2, q4⟩
 clear cc
 go_wp2_with fail
 go_end0
 exact ⟨rfl, tv2, hH, hf, hk⟩
set_option maxHeartbeats 800000 in
theorem Sum_h {w0 w : World} {hb sb : Nat} {sd : BitVec 64} {s : ST} {tl : Bytes} {lo : BitVec 64} {tv : Value} (h : HLive w0 w hb sb sd s tl lo tv) : Calls Tryz.prog 162 #[.pointer (some ⟨hb, 0, none⟩)] w (GivesNew (.int .u64 (W64 (endF sd s tl lo))) w) := by
 go_enter Tryz.func162, Tryz.ntmps162
 go_wp2_with (go_at_call 216; refine (made_h h).mono ?_; rintro e w' ⟨rfl, rfl⟩)
 obtain ⟨w1, rfl⟩ : ∃ w1 : World, w1 = w := ⟨_, rfl⟩
 have hf1 : Fr No w1 w1 := Fr.refl No w1
 have h1 := h
 have cc := h1.cell
 have cc0 := h1.cell0
 refine rsq (by kernel_rfl) [(0, 1), (1, 1), (2, 1), (3, 1), (4, 1), (5, 1), (6, 1), (7, 1), (9, 1), (10, 1), (11, 1), (12, 1), (14, 1), (15, 1), (16, 1), (17, 1), (8, 0), (13, 0), (18, 0), (19, 0), (20, 1)] (by kernel_rfl) ?_
 have hv0 : Fr No w1 w1.drew := (Fr.refl No w1).drew
 iterate 16 refine tq _ rfl rfl (by intro w9 h9; have ccc := h9.cell (fun h => h) cc; have ccc0 := h9.cell (fun h => h) cc0; clear h9; go_simp; try with_reducible rfl) ?_; simp only [es1, es2, es3]
 refine wpSeq_next rfl rfl (fun K hK => ?_)
 go_wp2_with fail
 refine (State_any (h1.no hv0).on.st).mono ?_
 rintro e xhv1 ⟨rfl, hx⟩
 have hv1 := hv0.no hx
 clear hx
 refine hK.out _ _ (fun _ => hv1) ?_
 clear hK K
 refine wpSeq_next rfl rfl (fun K hK => ?_)
 go_wp2_with fail
 refine (StG64.Tail_any (h1.no hv1).on.st (h1.no hv1).on.ow (by have := h.tlen; omega)).mono ?_
 rintro e xhv2 ⟨vt, rfl, ho, hx⟩
 have hv2 := hv1.no hx
 obtain ⟨at_, ct, rfl, hbt, _⟩ := ho.bytes
 clear hx
 refine hK.out _ _ (fun _ => hv2) ?_
 clear hK K
 refine wpSeq_next rfl rfl (fun K hK => ?_)
 go_wp2_with fail
 refine (Long_any (h1.no hv2).on.st).mono ?_
 rintro e w' ⟨rfl, rfl⟩
 refine hK.out _ _ (fun _ => hv2) ?_
 clear hK K
 refine wpSeq_next rfl rfl (fun K hK => ?_)
 go_wp2_with fail
 refine (end_any sd s _ _ _ tl lo _ hbt).mono ?_
 rintro e xhv3 ⟨rfl, hx⟩
 have hv3 := hv2.no hx
 clear hx
 refine hK.out _ _ (fun _ => hv3) ?_
 clear hK K
 refine tp _ rfl rfl ?_; simp only [es1, es2, es3]
 refine wpSeq_done ?_
 go_wp2_with fail
 go_ret
 exact ⟨rfl, hf1.no hv3⟩
def GivesHLanes (s : ST) (tl : Bytes) (lo : BitVec 64) (w : World) (e : Ending) (w' : World) : Prop := ∃ v, e = .returned (.tuple #[lanesV s, .int .u64 (W64 lo), v]) ∧ Owns w' w.heap.size v tl ∧ Fr No w w'
set_option maxHeartbeats 1000000 in
theorem Lanes_h {w0 w : World} {hb sb : Nat} {sd : BitVec 64} {s : ST} {tl : Bytes} {lo : BitVec 64} {tv : Value} (h : HLive w0 w hb sb sd s tl lo tv) : Calls Tryz.prog 314 #[.pointer (some ⟨hb, 0, none⟩)] w (GivesHLanes s tl lo w) := by
 have hlt := h.lt hb (.inl rfl)
 have hF1 : Fr No w (w.alloc (.cells #[.int .u64 0, .int .u64 0, .int .u64 0, .int .u64 0] 31)) := (Fr.refl No w).alloc _
 have h1 := h.no hF1
 have hR := row4_new w 31 (.int .u64 0) (.int .u64 0) (.int .u64 0) (.int .u64 0)
 go_enter Tryz.func314, Tryz.ntmps314
 go_wp2_with (go_at_call 216; refine (made_h h1).mono ?_; rintro e w' ⟨rfl, rfl⟩)
 obtain ⟨rb, hrb⟩ : ∃ rb, rb = w.heap.size := ⟨_, rfl⟩
 have hnb : ¬ hb = rb := by omega
 have hk := Lib.hid (fun (w' : World) (k : Fr (fun x => x = rb) (w.alloc (.cells #[.int .u64 0, .int .u64 0, .int .u64 0, .int .u64 0] 31)) w') => h1.keep k (fun x hx g => by have := h.lt x g; omega) (fun x hx => by have := h.on.fr.size; omega))
 rw [← hrb] at hR ⊢
 have hrg : w.heap.size ≤ rb := by omega
 clear hrb
 generalize w.alloc (.cells #[.int .u64 0, .int .u64 0, .int .u64 0, .int .u64 0] 31) = w1 at hF1 h1 hR hk ⊢
 have hrl := hR.lt
 have cc := h1.cell
 have cc0 := h1.cell0
 refine wp_region_seq (by kernel_rfl) (fun w' => Fr (fun x => x = rb) w1 w') (fun _ => false) [(0, 1), (1, 1), (2, 1), (3, 1), (5, 1), (6, 1), (7, 1), (8, 1), (10, 1), (11, 1), (12, 1), (13, 1), (4, 0), (9, 0), (14, 0), (15, 0), (16, 1), (17, 1)] (by kernel_rfl) (Fr.refl _ w1).drew ?_
 have hv0 : Fr No w1 w1.drew := (Fr.refl No w1).drew
 iterate 12 refine tq _ rfl rfl (by intro w9 h9; have ccc := h9.cell hnb cc; have ccc0 := h9.cell hnb cc0; clear h9; go_simp; try with_reducible rfl) ?_; simp only [es1, es2, es3]
 refine wpSeq_next rfl rfl (fun K hK => ?_)
 go_wp2_with fail
 refine (State_any (hk.out _ (hv0.mono (fun _ _ f => f.elim))).on.st).mono ?_
 rintro e xhv1 ⟨rfl, hx⟩
 have hv1 := hv0.no hx
 clear hx
 simp only [cS0, cS1, cS2, cS3]
 refine hK.out _ _ (fun _ => (hv1.mono (fun _ _ f => f.elim))) ?_
 clear hK K
 refine wpSeq_next rfl rfl (fun K hK => ?_)
 go_wp2_with fail
 refine (Long_any (hk.out _ (hv1.mono (fun _ _ f => f.elim))).on.st).mono ?_
 rintro e w' ⟨rfl, rfl⟩
 refine hK.out _ _ (fun _ => (hv1.mono (fun _ _ f => f.elim))) ?_
 clear hK K
 refine wpSeq_next rfl rfl (fun K hK => ?_)
 go_wp2_with fail
 refine (StG64.Tail_any (hk.out _ (hv1.mono (fun _ _ f => f.elim))).on.st (hk.out _ (hv1.mono (fun _ _ f => f.elim))).on.ow (by have := h.tlen; omega)).mono ?_
 rintro e xhv2 ⟨vt, rfl, ho, hx⟩
 have hsz := hv1.size
 have hv2 := hv1.no hx
 obtain ⟨at_, ct, rfl, _, _⟩ := ho.bytes
 clear hx
 refine hK.out _ _ (fun _ => (hv2.mono (fun _ _ f => f.elim))) ?_
 clear hK K
 have hRx := hR.no hv2
 have cr0 := hRx.c0
 have cr1 := hRx.c1
 have cr2 := hRx.c2
 have cr3 := hRx.c3
 have fr0 := hRx.fz 0
 have fr1 := hRx.fz 1
 have fr2 := hRx.fz 2
 have fr3 := hRx.fz 3
 refine wpSeq_next rfl rfl (fun K hK => ?_)
 go_wp2_with fail
 have hF3 := fr_put4 xhv2 rb (.int .u64 (W64 s.1)) (.int .u64 (W64 s.2.1)) (.int .u64 (W64 s.2.2.1)) (.int .u64 (W64 s.2.2.2))
 have hR3 := row_put4 hRx (.int .u64 (W64 s.1)) (.int .u64 (W64 s.2.1)) (.int .u64 (W64 s.2.2.1)) (.int .u64 (W64 s.2.2.2))
 have hs3 : Fr (fun x => x = rb) w1 _ := (hv2.mono (fun _ _ f => f.elim)).trans hF3 (fun _ h => .inl h)
 refine hK.out _ _ (fun _ => hs3) ?_
 clear hK K
 clear cr0 fr0 cr1 fr1 cr2 fr2 cr3 fr3
 generalize ((((xhv2.setCell ⟨rb, 0, none⟩ (.int .u64 (W64 s.1))).setCell ⟨rb, 1, none⟩ (.int .u64 (W64 s.2.1))).setCell ⟨rb, 2, none⟩ (.int .u64 (W64 s.2.2.1))).setCell ⟨rb, 3, none⟩ (.int .u64 (W64 s.2.2.2))) = w3 at hF3 hR3 hs3 ⊢
 iterate 2 refine tp _ rfl rfl ?_; simp only [es1, es2, es3]
 refine wpSeq_done ?_
 have cd0 := hR3.c0
 have cd1 := hR3.c1
 have cd2 := hR3.c2
 have cd3 := hR3.c3
 have g1 := hF1.size
 go_wp2_with fail
 refine bodyPost_ret (v := .tuple #[lanesV s, .int .u64 (W64 lo), .slice at_ tl.length ct]) (by simp [results, Tryz.results314, go_sem, cd0, cd1, cd2, cd3, lanesV]) rfl ?_
 exact ⟨_, rfl, (ho.fr hF3 (fun x hx e => by have := own_ge ho hx; omega)).mono (by omega), hF1.trans hs3 (fun x hx => .inr (by omega))⟩
theorem fits_lt {n : Nat} {lo : BitVec 64} {size : Nat} (h : fitsB n lo size = true) (hn : n ≤ 1099511627776) (h1 : 1 ≤ size) (h2 : size ≤ 64) : n < size := by
 unfold fitsB at h
 have := congrArg BitVec.toNat (beq_iff_eq.1 h)
 simp only [BitVec.toNat_umod, BitVec.toNat_ofNat] at this
 rw [Nat.mod_eq_of_lt (show n < 2 ^ 64 by omega), Nat.mod_eq_of_lt (show size < 2 ^ 64 by omega)] at this
 rw [this]
 exact Nat.mod_lt _ (by omega)
def RightP (x0 x1 x2 x3 : BitVec 64) : Prop := True
def stateF (x0 x1 x2 x3 : BitVec 64) : ST := (x0, x1, x2, x3)
def HSets (w0 : World) (hb sb : Nat) (sd : BitVec 64) (s2 : ST) (l : Bytes) (lo2 : BitVec 64) (w : World) (e : Ending) (w' : World) : Prop :=
 ∃ tv2, e = .returned (.bool true) ∧ HLive w0 w' hb sb sd s2 l lo2 tv2 ∧ Fr (fun x => x = sb) w w' ∧ ∀ x, tv2.ownBlock = some x → w.heap.size ≤ x
set_option maxHeartbeats 800000 in
theorem Set_right {w0 w : World} {hb sb : Nat} {sd : BitVec 64} {s : ST} {tl : Bytes} {lo : BitVec 64} {tv : Value} (h : HLive w0 w hb sb sd s tl lo tv) (x0 x1 x2 x3 : BitVec 64) (lv : Value) (hlv : lv = .agg #[.int .u64 (W64 x0), .int .u64 (W64 x1), .int .u64 (W64 x2), .int .u64 (W64 x3)]) (lo2 : BitVec 64) (a : Option Addr) (n c : Nat) (hw : RightP x0 x1 x2 x3) (hfit : fitsB n lo2 32 = true) (l : Bytes) (hy : IsBytes w a n c l) (hn : n ≤ 1099511627776) : Calls Tryz.prog 316 #[.pointer (some ⟨hb, 0, none⟩), lv, .int .u64 (W64 lo2), .slice a n c] w (HSets w0 hb sb sd (stateF x0 x1 x2 x3) l lo2 w) := by
 subst hlv
 have hF1 : Fr No w (w.alloc (.cells #[.int .u64 (W64 x0), .int .u64 (W64 x1), .int .u64 (W64 x2), .int .u64 (W64 x3)] 31)) := (Fr.refl No w).alloc _
 have hR1 := row4_new w 31 (.int .u64 (W64 x0)) (.int .u64 (W64 x1)) (.int .u64 (W64 x2)) (.int .u64 (W64 x3))
 have h1 := h.no hF1
 have cc := h1.cell
 obtain ⟨pb0, hpb0⟩ : ∃ pb0, pb0 = w.heap.size := ⟨_, rfl⟩
 have hHid := Lib.hid hpb0
 clear hpb0
 go_enter Tryz.func316, Tryz.ntmps316
 go_wp2_with fail
 have hpb0 := hHid.out
 clear hHid
 have g2 := hF1.size
 have hps : ¬ pb0 = sb := by have := h.lt sb (.inr (.inl rfl)); omega
 have hnb : ¬ hb = sb := fun e => h.ne (.inl e)
 rw [← hpb0] at hR1 ⊢
 clear hpb0
 obtain ⟨pb, rfl⟩ : ∃ pb, pb = pb0 := ⟨_, rfl⟩
 generalize w.alloc (.cells #[.int .u64 (W64 x0), .int .u64 (W64 x1), .int .u64 (W64 x2), .int .u64 (W64 x3)] 31) = w1 at hF1 hR1 h1 cc g2 ⊢
 have hb2 := hy.no hF1
 refine wp_region_seq (by kernel_rfl) (fun w' => Fr (fun x => x = sb) w1 w') (fun _ => false) [(0, 1), (1, 0), (2, 1), (3, 1), (4, 1), (5, 1), (6, 1), (7, 1), (8, 1), (9, 1), (10, 0), (11, 1), (12, 1)] (by kernel_rfl) (Fr.refl _ w1).drew ?_
 have hv0 : Fr No w1 w1.drew := (Fr.refl No w1).drew
 refine tp _ rfl rfl ?_; simp only [es1, es2, es3]
 refine wpSeq_next rfl rfl (fun K hK => ?_)
 go_wp2_with fail
 refine (made_h (h1.no hv0)).mono ?_
 rintro e w' ⟨rfl, rfl⟩
 refine hK.out _ _ (fun _ => (hv0.mono (fun _ _ f => f.elim))) ?_
 clear hK K
 iterate 8 refine tq _ rfl rfl (by intro w9 h9; have q0 := (hR1.fr h9 hps).c0; have q1 := (hR1.fr h9 hps).c1; have q2 := (hR1.fr h9 hps).c2; have q3 := (hR1.fr h9 hps).c3; have ch := h9.cell hnb cc; clear h9; go_simp; try with_reducible rfl) ?_; simp only [es1, es2, es3]
 refine wpSeq_next rfl rfl (fun K hK => ?_)
 go_wp2_with fail
 refine (Set_yes (h1.no hv0).on.st (by omega) (by omega) (stateF x0 x1 x2 x3) lo2 _ n c l (hb2.no hv0) hn hfit).mono ?_
 rintro e w4 ⟨tv2, rfl, hst, hown, hfr⟩
 have hy4 : Fr (fun x => x = sb) w1 w4 := (hv0.mono (fun _ _ f => f.elim)).trans hfr (fun _ h => .inl h)
 refine hK.out _ _ (fun _ => hy4) ?_
 clear hK K
 iterate 2 refine tp _ rfl rfl ?_; simp only [es1, es2, es3]
 refine wpSeq_done ?_
 have h3 := h1.no hv0
 have hF3 := hF1.no hv0
 have hne : hb ≠ sb := fun e => h.ne (.inl e)
 have hlt := h3.lt hb (.inl rfl)
 have g1 := h3.on.fr.size
 have g3 := hF3.size
 have hH : HLive w0 w4 hb sb sd (stateF x0 x1 x2 x3) l lo2 tv2 :=
  ⟨⟨hst, hown.mono (by omega), h.on.ge, h3.on.fr.trans hfr (fun x hx => .inr (by have := h.on.ge; omega))⟩, hfr.heap hne h3.hc, h.ge, (fun g => by rcases g with g | g; exact hne g; have := own_ge hown g; omega), by rw [hy.1]; exact fits_lt hfit hn (by omega) (by omega)⟩
 go_wp2_with fail
 go_ret
 exact ⟨tv2, rfl, hH, (hF3.mono (fun x _ f => f.elim)).trans hfr (fun x h => .inl h), fun x hx => by have := own_ge hown hx; omega⟩
end Go.Proofs.YtidlpihoafnobaaGreatDoor.StX64
namespace Go.Proofs.YtidlpihoafnobaaGreatDoor.StX64
set_option maxRecDepth 100000
open Go.Proofs.YtidlpihoafnobaaGreatDoor.StG64
open Go.RowKit
def HAll (w0 w : World) (hb sb : Nat) (sd : BitVec 64) (d : Bytes) (tv : Value) : Prop := HLive w0 w hb sb sd (foldF stepG 32 (firstF sd) d).1 (foldF stepG 32 (firstF sd) d).2 (BitVec.ofNat 64 d.length) tv
theorem HAll.no {w' : World} {w0 w : World} {hb sb : Nat} {sd : BitVec 64} {d : Bytes} {tv : Value} (h : HAll w0 w hb sb sd d tv) (k : Fr No w w') : HAll w0 w' hb sb sd d tv := HLive.no h k
theorem HAll.keep {w' : World} {w0 w : World} {hb sb : Nat} {sd : BitVec 64} {d : Bytes} {tv : Value} {F : Nat → Prop} (h : HAll w0 w hb sb sd d tv) (k : Fr F w w') (hF : ∀ x, F x → ¬ HFoot hb sb tv x) (hA : ∀ x, F x → w0.heap.size ≤ x) : HAll w0 w' hb sb sd d tv := HLive.keep h k hF hA
theorem HAll.fr {w0 w : World} {hb sb : Nat} {sd : BitVec 64} {d : Bytes} {tv : Value} (h : HAll w0 w hb sb sd d tv) : Fr No w0 w := HLive.fr h
theorem HAll.lt {w0 w : World} {hb sb : Nat} {sd : BitVec 64} {d : Bytes} {tv : Value} (h : HAll w0 w hb sb sd d tv) : ∀ x, HFoot hb sb tv x → x < w.heap.size := HLive.lt h
theorem HAll.above {w0 w : World} {hb sb : Nat} {sd : BitVec 64} {d : Bytes} {tv : Value} (h : HAll w0 w hb sb sd d tv) : ∀ x, HFoot hb sb tv x → w0.heap.size ≤ x := HLive.above h
set_option maxHeartbeats 400000 in
theorem One_any (sd : BitVec 64) (a : Option Addr) (n c : Nat) (l : Bytes) (w : World) (h : IsBytes w a n c l) (hn : n ≤ 1099511627776) :
 Calls Tryz.prog 158 #[.int .u64 (W64 sd), .slice a n c] w (GivesNew (.int .u64 (W64 (oneF sd l))) w) := by
 have hlen := Lib.hid h.1
 have q4 := foldF_lt (F := stepG) (size := 32) (by omega) (firstF sd) l
 unfold oneF
 rw [hlen.out]
 generalize hr : foldF stepG 32 (firstF sd) l = r at q4 ⊢
 have HR := Lib.hid hr
 clear hr
 go_enter Tryz.func158, Tryz.ntmps158
 go_wp2_with fail
 refine (first_any sd _).mono ?_
 rintro e w1 ⟨rfl, hf1⟩
 have h1 := h.no hf1
 have hF1 := hf1
 go_wp2_with fail
 refine (Fold_any (fun _ => True) stepG 32 32 (firstF sd) q0 _ _ _ l _ (fun _ _ => trivial) steps_any (by omega) (by omega) rfl h1 hn).mono ?_
 rw [show foldF stepG 32 (firstF sd) l = r from HR.out]
 rintro e w2 ⟨v, rfl, ho, hf2⟩
 obtain ⟨a2, c2, rfl, hb2, _⟩ := ho.bytes
 have hF2 := hF1.no hf2
 go_wp2_with fail
 refine (end_any sd r.1 _ _ _ r.2 _ _ (hb2.no ((Fr.refl No _).alloc _))).mono ?_
 rintro e w3 ⟨rfl, hf3⟩
 go_wp2_with fail
 go_ret
 exact ⟨rfl, (hF2.alloc _).no hf3⟩
end Go.Proofs.YtidlpihoafnobaaGreatDoor.StX64
namespace Go.Proofs.YtidlpihoafnobaaGreatDoor.StX64
open Go.Proofs.YtidlpihoafnobaaGreatDoor.StG64
set_option maxRecDepth 100000
open Go.RowKit
abbrev Cap6 (w : World) (k : Int) (kh kl : BitVec 64) (ib c6 c7 c8 c9 c10 c11 : Nat) : Prop := Caps w 228 230 225 231 k kh kl ib (.func (.func 162) #[] #[]) (.func (.func 157) #[] #[]) (.func (.func 163) #[] #[]) c6 c7 c8 c9 c10 c11
def HS (w0 w : World) (hb : Nat) (F : Nat → Prop) (k : Int) (kh kl : BitVec 64) (s : ST) (tl : Bytes) (lo : BitVec 64) : Prop :=
 ∃ ib sb tv c6 c7 c8 c9 c10 c11, HRow w hb k kh kl (.iface 228 (.pointer (some ⟨ib, 0, none⟩))) (.func (.func 213) #[] #[.pointer (some ⟨c10, 0, none⟩), .pointer (some ⟨c9, 0, none⟩), .pointer (some ⟨c8, 0, none⟩)]) (.func (.func 214) #[] #[.pointer (some ⟨c6, 0, none⟩), .pointer (some ⟨c7, 0, none⟩), .pointer (some ⟨c11, 0, none⟩), .pointer (some ⟨c8, 0, none⟩), .pointer (some ⟨c9, 0, none⟩), .pointer (some ⟨c10, 0, none⟩)]) ∧ Cap6 w k kh kl ib c6 c7 c8 c9 c10 c11 ∧ HLive w0 w ib sb kl s tl lo tv ∧ F = Foot sb tv
theorem wrapped_h {w0 w : World} {k : Int} {kh kl : BitVec 64} {ib sb : Nat} {s : ST} {tl : Bytes} {lo : BitVec 64} {tv : Value} (h : HLive w0 w ib sb kl s tl lo tv) :
 Calls Tryz.prog 160 #[.int .i64 k, .agg #[.int .u64 (W64 kh), .int .u64 (W64 kl)], .pointer (some ⟨ib, 0, none⟩), .func (.func 162) #[] #[], .func (.func 157) #[] #[], .func (.func 163) #[] #[]] w (fun e w' => ∃ hb, e = .returned (.pointer (some ⟨hb, 0, none⟩)) ∧ HS w0 w' hb (Foot sb tv) k kh kl s tl lo ∧ w.heap.size ≤ hb ∧ Fr No w w') := by
 have r6 := row1_new w 3 (.int .i64 k)
 have r7 := row2_new (w.alloc (.cells #[.int .i64 k] 3)) 30 (.int .u64 (W64 kh)) (.int .u64 (W64 kl))
 replace r6 := r6.up (.cells #[.int .u64 (W64 kh), .int .u64 (W64 kl)] 30)
 have r8 := row1_new ((w.alloc (.cells #[.int .i64 k] 3)).alloc (.cells #[.int .u64 (W64 kh), .int .u64 (W64 kl)] 30)) 228 (.pointer (some ⟨ib, 0, none⟩))
 replace r6 := r6.up (.cells #[.pointer (some ⟨ib, 0, none⟩)] 228)
 replace r7 := r7.up (.cells #[.pointer (some ⟨ib, 0, none⟩)] 228)
 have r9 := row1_new (((w.alloc (.cells #[.int .i64 k] 3)).alloc (.cells #[.int .u64 (W64 kh), .int .u64 (W64 kl)] 30)).alloc (.cells #[.pointer (some ⟨ib, 0, none⟩)] 228)) 230 (.func (.func 162) #[] #[])
 replace r6 := r6.up (.cells #[.func (.func 162) #[] #[]] 230)
 replace r7 := r7.up (.cells #[.func (.func 162) #[] #[]] 230)
 replace r8 := r8.up (.cells #[.func (.func 162) #[] #[]] 230)
 have r10 := row1_new ((((w.alloc (.cells #[.int .i64 k] 3)).alloc (.cells #[.int .u64 (W64 kh), .int .u64 (W64 kl)] 30)).alloc (.cells #[.pointer (some ⟨ib, 0, none⟩)] 228)).alloc (.cells #[.func (.func 162) #[] #[]] 230)) 225 (.func (.func 157) #[] #[])
 replace r6 := r6.up (.cells #[.func (.func 157) #[] #[]] 225)
 replace r7 := r7.up (.cells #[.func (.func 157) #[] #[]] 225)
 replace r8 := r8.up (.cells #[.func (.func 157) #[] #[]] 225)
 replace r9 := r9.up (.cells #[.func (.func 157) #[] #[]] 225)
 have r11 := row1_new (((((w.alloc (.cells #[.int .i64 k] 3)).alloc (.cells #[.int .u64 (W64 kh), .int .u64 (W64 kl)] 30)).alloc (.cells #[.pointer (some ⟨ib, 0, none⟩)] 228)).alloc (.cells #[.func (.func 162) #[] #[]] 230)).alloc (.cells #[.func (.func 157) #[] #[]] 225)) 231 (.func (.func 163) #[] #[])
 replace r6 := r6.up (.cells #[.func (.func 163) #[] #[]] 231)
 replace r7 := r7.up (.cells #[.func (.func 163) #[] #[]] 231)
 replace r8 := r8.up (.cells #[.func (.func 163) #[] #[]] 231)
 replace r9 := r9.up (.cells #[.func (.func 163) #[] #[]] 231)
 replace r10 := r10.up (.cells #[.func (.func 163) #[] #[]] 231)
 have hF := ((((((Fr.refl No w).alloc (.cells #[.int .i64 k] 3)).alloc (.cells #[.int .u64 (W64 kh), .int .u64 (W64 kl)] 30)).alloc (.cells #[.pointer (some ⟨ib, 0, none⟩)] 228)).alloc (.cells #[.func (.func 162) #[] #[]] 230)).alloc (.cells #[.func (.func 157) #[] #[]] 225)).alloc (.cells #[.func (.func 163) #[] #[]] 231)
 simp only [World.size_alloc] at r6 r7 r8 r9 r10 r11
 have g6 := r6.c0
 have g7 := r7.c0
 have g7' := r7.c1
 have g8 := r8.c0
 go_enter Tryz.func160, Tryz.ntmps160
 go_upto_region 1 with fail
 have hlt := hF.size
 generalize ((((((w.alloc (.cells #[.int .i64 k] 3)).alloc (.cells #[.int .u64 (W64 kh), .int .u64 (W64 kl)] 30)).alloc (.cells #[.pointer (some ⟨ib, 0, none⟩)] 228)).alloc (.cells #[.func (.func 162) #[] #[]] 230)).alloc (.cells #[.func (.func 157) #[] #[]] 225)).alloc (.cells #[.func (.func 163) #[] #[]] 231)) = w6 at r6 r7 r8 r9 r10 r11 hF g6 g7 g7' g8 hlt ⊢
 generalize w.heap.size + 1 + 1 + 1 + 1 + 1 = c11 at r11 ⊢
 generalize w.heap.size + 1 + 1 + 1 + 1 = c10 at r10 ⊢
 generalize w.heap.size + 1 + 1 + 1 = c9 at r9 ⊢
 generalize w.heap.size + 1 + 1 = c8 at r8 g8 ⊢
 generalize w.heap.size + 1 = c7 at r7 g7 g7' ⊢
 obtain ⟨c6, e6⟩ : ∃ c6, c6 = w.heap.size := ⟨_, rfl⟩
 rw [← e6] at r6 g6 ⊢
 clear e6
 go_wp2_with fail
 go_ret
 have hv := (Fr.refl No w6).alloc (.cells #[.int .i64 k, .int .u64 (W64 kh), .int .u64 (W64 kl), .iface 228 (.pointer (some ⟨ib, 0, none⟩)), .func (.func 213) #[] #[.pointer (some ⟨c10, 0, none⟩), .pointer (some ⟨c9, 0, none⟩), .pointer (some ⟨c8, 0, none⟩)], .func (.func 214) #[] #[.pointer (some ⟨c6, 0, none⟩), .pointer (some ⟨c7, 0, none⟩), .pointer (some ⟨c11, 0, none⟩), .pointer (some ⟨c8, 0, none⟩), .pointer (some ⟨c9, 0, none⟩), .pointer (some ⟨c10, 0, none⟩)]] 78)
 exact ⟨w6.heap.size, rfl, ⟨ib, sb, tv, c6, c7, c8, c9, c10, c11, heap_alloc_new w6 _, ⟨r6.no hv, r7.no hv, r8.no hv, r9.no hv, r10.no hv, r11.no hv⟩, (h.no hF).no hv, rfl⟩, hlt, hF.no hv⟩
theorem sum_cl {w0 w : World} {k : Int} {kh kl : BitVec 64} {ib sb : Nat} {s : ST} {tl : Bytes} {lo : BitVec 64} {tv : Value} {c6 c7 c8 c9 c10 c11 : Nat} (hc : Cap6 w k kh kl ib c6 c7 c8 c9 c10 c11) (h : HLive w0 w ib sb kl s tl lo tv) : Calls Tryz.prog 213 #[.pointer (some ⟨c10, 0, none⟩), .pointer (some ⟨c9, 0, none⟩), .pointer (some ⟨c8, 0, none⟩)] w (GivesBytes (leb (endF kl s tl lo) 8) w) := by
 generalize hbb : leb (endF kl s tl lo) 8 = bb
 have HB := Lib.hid hbb
 clear hbb
 go_enter Tryz.func213, Tryz.ntmps213
 go_wp2_with fail
 refine rsq (by kernel_rfl) [(0, 1), (1, 1), (2, 1), (3, 0), (4, 0), (5, 1)] (by kernel_rfl) ?_
 have hS0 : Fr No w w.drew := (Fr.refl No w).drew
 iterate 3 refine tq _ rfl rfl (by intro w9 h9; have q10 := (hc.k10.no h9).c0; have q9 := (hc.k9.no h9).c0; have q8 := (hc.k8.no h9).c0; clear h9; go_simp; try with_reducible rfl) ?_; simp only [es1, es2, es3]
 refine wpSeq_next rfl rfl (fun K hK => ?_)
 go_wp2_with fail
 refine (Sum_h (h.no hS0)).mono ?_
 rintro e w2 ⟨rfl, hf2⟩
 have hs2 : Fr No w w2 := (hS0).no hf2
 refine hK.out _ _ (fun _ => hs2) ?_
 clear hK K
 refine wpSeq_next rfl rfl (fun K hK => ?_)
 go_wp2_with fail
 refine (eight_any _ _).mono ?_
 rintro e w3 ⟨v3, rfl, hO3, hf3⟩
 rw [HB.out] at hO3
 obtain ⟨a3, c3, rfl, hb3, _⟩ := hO3.bytes
 have hs3 : Fr No w w3 := (hs2).no hf3
 refine hK.out _ _ (fun _ => hs3) ?_
 clear hK K
 refine tp _ rfl rfl ?_; simp only [es1, es2, es3]
 refine wpSeq_done ?_
 go_wp2_with fail
 go_ret
 exact ⟨_, rfl, hO3.mono hs2.size, hs3⟩
section
variable {w0 w w' : World} {hb : Nat} {F : Nat → Prop} {k : Int} {kh kl : BitVec 64} {s : ST} {tl : Bytes} {lo : BitVec 64}
theorem HS.fr (h : HS w0 w hb (F) k kh kl s tl lo) : Fr No w0 w := by
 obtain ⟨ib, sb, tv, c6, c7, c8, c9, c10, c11, hr, hc, hL, rfl⟩ := h
 exact hL.fr
theorem HS.lt (h : HS w0 w hb (F) k kh kl s tl lo) : ∀ x, F x → x < w.heap.size := by
 obtain ⟨ib, sb, tv, c6, c7, c8, c9, c10, c11, hr, hc, hL, rfl⟩ := h
 exact fun x hx => hL.lt x (.inr hx)
theorem HS.above (h : HS w0 w hb (F) k kh kl s tl lo) : ∀ x, F x → w0.heap.size ≤ x := by
 obtain ⟨ib, sb, tv, c6, c7, c8, c9, c10, c11, hr, hc, hL, rfl⟩ := h
 exact fun x hx => hL.above x (.inr hx)
theorem HS.con (h : HS w0 w hb (F) k kh kl s tl lo) : Keeps w F := by
 obtain ⟨ib, sb, tv, c6, c7, c8, c9, c10, c11, hr, hc, hL, rfl⟩ := h
 exact hL.on.con
theorem HS.no (h : HS w0 w hb (F) k kh kl s tl lo) (f : Fr No w w') : HS w0 w' hb (F) k kh kl s tl lo := by
 obtain ⟨ib, sb, tv, c6, c7, c8, c9, c10, c11, hr, hc, hL, rfl⟩ := h
 exact ⟨ib, sb, _, c6, c7, c8, c9, c10, c11, hr.no f, (hc.no f), hL.no f, rfl⟩
theorem HS.keep {G : Nat → Prop} (h : HS w0 w hb (F) k kh kl s tl lo) (f : Fr G w w') (hG : ∀ x, G x → ¬ F x) (hK : Keeps w G) (hA : ∀ x, G x → w0.heap.size ≤ x) : HS w0 w' hb (F) k kh kl s tl lo := by
 obtain ⟨ib, sb, tv, c6, c7, c8, c9, c10, c11, hr, hc, hL, rfl⟩ := h
 refine ⟨ib, sb, _, c6, c7, c8, c9, c10, c11, hr.fr f hK, (hc.fr f (hK) (by decide)), hL.keep f (fun x hx => ?_) hA, rfl⟩
 rintro (rfl | g)
 · exact hK _ _ hL.hc ⟨_, _, rfl, by decide⟩ hx
 · exact hG x hx g
end
theorem HS.write {w0 w : World} {hb : Nat} {F : Nat → Prop} {k : Int} {kh kl : BitVec 64} {s : ST} {tl : Bytes} {lo : BitVec 64} (h : HS w0 w hb (F) k kh kl s tl lo) (a : Option Addr) (n c : Nat) (l : Bytes) (hy : IsBytes w a n c l) (hap : Apart F a n) (hn : n ≤ 1099511627776) :
 Calls Tryz.prog 14 #[.pointer (some ⟨hb, 0, none⟩), .slice a n c] w (fun e w' => e = .returned (.int .i64 0) ∧ ∃ F', HS w0 w' hb F' k kh kl (foldF stepG 32 s (tl ++ l)).1 (foldF stepG 32 s (tl ++ l)).2 (lo + BitVec.ofNat 64 n) ∧ Fr F w w' ∧ ∀ x, F' x → F x ∨ w.heap.size ≤ x) := by
 obtain ⟨ib, sb, tv, c6, c7, c8, c9, c10, c11, hr, hc, hL, rfl⟩ := h
 refine hWrite_of hr.c3 317 (fun W => by kernel_rfl) (calls_enter Tryz.func317 (by kernel_rfl) (by kernel_rfl)) a n c ((Write_h hL a n c l hy hap hn).mono ?_)
 rintro e w' ⟨rfl, tv', hL', hf, hk⟩
 have hK := hL.on.con
 refine ⟨rfl, _, ⟨ib, sb, _, c6, c7, c8, c9, c10, c11, hr.fr hf hK, (hc.fr hf (hK) (by decide)), hL', rfl⟩, hf, fun x hx => ?_⟩
 rcases hx with rfl | hx
 · exact .inl (.inl rfl)
 · rcases hk with e | e
   · exact .inl (.inr (by rw [← e]; exact hx))
   · exact .inr (e _ hx)
theorem HS.sum {w0 w : World} {hb : Nat} {F : Nat → Prop} {k : Int} {kh kl : BitVec 64} {s : ST} {tl : Bytes} {lo : BitVec 64} (h : HS w0 w hb (F) k kh kl s tl lo) :
 Calls Tryz.prog 9 #[.pointer (some ⟨hb, 0, none⟩)] w (fun e w' => ∃ v, e = .returned (.tuple #[v, .int .i64 0]) ∧ Owns w' w.heap.size v (leb (endF kl s tl lo) 8) ∧ Fr No w w') := by
 obtain ⟨ib, sb, tv, c6, c7, c8, c9, c10, c11, hr, hc, hL, rfl⟩ := h
 exact hSum_of hr.c3 213 _ hr.c4 (calls_enter Tryz.func213 (by kernel_rfl) (by kernel_rfl)) (sum_cl hc hL)
theorem HS.kind {w0 w : World} {hb : Nat} {F : Nat → Prop} {k : Int} {kh kl : BitVec 64} {s : ST} {tl : Bytes} {lo : BitVec 64} (h : HS w0 w hb (F) k kh kl s tl lo) : Calls Tryz.prog 15 #[.pointer (some ⟨hb, 0, none⟩)] w (Gives (.int .i64 k) w) := by
 obtain ⟨ib, sb, tv, c6, c7, c8, c9, c10, c11, hr, hc, hL, rfl⟩ := h
 exact hKind_yes hr.c3 hr.c0
theorem HS.key {w0 w : World} {hb : Nat} {F : Nat → Prop} {k : Int} {kh kl : BitVec 64} {s : ST} {tl : Bytes} {lo : BitVec 64} (h : HS w0 w hb (F) k kh kl s tl lo) : Calls Tryz.prog 16 #[.pointer (some ⟨hb, 0, none⟩)] w (GivesNew (.agg #[.int .u64 (W64 kh), .int .u64 (W64 kl)]) w) := by
 obtain ⟨ib, sb, tv, c6, c7, c8, c9, c10, c11, hr, hc, hL, rfl⟩ := h
 exact hKey_yes hr.c3 hr.c1 hr.c2
end Go.Proofs.YtidlpihoafnobaaGreatDoor.StX64
namespace Go.Proofs.YtidlpihoafnobaaGreatDoor.StX64
open Go.Proofs.YtidlpihoafnobaaGreatDoor.StG64
set_option maxRecDepth 100000
open Go.RowKit
theorem lanesV_of (s : ST) : lanesV s = .agg #[.int .u64 (W64 s.1), .int .u64 (W64 s.2.1), .int .u64 (W64 s.2.2.1), .int .u64 (W64 s.2.2.2)] := rfl
theorem HS.lanes {w0 w : World} {hb : Nat} {F : Nat → Prop} {k : Int} {kh kl : BitVec 64} {s : ST} {tl : Bytes} {lo : BitVec 64} (h : HS w0 w hb (F) k kh kl s tl lo) :
 Calls Tryz.prog 30 #[.pointer (some ⟨hb, 0, none⟩)] w (fun e w' => ∃ v, e = .returned (.tuple #[.agg #[.int .u64 (W64 s.1), .int .u64 (W64 s.2.1), .int .u64 (W64 s.2.2.1), .int .u64 (W64 s.2.2.2)], .int .u64 (W64 lo), v]) ∧ Owns w' w.heap.size v tl ∧ Fr No w w') := by
 obtain ⟨ib, sb, tv, c6, c7, c8, c9, c10, c11, hr, hc, hL, rfl⟩ := h
 refine hLanes_of hr.c3 314 (fun W => by kernel_rfl) (calls_enter Tryz.func314 (by kernel_rfl) (by kernel_rfl)) s.1 s.2.1 s.2.2.1 s.2.2.2 lo (fun W hW => (Lanes_h (hL.no hW)).mono ?_)
 rintro e w' ⟨v, rfl, hO, hf⟩
 exact ⟨v, by rw [lanesV_of], hO, hf⟩
theorem HS.set_right {w0 w : World} {hb : Nat} {F : Nat → Prop} {k : Int} {kh kl : BitVec 64} {s : ST} {tl : Bytes} {lo : BitVec 64} (h : HS w0 w hb (F) k kh kl s tl lo) (x0 x1 x2 x3 lo2 : BitVec 64) (a : Option Addr) (n c : Nat) (hw : RightP x0 x1 x2 x3) (hfit : fitsB n lo2 32 = true) (l : Bytes) (hy : IsBytes w a n c l) (hn : n ≤ 1099511627776) :
 Calls Tryz.prog 25 #[.pointer (some ⟨hb, 0, none⟩), .agg #[.int .u64 (W64 x0), .int .u64 (W64 x1), .int .u64 (W64 x2), .int .u64 (W64 x3)], .int .u64 (W64 lo2), .slice a n c] w (fun e w' => e = .returned (.int .i64 0) ∧ ∃ F', HS w0 w' hb F' k kh kl (stateF x0 x1 x2 x3) l lo2 ∧ Fr F w w' ∧ ∀ x, F' x → F x ∨ w.heap.size ≤ x) := by
 obtain ⟨ib, sb, tv, c6, c7, c8, c9, c10, c11, hr, hc, hL, rfl⟩ := h
 refine hSet_of hr.c3 316 (fun W => by kernel_rfl) (calls_enter Tryz.func316 (by kernel_rfl) (by kernel_rfl)) x0 x1 x2 x3 lo2 a n c true (F := Foot sb tv) (hL.on.con _ _ hr ⟨_, _, rfl, by decide⟩) (fun x hx => hL.lt x (.inr hx)) (fun W hW => (Set_right (hL.no hW) x0 x1 x2 x3 _ rfl lo2 a n c hw hfit l (hy.no hW) hn).mono ?_)
 rintro e w' ⟨tv2, rfl, hL', hf, hk⟩
 have hK := (hL.no hW).on.con
 have hf2 : Fr (Foot sb tv) W w' := hf.mono (fun x _ g => .inl g)
 have hr := hr.no hW
 have hc := hc.no hW
 refine ⟨rfl, ⟨_, ⟨ib, sb, _, c6, c7, c8, c9, c10, c11, hr.fr hf2 hK, (hc.fr hf2 (hK) (by decide)), hL', rfl⟩, (hW.mono (fun x _ g => g.elim)).trans hf2 (fun x hx => .inl hx), fun x hx => ?_⟩, hf2⟩
 rcases hx with rfl | hx
 · exact .inl (.inl rfl)
 · exact .inr (Nat.le_trans hW.size (hk _ hx))
end Go.Proofs.YtidlpihoafnobaaGreatDoor.StX64
namespace Go.Proofs.YtidlpihoafnobaaGreatDoor.StX64
open Go.Proofs.YtidlpihoafnobaaGreatDoor.StG64
set_option maxRecDepth 100000
open Go.RowKit
theorem one_cl (kh kl : BitVec 64) (a : Option Addr) (n c : Nat) (l : Bytes) (w : World) (hy : IsBytes w a n c l) (hn : n ≤ 1099511627776) :
 Calls Tryz.prog 156 #[.agg #[.int .u64 (W64 kh), .int .u64 (W64 kl)], .slice a n c] w (GivesBytes (leb (oneF kl l) 8) w) := by
 have hA := row2_new w 30 (.int .u64 (W64 kh)) (.int .u64 (W64 kl))
 have hF := (Fr.refl No w).alloc (.cells #[.int .u64 (W64 kh), .int .u64 (W64 kl)] 30)
 have hlt := hF.size
 replace hy := hy.no hF
 go_enter Tryz.func156, Tryz.ntmps156
 go_upto_region 1 with fail
 generalize w.heap.size = ab at hA ⊢
 generalize w.alloc (.cells #[.int .u64 (W64 kh), .int .u64 (W64 kl)] 30) = w1 at hF hA hlt hy ⊢
 have k0 := hA.c0
 have k1 := hA.c1
 go_wp2_with fail
 refine (One_any _ a n c l _ hy hn).mono ?_
 rintro e w2 ⟨rfl, hf2⟩
 go_wp2_with fail
 refine (eight_any _ _).mono ?_
 rintro e w3 ⟨v3, rfl, hO3, hf3⟩
 obtain ⟨a3, c3, rfl, hb3, _⟩ := hO3.bytes
 go_wp2_with fail
 go_ret
 exact ⟨_, rfl, hO3.mono (by have := hf2.size; omega), (hF.no hf2).no hf3⟩
theorem made_cl {w0 w : World} (hw : Fr No w0 w) (kh kl : BitVec 64) :
 Calls Tryz.prog 159 #[.agg #[.int .u64 (W64 kh), .int .u64 (W64 kl)]] w (fun e w' => ∃ hb, e = .returned (.pointer (some ⟨hb, 0, none⟩)) ∧ ∃ F, HS w0 w' hb F 5 kh kl (firstF kl) [] 0#64 ∧ (∀ x, F x → w.heap.size ≤ x) ∧ Fr No w w') := by
 have hA := row2_new w 30 (.int .u64 (W64 kh)) (.int .u64 (W64 kl))
 have hF := (Fr.refl No w).alloc (.cells #[.int .u64 (W64 kh), .int .u64 (W64 kl)] 30)
 have hlt := hF.size
 replace hw := hw.no hF
 go_enter Tryz.func159, Tryz.ntmps159
 go_wp2_with fail
 generalize w.heap.size = ab at hA ⊢
 generalize w.alloc (.cells #[.int .u64 (W64 kh), .int .u64 (W64 kl)] 30) = w1 at hF hA hlt hw ⊢
 refine rsq (by kernel_rfl) [(0, 1), (1, 1), (2, 1), (3, 0), (4, 0), (5, 1)] (by kernel_rfl) ?_
 have hS0 : Fr No w1 w1.drew := (Fr.refl No w1).drew
 iterate 3 refine tq _ rfl rfl (by intro w9 h9; have k0 := (hA.no h9).c0; have k1 := (hA.no h9).c1; clear h9; go_simp; try with_reducible rfl) ?_; simp only [es1, es2, es3]
 refine wpSeq_next rfl rfl (fun K hK => ?_)
 go_wp2_with fail
 refine (New_h kl w0 _ (hw.no hS0)).mono ?_
 rintro e w2 ⟨ib, sb, rfl, hge1, hge2, hL2, hf2⟩
 have hs2 : Fr No w1 w2 := (hS0).no hf2
 have hz0 := (hS0).size
 refine hK.out _ _ (fun _ => hs2) ?_
 clear hK K
 refine wpSeq_next rfl rfl (fun K hK => ?_)
 go_wp2_with fail
 refine (wrapped_h hL2).mono ?_
 rintro e w3 ⟨hb3, rfl, hH3, hge3, hf3⟩
 have hs3 : Fr No w1 w3 := (hs2).no hf3
 refine hK.out _ _ (fun _ => hs3) ?_
 clear hK K
 refine tp _ rfl rfl ?_; simp only [es1, es2, es3]
 refine wpSeq_done ?_
 go_wp2_with fail
 go_ret
 refine ⟨hb3, rfl, _, hH3, fun x hx => ?_, hF.no hs3⟩
 rcases hx with rfl | hx
 · omega
 · simp [Value.ownBlock] at hx
theorem great_any (w : World) : Calls Tryz.prog 95 #[] w (GivesNew (.agg #[.string ⟨#[120, 120, 54, 52]⟩, .int .i64 8, .int .i64 32, .int .i64 64, .func (.func 156) #[] #[], .func (.func 159) #[] #[]]) w) := by
 have hZ := row6_new w 89 (.string ⟨#[]⟩) (.int .i64 0) (.int .i64 0) (.int .i64 0) .nilFunc .nilFunc
 have hF := (Fr.refl No w).alloc (.cells #[.string ⟨#[]⟩, .int .i64 0, .int .i64 0, .int .i64 0, .nilFunc, .nilFunc] 89)
 go_enter Tryz.func95, Tryz.ntmps95
 go_upto_region 1 with fail
 obtain ⟨wz, hwz⟩ : ∃ wz : Nat, wz = w.heap.size := ⟨_, rfl⟩
 have hge : w.heap.size ≤ wz := by omega
 rw [← hwz] at hZ ⊢
 clear hwz
 generalize w.alloc (.cells #[.string ⟨#[]⟩, .int .i64 0, .int .i64 0, .int .i64 0, .nilFunc, .nilFunc] 89) = w6 at hF hZ ⊢
 have z0 := hZ.c0
 have z1 := hZ.c1
 have z2 := hZ.c2
 have z3 := hZ.c3
 have z4 := hZ.c4
 have z5 := hZ.c5
 have y0 := hZ.fz 0
 have y1 := hZ.fz 1
 have y2 := hZ.fz 2
 have y3 := hZ.fz 3
 have y4 := hZ.fz 4
 have y5 := hZ.fz 5
 go_wp2_with fail
 have hR := row_put6 hZ (.string ⟨#[120, 120, 54, 52]⟩) (.int .i64 8) (.int .i64 32) (.int .i64 64) (.func (.func 156) #[] #[]) (.func (.func 159) #[] #[])
 have hP := fr_put6 w6 wz (.string ⟨#[120, 120, 54, 52]⟩) (.int .i64 8) (.int .i64 32) (.int .i64 64) (.func (.func 156) #[] #[]) (.func (.func 159) #[] #[])
 have cd0 := hR.c0
 have cd1 := hR.c1
 have cd2 := hR.c2
 have cd3 := hR.c3
 have cd4 := hR.c4
 have cd5 := hR.c5
 refine bodyPost_ret (v := .agg #[.string ⟨#[120, 120, 54, 52]⟩, .int .i64 8, .int .i64 32, .int .i64 64, .func (.func 156) #[] #[], .func (.func 159) #[] #[]]) (by simp [results, Tryz.results95, go_sem, cd0, cd1, cd2, cd3, cd4, cd5]) rfl ?_
 exact ⟨rfl, hF.trans hP (fun x hx => .inr (by omega))⟩
end Go.Proofs.YtidlpihoafnobaaGreatDoor.StX64
