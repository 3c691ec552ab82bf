/- HashM86 -/
import Derived.Test.YtidlpihoafnobaaGreatDoorPRefEndM86
import Derived.Test.YtidlpihoafnobaaGreatDoorPHashX32
set_option linter.unusedVariables false
set_option linter.unusedSimpArgs false
namespace Go.Proofs.YtidlpihoafnobaaGreatDoor.StM86
set_option maxRecDepth 100000
open Go.Proofs.YtidlpihoafnobaaGreatDoor.StG32
open Go.RowKit
structure HLive (w0 w : World) (hb sb : Nat) (sd : BitVec 32) (s : ST) (tl : Bytes) (lo : BitVec 64) (tv : Value) : Prop where
 on : Live w0 w sb 16 (firstF sd) s q0 tl lo tv
 hc : w.heap[hb]? = some (.cells #[.pointer (some ⟨sb, 0, none⟩)] 204 (0, 0))
 ge : w0.heap.size ≤ hb
 ne : ¬ Foot sb tv hb
 tlen : tl.length < 16
def HFoot (hb sb : Nat) (tv : Value) (x : Nat) : Prop := x = hb ∨ Foot sb tv x
section
variable {w0 w w' : World} {hb sb : Nat} {sd : BitVec 32} {s : ST} {tl : Bytes} {lo : BitVec 64} {tv : Value}
theorem HLive.lt (h : HLive w0 w hb sb sd s tl lo tv) : ∀ x, HFoot hb sb tv x → x < w.heap.size := fun x hx => by
 rcases hx with rfl | hx
 · exact (Array.getElem?_eq_some_iff.1 h.hc).1
 · exact h.on.lt x hx
theorem HLive.above (h : HLive w0 w hb sb sd s tl lo tv) : ∀ x, HFoot hb sb tv x → w0.heap.size ≤ x := fun x hx => by
 rcases hx with rfl | hx
 · exact h.ge
 · exact h.on.above x hx
theorem HLive.fr (h : HLive w0 w hb sb sd s tl lo tv) : Fr No w0 w := h.on.fr
theorem HLive.keep {F : Nat → Prop} (h : HLive w0 w hb sb sd s tl lo tv) (k : Fr F w w') (hF : ∀ x, F x → ¬ HFoot hb sb tv x) (hA : ∀ x, F x → w0.heap.size ≤ x) : HLive w0 w' hb sb sd s tl lo tv :=
 ⟨h.on.keep k (fun x hx g => hF x hx (.inr g)) hA, k.heap (fun g => hF _ g (.inl rfl)) h.hc, h.ge, h.ne, h.tlen⟩
theorem HLive.no (h : HLive w0 w hb sb sd s tl lo tv) (k : Fr No w w') : HLive w0 w' hb sb sd s tl lo tv := h.keep k (fun _ g => g.elim) (fun _ g => g.elim)
theorem HLive.cell (h : HLive w0 w hb sb sd s tl lo tv) : w.cell? ⟨hb, 0, none⟩ = some (.pointer (some ⟨sb, 0, none⟩)) := by rw [cell_of_row w hb 0 _ _ _ h.hc]; rfl
end
theorem made_h {w0 w : World} {hb sb : Nat} {sd : BitVec 32} {s : ST} {tl : Bytes} {lo : BitVec 64} {tv : Value} (h : HLive w0 w hb sb sd s tl lo tv) : Calls Tryz.prog 131 #[.pointer (some ⟨hb, 0, none⟩)] w (Gives (.bool true) w) := by
 have cc := h.cell
 go_enter Tryz.func131, Tryz.ntmps131
 go_wp2
 go_ret
 exact ⟨rfl, rfl⟩
def GivesHash (w0 w : World) (sd : BitVec 32) (e : Ending) (w' : World) : Prop := ∃ hb sb, e = .returned (.pointer (some ⟨hb, 0, none⟩)) ∧ w.heap.size ≤ hb ∧ w.heap.size ≤ sb ∧ HLive w0 w' hb sb sd (firstF sd) [] 0#64 (.slice none 0 0) ∧ Fr No w w'
set_option maxHeartbeats 400000 in
theorem New_h (sd : BitVec 32) (w0 w : World) (hf : Fr No w0 w) : Calls Tryz.prog 81 #[.int .u32 (W32 sd)] w (GivesHash w0 w sd) := by
 have hW1 : Fr No w w := Fr.refl No w
 go_enter Tryz.func81, Tryz.ntmps81
 go_wp2_with fail
 refine (New_any 16 (firstF sd) q0 _ (by omega) (by omega)).mono ?_
 rintro e w2 ⟨sb, rfl, hge, hlt, hst, hfr⟩
 have hz : sizeOk 16 = ((16 : Nat) : Int) := rfl
 rw [hz] at hst
 have hW := hW1.no hfr
 have g0 := hf.size
 have g1 := hW1.size
 have g2 := hfr.size
 clear hz
 go_wp2_with fail
 go_ret
 have h3 : Fr No w2 (w2.alloc (.cells #[.pointer (some ⟨sb, 0, none⟩)] 204)) := (Fr.refl No w2).alloc _
 refine ⟨w2.heap.size, sb, rfl, by omega, by omega, ⟨⟨hst.fr h3 (fun h => h), Owns.nil _ _, by omega, (hf.no hW).no h3⟩, heap_alloc_new w2 _, by omega, ?_, by simp⟩, hW.no h3⟩
 rintro (g | g)
 · omega
 · simp [Value.ownBlock] at g
def HWrote (w0 : World) (hb sb : Nat) (sd : BitVec 32) (tv : Value) (r : ST × Bytes) (lo : BitVec 64) (w : World) (e : Ending) (w' : World) : Prop :=
 e = .returned (.tuple #[]) ∧ ∃ tv', HLive w0 w' hb sb sd r.1 r.2 lo tv' ∧ Fr (Foot sb tv) w w' ∧ (tv'.ownBlock = tv.ownBlock ∨ ∀ x, tv'.ownBlock = some x → w.heap.size ≤ x)
theorem Write_h {w0 w : World} {hb sb : Nat} {sd : BitVec 32} {s : ST} {tl : Bytes} {lo : BitVec 64} {tv : Value} (h : HLive w0 w hb sb sd s tl lo tv) (a : Option Addr) (n c : Nat) (l : Bytes) (hy : IsBytes w a n c l) (hap : Apart (Foot sb tv) a n) (hn : n ≤ 1099511627776) :
 Calls Tryz.prog 282 #[.pointer (some ⟨hb, 0, none⟩), .slice a n c] w (HWrote w0 hb sb sd tv (foldF stepG 16 s (tl ++ l)) (lo + BitVec.ofNat 64 n) w) := by
 have cc := h.cell
 have q4 := foldF_lt (F := stepG) (size := 16) (by omega) s (tl ++ l)
 have hlt := h.lt hb (.inl rfl)
 generalize hr : foldF stepG 16 s (tl ++ l) = r at q4 ⊢
 have HR := Lib.hid hr
 clear hr
 go_enter Tryz.func282, Tryz.ntmps282
 go_wp2_with (go_at_call 131; refine (made_h h).mono ?_; rintro e w' ⟨rfl, rfl⟩)
 refine (live_write (fun _ => True) stepG h.on (fun _ _ => trivial) steps_any (by omega) (by omega) h.tlen a n c l hy hap hn).mono ?_
 rw [HR.out]
 rintro e w2 ⟨rfl, tv2, hL, hf, hk⟩
 have hn2 : ¬ Foot sb tv2 hb := fun g => by
  rcases g with g | g
  · exact h.ne (.inl g)
  · rcases hk with e | e
    · exact h.ne (.inr (by rw [← e]; exact g))
    · have := e _ g; omega
 have hH : HLive w0 w2 hb sb sd r.1 r.2 (lo + BitVec.ofNat 64 n) tv2 := ⟨hL, hf.heap h.ne h.hc, h.ge, hn2, q4⟩
 clear cc
 go_wp2_with fail
 go_end0
 exact ⟨rfl, tv2, hH, hf, hk⟩
set_option maxHeartbeats 1000000 in
theorem Sum_h {w0 w : World} {hb sb : Nat} {sd : BitVec 32} {s : ST} {tl : Bytes} {lo : BitVec 64} {tv : Value} (h : HLive w0 w hb sb sd s tl lo tv) : Calls Tryz.prog 82 #[.pointer (some ⟨hb, 0, none⟩)] w (GivesNew (.agg #[.int .u64 (W64 ((endHi s tl lo))), .int .u64 (W64 ((endLo s tl lo)))]) w) := by
 have hf1 : Fr No w (w.alloc (.cells #[.int .u64 0, .int .u64 0] 30)) := (Fr.refl No w).alloc _
 have hT : Row2 (w.alloc (.cells #[.int .u64 0, .int .u64 0] 30)) w.heap.size 30 (.int .u64 0) (.int .u64 0) := row2_new w _ _ _
 have h1 := h.no hf1
 go_enter Tryz.func82, Tryz.ntmps82
 go_wp2_with (go_at_call 131; refine (made_h h1).mono ?_; rintro e w' ⟨rfl, rfl⟩)
 obtain ⟨pb, hpb⟩ : ∃ pb, pb = w.heap.size := ⟨_, rfl⟩
 have hpw : w.heap.size ≤ pb := by omega
 rw [← hpb] at hT ⊢
 clear hpb
 generalize w.alloc (.cells #[.int .u64 0, .int .u64 0] 30) = w1 at hf1 hT h1 ⊢
 have cc := h1.cell
 refine wp_region_seq (by kernel_rfl) (fun w' => Fr No w1 w') (fun i => decide (16 ≤ i)) [(0, 1), (1, 1), (2, 1), (3, 1), (5, 1), (6, 1), (7, 1), (8, 1), (10, 1), (11, 1), (12, 1), (13, 1), (4, 0), (9, 0), (14, 0), (15, 0), (16, 0)] (by kernel_rfl) (Fr.refl No w1).drew ?_
 have hv0 : Fr No w1 w1.drew := (Fr.refl No w1).drew
 iterate 12 refine tq _ rfl rfl (by intro w9 h9; have ccc := h9.cell (fun h => h) cc; clear h9; go_simp; try with_reducible rfl) ?_; simp only [es1, es2, es3]
 refine wpSeq_next rfl rfl (fun K hK => ?_)
 go_wp2_with fail
 refine (State_any (h1.no hv0).on.st).mono ?_
 rintro e xhv1 ⟨rfl, hx⟩
 have hv1 := hv0.no hx
 clear hx
 refine hK.out _ _ (fun _ => hv1) ?_
 clear hK K
 refine wpSeq_next rfl rfl (fun K hK => ?_)
 go_wp2_with fail
 refine (StG32.Tail_any (h1.no hv1).on.st (h1.no hv1).on.ow (by have := h.tlen; omega)).mono ?_
 rintro e xhv2 ⟨vt, rfl, ho, hx⟩
 have hv2 := hv1.no hx
 obtain ⟨at_, ct, rfl, hbt, _⟩ := ho.bytes
 clear hx
 refine hK.out _ _ (fun _ => hv2) ?_
 clear hK K
 refine wpSeq_next rfl rfl (fun K hK => ?_)
 go_wp2_with fail
 refine (Long_any (h1.no hv2).on.st).mono ?_
 rintro e w' ⟨rfl, rfl⟩
 refine hK.out _ _ (fun _ => hv2) ?_
 clear hK K
 refine wpSeq_next rfl rfl (fun K hK => ?_)
 go_wp2_with fail
 refine (end_any s _ _ _ tl lo _ hbt).mono ?_
 rintro e xhv3 ⟨rfl, hx⟩
 have hv3 := hv2.no hx
 clear hx
 refine hK.out _ _ (fun _ => hv3) ?_
 clear hK K
 have hTx := hT.no hv3
 have cx := hTx.c0
 have fx := hTx.fz 0
 have cy := hTx.c1
 have fy := hTx.fz 1
 refine wpSeq_next rfl rfl (fun K hK => ?_)
 go_wp2_with fail
 refine hK.out _ _ (fun h => by simp at h) ?_
 clear hK K
 refine wpSeq_done ?_
 obtain ⟨z1, hz1⟩ : ∃ z, z = endHi s tl lo := ⟨_, rfl⟩
 obtain ⟨z2, hz2⟩ : ∃ z, z = endLo s tl lo := ⟨_, rfl⟩
 rw [← hz1, ← hz2]
 have HZ1 := Lib.hid hz1
 have HZ2 := Lib.hid hz2
 clear hz1 hz2
 have hF8 := hf1.no hv3
 have hF9 := fr_put2 xhv3 pb (.int .u64 (W64 (z1))) (.int .u64 (W64 (z2)))
 have hR9 := row_put2 hTx (.int .u64 (W64 (z1))) (.int .u64 (W64 (z2)))
 clear hTx cx fx cy fy hT h1 hf1 hv0 hv1 hv2 hv3
 generalize (xhv3.setCell ⟨pb, 0, none⟩ (.int .u64 (W64 (z1)))).setCell ⟨pb, 1, none⟩ (.int .u64 (W64 (z2))) = w9 at hF9 hR9 ⊢
 have cd0 := hR9.c0
 have cd1 := hR9.c1
 go_wp2_with fail
 refine bodyPost_ret (v := .agg #[.int .u64 (W64 (z1)), .int .u64 (W64 (z2))]) (by simp [results, Tryz.results82, go_sem, cd0, cd1]) rfl ?_
 exact ⟨by rw [HZ1.out, HZ2.out], hF8.trans hF9 (fun x hx => .inr (by omega))⟩
def GivesHLanes (s : ST) (tl : Bytes) (lo : BitVec 64) (w : World) (e : Ending) (w' : World) : Prop := ∃ v, e = .returned (.tuple #[lanesV s, .int .u64 (W64 lo), v]) ∧ Owns w' w.heap.size v tl ∧ Fr No w w'
set_option maxHeartbeats 1000000 in
theorem Lanes_h {w0 w : World} {hb sb : Nat} {sd : BitVec 32} {s : ST} {tl : Bytes} {lo : BitVec 64} {tv : Value} (h : HLive w0 w hb sb sd s tl lo tv) : Calls Tryz.prog 279 #[.pointer (some ⟨hb, 0, none⟩)] w (GivesHLanes s tl lo w) := by
 have hlt := h.lt hb (.inl rfl)
 have hF1 : Fr No w (w.alloc (.cells #[.int .u64 0, .int .u64 0, .int .u64 0, .int .u64 0] 31)) := (Fr.refl No w).alloc _
 have h1 := h.no hF1
 have hR := row4_new w 31 (.int .u64 0) (.int .u64 0) (.int .u64 0) (.int .u64 0)
 go_enter Tryz.func279, Tryz.ntmps279
 go_wp2_with (go_at_call 131; refine (made_h h1).mono ?_; rintro e w' ⟨rfl, rfl⟩)
 obtain ⟨rb, hrb⟩ : ∃ rb, rb = w.heap.size := ⟨_, rfl⟩
 have hnb : ¬ hb = rb := by omega
 have hk := Lib.hid (fun (w' : World) (k : Fr (fun x => x = rb) (w.alloc (.cells #[.int .u64 0, .int .u64 0, .int .u64 0, .int .u64 0] 31)) w') => h1.keep k (fun x hx g => by have := h.lt x g; omega) (fun x hx => by have := h.on.fr.size; omega))
 rw [← hrb] at hR ⊢
 have hrg : w.heap.size ≤ rb := by omega
 clear hrb
 generalize w.alloc (.cells #[.int .u64 0, .int .u64 0, .int .u64 0, .int .u64 0] 31) = w1 at hF1 h1 hR hk ⊢
 have hrl := hR.lt
 have cc := h1.cell
 refine wp_region_seq (by kernel_rfl) (fun w' => Fr (fun x => x = rb) w1 w') (fun _ => false) [(0, 1), (1, 1), (2, 1), (3, 1), (6, 1), (7, 1), (8, 1), (9, 1), (11, 1), (12, 1), (13, 1), (14, 1), (4, 0), (5, 0), (10, 0), (15, 0), (16, 0), (17, 1), (18, 1)] (by kernel_rfl) (Fr.refl _ w1).drew ?_
 have hv0 : Fr No w1 w1.drew := (Fr.refl No w1).drew
 iterate 12 refine tq _ rfl rfl (by intro w9 h9; have ccc := h9.cell hnb cc; clear h9; go_simp; try with_reducible rfl) ?_; simp only [es1, es2, es3]
 refine wpSeq_next rfl rfl (fun K hK => ?_)
 go_wp2_with fail
 refine (State_any (hk.out _ (hv0.mono (fun _ _ f => f.elim))).on.st).mono ?_
 rintro e xhv1 ⟨rfl, hx⟩
 have hv1 := hv0.no hx
 clear hx
 refine hK.out _ _ (fun _ => (hv1.mono (fun _ _ f => f.elim))) ?_
 clear hK K
 refine wpSeq_next rfl rfl (fun K hK => ?_)
 go_wp2_with fail
 refine (wide_any s _).mono ?_
 rintro e xhv2 ⟨rfl, hx⟩
 have hv2 := hv1.no hx
 clear hx
 unfold lanesV
 refine hK.out _ _ (fun _ => (hv2.mono (fun _ _ f => f.elim))) ?_
 clear hK K
 refine wpSeq_next rfl rfl (fun K hK => ?_)
 go_wp2_with fail
 refine (Long_any (hk.out _ (hv2.mono (fun _ _ f => f.elim))).on.st).mono ?_
 rintro e w' ⟨rfl, rfl⟩
 refine hK.out _ _ (fun _ => (hv2.mono (fun _ _ f => f.elim))) ?_
 clear hK K
 refine wpSeq_next rfl rfl (fun K hK => ?_)
 go_wp2_with fail
 refine (StG32.Tail_any (hk.out _ (hv2.mono (fun _ _ f => f.elim))).on.st (hk.out _ (hv2.mono (fun _ _ f => f.elim))).on.ow (by have := h.tlen; omega)).mono ?_
 rintro e xhv3 ⟨vt, rfl, ho, hx⟩
 have hsz := hv2.size
 have hv3 := hv2.no hx
 obtain ⟨at_, ct, rfl, _, _⟩ := ho.bytes
 clear hx
 refine hK.out _ _ (fun _ => (hv3.mono (fun _ _ f => f.elim))) ?_
 clear hK K
 have hRx := hR.no hv3
 have cr0 := hRx.c0
 have cr1 := hRx.c1
 have cr2 := hRx.c2
 have cr3 := hRx.c3
 have fr0 := hRx.fz 0
 have fr1 := hRx.fz 1
 have fr2 := hRx.fz 2
 have fr3 := hRx.fz 3
 refine wpSeq_next rfl rfl (fun K hK => ?_)
 go_wp2_with fail
 have hF3 := fr_put4 xhv3 rb (.int .u64 (W64 (s.1.setWidth 64))) (.int .u64 (W64 (s.2.1.setWidth 64))) (.int .u64 (W64 (s.2.2.1.setWidth 64))) (.int .u64 (W64 (s.2.2.2.setWidth 64)))
 have hR3 := row_put4 hRx (.int .u64 (W64 (s.1.setWidth 64))) (.int .u64 (W64 (s.2.1.setWidth 64))) (.int .u64 (W64 (s.2.2.1.setWidth 64))) (.int .u64 (W64 (s.2.2.2.setWidth 64)))
 have hs3 : Fr (fun x => x = rb) w1 _ := (hv3.mono (fun _ _ f => f.elim)).trans hF3 (fun _ h => .inl h)
 refine hK.out _ _ (fun _ => hs3) ?_
 clear hK K
 clear cr0 fr0 cr1 fr1 cr2 fr2 cr3 fr3
 generalize ((((xhv3.setCell ⟨rb, 0, none⟩ (.int .u64 (W64 (s.1.setWidth 64)))).setCell ⟨rb, 1, none⟩ (.int .u64 (W64 (s.2.1.setWidth 64)))).setCell ⟨rb, 2, none⟩ (.int .u64 (W64 (s.2.2.1.setWidth 64)))).setCell ⟨rb, 3, none⟩ (.int .u64 (W64 (s.2.2.2.setWidth 64)))) = w3 at hF3 hR3 hs3 ⊢
 iterate 2 refine tp _ rfl rfl ?_; simp only [es1, es2, es3]
 refine wpSeq_done ?_
 have cd0 := hR3.c0
 have cd1 := hR3.c1
 have cd2 := hR3.c2
 have cd3 := hR3.c3
 have g1 := hF1.size
 go_wp2_with fail
 refine bodyPost_ret (v := .tuple #[lanesV s, .int .u64 (W64 lo), .slice at_ tl.length ct]) (by simp [results, Tryz.results279, go_sem, cd0, cd1, cd2, cd3, lanesV]) rfl ?_
 exact ⟨_, rfl, (ho.fr hF3 (fun x hx e => by have := own_ge ho hx; omega)).mono (by omega), hF1.trans hs3 (fun x hx => .inr (by omega))⟩
theorem fits_lt {n : Nat} {lo : BitVec 64} {size : Nat} (h : fitsB n lo size = true) (hn : n ≤ 1099511627776) (h1 : 1 ≤ size) (h2 : size ≤ 64) : n < size := by
 unfold fitsB at h
 have := congrArg BitVec.toNat (beq_iff_eq.1 h)
 simp only [BitVec.toNat_umod, BitVec.toNat_ofNat] at this
 rw [Nat.mod_eq_of_lt (show n < 2 ^ 64 by omega), Nat.mod_eq_of_lt (show size < 2 ^ 64 by omega)] at this
 rw [this]
 exact Nat.mod_lt _ (by omega)
def RightP (x0 x1 x2 x3 : BitVec 64) : Prop := (x0.setWidth 32).setWidth 64 = x0 ∧ (x1.setWidth 32).setWidth 64 = x1 ∧ (x2.setWidth 32).setWidth 64 = x2 ∧ (x3.setWidth 32).setWidth 64 = x3
def stateF (x0 x1 x2 x3 : BitVec 64) : ST := (x0.setWidth 32, x1.setWidth 32, x2.setWidth 32, x3.setWidth 32)
def HSets (w0 : World) (hb sb : Nat) (sd : BitVec 32) (s2 : ST) (l : Bytes) (lo2 : BitVec 64) (w : World) (e : Ending) (w' : World) : Prop :=
 ∃ tv2, e = .returned (.bool true) ∧ HLive w0 w' hb sb sd s2 l lo2 tv2 ∧ Fr (fun x => x = sb) w w' ∧ ∀ x, tv2.ownBlock = some x → w.heap.size ≤ x
theorem lanesV_state (x0 x1 x2 x3 : BitVec 64) : lanesV (stateF x0 x1 x2 x3) = .agg #[.int .u64 (W64 ((x0.setWidth 32).setWidth 64)), .int .u64 (W64 ((x1.setWidth 32).setWidth 64)), .int .u64 (W64 ((x2.setWidth 32).setWidth 64)), .int .u64 (W64 ((x3.setWidth 32).setWidth 64))] := rfl
set_option maxHeartbeats 800000 in
theorem Set_right {w0 w : World} {hb sb : Nat} {sd : BitVec 32} {s : ST} {tl : Bytes} {lo : BitVec 64} {tv : Value} (h : HLive w0 w hb sb sd s tl lo tv) (x0 x1 x2 x3 : BitVec 64) (lv : Value) (hlv : lv = .agg #[.int .u64 (W64 x0), .int .u64 (W64 x1), .int .u64 (W64 x2), .int .u64 (W64 x3)]) (lo2 : BitVec 64) (a : Option Addr) (n c : Nat) (hw : RightP x0 x1 x2 x3) (hfit : fitsB n lo2 16 = true) (l : Bytes) (hy : IsBytes w a n c l) (hn : n ≤ 1099511627776) : Calls Tryz.prog 281 #[.pointer (some ⟨hb, 0, none⟩), lv, .int .u64 (W64 lo2), .slice a n c] w (HSets w0 hb sb sd (stateF x0 x1 x2 x3) l lo2 w) := by
 subst hlv
 have hF1 : Fr No w (w.alloc (.cells #[.int .u64 (W64 x0), .int .u64 (W64 x1), .int .u64 (W64 x2), .int .u64 (W64 x3)] 31)) := (Fr.refl No w).alloc _
 have hR1 := row4_new w 31 (.int .u64 (W64 x0)) (.int .u64 (W64 x1)) (.int .u64 (W64 x2)) (.int .u64 (W64 x3))
 have h1 := h.no hF1
 have cc := h1.cell
 obtain ⟨pb0, hpb0⟩ : ∃ pb0, pb0 = w.heap.size := ⟨_, rfl⟩
 have hHid := Lib.hid hpb0
 clear hpb0
 go_enter Tryz.func281, Tryz.ntmps281
 go_wp2_with fail
 have hpb0 := hHid.out
 clear hHid
 have g2 := hF1.size
 have hps : ¬ pb0 = sb := by have := h.lt sb (.inr (.inl rfl)); omega
 rw [← hpb0] at hR1 ⊢
 clear hpb0
 obtain ⟨pb, rfl⟩ : ∃ pb, pb = pb0 := ⟨_, rfl⟩
 generalize w.alloc (.cells #[.int .u64 (W64 x0), .int .u64 (W64 x1), .int .u64 (W64 x2), .int .u64 (W64 x3)] 31) = w1 at hF1 hR1 h1 cc g2 ⊢
 have hq : ((x0.setWidth 32).setWidth 64 == x0 && (x1.setWidth 32).setWidth 64 == x1 && (x2.setWidth 32).setWidth 64 == x2 && (x3.setWidth 32).setWidth 64 == x3) = true := by
  obtain ⟨e0, e1, e2, e3⟩ := hw
  rw [e0, e1, e2, e3]
  simp
 refine rsq (by kernel_rfl) [(0, 1), (1, 0), (2, 1), (3, 1), (4, 1), (7, 1), (5, 0), (6, 0), (8, 1), (9, 1)] (by kernel_rfl) ?_
 have hv0 : Fr No w1 w1.drew := (Fr.refl No w1).drew
 refine tp _ rfl rfl ?_; simp only [es1, es2, es3]
 refine wpSeq_next rfl rfl (fun K hK => ?_)
 go_wp2_with fail
 refine (made_h (h1.no hv0)).mono ?_
 rintro e w' ⟨rfl, rfl⟩
 refine hK.out _ _ (fun _ => hv0) ?_
 clear hK K
 iterate 4 refine tq _ rfl rfl (by intro w9 h9; have q0 := (hR1.no h9).c0; have q1 := (hR1.no h9).c1; have q2 := (hR1.no h9).c2; have q3 := (hR1.no h9).c3; have ch := (h1.no h9).cell; clear h9; go_simp; try with_reducible rfl) ?_; simp only [es1, es2, es3]
 refine wpSeq_next rfl rfl (fun K hK => ?_)
 go_wp2_with fail
 refine (narrow_any x0 x1 x2 x3 _).mono ?_
 rintro e xhv1 ⟨rfl, hx⟩
 have hv1 := hv0.no hx
 clear hx
 refine hK.out _ _ (fun _ => hv1) ?_
 clear hK K
 refine wpSeq_next rfl rfl (fun K hK => ?_)
 go_wp2_with fail
 refine (wide_any (stateF x0 x1 x2 x3) _).mono ?_
 rintro e xhv2 ⟨rfl, hx⟩
 have hv2 := hv1.no hx
 clear hx
 rw [lanesV_state]
 refine hK.out _ _ (fun _ => hv2) ?_
 clear hK K
 iterate 2 refine tp _ rfl rfl ?_; simp only [es1, es2, es3]
 refine wpSeq_done ?_
 go_wp2_with fail
 have h2 := h1.no hv2
 have hR2 := hR1.no hv2
 have hF2 := hF1.no hv2
 generalize xhv2 = w2 at h2 hR2 hF2 ⊢
 clear hR1 hv0 cc hv1 hv2
 have hb2 := hy.no hF2
 have cc := h2.cell
 have hnb : ¬ hb = sb := fun e => h2.ne (.inl e)
 refine wp_region_seq (by kernel_rfl) (fun w' => Fr (fun x => x = sb) w2 w') (fun _ => false) [(0, 1), (1, 1), (2, 1), (3, 1), (4, 1), (6, 1), (7, 1), (5, 0), (8, 0), (9, 1)] (by kernel_rfl) (Fr.refl _ w2).drew ?_
 have hv0 : Fr No w2 w2.drew := (Fr.refl No w2).drew
 iterate 7 refine tq _ rfl rfl (by intro w9 h9; have q0 := (hR2.fr h9 hps).c0; have q1 := (hR2.fr h9 hps).c1; have q2 := (hR2.fr h9 hps).c2; have q3 := (hR2.fr h9 hps).c3; have ch := h9.cell hnb cc; clear h9; go_simp; try with_reducible rfl) ?_; simp only [es1, es2, es3]
 refine wpSeq_next rfl rfl (fun K hK => ?_)
 go_wp2_with fail
 refine (narrow_any x0 x1 x2 x3 _).mono ?_
 rintro e xhv1 ⟨rfl, hx⟩
 have hv1 := hv0.no hx
 clear hx
 refine hK.out _ _ (fun _ => (hv1.mono (fun _ _ f => f.elim))) ?_
 clear hK K
 refine wpSeq_next rfl rfl (fun K hK => ?_)
 go_wp2_with fail
 refine (Set_yes (h2.no hv1).on.st (by omega) (by omega) (stateF x0 x1 x2 x3) lo2 _ n c l (hb2.no hv1) hn hfit).mono ?_
 rintro e w4 ⟨tv2, rfl, hst, hown, hfr⟩
 have hy4 : Fr (fun x => x = sb) w2 w4 := (hv1.mono (fun _ _ f => f.elim)).trans hfr (fun _ h => .inl h)
 refine hK.out _ _ (fun _ => hy4) ?_
 clear hK K
 refine tp _ rfl rfl ?_; simp only [es1, es2, es3]
 refine wpSeq_done ?_
 have h3 := h2.no hv1
 have hF3 := hF2.no hv1
 have hne : hb ≠ sb := fun e => h.ne (.inl e)
 have hlt := h3.lt hb (.inl rfl)
 have g1 := h3.on.fr.size
 have g3 := hF3.size
 have hH : HLive w0 w4 hb sb sd (stateF x0 x1 x2 x3) l lo2 tv2 :=
  ⟨⟨hst, hown.mono (by omega), h.on.ge, h3.on.fr.trans hfr (fun x hx => .inr (by have := h.on.ge; omega))⟩, hfr.heap hne h3.hc, h.ge, (fun g => by rcases g with g | g; exact hne g; have := own_ge hown g; omega), by rw [hy.1]; exact fits_lt hfit hn (by omega) (by omega)⟩
 go_wp2_with fail
 go_ret
 exact ⟨tv2, rfl, hH, (hF3.mono (fun x _ f => f.elim)).trans hfr (fun x h => .inl h), fun x hx => by have := own_ge hown hx; omega⟩
end Go.Proofs.YtidlpihoafnobaaGreatDoor.StM86
