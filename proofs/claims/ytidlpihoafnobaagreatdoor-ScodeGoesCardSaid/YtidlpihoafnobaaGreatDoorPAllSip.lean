/- HashM64 StrRef EqU StrCheck AllM86 AllM64 AllSip -/
import Derived.Laws.StructEq
import Derived.Lib.Hide
import Derived.Test.YtidlpihoafnobaaGreatDoorProg
import Derived.Test.YtidlpihoafnobaaGreatDoorPHashM86
import Derived.Test.YtidlpihoafnobaaGreatDoorPRefM64
import Derived.Test.YtidlpihoafnobaaGreatDoorPHashSip
set_option linter.unusedVariables false
set_option linter.unusedSimpArgs false
namespace Go.Proofs.YtidlpihoafnobaaGreatDoor.StM64
set_option maxRecDepth 100000
open Go.RowKit
structure HLive (w0 w : World) (hb sb : Nat) (sd : BitVec 32) (s : ST) (tl : Bytes) (lo : BitVec 64) (tv : Value) : Prop where
 on : Live w0 w sb 16 (firstF sd) s 0 tl lo tv
 hc : w.heap[hb]? = some (.cells #[.pointer (some ⟨sb, 0, none⟩)] 217 (0, 0))
 ge : w0.heap.size ≤ hb
 ne : ¬ Foot sb tv hb
 tlen : tl.length < 16
def HFoot (hb sb : Nat) (tv : Value) (x : Nat) : Prop := x = hb ∨ Foot sb tv x
section
variable {w0 w w' : World} {hb sb : Nat} {sd : BitVec 32} {s : ST} {tl : Bytes} {lo : BitVec 64} {tv : Value}
theorem HLive.lt (h : HLive w0 w hb sb sd s tl lo tv) : ∀ x, HFoot hb sb tv x → x < w.heap.size := fun x hx => by
 rcases hx with rfl | hx
 · exact (Array.getElem?_eq_some_iff.1 h.hc).1
 · exact h.on.lt x hx
theorem HLive.above (h : HLive w0 w hb sb sd s tl lo tv) : ∀ x, HFoot hb sb tv x → w0.heap.size ≤ x := fun x hx => by
 rcases hx with rfl | hx
 · exact h.ge
 · exact h.on.above x hx
theorem HLive.fr (h : HLive w0 w hb sb sd s tl lo tv) : Fr No w0 w := h.on.fr
theorem HLive.keep {F : Nat → Prop} (h : HLive w0 w hb sb sd s tl lo tv) (k : Fr F w w') (hF : ∀ x, F x → ¬ HFoot hb sb tv x) (hA : ∀ x, F x → w0.heap.size ≤ x) : HLive w0 w' hb sb sd s tl lo tv :=
 ⟨h.on.keep k (fun x hx g => hF x hx (.inr g)) hA, k.heap (fun g => hF _ g (.inl rfl)) h.hc, h.ge, h.ne, h.tlen⟩
theorem HLive.no (h : HLive w0 w hb sb sd s tl lo tv) (k : Fr No w w') : HLive w0 w' hb sb sd s tl lo tv := h.keep k (fun _ g => g.elim) (fun _ g => g.elim)
theorem HLive.cell (h : HLive w0 w hb sb sd s tl lo tv) : w.cell? ⟨hb, 0, none⟩ = some (.pointer (some ⟨sb, 0, none⟩)) := by rw [cell_of_row w hb 0 _ _ _ h.hc]; rfl
end
theorem made_h {w0 w : World} {hb sb : Nat} {sd : BitVec 32} {s : ST} {tl : Bytes} {lo : BitVec 64} {tv : Value} (h : HLive w0 w hb sb sd s tl lo tv) : Calls Tryz.prog 144 #[.pointer (some ⟨hb, 0, none⟩)] w (Gives (.bool true) w) := by
 have cc := h.cell
 go_enter Tryz.func144, Tryz.ntmps144
 go_wp2
 go_ret
 exact ⟨rfl, rfl⟩
def GivesHash (w0 w : World) (sd : BitVec 32) (e : Ending) (w' : World) : Prop := ∃ hb sb, e = .returned (.pointer (some ⟨hb, 0, none⟩)) ∧ w.heap.size ≤ hb ∧ w.heap.size ≤ sb ∧ HLive w0 w' hb sb sd (firstF sd) [] 0#64 (.slice none 0 0) ∧ Fr No w w'
set_option maxHeartbeats 400000 in
theorem New_h (sd : BitVec 32) (w0 w : World) (hf : Fr No w0 w) : Calls Tryz.prog 87 #[.int .u32 (W32 sd)] w (GivesHash w0 w sd) := by
 go_enter Tryz.func87, Tryz.ntmps87
 go_wp2_with fail
 refine (both_any sd _).mono ?_
 rintro e w1 ⟨rfl, hW1⟩
 go_wp2_with fail
 refine (New_any 16 (firstF sd) 0 _ (by omega) (by omega)).mono ?_
 rintro e w2 ⟨sb, rfl, hge, hlt, hst, hfr⟩
 have hz : sizeOk 16 = ((16 : Nat) : Int) := rfl
 rw [hz] at hst
 have hW := hW1.no hfr
 have g0 := hf.size
 have g1 := hW1.size
 have g2 := hfr.size
 clear hz
 go_wp2_with fail
 go_ret
 have h3 : Fr No w2 (w2.alloc (.cells #[.pointer (some ⟨sb, 0, none⟩)] 217)) := (Fr.refl No w2).alloc _
 refine ⟨w2.heap.size, sb, rfl, by omega, by omega, ⟨⟨hst.fr h3 (fun h => h), Owns.nil _ _, by omega, (hf.no hW).no h3⟩, heap_alloc_new w2 _, by omega, ?_, by simp⟩, hW.no h3⟩
 rintro (g | g)
 · omega
 · simp [Value.ownBlock] at g
def HWrote (w0 : World) (hb sb : Nat) (sd : BitVec 32) (tv : Value) (r : ST × Bytes) (lo : BitVec 64) (w : World) (e : Ending) (w' : World) : Prop :=
 e = .returned (.tuple #[]) ∧ ∃ tv', HLive w0 w' hb sb sd r.1 r.2 lo tv' ∧ Fr (Foot sb tv) w w' ∧ (tv'.ownBlock = tv.ownBlock ∨ ∀ x, tv'.ownBlock = some x → w.heap.size ≤ x)
theorem Write_h {w0 w : World} {hb sb : Nat} {sd : BitVec 32} {s : ST} {tl : Bytes} {lo : BitVec 64} {tv : Value} (h : HLive w0 w hb sb sd s tl lo tv) (a : Option Addr) (n c : Nat) (l : Bytes) (hy : IsBytes w a n c l) (hap : Apart (Foot sb tv) a n) (hn : n ≤ 1099511627776) :
 Calls Tryz.prog 289 #[.pointer (some ⟨hb, 0, none⟩), .slice a n c] w (HWrote w0 hb sb sd tv (foldF stepG 16 s (tl ++ l)) (lo + BitVec.ofNat 64 n) w) := by
 have cc := h.cell
 have q4 := foldF_lt (F := stepG) (size := 16) (by omega) s (tl ++ l)
 have hlt := h.lt hb (.inl rfl)
 generalize hr : foldF stepG 16 s (tl ++ l) = r at q4 ⊢
 have HR := Lib.hid hr
 clear hr
 go_enter Tryz.func289, Tryz.ntmps289
 go_wp2_with (go_at_call 144; refine (made_h h).mono ?_; rintro e w' ⟨rfl, rfl⟩)
 refine (live_write (fun _ => True) stepG h.on (fun _ _ => trivial) steps_any (by omega) (by omega) h.tlen a n c l hy hap hn).mono ?_
 rw [HR.out]
 rintro e w2 ⟨rfl, tv2, hL, hf, hk⟩
 have hn2 : ¬ Foot sb tv2 hb := fun g => by
  rcases g with g | g
  · exact h.ne (.inl g)
  · rcases hk with e | e
    · exact h.ne (.inr (by rw [← e]; exact g))
    · have := e _ g; omega
 have hH : HLive w0 w2 hb sb sd r.1 r.2 (lo + BitVec.ofNat 64 n) tv2 := ⟨hL, hf.heap h.ne h.hc, h.ge, hn2, q4⟩
 clear cc
 go_wp2_with fail
 go_end0
 exact ⟨rfl, tv2, hH, hf, hk⟩
set_option maxHeartbeats 1000000 in
theorem Sum_h {w0 w : World} {hb sb : Nat} {sd : BitVec 32} {s : ST} {tl : Bytes} {lo : BitVec 64} {tv : Value} (h : HLive w0 w hb sb sd s tl lo tv) : Calls Tryz.prog 88 #[.pointer (some ⟨hb, 0, none⟩)] w (GivesNew (.agg #[.int .u64 (W64 ((endHi s tl lo))), .int .u64 (W64 ((endLo s tl lo)))]) w) := by
 have hf1 : Fr No w (w.alloc (.cells #[.int .u64 0, .int .u64 0] 30)) := (Fr.refl No w).alloc _
 have hT : Row2 (w.alloc (.cells #[.int .u64 0, .int .u64 0] 30)) w.heap.size 30 (.int .u64 0) (.int .u64 0) := row2_new w _ _ _
 have h1 := h.no hf1
 go_enter Tryz.func88, Tryz.ntmps88
 go_wp2_with (go_at_call 144; refine (made_h h1).mono ?_; rintro e w' ⟨rfl, rfl⟩)
 obtain ⟨pb, hpb⟩ : ∃ pb, pb = w.heap.size := ⟨_, rfl⟩
 have hpw : w.heap.size ≤ pb := by omega
 rw [← hpb] at hT ⊢
 clear hpb
 generalize w.alloc (.cells #[.int .u64 0, .int .u64 0] 30) = w1 at hf1 hT h1 ⊢
 have cc := h1.cell
 refine wp_region_seq (by kernel_rfl) (fun w' => Fr No w1 w') (fun i => decide (16 ≤ i)) [(0, 1), (1, 1), (2, 1), (3, 1), (5, 1), (6, 1), (7, 1), (8, 1), (10, 1), (11, 1), (12, 1), (13, 1), (4, 0), (9, 0), (14, 0), (15, 0), (16, 0)] (by kernel_rfl) (Fr.refl No w1).drew ?_
 have hv0 : Fr No w1 w1.drew := (Fr.refl No w1).drew
 iterate 12 refine tq _ rfl rfl (by intro w9 h9; have ccc := h9.cell (fun h => h) cc; clear h9; go_simp; try with_reducible rfl) ?_; simp only [es1, es2, es3]
 refine wpSeq_next rfl rfl (fun K hK => ?_)
 go_wp2_with fail
 refine (State_any (h1.no hv0).on.st).mono ?_
 rintro e xhv1 ⟨rfl, hx⟩
 have hv1 := hv0.no hx
 clear hx
 refine hK.out _ _ (fun _ => hv1) ?_
 clear hK K
 refine wpSeq_next rfl rfl (fun K hK => ?_)
 go_wp2_with fail
 refine (Tail_any (h1.no hv1).on.st (h1.no hv1).on.ow (by have := h.tlen; omega)).mono ?_
 rintro e xhv2 ⟨vt, rfl, ho, hx⟩
 have hv2 := hv1.no hx
 obtain ⟨at_, ct, rfl, hbt, _⟩ := ho.bytes
 clear hx
 refine hK.out _ _ (fun _ => hv2) ?_
 clear hK K
 refine wpSeq_next rfl rfl (fun K hK => ?_)
 go_wp2_with fail
 refine (Long_any (h1.no hv2).on.st).mono ?_
 rintro e w' ⟨rfl, rfl⟩
 refine hK.out _ _ (fun _ => hv2) ?_
 clear hK K
 refine wpSeq_next rfl rfl (fun K hK => ?_)
 go_wp2_with fail
 refine (end_any s _ _ _ tl lo _ hbt).mono ?_
 rintro e xhv3 ⟨rfl, hx⟩
 have hv3 := hv2.no hx
 clear hx
 refine hK.out _ _ (fun _ => hv3) ?_
 clear hK K
 have hTx := hT.no hv3
 have cx := hTx.c0
 have fx := hTx.fz 0
 have cy := hTx.c1
 have fy := hTx.fz 1
 refine wpSeq_next rfl rfl (fun K hK => ?_)
 go_wp2_with fail
 refine hK.out _ _ (fun h => by simp at h) ?_
 clear hK K
 refine wpSeq_done ?_
 obtain ⟨z1, hz1⟩ : ∃ z, z = endHi s tl lo := ⟨_, rfl⟩
 obtain ⟨z2, hz2⟩ : ∃ z, z = endLo s tl lo := ⟨_, rfl⟩
 rw [← hz1, ← hz2]
 have HZ1 := Lib.hid hz1
 have HZ2 := Lib.hid hz2
 clear hz1 hz2
 have hF8 := hf1.no hv3
 have hF9 := fr_put2 xhv3 pb (.int .u64 (W64 (z1))) (.int .u64 (W64 (z2)))
 have hR9 := row_put2 hTx (.int .u64 (W64 (z1))) (.int .u64 (W64 (z2)))
 clear hTx cx fx cy fy hT h1 hf1 hv0 hv1 hv2 hv3
 generalize (xhv3.setCell ⟨pb, 0, none⟩ (.int .u64 (W64 (z1)))).setCell ⟨pb, 1, none⟩ (.int .u64 (W64 (z2))) = w9 at hF9 hR9 ⊢
 have cd0 := hR9.c0
 have cd1 := hR9.c1
 go_wp2_with fail
 refine bodyPost_ret (v := .agg #[.int .u64 (W64 (z1)), .int .u64 (W64 (z2))]) (by simp [results, Tryz.results88, go_sem, cd0, cd1]) rfl ?_
 exact ⟨by rw [HZ1.out, HZ2.out], hF8.trans hF9 (fun x hx => .inr (by omega))⟩
def GivesHLanes (s : ST) (tl : Bytes) (lo : BitVec 64) (w : World) (e : Ending) (w' : World) : Prop := ∃ v, e = .returned (.tuple #[lanesV s, .int .u64 (W64 lo), v]) ∧ Owns w' w.heap.size v tl ∧ Fr No w w'
set_option maxHeartbeats 1000000 in
theorem Lanes_h {w0 w : World} {hb sb : Nat} {sd : BitVec 32} {s : ST} {tl : Bytes} {lo : BitVec 64} {tv : Value} (h : HLive w0 w hb sb sd s tl lo tv) : Calls Tryz.prog 286 #[.pointer (some ⟨hb, 0, none⟩)] w (GivesHLanes s tl lo w) := by
 have hlt := h.lt hb (.inl rfl)
 have hF1 : Fr No w (w.alloc (.cells #[.int .u64 0, .int .u64 0, .int .u64 0, .int .u64 0] 31)) := (Fr.refl No w).alloc _
 have h1 := h.no hF1
 have hR := row4_new w 31 (.int .u64 0) (.int .u64 0) (.int .u64 0) (.int .u64 0)
 go_enter Tryz.func286, Tryz.ntmps286
 go_wp2_with (go_at_call 144; refine (made_h h1).mono ?_; rintro e w' ⟨rfl, rfl⟩)
 obtain ⟨rb, hrb⟩ : ∃ rb, rb = w.heap.size := ⟨_, rfl⟩
 have hnb : ¬ hb = rb := by omega
 have hk := Lib.hid (fun (w' : World) (k : Fr (fun x => x = rb) (w.alloc (.cells #[.int .u64 0, .int .u64 0, .int .u64 0, .int .u64 0] 31)) w') => h1.keep k (fun x hx g => by have := h.lt x g; omega) (fun x hx => by have := h.on.fr.size; omega))
 rw [← hrb] at hR ⊢
 have hrg : w.heap.size ≤ rb := by omega
 clear hrb
 generalize w.alloc (.cells #[.int .u64 0, .int .u64 0, .int .u64 0, .int .u64 0] 31) = w1 at hF1 h1 hR hk ⊢
 have hrl := hR.lt
 have cc := h1.cell
 refine wp_region_seq (by kernel_rfl) (fun w' => Fr (fun x => x = rb) w1 w') (fun _ => false) [(0, 1), (1, 1), (2, 1), (3, 1), (6, 1), (7, 1), (8, 1), (9, 1), (11, 1), (12, 1), (13, 1), (14, 1), (4, 0), (5, 0), (10, 0), (15, 0), (16, 0), (17, 1), (18, 1)] (by kernel_rfl) (Fr.refl _ w1).drew ?_
 have hv0 : Fr No w1 w1.drew := (Fr.refl No w1).drew
 iterate 12 refine tq _ rfl rfl (by intro w9 h9; have ccc := h9.cell hnb cc; clear h9; go_simp; try with_reducible rfl) ?_; simp only [es1, es2, es3]
 refine wpSeq_next rfl rfl (fun K hK => ?_)
 go_wp2_with fail
 refine (State_any (hk.out _ (hv0.mono (fun _ _ f => f.elim))).on.st).mono ?_
 rintro e xhv1 ⟨rfl, hx⟩
 have hv1 := hv0.no hx
 clear hx
 refine hK.out _ _ (fun _ => (hv1.mono (fun _ _ f => f.elim))) ?_
 clear hK K
 refine wpSeq_next rfl rfl (fun K hK => ?_)
 go_wp2_with fail
 refine (four_any s _).mono ?_
 rintro e xhv2 ⟨rfl, hx⟩
 have hv2 := hv1.no hx
 clear hx
 unfold lanesV
 refine hK.out _ _ (fun _ => (hv2.mono (fun _ _ f => f.elim))) ?_
 clear hK K
 refine wpSeq_next rfl rfl (fun K hK => ?_)
 go_wp2_with fail
 refine (Long_any (hk.out _ (hv2.mono (fun _ _ f => f.elim))).on.st).mono ?_
 rintro e w' ⟨rfl, rfl⟩
 refine hK.out _ _ (fun _ => (hv2.mono (fun _ _ f => f.elim))) ?_
 clear hK K
 refine wpSeq_next rfl rfl (fun K hK => ?_)
 go_wp2_with fail
 refine (Tail_any (hk.out _ (hv2.mono (fun _ _ f => f.elim))).on.st (hk.out _ (hv2.mono (fun _ _ f => f.elim))).on.ow (by have := h.tlen; omega)).mono ?_
 rintro e xhv3 ⟨vt, rfl, ho, hx⟩
 have hsz := hv2.size
 have hv3 := hv2.no hx
 obtain ⟨at_, ct, rfl, _, _⟩ := ho.bytes
 clear hx
 refine hK.out _ _ (fun _ => (hv3.mono (fun _ _ f => f.elim))) ?_
 clear hK K
 have hRx := hR.no hv3
 have cr0 := hRx.c0
 have cr1 := hRx.c1
 have cr2 := hRx.c2
 have cr3 := hRx.c3
 have fr0 := hRx.fz 0
 have fr1 := hRx.fz 1
 have fr2 := hRx.fz 2
 have fr3 := hRx.fz 3
 refine wpSeq_next rfl rfl (fun K hK => ?_)
 go_wp2_with fail
 have hF3 := fr_put4 xhv3 rb (.int .u64 (W64 s.1)) (.int .u64 (W64 s.2)) (.int .u64 0) (.int .u64 0)
 have hR3 := row_put4 hRx (.int .u64 (W64 s.1)) (.int .u64 (W64 s.2)) (.int .u64 0) (.int .u64 0)
 have hs3 : Fr (fun x => x = rb) w1 _ := (hv3.mono (fun _ _ f => f.elim)).trans hF3 (fun _ h => .inl h)
 refine hK.out _ _ (fun _ => hs3) ?_
 clear hK K
 clear cr0 fr0 cr1 fr1 cr2 fr2 cr3 fr3
 generalize ((((xhv3.setCell ⟨rb, 0, none⟩ (.int .u64 (W64 s.1))).setCell ⟨rb, 1, none⟩ (.int .u64 (W64 s.2))).setCell ⟨rb, 2, none⟩ (.int .u64 0)).setCell ⟨rb, 3, none⟩ (.int .u64 0)) = w3 at hF3 hR3 hs3 ⊢
 iterate 2 refine tp _ rfl rfl ?_; simp only [es1, es2, es3]
 refine wpSeq_done ?_
 have cd0 := hR3.c0
 have cd1 := hR3.c1
 have cd2 := hR3.c2
 have cd3 := hR3.c3
 have g1 := hF1.size
 go_wp2_with fail
 refine bodyPost_ret (v := .tuple #[lanesV s, .int .u64 (W64 lo), .slice at_ tl.length ct]) (by simp [results, Tryz.results286, go_sem, cd0, cd1, cd2, cd3, lanesV]) rfl ?_
 exact ⟨_, rfl, (ho.fr hF3 (fun x hx e => by have := own_ge ho hx; omega)).mono (by omega), hF1.trans hs3 (fun x hx => .inr (by omega))⟩
theorem fits_lt {n : Nat} {lo : BitVec 64} {size : Nat} (h : fitsB n lo size = true) (hn : n ≤ 1099511627776) (h1 : 1 ≤ size) (h2 : size ≤ 64) : n < size := by
 unfold fitsB at h
 have := congrArg BitVec.toNat (beq_iff_eq.1 h)
 simp only [BitVec.toNat_umod, BitVec.toNat_ofNat] at this
 rw [Nat.mod_eq_of_lt (show n < 2 ^ 64 by omega), Nat.mod_eq_of_lt (show size < 2 ^ 64 by omega)] at this
 rw [this]
 exact Nat.mod_lt _ (by omega)
def RightP (x0 x1 x2 x3 : BitVec 64) : Prop := x2 = 0#64 ∧ x3 = 0#64
def stateF (x0 x1 x2 x3 : BitVec 64) : ST := (x0, x1)
def HSets (w0 : World) (hb sb : Nat) (sd : BitVec 32) (s2 : ST) (l : Bytes) (lo2 : BitVec 64) (w : World) (e : Ending) (w' : World) : Prop :=
 ∃ tv2, e = .returned (.bool true) ∧ HLive w0 w' hb sb sd s2 l lo2 tv2 ∧ Fr (fun x => x = sb) w w' ∧ ∀ x, tv2.ownBlock = some x → w.heap.size ≤ x
theorem lanesV_state (x0 x1 x2 x3 : BitVec 64) : lanesV (stateF x0 x1 x2 x3) = .agg #[.int .u64 (W64 (x0)), .int .u64 (W64 (x1)), .int .u64 (W64 (0#64)), .int .u64 (W64 (0#64))] := rfl
set_option maxHeartbeats 800000 in
theorem Set_right {w0 w : World} {hb sb : Nat} {sd : BitVec 32} {s : ST} {tl : Bytes} {lo : BitVec 64} {tv : Value} (h : HLive w0 w hb sb sd s tl lo tv) (x0 x1 x2 x3 : BitVec 64) (lv : Value) (hlv : lv = .agg #[.int .u64 (W64 x0), .int .u64 (W64 x1), .int .u64 (W64 x2), .int .u64 (W64 x3)]) (lo2 : BitVec 64) (a : Option Addr) (n c : Nat) (hw : RightP x0 x1 x2 x3) (hfit : fitsB n lo2 16 = true) (l : Bytes) (hy : IsBytes w a n c l) (hn : n ≤ 1099511627776) : Calls Tryz.prog 288 #[.pointer (some ⟨hb, 0, none⟩), lv, .int .u64 (W64 lo2), .slice a n c] w (HSets w0 hb sb sd (stateF x0 x1 x2 x3) l lo2 w) := by
 subst hlv
 have hF1 : Fr No w (w.alloc (.cells #[.int .u64 (W64 x0), .int .u64 (W64 x1), .int .u64 (W64 x2), .int .u64 (W64 x3)] 31)) := (Fr.refl No w).alloc _
 have hR1 := row4_new w 31 (.int .u64 (W64 x0)) (.int .u64 (W64 x1)) (.int .u64 (W64 x2)) (.int .u64 (W64 x3))
 have h1 := h.no hF1
 have cc := h1.cell
 obtain ⟨pb0, hpb0⟩ : ∃ pb0, pb0 = w.heap.size := ⟨_, rfl⟩
 have hHid := Lib.hid hpb0
 clear hpb0
 go_enter Tryz.func288, Tryz.ntmps288
 go_wp2_with fail
 have hpb0 := hHid.out
 clear hHid
 have g2 := hF1.size
 have hps : ¬ pb0 = sb := by have := h.lt sb (.inr (.inl rfl)); omega
 rw [← hpb0] at hR1 ⊢
 clear hpb0
 obtain ⟨pb, rfl⟩ : ∃ pb, pb = pb0 := ⟨_, rfl⟩
 generalize w.alloc (.cells #[.int .u64 (W64 x0), .int .u64 (W64 x1), .int .u64 (W64 x2), .int .u64 (W64 x3)] 31) = w1 at hF1 hR1 h1 cc g2 ⊢
 have hq : (0#64 == x2 && 0#64 == x3) = true := by
  obtain ⟨e2, e3⟩ := hw
  rw [e2, e3]
  rfl
 refine rsq (by kernel_rfl) [(0, 1), (1, 0), (2, 1), (3, 1), (4, 1), (7, 1), (5, 0), (6, 0), (8, 1), (9, 1)] (by kernel_rfl) ?_
 have hv0 : Fr No w1 w1.drew := (Fr.refl No w1).drew
 refine tp _ rfl rfl ?_; simp only [es1, es2, es3]
 refine wpSeq_next rfl rfl (fun K hK => ?_)
 go_wp2_with fail
 refine (made_h (h1.no hv0)).mono ?_
 rintro e w' ⟨rfl, rfl⟩
 refine hK.out _ _ (fun _ => hv0) ?_
 clear hK K
 iterate 4 refine tq _ rfl rfl (by intro w9 h9; have q0 := (hR1.no h9).c0; have q1 := (hR1.no h9).c1; have q2 := (hR1.no h9).c2; have q3 := (hR1.no h9).c3; have ch := (h1.no h9).cell; clear h9; go_simp; try with_reducible rfl) ?_; simp only [es1, es2, es3]
 refine wpSeq_next rfl rfl (fun K hK => ?_)
 go_wp2_with fail
 refine (two_any x0 x1 x2 x3 _).mono ?_
 rintro e xhv1 ⟨rfl, hx⟩
 have hv1 := hv0.no hx
 clear hx
 refine hK.out _ _ (fun _ => hv1) ?_
 clear hK K
 refine wpSeq_next rfl rfl (fun K hK => ?_)
 go_wp2_with fail
 refine (four_any (stateF x0 x1 x2 x3) _).mono ?_
 rintro e xhv2 ⟨rfl, hx⟩
 have hv2 := hv1.no hx
 clear hx
 rw [lanesV_state]
 refine hK.out _ _ (fun _ => hv2) ?_
 clear hK K
 iterate 2 refine tp _ rfl rfl ?_; simp only [es1, es2, es3]
 refine wpSeq_done ?_
 go_wp2_with fail
 have h2 := h1.no hv2
 have hR2 := hR1.no hv2
 have hF2 := hF1.no hv2
 generalize xhv2 = w2 at h2 hR2 hF2 ⊢
 clear hR1 hv0 cc hv1 hv2
 have hb2 := hy.no hF2
 have cc := h2.cell
 have hnb : ¬ hb = sb := fun e => h2.ne (.inl e)
 refine wp_region_seq (by kernel_rfl) (fun w' => Fr (fun x => x = sb) w2 w') (fun _ => false) [(0, 1), (1, 1), (2, 1), (3, 1), (4, 1), (6, 1), (7, 1), (5, 0), (8, 0), (9, 1)] (by kernel_rfl) (Fr.refl _ w2).drew ?_
 have hv0 : Fr No w2 w2.drew := (Fr.refl No w2).drew
 iterate 7 refine tq _ rfl rfl (by intro w9 h9; have q0 := (hR2.fr h9 hps).c0; have q1 := (hR2.fr h9 hps).c1; have q2 := (hR2.fr h9 hps).c2; have q3 := (hR2.fr h9 hps).c3; have ch := h9.cell hnb cc; clear h9; go_simp; try with_reducible rfl) ?_; simp only [es1, es2, es3]
 refine wpSeq_next rfl rfl (fun K hK => ?_)
 go_wp2_with fail
 refine (two_any x0 x1 x2 x3 _).mono ?_
 rintro e xhv1 ⟨rfl, hx⟩
 have hv1 := hv0.no hx
 clear hx
 refine hK.out _ _ (fun _ => (hv1.mono (fun _ _ f => f.elim))) ?_
 clear hK K
 refine wpSeq_next rfl rfl (fun K hK => ?_)
 go_wp2_with fail
 refine (Set_yes (h2.no hv1).on.st (by omega) (by omega) (stateF x0 x1 x2 x3) lo2 _ n c l (hb2.no hv1) hn hfit).mono ?_
 rintro e w4 ⟨tv2, rfl, hst, hown, hfr⟩
 have hy4 : Fr (fun x => x = sb) w2 w4 := (hv1.mono (fun _ _ f => f.elim)).trans hfr (fun _ h => .inl h)
 refine hK.out _ _ (fun _ => hy4) ?_
 clear hK K
 refine tp _ rfl rfl ?_; simp only [es1, es2, es3]
 refine wpSeq_done ?_
 have h3 := h2.no hv1
 have hF3 := hF2.no hv1
 have hne : hb ≠ sb := fun e => h.ne (.inl e)
 have hlt := h3.lt hb (.inl rfl)
 have g1 := h3.on.fr.size
 have g3 := hF3.size
 have hH : HLive w0 w4 hb sb sd (stateF x0 x1 x2 x3) l lo2 tv2 :=
  ⟨⟨hst, hown.mono (by omega), h.on.ge, h3.on.fr.trans hfr (fun x hx => .inr (by have := h.on.ge; omega))⟩, hfr.heap hne h3.hc, h.ge, (fun g => by rcases g with g | g; exact hne g; have := own_ge hown g; omega), by rw [hy.1]; exact fits_lt hfit hn (by omega) (by omega)⟩
 go_wp2_with fail
 go_ret
 exact ⟨tv2, rfl, hH, (hF3.mono (fun x _ f => f.elim)).trans hfr (fun x h => .inl h), fun x hx => by have := own_ge hown hx; omega⟩
end Go.Proofs.YtidlpihoafnobaaGreatDoor.StM64
namespace Go.Proofs.YtidlpihoafnobaaGreatDoor
set_option maxRecDepth 100000
open Go.RowKit
def sizeN (k : Int) : Int := if k = 1 then 4 else if k = 2 then 16 else if k = 3 then 16 else if k = 4 then 4 else if k = 5 then 8 else if k = 6 then 8 else if k = 7 then 8 else if k = 8 then 16 else 0
def blockN (k : Int) : Int := if k = 1 then 4 else if k = 2 then 16 else if k = 3 then 16 else if k = 4 then 16 else if k = 5 then 32 else if k = 6 then 8 else if k = 7 then 8 else if k = 8 then 8 else 0
def nameN (k : Int) : ByteArray := if k = 1 then ⟨#[109, 117, 114, 109, 117, 114, 51, 50]⟩ else if k = 2 then ⟨#[109, 117, 114, 109, 117, 114, 56, 54]⟩ else if k = 3 then ⟨#[109, 117, 114, 109, 117, 114, 54, 52]⟩ else if k = 4 then ⟨#[120, 120, 51, 50]⟩ else if k = 5 then ⟨#[120, 120, 54, 52]⟩ else if k = 6 then ⟨#[115, 105, 112, 50, 52]⟩ else if k = 7 then ⟨#[115, 105, 112, 49, 51]⟩ else if k = 8 then ⟨#[115, 105, 112, 49, 50, 56]⟩ else ⟨#[]⟩
def KindOk (k : Int) : Prop := k = 1 ∨ k = 2 ∨ k = 3 ∨ k = 4 ∨ k = 5 ∨ k = 6 ∨ k = 7 ∨ k = 8
theorem kindOk_of (k : Int) (h : ¬ KindOk k) : k < 1 ∨ 8 < k := by unfold KindOk at h; omega
theorem refSize_any (k : Int) (w : World) : Calls Tryz.prog 26 #[.int .i64 k] w (GivesNew (.int .i64 (sizeN k)) w) := by
 by_cases hk : KindOk k
 · rcases hk with rfl | rfl | rfl | rfl | rfl | rfl | rfl | rfl
   · have hv : sizeN 1 = 4 := rfl
     rw [hv]
     clear hv
     go_enter Tryz.func26, Tryz.ntmps26
     go_wp2_with fail
     go_ret
     exact ⟨rfl, (Fr.refl No w).alloc _⟩
   · have hv : sizeN 2 = 16 := rfl
     rw [hv]
     clear hv
     go_enter Tryz.func26, Tryz.ntmps26
     go_wp2_with fail
     go_ret
     exact ⟨rfl, (Fr.refl No w).alloc _⟩
   · have hv : sizeN 3 = 16 := rfl
     rw [hv]
     clear hv
     go_enter Tryz.func26, Tryz.ntmps26
     go_wp2_with fail
     go_ret
     exact ⟨rfl, (Fr.refl No w).alloc _⟩
   · have hv : sizeN 4 = 4 := rfl
     rw [hv]
     clear hv
     go_enter Tryz.func26, Tryz.ntmps26
     go_wp2_with fail
     go_ret
     exact ⟨rfl, (Fr.refl No w).alloc _⟩
   · have hv : sizeN 5 = 8 := rfl
     rw [hv]
     clear hv
     go_enter Tryz.func26, Tryz.ntmps26
     go_wp2_with fail
     go_ret
     exact ⟨rfl, (Fr.refl No w).alloc _⟩
   · have hv : sizeN 6 = 8 := rfl
     rw [hv]
     clear hv
     go_enter Tryz.func26, Tryz.ntmps26
     go_wp2_with fail
     go_ret
     exact ⟨rfl, (Fr.refl No w).alloc _⟩
   · have hv : sizeN 7 = 8 := rfl
     rw [hv]
     clear hv
     go_enter Tryz.func26, Tryz.ntmps26
     go_wp2_with fail
     go_ret
     exact ⟨rfl, (Fr.refl No w).alloc _⟩
   · have hv : sizeN 8 = 16 := rfl
     rw [hv]
     clear hv
     go_enter Tryz.func26, Tryz.ntmps26
     go_wp2_with fail
     go_ret
     exact ⟨rfl, (Fr.refl No w).alloc _⟩
 · have hv : sizeN k = 0 := by
    unfold sizeN
    have h := kindOk_of k hk
    rw [if_neg (by omega)]; rw [if_neg (by omega)]; rw [if_neg (by omega)]; rw [if_neg (by omega)]; rw [if_neg (by omega)]; rw [if_neg (by omega)]; rw [if_neg (by omega)]; rw [if_neg (by omega)]; try rfl
   rw [hv]
   clear hv
   rcases kindOk_of k hk with i1 | i1
   · clear hk
     go_enter Tryz.func26, Tryz.ntmps26
     go_wp2_with fail
     go_ret
     exact ⟨rfl, Fr.refl No w⟩
   · have i2 : ¬ k < 1 := by omega
     clear hk
     go_enter Tryz.func26, Tryz.ntmps26
     go_wp2_with fail
     go_ret
     exact ⟨rfl, Fr.refl No w⟩
end Go.Proofs.YtidlpihoafnobaaGreatDoor
namespace Go.Proofs.YtidlpihoafnobaaGreatDoor
set_option maxRecDepth 100000
open Go.RowKit
set_option maxHeartbeats 400000 in
theorem eq_u128 (a0 a1 b0 b1 : Int) (w : World) : (Op.equalIn 10000 30 (.agg #[.int .u64 a0, .int .u64 a1]) (.agg #[.int .u64 b0, .int .u64 b1])).run Tryz.prog w = .ok (a0 == b0 && a1 == b1) w := by
 have u3 := Tryz.underlying28
 have hu : Tryz.prog.underlying 30 = some (.struct (Tryz.prog.fieldsOf 30)) := by kernel_rfl
 rw [show (10000 : Nat) = 9999 + 1 from rfl, run_equalIn_struct w 9999 30 _ _ hu (by kernel_rfl)]
 have hf : (Tryz.prog.fieldsOf 30).toList = [{ name := "Hi", type := 28, offset := 0, embedded := false, tag := "", pkgPath := "", byteOffset := 0 }, { name := "Lo", type := 28, offset := 1, embedded := false, tag := "", pkgPath := "", byteOffset := 8 }] := by kernel_rfl
 rw [hf]
 go_simp
 by_cases h0 : a0 = b0 <;> by_cases h1 : a1 = b1 <;> simp [h0, h1]
theorem eq_u128w (a0 a1 b0 b1 : BitVec 64) (w : World) : (Op.equalIn 10000 30 (.agg #[.int .u64 (W64 a0), .int .u64 (W64 a1)]) (.agg #[.int .u64 (W64 b0), .int .u64 (W64 b1)])).run Tryz.prog w = .ok (a0 == b0 && a1 == b1) w := by
 rw [eq_u128, W64_beq, W64_beq]
@[go_sem ↓] theorem eql_u128 (a0 a1 b0 b1 : BitVec 64) (w : World) : (binOp .eql 30 (.agg #[.int .u64 (W64 a0), .int .u64 (W64 a1)]) (.agg #[.int .u64 (W64 b0), .int .u64 (W64 b1)])).run Tryz.prog w = .ok (.bool (a0 == b0 && a1 == b1)) w := by
 rw [run_eql_struct, eq_u128w]; rfl
@[go_sem ↓] theorem neq_u128 (a0 a1 b0 b1 : BitVec 64) (w : World) : (binOp .neq 30 (.agg #[.int .u64 (W64 a0), .int .u64 (W64 a1)]) (.agg #[.int .u64 (W64 b0), .int .u64 (W64 b1)])).run Tryz.prog w = .ok (.bool (!(a0 == b0 && a1 == b1))) w := by
 rw [run_neq_struct, eq_u128w]; rfl
@[go_sem ↓] theorem eql_u128z (w : World) : (binOp .eql 30 (.agg #[.int .u64 0, .int .u64 0]) (.agg #[.int .u64 0, .int .u64 0])).run Tryz.prog w = .ok (.bool true) w := by
 rw [run_eql_struct, eq_u128]; rfl
end Go.Proofs.YtidlpihoafnobaaGreatDoor
namespace Go.Proofs.YtidlpihoafnobaaGreatDoor
set_option maxRecDepth 100000
open Go.RowKit
def checkN (k : Int) (kh kl : BitVec 64) : Int := if sizeN k = 0 then 6 else if (k ≤ 5 ∧ 0 < W64 kh) ∨ (k ≤ 4 ∧ 4294967296 ≤ W64 kl) then 13 else 0
theorem refCheck_any (k : Int) (kh kl : BitVec 64) (w : World) : Calls Tryz.prog 12 #[.int .i64 k, .agg #[.int .u64 (W64 kh), .int .u64 (W64 kl)]] w (GivesNew (.int .i64 (checkN k kh kl)) w) := by
 have hU := row2_new w 30 (.int .u64 (W64 kh)) (.int .u64 (W64 kl))
 have hF := (Fr.refl No w).alloc (.cells #[.int .u64 (W64 kh), .int .u64 (W64 kl)] 30)
 have hS := refSize_any k
 unfold checkN
 generalize sizeN k = z at hS ⊢
 by_cases hz : z = 0
 · subst hz
   rw [if_pos rfl]
   go_enter Tryz.func12, Tryz.ntmps12
   go_wp2_with fail
   refine (hS _).mono ?_
   rintro e w1 ⟨rfl, hf⟩
   go_wp2_with fail
   go_ret
   exact ⟨rfl, hF.no hf⟩
 rw [if_neg hz]
 obtain ⟨z9, hz9⟩ : ∃ z9 : Int, z9 = (if (k ≤ 5 ∧ 0 < W64 kh) ∨ (k ≤ 4 ∧ 4294967296 ≤ W64 kl) then 13 else 0) := ⟨_, rfl⟩
 rw [← hz9]
 have HZ := Lib.hid hz9
 clear hz9
 go_enter Tryz.func12, Tryz.ntmps12
 go_wp2_with fail
 refine (hS _).mono ?_
 rintro e w1 ⟨rfl, hf⟩
 have u0 := (hU.no hf).c0
 have u1 := (hU.no hf).c1
 go_wp2_with fail
 all_goals go_ret
 all_goals
  refine ⟨?_, hF.no hf⟩
  have hz9 := HZ.out
  first
  | (rw [if_pos (by omega)] at hz9; rw [hz9]; rfl)
  | (rw [if_neg (by omega)] at hz9; rw [hz9]; rfl)
end Go.Proofs.YtidlpihoafnobaaGreatDoor
namespace Go.Proofs.YtidlpihoafnobaaGreatDoor.StM86
set_option maxRecDepth 100000
open Go.Proofs.YtidlpihoafnobaaGreatDoor.StG32
open Go.RowKit
def HAll (w0 w : World) (hb sb : Nat) (sd : BitVec 32) (d : Bytes) (tv : Value) : Prop := HLive w0 w hb sb sd (foldF stepG 16 (firstF sd) d).1 (foldF stepG 16 (firstF sd) d).2 (BitVec.ofNat 64 d.length) tv
theorem HAll.no {w' : World} {w0 w : World} {hb sb : Nat} {sd : BitVec 32} {d : Bytes} {tv : Value} (h : HAll w0 w hb sb sd d tv) (k : Fr No w w') : HAll w0 w' hb sb sd d tv := HLive.no h k
theorem HAll.keep {w' : World} {w0 w : World} {hb sb : Nat} {sd : BitVec 32} {d : Bytes} {tv : Value} {F : Nat → Prop} (h : HAll w0 w hb sb sd d tv) (k : Fr F w w') (hF : ∀ x, F x → ¬ HFoot hb sb tv x) (hA : ∀ x, F x → w0.heap.size ≤ x) : HAll w0 w' hb sb sd d tv := HLive.keep h k hF hA
theorem HAll.fr {w0 w : World} {hb sb : Nat} {sd : BitVec 32} {d : Bytes} {tv : Value} (h : HAll w0 w hb sb sd d tv) : Fr No w0 w := HLive.fr h
theorem HAll.lt {w0 w : World} {hb sb : Nat} {sd : BitVec 32} {d : Bytes} {tv : Value} (h : HAll w0 w hb sb sd d tv) : ∀ x, HFoot hb sb tv x → x < w.heap.size := HLive.lt h
theorem HAll.above {w0 w : World} {hb sb : Nat} {sd : BitVec 32} {d : Bytes} {tv : Value} (h : HAll w0 w hb sb sd d tv) : ∀ x, HFoot hb sb tv x → w0.heap.size ≤ x := HLive.above h
set_option maxHeartbeats 400000 in
theorem One_any (sd : BitVec 32) (a : Option Addr) (n c : Nat) (l : Bytes) (w : World) (h : IsBytes w a n c l) (hn : n ≤ 1099511627776) :
 Calls Tryz.prog 80 #[.int .u32 (W32 sd), .slice a n c] w (GivesNew (.agg #[.int .u64 (W64 ((oneHi sd l))), .int .u64 (W64 ((oneLo sd l)))]) w) := by
 have hlen := Lib.hid h.1
 have q4 := foldF_lt (F := stepG) (size := 16) (by omega) (firstF sd) l
 unfold oneHi oneLo
 rw [hlen.out]
 generalize hr : foldF stepG 16 (firstF sd) l = r at q4 ⊢
 have HR := Lib.hid hr
 clear hr
 have hF0 : Fr No w (w.alloc (.cells #[.int .u64 0, .int .u64 0] 30)) := (Fr.refl No w).alloc _
 have hT0 : Row2 (w.alloc (.cells #[.int .u64 0, .int .u64 0] 30)) w.heap.size 30 (.int .u64 0) (.int .u64 0) := row2_new w _ _ _
 go_enter Tryz.func80, Tryz.ntmps80
 go_wp2_with fail
 have h1 := h.no hF0
 have hF1 := hF0
 have hT1 := hT0
 refine (Fold_any (fun _ => True) stepG 16 16 (firstF sd) q0 _ _ _ l _ (fun _ _ => trivial) steps_any (by omega) (by omega) rfl h1 hn).mono ?_
 rw [show foldF stepG 16 (firstF sd) l = r from HR.out]
 rintro e w2 ⟨v, rfl, ho, hf2⟩
 obtain ⟨a2, c2, rfl, hb2, _⟩ := ho.bytes
 have hF2 := hF1.no hf2
 have hT2 := hT1.no hf2
 go_wp2_with fail
 refine (end_any r.1 _ _ _ r.2 _ _ (hb2.no ((Fr.refl No _).alloc _))).mono ?_
 rintro e w3 ⟨rfl, hf3⟩
 have hF3 := (hF2.alloc _).no hf3
 have hT3 := (hT2.no ((Fr.refl No _).alloc _)).no hf3
 obtain ⟨z1, hz1⟩ : ∃ z, z = endHi r.1 r.2 (BitVec.ofNat 64 n) := ⟨_, rfl⟩
 obtain ⟨z2, hz2⟩ : ∃ z, z = endLo r.1 r.2 (BitVec.ofNat 64 n) := ⟨_, rfl⟩
 rw [← hz1, ← hz2]
 have HZ1 := Lib.hid hz1
 have HZ2 := Lib.hid hz2
 clear hz1 hz2
 have cr0 := hT3.c0
 have cr1 := hT3.c1
 have fr0 := hT3.fz 0
 have fr1 := hT3.fz 1
 go_wp2_with fail
 have hF9 := fr_put2 w3 (w.heap.size) (.int .u64 (W64 (z1))) (.int .u64 (W64 (z2)))
 have hR9 := row_put2 hT3 (.int .u64 (W64 (z1))) (.int .u64 (W64 (z2)))
 clear cr0 cr1 fr0 fr1
 generalize (w3.setCell ⟨w.heap.size, 0, none⟩ (.int .u64 (W64 (z1)))).setCell ⟨w.heap.size, 1, none⟩ (.int .u64 (W64 (z2))) = w9 at hF9 hR9 ⊢
 have cd0 := hR9.c0
 have cd1 := hR9.c1
 refine bodyPost_ret (v := .agg #[.int .u64 (W64 (z1)), .int .u64 (W64 (z2))]) (by simp [results, Tryz.results80, go_sem, cd0, cd1]) rfl ?_
 exact ⟨by rw [HZ1.out, HZ2.out], (hF3).trans hF9 (fun x hx => .inr (by omega))⟩
end Go.Proofs.YtidlpihoafnobaaGreatDoor.StM86
namespace Go.Proofs.YtidlpihoafnobaaGreatDoor.StM64
set_option maxRecDepth 100000
open Go.RowKit
def HAll (w0 w : World) (hb sb : Nat) (sd : BitVec 32) (d : Bytes) (tv : Value) : Prop := HLive w0 w hb sb sd (foldF stepG 16 (firstF sd) d).1 (foldF stepG 16 (firstF sd) d).2 (BitVec.ofNat 64 d.length) tv
theorem HAll.no {w' : World} {w0 w : World} {hb sb : Nat} {sd : BitVec 32} {d : Bytes} {tv : Value} (h : HAll w0 w hb sb sd d tv) (k : Fr No w w') : HAll w0 w' hb sb sd d tv := HLive.no h k
theorem HAll.keep {w' : World} {w0 w : World} {hb sb : Nat} {sd : BitVec 32} {d : Bytes} {tv : Value} {F : Nat → Prop} (h : HAll w0 w hb sb sd d tv) (k : Fr F w w') (hF : ∀ x, F x → ¬ HFoot hb sb tv x) (hA : ∀ x, F x → w0.heap.size ≤ x) : HAll w0 w' hb sb sd d tv := HLive.keep h k hF hA
theorem HAll.fr {w0 w : World} {hb sb : Nat} {sd : BitVec 32} {d : Bytes} {tv : Value} (h : HAll w0 w hb sb sd d tv) : Fr No w0 w := HLive.fr h
theorem HAll.lt {w0 w : World} {hb sb : Nat} {sd : BitVec 32} {d : Bytes} {tv : Value} (h : HAll w0 w hb sb sd d tv) : ∀ x, HFoot hb sb tv x → x < w.heap.size := HLive.lt h
theorem HAll.above {w0 w : World} {hb sb : Nat} {sd : BitVec 32} {d : Bytes} {tv : Value} (h : HAll w0 w hb sb sd d tv) : ∀ x, HFoot hb sb tv x → w0.heap.size ≤ x := HLive.above h
set_option maxHeartbeats 400000 in
theorem One_any (sd : BitVec 32) (a : Option Addr) (n c : Nat) (l : Bytes) (w : World) (h : IsBytes w a n c l) (hn : n ≤ 1099511627776) :
 Calls Tryz.prog 86 #[.int .u32 (W32 sd), .slice a n c] w (GivesNew (.agg #[.int .u64 (W64 ((oneHi sd l))), .int .u64 (W64 ((oneLo sd l)))]) w) := by
 have hlen := Lib.hid h.1
 have q4 := foldF_lt (F := stepG) (size := 16) (by omega) (firstF sd) l
 unfold oneHi oneLo
 rw [hlen.out]
 generalize hr : foldF stepG 16 (firstF sd) l = r at q4 ⊢
 have HR := Lib.hid hr
 clear hr
 have hF0 : Fr No w (w.alloc (.cells #[.int .u64 0, .int .u64 0] 30)) := (Fr.refl No w).alloc _
 have hT0 : Row2 (w.alloc (.cells #[.int .u64 0, .int .u64 0] 30)) w.heap.size 30 (.int .u64 0) (.int .u64 0) := row2_new w _ _ _
 go_enter Tryz.func86, Tryz.ntmps86
 go_wp2_with fail
 refine (both_any sd _).mono ?_
 rintro e w1 ⟨rfl, hf1⟩
 have h1 := (h.no hF0).no hf1
 have hF1 := hF0.no hf1
 have hT1 := hT0.no hf1
 go_wp2_with fail
 refine (Fold_any (fun _ => True) stepG 16 16 (firstF sd) 0 _ _ _ l _ (fun _ _ => trivial) steps_any (by omega) (by omega) rfl h1 hn).mono ?_
 rw [show foldF stepG 16 (firstF sd) l = r from HR.out]
 rintro e w2 ⟨v, rfl, ho, hf2⟩
 obtain ⟨a2, c2, rfl, hb2, _⟩ := ho.bytes
 have hF2 := hF1.no hf2
 have hT2 := hT1.no hf2
 go_wp2_with fail
 refine (end_any r.1 _ _ _ r.2 _ _ (hb2.no ((Fr.refl No _).alloc _))).mono ?_
 rintro e w3 ⟨rfl, hf3⟩
 have hF3 := (hF2.alloc _).no hf3
 have hT3 := (hT2.no ((Fr.refl No _).alloc _)).no hf3
 obtain ⟨z1, hz1⟩ : ∃ z, z = endHi r.1 r.2 (BitVec.ofNat 64 n) := ⟨_, rfl⟩
 obtain ⟨z2, hz2⟩ : ∃ z, z = endLo r.1 r.2 (BitVec.ofNat 64 n) := ⟨_, rfl⟩
 rw [← hz1, ← hz2]
 have HZ1 := Lib.hid hz1
 have HZ2 := Lib.hid hz2
 clear hz1 hz2
 have cr0 := hT3.c0
 have cr1 := hT3.c1
 have fr0 := hT3.fz 0
 have fr1 := hT3.fz 1
 go_wp2_with fail
 have hF9 := fr_put2 w3 (w.heap.size) (.int .u64 (W64 (z1))) (.int .u64 (W64 (z2)))
 have hR9 := row_put2 hT3 (.int .u64 (W64 (z1))) (.int .u64 (W64 (z2)))
 clear cr0 cr1 fr0 fr1
 generalize (w3.setCell ⟨w.heap.size, 0, none⟩ (.int .u64 (W64 (z1)))).setCell ⟨w.heap.size, 1, none⟩ (.int .u64 (W64 (z2))) = w9 at hF9 hR9 ⊢
 have cd0 := hR9.c0
 have cd1 := hR9.c1
 refine bodyPost_ret (v := .agg #[.int .u64 (W64 (z1)), .int .u64 (W64 (z2))]) (by simp [results, Tryz.results86, go_sem, cd0, cd1]) rfl ?_
 exact ⟨by rw [HZ1.out, HZ2.out], (hF3).trans hF9 (fun x hx => .inr (by omega))⟩
end Go.Proofs.YtidlpihoafnobaaGreatDoor.StM64
namespace Go.Proofs.YtidlpihoafnobaaGreatDoor.StSip
set_option maxRecDepth 100000
open Go.Proofs.YtidlpihoafnobaaGreatDoor.StG64
open Go.RowKit
def HAll (w0 w : World) (hb sb : Nat) (kd : Int) (kh kl : BitVec 64) (d : Bytes) (tv : Value) : Prop := ∃ q, HLive w0 w hb sb kd kh kl q (foldF (stepG (cOf kd)) 8 (firstF kd kh kl) d).1 (foldF (stepG (cOf kd)) 8 (firstF kd kh kl) d).2 (BitVec.ofNat 64 d.length) tv
theorem HAll.no {w' : World} {w0 w : World} {hb sb : Nat} {kd : Int} {kh kl : BitVec 64} {d : Bytes} {tv : Value} (h : HAll w0 w hb sb kd kh kl d tv) (k : Fr No w w') : HAll w0 w' hb sb kd kh kl d tv := by obtain ⟨q, h⟩ := h; exact ⟨q, h.no k⟩
theorem HAll.keep {w' : World} {w0 w : World} {hb sb : Nat} {kd : Int} {kh kl : BitVec 64} {d : Bytes} {tv : Value} {F : Nat → Prop} (h : HAll w0 w hb sb kd kh kl d tv) (k : Fr F w w') (hF : ∀ x, F x → ¬ HFoot hb sb tv x) (hA : ∀ x, F x → w0.heap.size ≤ x) (hK : Keeps w F) : HAll w0 w' hb sb kd kh kl d tv := by
 obtain ⟨q, h⟩ := h; exact ⟨q, h.keep k hF hA (hK q _ h.hq ⟨_, _, rfl, by decide⟩)⟩
theorem HAll.fr {w0 w : World} {hb sb : Nat} {kd : Int} {kh kl : BitVec 64} {d : Bytes} {tv : Value} (h : HAll w0 w hb sb kd kh kl d tv) : Fr No w0 w := by obtain ⟨q, h⟩ := h; exact h.fr
theorem HAll.lt {w0 w : World} {hb sb : Nat} {kd : Int} {kh kl : BitVec 64} {d : Bytes} {tv : Value} (h : HAll w0 w hb sb kd kh kl d tv) : ∀ x, HFoot hb sb tv x → x < w.heap.size := by obtain ⟨q, h⟩ := h; exact h.lt
theorem HAll.above {w0 w : World} {hb sb : Nat} {kd : Int} {kh kl : BitVec 64} {d : Bytes} {tv : Value} (h : HAll w0 w hb sb kd kh kl d tv) : ∀ x, HFoot hb sb tv x → w0.heap.size ≤ x := by obtain ⟨q, h⟩ := h; exact h.above
theorem HAll.con {w0 w : World} {hb sb : Nat} {kd : Int} {kh kl : BitVec 64} {d : Bytes} {tv : Value} (h : HAll w0 w hb sb kd kh kl d tv) : Keeps w (Foot sb tv) := by obtain ⟨q, h⟩ := h; exact h.on.con
theorem HAll.kk {w0 w : World} {hb sb : Nat} {kd : Int} {kh kl : BitVec 64} {d : Bytes} {tv : Value} (h : HAll w0 w hb sb kd kh kl d tv) : IsK kd := by obtain ⟨q, h⟩ := h; exact h.kk
theorem one_hi {kd : Int} (hk : IsK kd) (kh kl : BitVec 64) (d : Bytes) : endHi kd (foldF (stepG (cOf kd)) 8 (firstF kd kh kl) d).1 (foldF (stepG (cOf kd)) 8 (firstF kd kh kl) d).2 (BitVec.ofNat 64 d.length) = oneHi kd kh kl d := by unfold oneHi; rw [if_pos hk]
theorem one_lo {kd : Int} (hk : IsK kd) (kh kl : BitVec 64) (d : Bytes) : endLo kd (foldF (stepG (cOf kd)) 8 (firstF kd kh kl) d).1 (foldF (stepG (cOf kd)) 8 (firstF kd kh kl) d).2 (BitVec.ofNat 64 d.length) = oneLo kd kh kl d := by unfold oneLo; rw [if_pos hk]
set_option maxHeartbeats 1000000 in
theorem One_no (kd : Int) (kh kl : BitVec 64) (hk : ¬ IsK kd) (a : Option Addr) (n c : Nat) (w : World) :
 Calls Tryz.prog 166 #[.int .i64 kd, .agg #[.int .u64 (W64 kh), .int .u64 (W64 kl)], .slice a n c] w (GivesNew (.agg #[.int .u64 0, .int .u64 0]) w) := by
 have hF0 : Fr No w ((w.alloc (.cells #[.int .u64 (W64 kh), .int .u64 (W64 kl)] 30)).alloc (.cells #[.int .u64 0, .int .u64 0] 30)) := ((Fr.refl No w).alloc _).alloc _
 have hT : Row2 ((w.alloc (.cells #[.int .u64 (W64 kh), .int .u64 (W64 kl)] 30)).alloc (.cells #[.int .u64 0, .int .u64 0] 30)) (w.heap.size + 1) 30 (.int .u64 0) (.int .u64 0) := heap_alloc2_new w _ _
 have hc := cOf_zero hk
 clear hk
 go_enter Tryz.func166, Tryz.ntmps166
 go_wp2_with fail
 obtain ⟨pb, hpb⟩ : ∃ pb, pb = w.heap.size + 1 := ⟨_, rfl⟩
 have hpw : w.heap.size ≤ pb := by omega
 rw [← hpb] at hT ⊢
 clear hpb
 generalize ((w.alloc (.cells #[.int .u64 (W64 kh), .int .u64 (W64 kl)] 30)).alloc (.cells #[.int .u64 0, .int .u64 0] 30)) = w1 at hF0 hT ⊢
 refine (rounds_any kd _).mono ?_
 rw [hc]
 rintro e w' ⟨rfl, rfl⟩
 clear hc
 have cr0 := hT.c0
 have cr1 := hT.c1
 have fr0 := hT.fz 0
 have fr1 := hT.fz 1
 go_wp2_with fail
 have hF9 := fr_put2 w1 (pb) (.int .u64 0) (.int .u64 0)
 have hR9 := row_put2 hT (.int .u64 0) (.int .u64 0)
 clear cr0 cr1 fr0 fr1
 generalize (w1.setCell ⟨pb, 0, none⟩ (.int .u64 0)).setCell ⟨pb, 1, none⟩ (.int .u64 0) = w9 at hF9 hR9 ⊢
 have cd0 := hR9.c0
 have cd1 := hR9.c1
 refine bodyPost_ret (v := .agg #[.int .u64 0, .int .u64 0]) (by simp [results, Tryz.results166, go_sem, cd0, cd1]) rfl ?_
 exact ⟨rfl, hF0.trans hF9 (fun x hx => .inr (by omega))⟩
set_option maxHeartbeats 2000000 in
theorem One_any (kd : Int) (kh kl : BitVec 64) (a : Option Addr) (n c : Nat) (l : Bytes) (w : World) (h : IsBytes w a n c l) (hn : n ≤ 1099511627776) :
 Calls Tryz.prog 166 #[.int .i64 kd, .agg #[.int .u64 (W64 kh), .int .u64 (W64 kl)], .slice a n c] w (GivesNew (.agg #[.int .u64 (W64 (oneHi kd kh kl l)), .int .u64 (W64 (oneLo kd kh kl l))]) w) := by
 by_cases hk : IsK kd
 case neg =>
  have e1 : oneHi kd kh kl l = 0#64 := by unfold oneHi; rw [if_neg hk]
  have e2 : oneLo kd kh kl l = 0#64 := by unfold oneLo; rw [if_neg hk]
  rw [e1, e2]
  exact One_no kd kh kl hk a n c w
 rw [← one_hi hk, ← one_lo hk]
 have hc := cOf_pos hk
 clear hk
 have hlen := Lib.hid h.1
 rw [hlen.out]
 generalize hr : (foldF (stepG (cOf kd)) 8 (firstF kd kh kl) l) = r
 have HR := Lib.hid hr
 clear hr
 have hF0 : Fr No w ((w.alloc (.cells #[.int .u64 (W64 kh), .int .u64 (W64 kl)] 30)).alloc (.cells #[.int .u64 0, .int .u64 0] 30)) := ((Fr.refl No w).alloc _).alloc _
 have hU : Row2 ((w.alloc (.cells #[.int .u64 (W64 kh), .int .u64 (W64 kl)] 30)).alloc (.cells #[.int .u64 0, .int .u64 0] 30)) w.heap.size 30 (.int .u64 (W64 kh)) (.int .u64 (W64 kl)) := (row2_new w _ _ _).no ((Fr.refl No _).alloc _)
 have hT : Row2 ((w.alloc (.cells #[.int .u64 (W64 kh), .int .u64 (W64 kl)] 30)).alloc (.cells #[.int .u64 0, .int .u64 0] 30)) (w.heap.size + 1) 30 (.int .u64 0) (.int .u64 0) := heap_alloc2_new w _ _
 go_enter Tryz.func166, Tryz.ntmps166
 go_wp2_with fail
 obtain ⟨pb, hpb⟩ : ∃ pb, pb = w.heap.size := ⟨_, rfl⟩
 have hpw : w.heap.size ≤ pb := by omega
 rw [← hpb] at hU hT ⊢
 clear hpb
 generalize ((w.alloc (.cells #[.int .u64 (W64 kh), .int .u64 (W64 kl)] 30)).alloc (.cells #[.int .u64 0, .int .u64 0] 30)) = w1 at hF0 hU hT ⊢
 refine (rounds_any kd _).mono ?_
 rintro e w' ⟨rfl, rfl⟩
 have u0 := hU.c0
 have u1 := hU.c1
 go_wp2_with fail
 refine (first_any kd kh kl _).mono ?_
 rintro e w2 ⟨rfl, hf2⟩
 have hT2 := hT.no hf2
 have hF2 := hF0.no hf2
 clear u0 u1 hU hT hF0 hf2 hc
 unfold lanesV
 go_wp2_with fail
 refine (stepper_any kd _).mono ?_
 rintro e w3 ⟨q, rfl, _, hq, hf3⟩
 have hT3 := hT2.no hf3
 have hF3 := hF2.no hf3
 have h3 := h.no hF3
 clear hT2 hF2 hf3
 unfold fvS
 go_wp2_with fail
 refine (Fold_any (fun w' => Cap w' q (cOf kd)) (stepG (cOf kd)) 8 8 (firstF kd kh kl) (qS q) _ _ _ l _ (fun w' k => hq.no k) (steps_any kd q) (by omega) (by omega) rfl h3 hn).mono ?_
 rw [HR.out]
 rintro e w4 ⟨v, rfl, ho, hf4⟩
 obtain ⟨a2, c2, rfl, hb2, _⟩ := ho.bytes
 simp only [cS0, cS1, cS2, cS3]
 have hFB := (Fr.refl No w4).alloc (.cells #[.int .u64 (W64 r.1.1), .int .u64 (W64 r.1.2.1), .int .u64 (W64 r.1.2.2.1), .int .u64 (W64 r.1.2.2.2)] 31)
 have hF4 := (hF3.no hf4).no hFB
 have hT4 := (hT3.no hf4).no hFB
 have hb4 := hb2.no hFB
 clear hF3 hT3 hf4 hFB hb2 ho hq h3
 go_wp2_with fail
 refine (end_any kd r.1 _ _ _ r.2 _ _ hb4).mono ?_
 rintro e w5 ⟨rfl, hf5⟩
 have hT5 := hT4.no hf5
 have hF5 := hF4.no hf5
 clear hT4 hF4 hf5 hb4
 obtain ⟨z1, hz1⟩ : ∃ z, z = endHi kd r.1 r.2 (BitVec.ofNat 64 n) := ⟨_, rfl⟩
 obtain ⟨z2, hz2⟩ : ∃ z, z = endLo kd r.1 r.2 (BitVec.ofNat 64 n) := ⟨_, rfl⟩
 rw [← hz1, ← hz2]
 have HZ1 := Lib.hid hz1
 have HZ2 := Lib.hid hz2
 clear hz1 hz2
 have cr0 := hT5.c0
 have cr1 := hT5.c1
 have fr0 := hT5.fz 0
 have fr1 := hT5.fz 1
 go_wp2_with fail
 have hF9 := fr_put2 w5 (pb + 1) (.int .u64 (W64 z1)) (.int .u64 (W64 z2))
 have hR9 := row_put2 hT5 (.int .u64 (W64 z1)) (.int .u64 (W64 z2))
 clear cr0 cr1 fr0 fr1
 generalize (w5.setCell ⟨pb + 1, 0, none⟩ (.int .u64 (W64 z1))).setCell ⟨pb + 1, 1, none⟩ (.int .u64 (W64 z2)) = w9 at hF9 hR9 ⊢
 have cd0 := hR9.c0
 have cd1 := hR9.c1
 refine bodyPost_ret (v := .agg #[.int .u64 (W64 z1), .int .u64 (W64 z2)]) (by simp [results, Tryz.results166, go_sem, cd0, cd1]) rfl ?_
 exact ⟨by rw [HZ1.out, HZ2.out], hF5.trans hF9 (fun x hx => .inr (by omega))⟩
end Go.Proofs.YtidlpihoafnobaaGreatDoor.StSip
