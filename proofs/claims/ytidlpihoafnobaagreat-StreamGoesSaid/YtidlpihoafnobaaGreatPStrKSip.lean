/- RefEndSip HashSip AllSip StrHSip StrKSip -/
import Derived.Deep.Cut
import Derived.Deep.DeepCutAuto
import Derived.Test.YtidlpihoafnobaaGreatPRefSip
import Derived.Test.YtidlpihoafnobaaGreatPAllM64
import Derived.Test.YtidlpihoafnobaaGreatPStrKM32
set_option linter.unusedVariables false
set_option linter.unusedSimpArgs false
namespace Go.Proofs.YtidlpihoafnobaaGreat.StSip
set_option maxRecDepth 100000
open Go.Proofs.YtidlpihoafnobaaGreat.StG64
open Go.RowKit
structure AtR (w0 w : World) (b rb : Nat) (s : ST) : Prop where
 row : Row4 w b 49 (.int .u64 (W64 s.1)) (.int .u64 (W64 s.2.1)) (.int .u64 (W64 s.2.2.1)) (.int .u64 (W64 s.2.2.2))
 res : Row2 w rb 24 (.int .u64 0) (.int .u64 0)
 fr : Fr No w0 w
 ge : w0.heap.size ≤ b
 ge2 : w0.heap.size ≤ rb
 ne : rb ≠ b
theorem AtR.no {w0 w w' : World} {b rb : Nat} {s : ST} (h : AtR w0 w b rb s) (k : Fr No w w') : AtR w0 w' b rb s := ⟨h.row.no k, h.res.no k, h.fr.no k, h.ge, h.ge2, h.ne⟩
theorem AtR.of {w0 w w' : World} {b rb : Nat} {s s' : ST} (h : AtR w0 w b rb s) (k : Fr (fun x => x = b) w w') (hr : Row4 w' b 49 (.int .u64 (W64 s'.1)) (.int .u64 (W64 s'.2.1)) (.int .u64 (W64 s'.2.2.1)) (.int .u64 (W64 s'.2.2.2))) : AtR w0 w' b rb s' :=
 ⟨hr, h.res.fr k h.ne, h.fr.trans k (fun x hx => .inr (by have := h.ge; omega)), h.ge, h.ge2, h.ne⟩
theorem AtR.put1 {w0 w : World} {b rb : Nat} {s : ST} (h : AtR w0 w b rb s) (c : BitVec 64) : AtR w0 (w.setCell ⟨b, 1, none⟩ (.int .u64 (W64 (s.2.1 ^^^ c)))) b rb (x1F c s) := h.of (fr_cell w b 1 _) (h.row.put1 _)
theorem AtR.put2 {w0 w : World} {b rb : Nat} {s : ST} (h : AtR w0 w b rb s) (c : BitVec 64) : AtR w0 (w.setCell ⟨b, 2, none⟩ (.int .u64 (W64 (s.2.2.1 ^^^ c)))) b rb (x2F c s) := h.of (fr_cell w b 2 _) (h.row.put2 _)
theorem AtR.put {w0 w : World} {b rb : Nat} {s : ST} (h : AtR w0 w b rb s) (t : ST) : AtR w0 ((((w.setCell ⟨b, 0, none⟩ (.int .u64 (W64 t.1))).setCell ⟨b, 1, none⟩ (.int .u64 (W64 t.2.1))).setCell ⟨b, 2, none⟩ (.int .u64 (W64 t.2.2.1))).setCell ⟨b, 3, none⟩ (.int .u64 (W64 t.2.2.2))) b rb t := h.of (fr_put4 w b (.int .u64 (W64 t.1)) (.int .u64 (W64 t.2.1)) (.int .u64 (W64 t.2.2.1)) (.int .u64 (W64 t.2.2.2))) (row_put4 h.row (.int .u64 (W64 t.1)) (.int .u64 (W64 t.2.1)) (.int .u64 (W64 t.2.2.1)) (.int .u64 (W64 t.2.2.2)))
end Go.Proofs.YtidlpihoafnobaaGreat.StSip
namespace Go.Proofs.YtidlpihoafnobaaGreat.StSip
set_option maxRecDepth 100000
open Go.Proofs.YtidlpihoafnobaaGreat.StG64
open Go.RowKit
structure HLive (w0 w : World) (hb sb : Nat) (kd : Int) (kh kl : BitVec 64) (q : Nat) (s : ST) (tl : Bytes) (lo : BitVec 64) (tv : Value) : Prop where
 on : Live w0 w sb 8 (firstF kd kh kl) s (qS q) tl lo tv
 hc : w.heap[hb]? = some (.cells #[.int .i64 kd, .pointer (some ⟨sb, 0, none⟩)] 231 (0, 0))
 ge : w0.heap.size ≤ hb
 ne : ¬ Foot sb tv hb
 tlen : tl.length < 8
 hq : Cap w q (cOf kd)
 kk : IsK kd
def HFoot (hb sb : Nat) (tv : Value) (x : Nat) : Prop := x = hb ∨ Foot sb tv x
section
variable {w0 w w' : World} {hb sb : Nat} {kd : Int} {kh kl : BitVec 64} {q : Nat} {s : ST} {tl : Bytes} {lo : BitVec 64} {tv : Value}
theorem HLive.lt (h : HLive w0 w hb sb kd kh kl q s tl lo tv) : ∀ x, HFoot hb sb tv x → x < w.heap.size := fun x hx => by
 rcases hx with rfl | hx
 · exact (Array.getElem?_eq_some_iff.1 h.hc).1
 · exact h.on.lt x hx
theorem HLive.fr (h : HLive w0 w hb sb kd kh kl q s tl lo tv) : Fr No w0 w := h.on.fr
theorem HLive.keep {F : Nat → Prop} (h : HLive w0 w hb sb kd kh kl q s tl lo tv) (k : Fr F w w') (hF : ∀ x, F x → ¬ HFoot hb sb tv x) (hA : ∀ x, F x → w0.heap.size ≤ x) (hQ : ¬ F q) : HLive w0 w' hb sb kd kh kl q s tl lo tv :=
 ⟨h.on.keep k (fun x hx g => hF x hx (.inr g)) hA, k.heap (fun g => hF _ g (.inl rfl)) h.hc, h.ge, h.ne, h.tlen, h.hq.fr k hQ, h.kk⟩
theorem HLive.no (h : HLive w0 w hb sb kd kh kl q s tl lo tv) (k : Fr No w w') : HLive w0 w' hb sb kd kh kl q s tl lo tv := h.keep k (fun _ g => g.elim) (fun _ g => g.elim) (fun g => g)
theorem HLive.cell (h : HLive w0 w hb sb kd kh kl q s tl lo tv) : w.cell? ⟨hb, 1, none⟩ = some (.pointer (some ⟨sb, 0, none⟩)) := by rw [cell_of_row w hb 1 _ _ _ h.hc]; rfl
end
def GivesHash (w0 w : World) (kd : Int) (kh kl : BitVec 64) (e : Ending) (w' : World) : Prop := ∃ hb sb q, e = .returned (.pointer (some ⟨hb, 0, none⟩)) ∧ w.heap.size ≤ hb ∧ w.heap.size ≤ sb ∧ HLive w0 w' hb sb kd kh kl q (firstF kd kh kl) [] 0#64 (.slice none 0 0) ∧ Fr No w w'
set_option maxHeartbeats 400000 in
theorem New_h (kd : Int) (kh kl : BitVec 64) (hk : IsK kd) (w0 w : World) (hf : Fr No w0 w) : Calls Tryz.prog 161 #[.int .i64 kd, .agg #[.int .u64 (W64 kh), .int .u64 (W64 kl)]] w (GivesHash w0 w kd kh kl) := by
 have hF0 : Fr No w (w.alloc (.cells #[.int .u64 (W64 kh), .int .u64 (W64 kl)] 24)) := (Fr.refl No w).alloc _
 have hU := row2_new w 24 (.int .u64 (W64 kh)) (.int .u64 (W64 kl))
 have hc := cOf_pos hk
 have hc1 := Lib.hid hk
 clear hk
 go_enter Tryz.func161, Tryz.ntmps161
 go_wp2_with fail
 generalize w.heap.size = pb at hU ⊢
 generalize w.alloc (.cells #[.int .u64 (W64 kh), .int .u64 (W64 kl)] 24) = wa at hF0 hU ⊢
 refine (rounds_any kd _).mono ?_
 rintro e w' ⟨rfl, rfl⟩
 have u0 := hU.c0
 have u1 := hU.c1
 go_wp2_with fail
 refine (first_any kd kh kl _).mono ?_
 rintro e w1 ⟨rfl, hf1⟩
 have hW := hF0.no hf1
 clear u0 u1 hU hf1
 unfold lanesV
 go_wp2_with fail
 refine (stepper_any kd _).mono ?_
 rintro e w2 ⟨q, rfl, hq1, hq, hf2⟩
 have hW1 := hW.no hf2
 clear hf2 hW hF0
 unfold fvS
 go_wp2_with fail
 refine (New_any 8 (firstF kd kh kl) (qS q) _ (by omega) (by omega)).mono ?_
 rintro e w3 ⟨sb, rfl, hge, hlt, hst, hfr⟩
 have hz : sizeOk 8 = ((8 : Nat) : Int) := rfl
 rw [hz] at hst
 have hW := hW1.no hfr
 have g0 := hf.size
 have g1 := hW1.size
 have g2 := hfr.size
 clear hz
 go_wp2_with fail
 go_ret
 have h3 : Fr No w3 (w3.alloc (.cells #[.int .i64 kd, .pointer (some ⟨sb, 0, none⟩)] 231)) := (Fr.refl No w3).alloc _
 refine ⟨w3.heap.size, sb, q, rfl, by omega, by omega, ⟨⟨hst.fr h3 (fun h => h), Owns.nil _ _, by omega, (hf.no hW).no h3⟩, heap_alloc_new w3 _, by omega, ?_, by simp, (hq.no hfr).no h3, hc1.out⟩, hW.no h3⟩
 rintro (g | g)
 · omega
 · simp [Value.ownBlock] at g
end Go.Proofs.YtidlpihoafnobaaGreat.StSip
namespace Go.Proofs.YtidlpihoafnobaaGreat.StSip
set_option maxRecDepth 100000
open Go.Proofs.YtidlpihoafnobaaGreat.StG64
open Go.RowKit
def HAll (w0 w : World) (hb sb : Nat) (kd : Int) (kh kl : BitVec 64) (d : Bytes) (tv : Value) : Prop := ∃ q, HLive w0 w hb sb kd kh kl q (foldF (stepG (cOf kd)) 8 (firstF kd kh kl) d).1 (foldF (stepG (cOf kd)) 8 (firstF kd kh kl) d).2 (BitVec.ofNat 64 d.length) tv
theorem HAll.no {w' : World} {w0 w : World} {hb sb : Nat} {kd : Int} {kh kl : BitVec 64} {d : Bytes} {tv : Value} (h : HAll w0 w hb sb kd kh kl d tv) (k : Fr No w w') : HAll w0 w' hb sb kd kh kl d tv := by obtain ⟨q, h⟩ := h; exact ⟨q, h.no k⟩
theorem HAll.keep {w' : World} {w0 w : World} {hb sb : Nat} {kd : Int} {kh kl : BitVec 64} {d : Bytes} {tv : Value} {F : Nat → Prop} (h : HAll w0 w hb sb kd kh kl d tv) (k : Fr F w w') (hF : ∀ x, F x → ¬ HFoot hb sb tv x) (hA : ∀ x, F x → w0.heap.size ≤ x) (hK : Keeps w F) : HAll w0 w' hb sb kd kh kl d tv := by
 obtain ⟨q, h⟩ := h; exact ⟨q, h.keep k hF hA (hK q _ h.hq ⟨_, _, rfl, by decide⟩)⟩
theorem HAll.fr {w0 w : World} {hb sb : Nat} {kd : Int} {kh kl : BitVec 64} {d : Bytes} {tv : Value} (h : HAll w0 w hb sb kd kh kl d tv) : Fr No w0 w := by obtain ⟨q, h⟩ := h; exact h.fr
theorem HAll.lt {w0 w : World} {hb sb : Nat} {kd : Int} {kh kl : BitVec 64} {d : Bytes} {tv : Value} (h : HAll w0 w hb sb kd kh kl d tv) : ∀ x, HFoot hb sb tv x → x < w.heap.size := by obtain ⟨q, h⟩ := h; exact h.lt
theorem HAll.con {w0 w : World} {hb sb : Nat} {kd : Int} {kh kl : BitVec 64} {d : Bytes} {tv : Value} (h : HAll w0 w hb sb kd kh kl d tv) : Keeps w (Foot sb tv) := by obtain ⟨q, h⟩ := h; exact h.on.con
theorem HAll.kk {w0 w : World} {hb sb : Nat} {kd : Int} {kh kl : BitVec 64} {d : Bytes} {tv : Value} (h : HAll w0 w hb sb kd kh kl d tv) : IsK kd := by obtain ⟨q, h⟩ := h; exact h.kk
theorem one_hi {kd : Int} (hk : IsK kd) (kh kl : BitVec 64) (d : Bytes) : endHi kd (foldF (stepG (cOf kd)) 8 (firstF kd kh kl) d).1 (foldF (stepG (cOf kd)) 8 (firstF kd kh kl) d).2 (BitVec.ofNat 64 d.length) = oneHi kd kh kl d := by unfold oneHi; rw [if_pos hk]
theorem one_lo {kd : Int} (hk : IsK kd) (kh kl : BitVec 64) (d : Bytes) : endLo kd (foldF (stepG (cOf kd)) 8 (firstF kd kh kl) d).1 (foldF (stepG (cOf kd)) 8 (firstF kd kh kl) d).2 (BitVec.ofNat 64 d.length) = oneLo kd kh kl d := by unfold oneLo; rw [if_pos hk]
set_option maxHeartbeats 1000000 in
theorem One_no (kd : Int) (kh kl : BitVec 64) (hk : ¬ IsK kd) (a : Option Addr) (n c : Nat) (w : World) :
 Calls Tryz.prog 158 #[.int .i64 kd, .agg #[.int .u64 (W64 kh), .int .u64 (W64 kl)], .slice a n c] w (GivesNew (.agg #[.int .u64 0, .int .u64 0]) w) := by
 have hF0 : Fr No w ((w.alloc (.cells #[.int .u64 (W64 kh), .int .u64 (W64 kl)] 24)).alloc (.cells #[.int .u64 0, .int .u64 0] 24)) := ((Fr.refl No w).alloc _).alloc _
 have hT : Row2 ((w.alloc (.cells #[.int .u64 (W64 kh), .int .u64 (W64 kl)] 24)).alloc (.cells #[.int .u64 0, .int .u64 0] 24)) (w.heap.size + 1) 24 (.int .u64 0) (.int .u64 0) := heap_alloc2_new w _ _
 have hc := cOf_zero hk
 clear hk
 go_enter Tryz.func158, Tryz.ntmps158
 go_wp2_with fail
 obtain ⟨pb, hpb⟩ : ∃ pb, pb = w.heap.size + 1 := ⟨_, rfl⟩
 have hpw : w.heap.size ≤ pb := by omega
 rw [← hpb] at hT ⊢
 clear hpb
 generalize ((w.alloc (.cells #[.int .u64 (W64 kh), .int .u64 (W64 kl)] 24)).alloc (.cells #[.int .u64 0, .int .u64 0] 24)) = w1 at hF0 hT ⊢
 refine (rounds_any kd _).mono ?_
 rw [hc]
 rintro e w' ⟨rfl, rfl⟩
 clear hc
 have cr0 := hT.c0
 have cr1 := hT.c1
 have fr0 := hT.fz 0
 have fr1 := hT.fz 1
 go_wp2_with fail
 have hF9 := fr_put2 w1 (pb) (.int .u64 0) (.int .u64 0)
 have hR9 := row_put2 hT (.int .u64 0) (.int .u64 0)
 clear cr0 cr1 fr0 fr1
 generalize (w1.setCell ⟨pb, 0, none⟩ (.int .u64 0)).setCell ⟨pb, 1, none⟩ (.int .u64 0) = w9 at hF9 hR9 ⊢
 have cd0 := hR9.c0
 have cd1 := hR9.c1
 refine bodyPost_ret (v := .agg #[.int .u64 0, .int .u64 0]) (by simp [results, Tryz.results158, go_sem, cd0, cd1]) rfl ?_
 exact ⟨rfl, hF0.trans hF9 (fun x hx => .inr (by omega))⟩
set_option maxHeartbeats 2000000 in
theorem One_any (kd : Int) (kh kl : BitVec 64) (a : Option Addr) (n c : Nat) (l : Bytes) (w : World) (h : IsBytes w a n c l) (hn : n ≤ 1099511627776) :
 Calls Tryz.prog 158 #[.int .i64 kd, .agg #[.int .u64 (W64 kh), .int .u64 (W64 kl)], .slice a n c] w (GivesNew (.agg #[.int .u64 (W64 (oneHi kd kh kl l)), .int .u64 (W64 (oneLo kd kh kl l))]) w) := by
 by_cases hk : IsK kd
 case neg =>
  have e1 : oneHi kd kh kl l = 0#64 := by unfold oneHi; rw [if_neg hk]
  have e2 : oneLo kd kh kl l = 0#64 := by unfold oneLo; rw [if_neg hk]
  rw [e1, e2]
  exact One_no kd kh kl hk a n c w
 rw [← one_hi hk, ← one_lo hk]
 have hc := cOf_pos hk
 clear hk
 have hlen := Lib.hid h.1
 rw [hlen.out]
 generalize hr : (foldF (stepG (cOf kd)) 8 (firstF kd kh kl) l) = r
 have HR := Lib.hid hr
 clear hr
 have hF0 : Fr No w ((w.alloc (.cells #[.int .u64 (W64 kh), .int .u64 (W64 kl)] 24)).alloc (.cells #[.int .u64 0, .int .u64 0] 24)) := ((Fr.refl No w).alloc _).alloc _
 have hU : Row2 ((w.alloc (.cells #[.int .u64 (W64 kh), .int .u64 (W64 kl)] 24)).alloc (.cells #[.int .u64 0, .int .u64 0] 24)) w.heap.size 24 (.int .u64 (W64 kh)) (.int .u64 (W64 kl)) := (row2_new w _ _ _).no ((Fr.refl No _).alloc _)
 have hT : Row2 ((w.alloc (.cells #[.int .u64 (W64 kh), .int .u64 (W64 kl)] 24)).alloc (.cells #[.int .u64 0, .int .u64 0] 24)) (w.heap.size + 1) 24 (.int .u64 0) (.int .u64 0) := heap_alloc2_new w _ _
 go_enter Tryz.func158, Tryz.ntmps158
 go_wp2_with fail
 obtain ⟨pb, hpb⟩ : ∃ pb, pb = w.heap.size := ⟨_, rfl⟩
 have hpw : w.heap.size ≤ pb := by omega
 rw [← hpb] at hU hT ⊢
 clear hpb
 generalize ((w.alloc (.cells #[.int .u64 (W64 kh), .int .u64 (W64 kl)] 24)).alloc (.cells #[.int .u64 0, .int .u64 0] 24)) = w1 at hF0 hU hT ⊢
 refine (rounds_any kd _).mono ?_
 rintro e w' ⟨rfl, rfl⟩
 have u0 := hU.c0
 have u1 := hU.c1
 go_wp2_with fail
 refine (first_any kd kh kl _).mono ?_
 rintro e w2 ⟨rfl, hf2⟩
 have hT2 := hT.no hf2
 have hF2 := hF0.no hf2
 clear u0 u1 hU hT hF0 hf2 hc
 unfold lanesV
 go_wp2_with fail
 refine (stepper_any kd _).mono ?_
 rintro e w3 ⟨q, rfl, _, hq, hf3⟩
 have hT3 := hT2.no hf3
 have hF3 := hF2.no hf3
 have h3 := h.no hF3
 clear hT2 hF2 hf3
 unfold fvS
 go_wp2_with fail
 refine (Fold_any (fun w' => Cap w' q (cOf kd)) (stepG (cOf kd)) 8 8 (firstF kd kh kl) (qS q) _ _ _ l _ (fun w' k => hq.no k) (steps_any kd q) (by omega) (by omega) rfl h3 hn).mono ?_
 rw [HR.out]
 rintro e w4 ⟨v, rfl, ho, hf4⟩
 obtain ⟨a2, c2, rfl, hb2, _⟩ := ho.bytes
 simp only [cS0, cS1, cS2, cS3]
 have hFB := (Fr.refl No w4).alloc (.cells #[.int .u64 (W64 r.1.1), .int .u64 (W64 r.1.2.1), .int .u64 (W64 r.1.2.2.1), .int .u64 (W64 r.1.2.2.2)] 49)
 have hF4 := (hF3.no hf4).no hFB
 have hT4 := (hT3.no hf4).no hFB
 have hb4 := hb2.no hFB
 clear hF3 hT3 hf4 hFB hb2 ho hq h3
 go_wp2_with fail
 refine (end_any kd r.1 _ _ _ r.2 _ _ hb4).mono ?_
 rintro e w5 ⟨rfl, hf5⟩
 have hT5 := hT4.no hf5
 have hF5 := hF4.no hf5
 clear hT4 hF4 hf5 hb4
 obtain ⟨z1, hz1⟩ : ∃ z, z = endHi kd r.1 r.2 (BitVec.ofNat 64 n) := ⟨_, rfl⟩
 obtain ⟨z2, hz2⟩ : ∃ z, z = endLo kd r.1 r.2 (BitVec.ofNat 64 n) := ⟨_, rfl⟩
 rw [← hz1, ← hz2]
 have HZ1 := Lib.hid hz1
 have HZ2 := Lib.hid hz2
 clear hz1 hz2
 have cr0 := hT5.c0
 have cr1 := hT5.c1
 have fr0 := hT5.fz 0
 have fr1 := hT5.fz 1
 go_wp2_with fail
 have hF9 := fr_put2 w5 (pb + 1) (.int .u64 (W64 z1)) (.int .u64 (W64 z2))
 have hR9 := row_put2 hT5 (.int .u64 (W64 z1)) (.int .u64 (W64 z2))
 clear cr0 cr1 fr0 fr1
 generalize (w5.setCell ⟨pb + 1, 0, none⟩ (.int .u64 (W64 z1))).setCell ⟨pb + 1, 1, none⟩ (.int .u64 (W64 z2)) = w9 at hF9 hR9 ⊢
 have cd0 := hR9.c0
 have cd1 := hR9.c1
 refine bodyPost_ret (v := .agg #[.int .u64 (W64 z1), .int .u64 (W64 z2)]) (by simp [results, Tryz.results158, go_sem, cd0, cd1]) rfl ?_
 exact ⟨by rw [HZ1.out, HZ2.out], hF5.trans hF9 (fun x hx => .inr (by omega))⟩
end Go.Proofs.YtidlpihoafnobaaGreat.StSip
namespace Go.Proofs.YtidlpihoafnobaaGreat.StSip
open Go.Proofs.YtidlpihoafnobaaGreat.StG64
set_option maxRecDepth 100000
open Go.RowKit
abbrev Cap6 (w : World) (k : Int) (kh kl : BitVec 64) (ib c6 c7 c8 c9 c10 c11 : Nat) (c5 sz : Nat) : Prop := Caps w 187 189 104 190 k kh kl ib (.func (.func 162) #[] #[]) (.func (.func 156) #[] #[.pointer (some ⟨c5, 0, none⟩)]) (.func (.func 163) #[] #[]) c6 c7 c8 c9 c10 c11 ∧ Row1 w c5 3 (.int .i64 (sz : Int))
def HS (w0 w : World) (hb : Nat) (F : Nat → Prop) (k : Int) (kh kl : BitVec 64) (s : ST) (tl : Bytes) (lo : BitVec 64) (sz : Nat) : Prop :=
 ∃ ib sb tv c6 c7 c8 c9 c10 c11 q c5, HRow w hb k kh kl (.iface 187 (.pointer (some ⟨ib, 0, none⟩))) (.func (.func 218) #[] #[.pointer (some ⟨c10, 0, none⟩), .pointer (some ⟨c9, 0, none⟩), .pointer (some ⟨c8, 0, none⟩)]) (.func (.func 219) #[] #[.pointer (some ⟨c6, 0, none⟩), .pointer (some ⟨c7, 0, none⟩), .pointer (some ⟨c11, 0, none⟩), .pointer (some ⟨c8, 0, none⟩), .pointer (some ⟨c9, 0, none⟩), .pointer (some ⟨c10, 0, none⟩)]) ∧ Cap6 w k kh kl ib c6 c7 c8 c9 c10 c11 c5 sz ∧ HLive w0 w ib sb k kh kl q s tl lo tv ∧ F = Foot sb tv
theorem wrapped_h {w0 w : World} {k : Int} {kh kl : BitVec 64} {ib sb : Nat} {s : ST} {tl : Bytes} {lo : BitVec 64} {tv : Value} {q c5 sz : Nat} (h : HLive w0 w ib sb k kh kl q s tl lo tv) (h5 : Row1 w c5 3 (.int .i64 (sz : Int))) :
 Calls Tryz.prog 160 #[.int .i64 k, .agg #[.int .u64 (W64 kh), .int .u64 (W64 kl)], .pointer (some ⟨ib, 0, none⟩), .func (.func 162) #[] #[], .func (.func 156) #[] #[.pointer (some ⟨c5, 0, none⟩)], .func (.func 163) #[] #[]] w (fun e w' => ∃ hb, e = .returned (.pointer (some ⟨hb, 0, none⟩)) ∧ HS w0 w' hb (Foot sb tv) k kh kl s tl lo sz ∧ w.heap.size ≤ hb ∧ Fr No w w') := by
 have r6 := row1_new w 3 (.int .i64 k)
 have r7 := row2_new (w.alloc (.cells #[.int .i64 k] 3)) 24 (.int .u64 (W64 kh)) (.int .u64 (W64 kl))
 replace r6 := r6.up (.cells #[.int .u64 (W64 kh), .int .u64 (W64 kl)] 24)
 have r8 := row1_new ((w.alloc (.cells #[.int .i64 k] 3)).alloc (.cells #[.int .u64 (W64 kh), .int .u64 (W64 kl)] 24)) 187 (.pointer (some ⟨ib, 0, none⟩))
 replace r6 := r6.up (.cells #[.pointer (some ⟨ib, 0, none⟩)] 187)
 replace r7 := r7.up (.cells #[.pointer (some ⟨ib, 0, none⟩)] 187)
 have r9 := row1_new (((w.alloc (.cells #[.int .i64 k] 3)).alloc (.cells #[.int .u64 (W64 kh), .int .u64 (W64 kl)] 24)).alloc (.cells #[.pointer (some ⟨ib, 0, none⟩)] 187)) 189 (.func (.func 162) #[] #[])
 replace r6 := r6.up (.cells #[.func (.func 162) #[] #[]] 189)
 replace r7 := r7.up (.cells #[.func (.func 162) #[] #[]] 189)
 replace r8 := r8.up (.cells #[.func (.func 162) #[] #[]] 189)
 have r10 := row1_new ((((w.alloc (.cells #[.int .i64 k] 3)).alloc (.cells #[.int .u64 (W64 kh), .int .u64 (W64 kl)] 24)).alloc (.cells #[.pointer (some ⟨ib, 0, none⟩)] 187)).alloc (.cells #[.func (.func 162) #[] #[]] 189)) 104 (.func (.func 156) #[] #[.pointer (some ⟨c5, 0, none⟩)])
 replace r6 := r6.up (.cells #[.func (.func 156) #[] #[.pointer (some ⟨c5, 0, none⟩)]] 104)
 replace r7 := r7.up (.cells #[.func (.func 156) #[] #[.pointer (some ⟨c5, 0, none⟩)]] 104)
 replace r8 := r8.up (.cells #[.func (.func 156) #[] #[.pointer (some ⟨c5, 0, none⟩)]] 104)
 replace r9 := r9.up (.cells #[.func (.func 156) #[] #[.pointer (some ⟨c5, 0, none⟩)]] 104)
 have r11 := row1_new (((((w.alloc (.cells #[.int .i64 k] 3)).alloc (.cells #[.int .u64 (W64 kh), .int .u64 (W64 kl)] 24)).alloc (.cells #[.pointer (some ⟨ib, 0, none⟩)] 187)).alloc (.cells #[.func (.func 162) #[] #[]] 189)).alloc (.cells #[.func (.func 156) #[] #[.pointer (some ⟨c5, 0, none⟩)]] 104)) 190 (.func (.func 163) #[] #[])
 replace r6 := r6.up (.cells #[.func (.func 163) #[] #[]] 190)
 replace r7 := r7.up (.cells #[.func (.func 163) #[] #[]] 190)
 replace r8 := r8.up (.cells #[.func (.func 163) #[] #[]] 190)
 replace r9 := r9.up (.cells #[.func (.func 163) #[] #[]] 190)
 replace r10 := r10.up (.cells #[.func (.func 163) #[] #[]] 190)
 have hF := ((((((Fr.refl No w).alloc (.cells #[.int .i64 k] 3)).alloc (.cells #[.int .u64 (W64 kh), .int .u64 (W64 kl)] 24)).alloc (.cells #[.pointer (some ⟨ib, 0, none⟩)] 187)).alloc (.cells #[.func (.func 162) #[] #[]] 189)).alloc (.cells #[.func (.func 156) #[] #[.pointer (some ⟨c5, 0, none⟩)]] 104)).alloc (.cells #[.func (.func 163) #[] #[]] 190)
 simp only [World.size_alloc] at r6 r7 r8 r9 r10 r11
 have g6 := r6.c0
 have g7 := r7.c0
 have g7' := r7.c1
 have g8 := r8.c0
 go_enter Tryz.func160, Tryz.ntmps160
 go_upto_region 1 with fail
 have hlt := hF.size
 generalize ((((((w.alloc (.cells #[.int .i64 k] 3)).alloc (.cells #[.int .u64 (W64 kh), .int .u64 (W64 kl)] 24)).alloc (.cells #[.pointer (some ⟨ib, 0, none⟩)] 187)).alloc (.cells #[.func (.func 162) #[] #[]] 189)).alloc (.cells #[.func (.func 156) #[] #[.pointer (some ⟨c5, 0, none⟩)]] 104)).alloc (.cells #[.func (.func 163) #[] #[]] 190)) = w6 at r6 r7 r8 r9 r10 r11 hF g6 g7 g7' g8 hlt ⊢
 generalize w.heap.size + 1 + 1 + 1 + 1 + 1 = c11 at r11 ⊢
 generalize w.heap.size + 1 + 1 + 1 + 1 = c10 at r10 ⊢
 generalize w.heap.size + 1 + 1 + 1 = c9 at r9 ⊢
 generalize w.heap.size + 1 + 1 = c8 at r8 g8 ⊢
 generalize w.heap.size + 1 = c7 at r7 g7 g7' ⊢
 obtain ⟨c6, e6⟩ : ∃ c6, c6 = w.heap.size := ⟨_, rfl⟩
 rw [← e6] at r6 g6 ⊢
 clear e6
 go_wp2_with fail
 go_ret
 have hv := (Fr.refl No w6).alloc (.cells #[.int .i64 k, .int .u64 (W64 kh), .int .u64 (W64 kl), .iface 187 (.pointer (some ⟨ib, 0, none⟩)), .func (.func 218) #[] #[.pointer (some ⟨c10, 0, none⟩), .pointer (some ⟨c9, 0, none⟩), .pointer (some ⟨c8, 0, none⟩)], .func (.func 219) #[] #[.pointer (some ⟨c6, 0, none⟩), .pointer (some ⟨c7, 0, none⟩), .pointer (some ⟨c11, 0, none⟩), .pointer (some ⟨c8, 0, none⟩), .pointer (some ⟨c9, 0, none⟩), .pointer (some ⟨c10, 0, none⟩)]] 74)
 exact ⟨w6.heap.size, rfl, ⟨ib, sb, tv, c6, c7, c8, c9, c10, c11, q, c5, heap_alloc_new w6 _, ⟨⟨r6.no hv, r7.no hv, r8.no hv, r9.no hv, r10.no hv, r11.no hv⟩, (h5.no hF).no hv⟩, (h.no hF).no hv, rfl⟩, hlt, hF.no hv⟩
theorem owns_take {w : World} {base : Nat} {a : Option Addr} {c k : Nat} {l : Bytes} (h : Owns w base (.slice a 16 c) l) (hl : l.length = 16) (hk : k ≤ 16) : Owns w base (.slice (subAddr a 0 c 1) k c) (l.take k) := by
 rcases h.2 with ⟨e, hn⟩ | ⟨g, cap, cur, e, hb, hg, h1, h2, h3, h4⟩
 · omega
 · simp only [Value.slice.injEq] at e
   obtain ⟨rfl, _, rfl⟩ := e
   have hkl : (l.take k).length = k := by rw [List.length_take]; omega
   refine ⟨by simp, .inr ⟨g, c, cur, ?_, hb, hg, ?_, h2, h3, ?_⟩⟩
   · rw [hkl]; simp [subAddr]; intro _; first | rfl | simp [Addr.add]
   · rw [hkl]; omega
   · rw [hkl, List.map_take, ← h4, List.take_take]
     congr 1
     omega
theorem sipTell {w : World} {c5 sz : Nat} (h5 : Row1 w c5 3 (.int .i64 (sz : Int))) (hsz : sz ≤ 16) (zh zl : BitVec 64) : Calls Tryz.prog 156 #[.agg #[.int .u64 (W64 zh), .int .u64 (W64 zl)], .pointer (some ⟨c5, 0, none⟩)] w (GivesBytes ((leb zl 8 ++ leb zh 8).take sz) w) := by
 have hA := row2_new w 24 (.int .u64 (W64 zh)) (.int .u64 (W64 zl))
 have hF := (Fr.refl No w).alloc (.cells #[.int .u64 (W64 zh), .int .u64 (W64 zl)] 24)
 have hlt := hF.size
 replace h5 := h5.no hF
 go_enter Tryz.func156, Tryz.ntmps156
 go_wp2_with fail
 generalize w.heap.size = ab at hA ⊢
 generalize w.alloc (.cells #[.int .u64 (W64 zh), .int .u64 (W64 zl)] 24) = w1 at hF hA hlt h5 ⊢
 refine rsq (by kernel_rfl) [(0, 1), (2, 1), (1, 0), (3, 1), (4, 1)] (by kernel_rfl) ?_
 have hS0 : Fr No w1 w1.drew := (Fr.refl No w1).drew
 iterate 2 refine tq _ rfl rfl (by intro w9 h9; have q0 := (hA.no h9).c0; have q1 := (hA.no h9).c1; have q5 := (h5.no h9).c0; clear h9; go_simp; try with_reducible rfl) ?_; simp only [es1, es2, es3]
 refine wpSeq_next rfl rfl (fun K hK => ?_)
 go_wp2_with fail
 refine (sixteen_any _ _ _).mono ?_
 rintro e w2 ⟨v2, rfl, hO2, hf2⟩
 obtain ⟨a2, c2, rfl, hb2, _⟩ := hO2.bytes
 have hl2 : (leb zl 8 ++ leb zh 8).length = 16 := by rw [List.length_append, leb_length, leb_length]
 rw [hl2]
 rw [hl2] at hO2 hb2
 have i2 : sz ≤ c2 := by have := hb2.2.1; omega
 have hs2 : Fr No w1 w2 := (hS0).no hf2
 refine hK.out _ _ (fun _ => hs2) ?_
 clear hK K
 iterate 2 refine tp _ rfl rfl ?_; simp only [es1, es2, es3]
 refine wpSeq_done ?_
 go_wp2_with fail
 go_ret
 refine ⟨_, rfl, (owns_take hO2 ?_ hsz).mono (by have := hS0.size; omega), hF.no hs2⟩
 rw [List.length_append, leb_length, leb_length]
section
variable {w0 w w' : World} {hb : Nat} {F : Nat → Prop} {k : Int} {kh kl : BitVec 64} {s : ST} {tl : Bytes} {lo : BitVec 64} {sz : Nat}
theorem HS.fr (h : HS w0 w hb (F) k kh kl s tl lo sz) : Fr No w0 w := by
 obtain ⟨ib, sb, tv, c6, c7, c8, c9, c10, c11, q, c5, hr, hc, hL, rfl⟩ := h
 exact hL.fr
theorem HS.lt (h : HS w0 w hb (F) k kh kl s tl lo sz) : ∀ x, F x → x < w.heap.size := by
 obtain ⟨ib, sb, tv, c6, c7, c8, c9, c10, c11, q, c5, hr, hc, hL, rfl⟩ := h
 exact fun x hx => hL.lt x (.inr hx)
theorem HS.con (h : HS w0 w hb (F) k kh kl s tl lo sz) : Keeps w F := by
 obtain ⟨ib, sb, tv, c6, c7, c8, c9, c10, c11, q, c5, hr, hc, hL, rfl⟩ := h
 exact hL.on.con
theorem HS.no (h : HS w0 w hb (F) k kh kl s tl lo sz) (f : Fr No w w') : HS w0 w' hb (F) k kh kl s tl lo sz := by
 obtain ⟨ib, sb, tv, c6, c7, c8, c9, c10, c11, q, c5, hr, hc, hL, rfl⟩ := h
 exact ⟨ib, sb, _, c6, c7, c8, c9, c10, c11, q, c5, hr.no f, ⟨hc.1.no f, hc.2.no f⟩, hL.no f, rfl⟩
theorem HS.keep {G : Nat → Prop} (h : HS w0 w hb (F) k kh kl s tl lo sz) (f : Fr G w w') (hG : ∀ x, G x → ¬ F x) (hK : Keeps w G) (hA : ∀ x, G x → w0.heap.size ≤ x) : HS w0 w' hb (F) k kh kl s tl lo sz := by
 obtain ⟨ib, sb, tv, c6, c7, c8, c9, c10, c11, q, c5, hr, hc, hL, rfl⟩ := h
 refine ⟨ib, sb, _, c6, c7, c8, c9, c10, c11, q, c5, hr.fr f hK, ⟨hc.1.fr f (hK) (by decide), hc.2.con f (hK) (by decide)⟩, hL.keep f (fun x hx => ?_) hA (hK _ _ hL.hq ⟨_, _, rfl, by decide⟩), rfl⟩
 rintro (rfl | g)
 · exact hK _ _ hL.hc ⟨_, _, rfl, by decide⟩ hx
 · exact hG x hx g
end
theorem HS.kind {w0 w : World} {hb : Nat} {F : Nat → Prop} {k : Int} {kh kl : BitVec 64} {s : ST} {tl : Bytes} {lo : BitVec 64} {sz : Nat} (h : HS w0 w hb (F) k kh kl s tl lo sz) : Calls Tryz.prog 21 #[.pointer (some ⟨hb, 0, none⟩)] w (Gives (.int .i64 k) w) := by
 obtain ⟨ib, sb, tv, c6, c7, c8, c9, c10, c11, q, c5, hr, hc, hL, rfl⟩ := h
 exact hKind_yes hr.c3 hr.c0
theorem HS.key {w0 w : World} {hb : Nat} {F : Nat → Prop} {k : Int} {kh kl : BitVec 64} {s : ST} {tl : Bytes} {lo : BitVec 64} {sz : Nat} (h : HS w0 w hb (F) k kh kl s tl lo sz) : Calls Tryz.prog 22 #[.pointer (some ⟨hb, 0, none⟩)] w (GivesNew (.agg #[.int .u64 (W64 kh), .int .u64 (W64 kl)]) w) := by
 obtain ⟨ib, sb, tv, c6, c7, c8, c9, c10, c11, q, c5, hr, hc, hL, rfl⟩ := h
 exact hKey_yes hr.c3 hr.c1 hr.c2
end Go.Proofs.YtidlpihoafnobaaGreat.StSip
namespace Go.Proofs.YtidlpihoafnobaaGreat.StSip
open Go.Proofs.YtidlpihoafnobaaGreat.StG64
set_option maxRecDepth 100000
open Go.RowKit
theorem one_cl {w : World} {k : Int} {c3 c5 c7 sz : Nat} (r3 : Row1 w c3 3 (.int .i64 k)) (r5 : Row1 w c5 3 (.int .i64 (sz : Int))) (r7 : Row1 w c7 104 (.func (.func 156) #[] #[.pointer (some ⟨c5, 0, none⟩)])) (hsz : sz ≤ 16) (kh kl : BitVec 64) (a : Option Addr) (n c : Nat) (l : Bytes) (hy : IsBytes w a n c l) (hn : n ≤ 1099511627776) :
 Calls Tryz.prog 157 #[.agg #[.int .u64 (W64 kh), .int .u64 (W64 kl)], .slice a n c, .pointer (some ⟨c7, 0, none⟩), .pointer (some ⟨c3, 0, none⟩)] w (GivesBytes ((leb (oneLo k kh kl l) 8 ++ leb (oneHi k kh kl l) 8).take sz) w) := by
 generalize hbb : (leb (oneLo k kh kl l) 8 ++ leb (oneHi k kh kl l) 8).take sz = bb
 have HB := Lib.hid hbb
 clear hbb
 have hA := row2_new w 24 (.int .u64 (W64 kh)) (.int .u64 (W64 kl))
 have hF := (Fr.refl No w).alloc (.cells #[.int .u64 (W64 kh), .int .u64 (W64 kl)] 24)
 have hlt := hF.size
 replace r3 := r3.no hF
 replace r5 := r5.no hF
 replace r7 := r7.no hF
 replace hy := hy.no hF
 go_enter Tryz.func157, Tryz.ntmps157
 go_wp2_with fail
 generalize w.heap.size = ab at hA ⊢
 generalize w.alloc (.cells #[.int .u64 (W64 kh), .int .u64 (W64 kl)] 24) = w1 at hF hA hlt r3 r5 r7 hy ⊢
 refine rsq (by kernel_rfl) [(0, 1), (1, 1), (2, 1), (3, 1), (4, 0), (5, 0), (6, 1)] (by kernel_rfl) ?_
 have hS0 : Fr No w1 w1.drew := (Fr.refl No w1).drew
 iterate 4 refine tq _ rfl rfl (by intro w9 h9; have k0 := (hA.no h9).c0; have k1 := (hA.no h9).c1; have q7 := (r7.no h9).c0; have q3 := (r3.no h9).c0; clear h9; go_simp; try with_reducible rfl) ?_; simp only [es1, es2, es3]
 refine wpSeq_next rfl rfl (fun K hK => ?_)
 go_wp2_with fail
 refine (One_any k kh kl a n c l _ (hy.no hS0) hn).mono ?_
 rintro e w2 ⟨rfl, hf2⟩
 have hs2 : Fr No w1 w2 := (hS0).no hf2
 refine hK.out _ _ (fun _ => hs2) ?_
 clear hK K
 refine wpSeq_next rfl rfl (fun K hK => ?_)
 go_wp2_with fail
 refine (sipTell (r5.no hs2) hsz _ _).mono ?_
 rintro e w3 ⟨v3, rfl, hO3, hf3⟩
 rw [HB.out] at hO3
 obtain ⟨a3, c3', rfl, hb3, _⟩ := hO3.bytes
 have hs3 : Fr No w1 w3 := (hs2).no hf3
 refine hK.out _ _ (fun _ => hs3) ?_
 clear hK K
 refine tp _ rfl rfl ?_; simp only [es1, es2, es3]
 refine wpSeq_done ?_
 go_wp2_with fail
 go_ret
 exact ⟨_, rfl, hO3.mono (by have := hs2.size; omega), hF.no hs3⟩
theorem made_cl {w0 w : World} {k : Int} {c3 c5 c7 sz : Nat} (hk : IsK k) (r3 : Row1 w c3 3 (.int .i64 k)) (r5 : Row1 w c5 3 (.int .i64 (sz : Int))) (r7 : Row1 w c7 104 (.func (.func 156) #[] #[.pointer (some ⟨c5, 0, none⟩)])) (hw : Fr No w0 w) (kh kl : BitVec 64) :
 Calls Tryz.prog 159 #[.agg #[.int .u64 (W64 kh), .int .u64 (W64 kl)], .pointer (some ⟨c3, 0, none⟩), .pointer (some ⟨c7, 0, none⟩)] w (fun e w' => ∃ hb, e = .returned (.pointer (some ⟨hb, 0, none⟩)) ∧ ∃ F, HS w0 w' hb F k kh kl (firstF k kh kl) [] 0#64 sz ∧ (∀ x, F x → w.heap.size ≤ x) ∧ Fr No w w') := by
 have hA := row2_new w 24 (.int .u64 (W64 kh)) (.int .u64 (W64 kl))
 have hF := (Fr.refl No w).alloc (.cells #[.int .u64 (W64 kh), .int .u64 (W64 kl)] 24)
 have hlt := hF.size
 replace r3 := r3.no hF
 replace r5 := r5.no hF
 replace r7 := r7.no hF
 replace hw := hw.no hF
 replace hk := Lib.hid hk
 go_enter Tryz.func159, Tryz.ntmps159
 go_wp2_with fail
 generalize w.heap.size = ab at hA ⊢
 generalize w.alloc (.cells #[.int .u64 (W64 kh), .int .u64 (W64 kl)] 24) = w1 at hF hA hlt r3 r5 r7 hw ⊢
 refine rsq (by kernel_rfl) [(0, 1), (1, 1), (2, 1), (3, 1), (5, 1), (4, 0), (6, 0), (7, 1)] (by kernel_rfl) ?_
 have hS0 : Fr No w1 w1.drew := (Fr.refl No w1).drew
 iterate 5 refine tq _ rfl rfl (by intro w9 h9; have k0 := (hA.no h9).c0; have k1 := (hA.no h9).c1; have q7 := (r7.no h9).c0; have q3 := (r3.no h9).c0; clear h9; go_simp; try with_reducible rfl) ?_; simp only [es1, es2, es3]
 refine wpSeq_next rfl rfl (fun K hK => ?_)
 go_wp2_with fail
 refine (New_h k kh kl hk.out w0 _ (hw.no hS0)).mono ?_
 rintro e w2 ⟨ib, sb, q, rfl, hge1, hge2, hL2, hf2⟩
 have hs2 : Fr No w1 w2 := (hS0).no hf2
 have hz0 := (hS0).size
 refine hK.out _ _ (fun _ => hs2) ?_
 clear hK K
 refine wpSeq_next rfl rfl (fun K hK => ?_)
 go_wp2_with fail
 refine (wrapped_h hL2 (r5.no hs2)).mono ?_
 rintro e w3 ⟨hb3, rfl, hH3, hge3, hf3⟩
 have hs3 : Fr No w1 w3 := (hs2).no hf3
 refine hK.out _ _ (fun _ => hs3) ?_
 clear hK K
 refine tp _ rfl rfl ?_; simp only [es1, es2, es3]
 refine wpSeq_done ?_
 go_wp2_with fail
 go_ret
 refine ⟨hb3, rfl, _, hH3, fun x hx => ?_, hF.no hs3⟩
 rcases hx with rfl | hx
 · omega
 · simp [Value.ownBlock] at hx
theorem row6_no {w w' : World} {b : Nat} {T : TypeId} {v0 v1 v2 v3 v4 v5 : Value} (h : Row6 w b T v0 v1 v2 v3 v4 v5) (k : Fr No w w') : Row6 w' b T v0 v1 v2 v3 v4 v5 := k.heap (fun h => h) h
theorem sips_any (k : Int) (nm : ByteArray) (sz : Nat) (w : World) : Calls Tryz.prog 81 #[.int .i64 k, .string nm, .int .i64 (sz : Int)] w (fun e w' => ∃ c3 c5 c7, e = .returned (.agg #[.string nm, .int .i64 (sz : Int), .int .i64 8, .int .i64 128, .func (.func 157) #[] #[.pointer (some ⟨c7, 0, none⟩), .pointer (some ⟨c3, 0, none⟩)], .func (.func 159) #[] #[.pointer (some ⟨c3, 0, none⟩), .pointer (some ⟨c7, 0, none⟩)]]) ∧ Row1 w' c3 3 (.int .i64 k) ∧ Row1 w' c5 3 (.int .i64 (sz : Int)) ∧ Row1 w' c7 104 (.func (.func 156) #[] #[.pointer (some ⟨c5, 0, none⟩)]) ∧ Fr No w w') := by
 have r3 := ((row1_new w 3 (.int .i64 k)).up (.cells #[.int .i64 (sz : Int)] 3)).up (.cells #[.string ⟨#[]⟩, .int .i64 0, .int .i64 0, .int .i64 0, .nilFunc, .nilFunc] 65)
 have r5 := (row1_new (w.alloc (.cells #[.int .i64 k] 3)) 3 (.int .i64 (sz : Int))).up (.cells #[.string ⟨#[]⟩, .int .i64 0, .int .i64 0, .int .i64 0, .nilFunc, .nilFunc] 65)
 have hZ := row6_new ((w.alloc (.cells #[.int .i64 k] 3)).alloc (.cells #[.int .i64 (sz : Int)] 3)) 65 (.string ⟨#[]⟩) (.int .i64 0) (.int .i64 0) (.int .i64 0) .nilFunc .nilFunc
 have hF := (((Fr.refl No w).alloc (.cells #[.int .i64 k] 3)).alloc (.cells #[.int .i64 (sz : Int)] 3)).alloc (.cells #[.string ⟨#[]⟩, .int .i64 0, .int .i64 0, .int .i64 0, .nilFunc, .nilFunc] 65)
 simp only [World.size_alloc] at r5 hZ
 go_enter Tryz.func81, Tryz.ntmps81
 go_upto_region 1 with fail
 have hlt := hF.size
 obtain ⟨wz, hwz⟩ : ∃ wz : Nat, wz = w.heap.size := ⟨_, rfl⟩
 generalize (((w.alloc (.cells #[.int .i64 k] 3)).alloc (.cells #[.int .i64 (sz : Int)] 3)).alloc (.cells #[.string ⟨#[]⟩, .int .i64 0, .int .i64 0, .int .i64 0, .nilFunc, .nilFunc] 65)) = w3 at r3 r5 hF hlt hZ ⊢
 have hkge : wz ≤ w.heap.size + 1 + 1 := by omega
 generalize w.heap.size + 1 + 1 = kb at hZ hkge ⊢
 generalize w.heap.size + 1 = c5 at r5 ⊢
 obtain ⟨c3, e3⟩ : ∃ c3, c3 = w.heap.size := ⟨_, rfl⟩
 rw [← e3] at r3 ⊢
 clear e3
 have hkge2 : w.heap.size ≤ kb := by omega
 clear hwz hkge
 go_upto_region 2 with fail
 have r7 := row1_new w3 104 (.func (.func 156) #[] #[.pointer (some ⟨c5, 0, none⟩)])
 have hF7 := (Fr.refl No w3).alloc (.cells #[.func (.func 156) #[] #[.pointer (some ⟨c5, 0, none⟩)]] 104)
 replace r3 := r3.no hF7
 replace r5 := r5.no hF7
 replace hZ := row6_no hZ hF7
 replace hF := hF.no hF7
 clear hF7 hlt
 generalize w3.heap.size = c7 at r7 ⊢
 generalize w3.alloc (.cells #[.func (.func 156) #[] #[.pointer (some ⟨c5, 0, none⟩)]] 104) = w6 at r3 r5 r7 hZ hF ⊢
 have q5 := r5.c0
 have z0 := hZ.c0
 have z1 := hZ.c1
 have z2 := hZ.c2
 have z3 := hZ.c3
 have z4 := hZ.c4
 have z5 := hZ.c5
 have y0 := hZ.fz 0
 have y1 := hZ.fz 1
 have y2 := hZ.fz 2
 have y3 := hZ.fz 3
 have y4 := hZ.fz 4
 have y5 := hZ.fz 5
 go_wp2_with fail
 have hR := row_put6 hZ (.string nm) (.int .i64 (sz : Int)) (.int .i64 8) (.int .i64 128) (.func (.func 157) #[] #[.pointer (some ⟨c7, 0, none⟩), .pointer (some ⟨c3, 0, none⟩)]) (.func (.func 159) #[] #[.pointer (some ⟨c3, 0, none⟩), .pointer (some ⟨c7, 0, none⟩)])
 have hP := fr_put6 w6 kb (.string nm) (.int .i64 (sz : Int)) (.int .i64 8) (.int .i64 128) (.func (.func 157) #[] #[.pointer (some ⟨c7, 0, none⟩), .pointer (some ⟨c3, 0, none⟩)]) (.func (.func 159) #[] #[.pointer (some ⟨c3, 0, none⟩), .pointer (some ⟨c7, 0, none⟩)])
 have cd0 := hR.c0
 have cd1 := hR.c1
 have cd2 := hR.c2
 have cd3 := hR.c3
 have cd4 := hR.c4
 have cd5 := hR.c5
 refine bodyPost_ret (v := .agg #[.string nm, .int .i64 (sz : Int), .int .i64 8, .int .i64 128, .func (.func 157) #[] #[.pointer (some ⟨c7, 0, none⟩), .pointer (some ⟨c3, 0, none⟩)], .func (.func 159) #[] #[.pointer (some ⟨c3, 0, none⟩), .pointer (some ⟨c7, 0, none⟩)]]) (by simp [results, Tryz.results81, go_sem, cd0, cd1, cd2, cd3, cd4, cd5]) rfl ?_
 exact ⟨c3, c5, c7, rfl, r3.past hZ hP, r5.past hZ hP, r7.past hZ hP, hF.trans hP (fun x hx => .inr (by omega))⟩
end Go.Proofs.YtidlpihoafnobaaGreat.StSip
