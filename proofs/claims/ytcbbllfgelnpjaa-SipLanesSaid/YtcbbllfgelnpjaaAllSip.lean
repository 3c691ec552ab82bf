/- sip: a hash behind bytes; One; awake. -/
import Derived.Test.YtcbbllfgelnpjaaHashSip
import Derived.Test.YtcbbllfgelnpjaaPieces
import Derived.Test.YtcbbllfgelnpjaaEqU
namespace Go.Proofs.Ytcbbllfgelnpjaa.StSip
set_option linter.unusedVariables false
set_option linter.unusedSimpArgs false
open Go.RowKit

/-- In w lies a hash to which the bytes d were written. -/
def HAll (w0 w : World) (hb sb : Nat) (kd : Int) (kh kl : BitVec 64) (d : Bytes) (tv : Value) : Prop := ∃ q, HLive w0 w hb sb kd kh kl q (foldF (stepG (cOf kd)) 8 (firstF kd kh kl) d).1 (foldF (stepG (cOf kd)) 8 (firstF kd kh kl) d).2 (BitVec.ofNat 64 d.length) tv
theorem HAll.no {w' : World} {w0 w : World} {hb sb : Nat} {kd : Int} {kh kl : BitVec 64} {d : Bytes} {tv : Value} (h : HAll w0 w hb sb kd kh kl d tv) (k : Fr No w w') : HAll w0 w' hb sb kd kh kl d tv := by obtain ⟨q, h⟩ := h; exact ⟨q, h.no k⟩
theorem HAll.keep {w' : World} {w0 w : World} {hb sb : Nat} {kd : Int} {kh kl : BitVec 64} {d : Bytes} {tv : Value} {F : Nat → Prop} (h : HAll w0 w hb sb kd kh kl d tv) (k : Fr F w w') (hF : ∀ x, F x → ¬ HFoot hb sb tv x) (hA : ∀ x, F x → w0.heap.size ≤ x) (hK : Keeps w F) : HAll w0 w' hb sb kd kh kl d tv := by
  obtain ⟨q, h⟩ := h; exact ⟨q, h.keep k hF hA (hK q _ h.hq ⟨_, _, rfl, by decide⟩)⟩
theorem HAll.fr {w0 w : World} {hb sb : Nat} {kd : Int} {kh kl : BitVec 64} {d : Bytes} {tv : Value} (h : HAll w0 w hb sb kd kh kl d tv) : Fr No w0 w := by obtain ⟨q, h⟩ := h; exact h.fr
theorem HAll.lt {w0 w : World} {hb sb : Nat} {kd : Int} {kh kl : BitVec 64} {d : Bytes} {tv : Value} (h : HAll w0 w hb sb kd kh kl d tv) : ∀ x, HFoot hb sb tv x → x < w.heap.size := by obtain ⟨q, h⟩ := h; exact h.lt
theorem HAll.above {w0 w : World} {hb sb : Nat} {kd : Int} {kh kl : BitVec 64} {d : Bytes} {tv : Value} (h : HAll w0 w hb sb kd kh kl d tv) : ∀ x, HFoot hb sb tv x → w0.heap.size ≤ x := by obtain ⟨q, h⟩ := h; exact h.above
theorem HAll.con {w0 w : World} {hb sb : Nat} {kd : Int} {kh kl : BitVec 64} {d : Bytes} {tv : Value} (h : HAll w0 w hb sb kd kh kl d tv) : Keeps w (Foot sb tv) := by obtain ⟨q, h⟩ := h; exact h.on.con
theorem HAll.kk {w0 w : World} {hb sb : Nat} {kd : Int} {kh kl : BitVec 64} {d : Bytes} {tv : Value} (h : HAll w0 w hb sb kd kh kl d tv) : IsK kd := by obtain ⟨q, h⟩ := h; exact h.kk
theorem fold_nil (kd : Int) (s : ST) : foldF (stepG (cOf kd)) 8 s [] = (s, []) := foldF_short (by simp)
theorem HAll_nil {w0 w : World} {hb sb q : Nat} {kd : Int} {kh kl : BitVec 64} {tv : Value} (h : HLive w0 w hb sb kd kh kl q (firstF kd kh kl) [] 0#64 tv) : HAll w0 w hb sb kd kh kl [] tv := by
  refine ⟨q, ?_⟩; rw [fold_nil]; exact h
theorem New_all (kd : Int) (kh kl : BitVec 64) (hk : IsK kd) (w0 w : World) (hf : Fr No w0 w) : Calls Try.prog 11 #[.int .i64 kd, .agg #[.int .u64 (W64 kh), .int .u64 (W64 kl)]] w
    (fun e w' => ∃ hb sb, e = .returned (.pointer (some ⟨hb, 0, none⟩)) ∧ w.heap.size ≤ hb ∧ w.heap.size ≤ sb ∧ HAll w0 w' hb sb kd kh kl [] (.slice none 0 0) ∧ Fr No w w') := by
  refine (New_h kd kh kl hk w0 w hf).mono ?_
  rintro e w' ⟨hb, sb, q, rfl, h1, h2, h3, h4⟩
  exact ⟨hb, sb, rfl, h1, h2, HAll_nil h3, h4⟩
theorem New_no (kd : Int) (kh kl : BitVec 64) (hk : ¬ IsK kd) (w : World) : Calls Try.prog 11 #[.int .i64 kd, .agg #[.int .u64 (W64 kh), .int .u64 (W64 kl)]] w (GivesNew (.pointer none) w) := by
  have hF0 : Fr No w (w.alloc (.cells #[.int .u64 (W64 kh), .int .u64 (W64 kl)] 24)) := (Fr.refl No w).alloc _
  have hc := cOf_zero hk
  clear hk
  go_enter Try.func11, Try.ntmps11
  go_wp2_with fail
  refine (rounds_any kd _).mono ?_
  rw [hc]
  rintro e w' ⟨rfl, rfl⟩
  clear hc
  go_wp2_with fail
  go_ret
  exact ⟨rfl, hF0⟩
/-- What a write leaves. -/
def AWrote (w0 : World) (hb sb : Nat) (kd : Int) (kh kl : BitVec 64) (tv : Value) (d : Bytes) (w : World) (e : Ending) (w' : World) : Prop :=
  e = .returned (.tuple #[]) ∧ ∃ tv', HAll w0 w' hb sb kd kh kl d tv' ∧ Fr (Foot sb tv) w w' ∧ (tv'.ownBlock = tv.ownBlock ∨ ∀ x, tv'.ownBlock = some x → w.heap.size ≤ x)
theorem Write_all {w0 w : World} {hb sb : Nat} {kd : Int} {kh kl : BitVec 64} {d : Bytes} {tv : Value} (h : HAll w0 w hb sb kd kh kl d tv) (a : Option Addr) (n c : Nat) (l : Bytes) (hy : IsBytes w a n c l) (hap : Apart (Foot sb tv) a n) (hn : n ≤ 1099511627776) :
    Calls Try.prog 14 #[.pointer (some ⟨hb, 0, none⟩), .slice a n c] w (AWrote w0 hb sb kd kh kl tv (d ++ l) w) := by
  obtain ⟨q, h⟩ := h
  refine (Write_h h a n c l hy hap hn).mono ?_
  rintro e w' ⟨rfl, tv', hH, h2, h3⟩
  refine ⟨rfl, tv', ⟨q, ?_⟩, h2, h3⟩
  rw [foldF_append (by omega), List.length_append, hy.1, BitVec.ofNat_add]
  exact hH
theorem one_hi {kd : Int} (hk : IsK kd) (kh kl : BitVec 64) (d : Bytes) : endHi kd (foldF (stepG (cOf kd)) 8 (firstF kd kh kl) d).1 (foldF (stepG (cOf kd)) 8 (firstF kd kh kl) d).2 (BitVec.ofNat 64 d.length) = oneHi kd kh kl d := by unfold oneHi; rw [if_pos hk]
theorem one_lo {kd : Int} (hk : IsK kd) (kh kl : BitVec 64) (d : Bytes) : endLo kd (foldF (stepG (cOf kd)) 8 (firstF kd kh kl) d).1 (foldF (stepG (cOf kd)) 8 (firstF kd kh kl) d).2 (BitVec.ofNat 64 d.length) = oneLo kd kh kl d := by unfold oneLo; rw [if_pos hk]
theorem Sum_all {w0 w : World} {hb sb : Nat} {kd : Int} {kh kl : BitVec 64} {d : Bytes} {tv : Value} (h : HAll w0 w hb sb kd kh kl d tv) : Calls Try.prog 12 #[.pointer (some ⟨hb, 0, none⟩)] w (GivesNew (.agg #[.int .u64 (W64 (oneHi kd kh kl d)), .int .u64 (W64 (oneLo kd kh kl d))]) w) := by
  have hk := h.kk
  obtain ⟨q, h⟩ := h
  rw [← one_hi hk, ← one_lo hk]
  exact Sum_h h
theorem Reset_all {w0 w : World} {hb sb : Nat} {kd : Int} {kh kl : BitVec 64} {d : Bytes} {tv : Value} (h : HAll w0 w hb sb kd kh kl d tv) : Calls Try.prog 15 #[.pointer (some ⟨hb, 0, none⟩)] w (fun e w' => e = .returned (.tuple #[]) ∧ HAll w0 w' hb sb kd kh kl [] (.slice none 0 0) ∧ Fr (fun x => x = sb) w w') := by
  obtain ⟨q, h⟩ := h
  refine (Reset_h h).mono ?_
  rintro e w' ⟨rfl, hH, hf⟩
  exact ⟨rfl, HAll_nil hH, hf⟩
theorem Clone_all {w0 w : World} {hb sb : Nat} {kd : Int} {kh kl : BitVec 64} {d : Bytes} {tv : Value} (h : HAll w0 w hb sb kd kh kl d tv) : Calls Try.prog 20 #[.pointer (some ⟨hb, 0, none⟩)] w
    (fun e w' => ∃ hb' sb' tv', e = .returned (.pointer (some ⟨hb', 0, none⟩)) ∧ HAll w0 w' hb' sb' kd kh kl d tv' ∧ Fr No w w' ∧ ∀ x, HFoot hb' sb' tv' x → w.heap.size ≤ x) := by
  obtain ⟨q, h⟩ := h
  refine (Clone_h h).mono ?_
  rintro e w' ⟨hb', sb', tv', rfl, hH, h2, h3⟩
  exact ⟨hb', sb', tv', rfl, ⟨q, hH⟩, h2, h3⟩
set_option maxHeartbeats 1000000 in
theorem One_no (kd : Int) (kh kl : BitVec 64) (hk : ¬ IsK kd) (a : Option Addr) (n c : Nat) (w : World) :
    Calls Try.prog 8 #[.int .i64 kd, .agg #[.int .u64 (W64 kh), .int .u64 (W64 kl)], .slice a n c] w (GivesNew (.agg #[.int .u64 0, .int .u64 0]) w) := by
  have hF0 : Fr No w ((w.alloc (.cells #[.int .u64 (W64 kh), .int .u64 (W64 kl)] 24)).alloc (.cells #[.int .u64 0, .int .u64 0] 24)) := ((Fr.refl No w).alloc _).alloc _
  have hT : Row2 ((w.alloc (.cells #[.int .u64 (W64 kh), .int .u64 (W64 kl)] 24)).alloc (.cells #[.int .u64 0, .int .u64 0] 24)) (w.heap.size + 1) 24 (.int .u64 0) (.int .u64 0) := heap_alloc2_new w _ _
  have hc := cOf_zero hk
  clear hk
  go_enter Try.func8, Try.ntmps8
  go_wp2_with fail
  obtain ⟨pb, hpb⟩ : ∃ pb, pb = w.heap.size + 1 := ⟨_, rfl⟩
  have hpw : w.heap.size ≤ pb := by omega
  rw [← hpb] at hT ⊢
  clear hpb
  generalize ((w.alloc (.cells #[.int .u64 (W64 kh), .int .u64 (W64 kl)] 24)).alloc (.cells #[.int .u64 0, .int .u64 0] 24)) = w1 at hF0 hT ⊢
  refine (rounds_any kd _).mono ?_
  rw [hc]
  rintro e w' ⟨rfl, rfl⟩
  clear hc
  have cr0 := hT.c0
  have cr1 := hT.c1
  have fr0 := hT.fz 0
  have fr1 := hT.fz 1
  go_wp2_with fail
  have hF9 := fr_put2 w1 (pb) (.int .u64 0) (.int .u64 0)
  have hR9 := row_put2 hT (.int .u64 0) (.int .u64 0)
  clear cr0 cr1 fr0 fr1
  generalize (w1.setCell ⟨pb, 0, none⟩ (.int .u64 0)).setCell ⟨pb, 1, none⟩ (.int .u64 0) = w9 at hF9 hR9 ⊢
  have cd0 := hR9.c0
  have cd1 := hR9.c1
  refine bodyPost_ret (v := .agg #[.int .u64 0, .int .u64 0]) (by simp [results, Try.results8, go_sem, cd0, cd1]) rfl ?_
  exact ⟨rfl, hF0.trans hF9 (fun x hx => .inr (by omega))⟩
set_option maxHeartbeats 2000000 in
theorem One_any (kd : Int) (kh kl : BitVec 64) (a : Option Addr) (n c : Nat) (l : Bytes) (w : World) (h : IsBytes w a n c l) (hn : n ≤ 1099511627776) :
    Calls Try.prog 8 #[.int .i64 kd, .agg #[.int .u64 (W64 kh), .int .u64 (W64 kl)], .slice a n c] w (GivesNew (.agg #[.int .u64 (W64 (oneHi kd kh kl l)), .int .u64 (W64 (oneLo kd kh kl l))]) w) := by
  by_cases hk : IsK kd
  case neg =>
    have e1 : oneHi kd kh kl l = 0#64 := by unfold oneHi; rw [if_neg hk]
    have e2 : oneLo kd kh kl l = 0#64 := by unfold oneLo; rw [if_neg hk]
    rw [e1, e2]
    exact One_no kd kh kl hk a n c w
  rw [← one_hi hk, ← one_lo hk]
  have hc := cOf_pos hk
  clear hk
  have hlen := Lib.hid h.1
  rw [hlen.out]
  generalize hr : (foldF (stepG (cOf kd)) 8 (firstF kd kh kl) l) = r
  have HR := Lib.hid hr
  clear hr
  have hF0 : Fr No w ((w.alloc (.cells #[.int .u64 (W64 kh), .int .u64 (W64 kl)] 24)).alloc (.cells #[.int .u64 0, .int .u64 0] 24)) := ((Fr.refl No w).alloc _).alloc _
  have hU : Row2 ((w.alloc (.cells #[.int .u64 (W64 kh), .int .u64 (W64 kl)] 24)).alloc (.cells #[.int .u64 0, .int .u64 0] 24)) w.heap.size 24 (.int .u64 (W64 kh)) (.int .u64 (W64 kl)) := (row2_new w _ _ _).no ((Fr.refl No _).alloc _)
  have hT : Row2 ((w.alloc (.cells #[.int .u64 (W64 kh), .int .u64 (W64 kl)] 24)).alloc (.cells #[.int .u64 0, .int .u64 0] 24)) (w.heap.size + 1) 24 (.int .u64 0) (.int .u64 0) := heap_alloc2_new w _ _
  go_enter Try.func8, Try.ntmps8
  go_wp2_with fail
  obtain ⟨pb, hpb⟩ : ∃ pb, pb = w.heap.size := ⟨_, rfl⟩
  have hpw : w.heap.size ≤ pb := by omega
  rw [← hpb] at hU hT ⊢
  clear hpb
  generalize ((w.alloc (.cells #[.int .u64 (W64 kh), .int .u64 (W64 kl)] 24)).alloc (.cells #[.int .u64 0, .int .u64 0] 24)) = w1 at hF0 hU hT ⊢
  refine (rounds_any kd _).mono ?_
  rintro e w' ⟨rfl, rfl⟩
  have u0 := hU.c0
  have u1 := hU.c1
  go_wp2_with fail
  refine (first_any kd kh kl _).mono ?_
  rintro e w2 ⟨rfl, hf2⟩
  have hT2 := hT.no hf2
  have hF2 := hF0.no hf2
  clear u0 u1 hU hT hF0 hf2 hc
  unfold lanesV
  go_wp2_with fail
  refine (stepper_any kd _).mono ?_
  rintro e w3 ⟨q, rfl, _, hq, hf3⟩
  have hT3 := hT2.no hf3
  have hF3 := hF2.no hf3
  have h3 := h.no hF3
  clear hT2 hF2 hf3
  unfold fvS
  go_wp2_with fail
  refine (Fold_any (fun w' => Cap w' q (cOf kd)) (stepG (cOf kd)) 8 8 (firstF kd kh kl) q _ _ _ l _ (fun w' k => hq.no k) (steps_any kd q) (by omega) (by omega) rfl h3 hn).mono ?_
  rw [HR.out]
  rintro e w4 ⟨v, rfl, ho, hf4⟩
  obtain ⟨a2, c2, rfl, hb2, _⟩ := ho.bytes
  simp only [cS0, cS1, cS2, cS3]
  have hFB := (Fr.refl No w4).alloc (.cells #[.int .u64 (W64 r.1.1), .int .u64 (W64 r.1.2.1), .int .u64 (W64 r.1.2.2.1), .int .u64 (W64 r.1.2.2.2)] 38)
  have hF4 := (hF3.no hf4).no hFB
  have hT4 := (hT3.no hf4).no hFB
  have hb4 := hb2.no hFB
  clear hF3 hT3 hf4 hFB hb2 ho hq h3
  go_wp2_with fail
  refine (end_any kd r.1 _ _ _ r.2 _ _ hb4).mono ?_
  rintro e w5 ⟨rfl, hf5⟩
  have hT5 := hT4.no hf5
  have hF5 := hF4.no hf5
  clear hT4 hF4 hf5 hb4
  obtain ⟨z1, hz1⟩ : ∃ z, z = endHi kd r.1 r.2 (BitVec.ofNat 64 n) := ⟨_, rfl⟩
  obtain ⟨z2, hz2⟩ : ∃ z, z = endLo kd r.1 r.2 (BitVec.ofNat 64 n) := ⟨_, rfl⟩
  rw [← hz1, ← hz2]
  have HZ1 := Lib.hid hz1
  have HZ2 := Lib.hid hz2
  clear hz1 hz2
  have cr0 := hT5.c0
  have cr1 := hT5.c1
  have fr0 := hT5.fz 0
  have fr1 := hT5.fz 1
  go_wp2_with fail
  have hF9 := fr_put2 w5 (pb + 1) (.int .u64 (W64 z1)) (.int .u64 (W64 z2))
  have hR9 := row_put2 hT5 (.int .u64 (W64 z1)) (.int .u64 (W64 z2))
  clear cr0 cr1 fr0 fr1
  generalize (w5.setCell ⟨pb + 1, 0, none⟩ (.int .u64 (W64 z1))).setCell ⟨pb + 1, 1, none⟩ (.int .u64 (W64 z2)) = w9 at hF9 hR9 ⊢
  have cd0 := hR9.c0
  have cd1 := hR9.c1
  refine bodyPost_ret (v := .agg #[.int .u64 (W64 z1), .int .u64 (W64 z2)]) (by simp [results, Try.results8, go_sem, cd0, cd1]) rfl ?_
  exact ⟨by rw [HZ1.out, HZ2.out], hF5.trans hF9 (fun x hx => .inr (by omega))⟩
theorem Lanes_all {w0 w : World} {hb sb : Nat} {kd : Int} {kh kl : BitVec 64} {d : Bytes} {tv : Value} (h : HAll w0 w hb sb kd kh kl d tv) : Calls Try.prog 16 #[.pointer (some ⟨hb, 0, none⟩)] w (GivesHLanes (foldF (stepG (cOf kd)) 8 (firstF kd kh kl) d).1 (foldF (stepG (cOf kd)) 8 (firstF kd kh kl) d).2 (BitVec.ofNat 64 d.length) w) := by
  obtain ⟨q, h⟩ := h
  exact Lanes_h h
theorem tells_ex : ∃ f g e1 e2, Hid (f = oneHi ∧ g = oneLo ∧ e1 = endHi ∧ e2 = endLo) := ⟨_, _, _, _, Lib.hid ⟨rfl, rfl, rfl, rfl⟩⟩
theorem awake_hi : oneHi 6 1084818905618843912#64 506097522914230528#64 [] = 0#64 := by kernel_rfl
theorem awake_lo : oneLo 6 1084818905618843912#64 506097522914230528#64 [] = 8246050544436514353#64 := by kernel_rfl
@[go_sem ↓] theorem eql_awake (w : World) : (binOp .eql 24 (.agg #[.int .u64 (W64 0#64), .int .u64 (W64 8246050544436514353#64)]) (.agg #[.int .u64 0, .int .u64 8246050544436514353])).run Try.prog w = .ok (.bool true) w := by
  rw [run_eql_struct, eq_u128]; rfl
set_option maxHeartbeats 400000 in
theorem awake_yes (w : World) : Calls Try.prog 7 #[] w (Yes w) := by
  have e0 : (1084818905618843912 : Int) = W64 1084818905618843912#64 := rfl
  have e1 : (506097522914230528 : Int) = W64 506097522914230528#64 := rfl
  have hU : Row2 (w.alloc (.cells #[.int .u64 1084818905618843912, .int .u64 506097522914230528] 24)) w.heap.size 24 (.int .u64 1084818905618843912) (.int .u64 506097522914230528) := row2_new w _ _ _
  have hF : Fr No w (w.alloc (.cells #[.int .u64 1084818905618843912, .int .u64 506097522914230528] 24)) := (Fr.refl No w).alloc _
  have HE := Lib.hid (And.intro e0 e1)
  clear e0 e1
  go_enter Try.func7, Try.ntmps7
  go_upto_region 2 with fail
  generalize w.heap.size = pb at hU ⊢
  generalize w.alloc (.cells #[.int .u64 1084818905618843912, .int .u64 506097522914230528] 24) = w1 at hU hF ⊢
  have u0 := hU.c0
  have u1 := hU.c1
  go_wp2_with fail
  rw [HE.out.1, HE.out.2]
  refine (New_all 6 _ _ (.inl rfl) w1 _ (Fr.refl No w1)).mono ?_
  rintro e w2 ⟨hb, sb, rfl, _, _, hL, hf2⟩
  have hU2 := hU.no hf2
  have hF2 := hF.no hf2
  clear u0 u1 hU hF hf2 hL
  have u0 := hU2.c0
  have u1 := hU2.c1
  go_wp2_with fail
  rw [HE.out.1, HE.out.2]
  refine (One_any 6 _ _ none 0 0 [] _ (IsBytes.nil _) (by omega)).mono ?_
  rw [awake_hi, awake_lo]
  rintro e w3 ⟨rfl, hf3⟩
  have hU3 := hU2.no hf3
  have hF3 := hF2.no hf3
  clear u0 u1 hU2 hF2 hf3
  have u0 := hU3.c0
  have u1 := hU3.c1
  go_wp2_with fail
  rw [HE.out.1, HE.out.2]
  refine (New_no 0 _ _ (by decide) _).mono ?_
  rintro e w4 ⟨rfl, hf4⟩
  go_wp2_with fail
  go_ret
  exact ⟨rfl, hF3.no hf4⟩
end Go.Proofs.Ytcbbllfgelnpjaa.StSip
