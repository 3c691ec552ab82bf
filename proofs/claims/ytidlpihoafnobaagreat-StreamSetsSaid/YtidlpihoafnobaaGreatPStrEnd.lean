/- HashX64 AllX64 StrHX64 StrKX64 StrIM86 StrISip StrIX64 StrIM32 StrIM64 StrPlain StrAny StrEnd -/
import Derived.Deep.Cut
import Derived.Test.YtidlpihoafnobaaGreatPRefX64
import Derived.Test.YtidlpihoafnobaaGreatPStrKSip
import Derived.Test.YtidlpihoafnobaaGreatPStrKM64
import Derived.Test.YtidlpihoafnobaaGreatPStrKM86
import Derived.Test.YtidlpihoafnobaaGreatPStrKX32
set_option linter.unusedVariables false
set_option linter.unusedSimpArgs false
namespace Go.Proofs.YtidlpihoafnobaaGreat.StX64
set_option maxRecDepth 100000
open Go.Proofs.YtidlpihoafnobaaGreat.StG64
open Go.RowKit
structure HLive (w0 w : World) (hb sb : Nat) (sd : BitVec 64) (s : ST) (tl : Bytes) (lo : BitVec 64) (tv : Value) : Prop where
 on : Live w0 w sb 32 (firstF sd) s q0 tl lo tv
 hc : w.heap[hb]? = some (.cells #[.int .u64 (W64 sd), .pointer (some ⟨sb, 0, none⟩)] 222 (0, 0))
 ge : w0.heap.size ≤ hb
 ne : ¬ Foot sb tv hb
 tlen : tl.length < 32
def HFoot (hb sb : Nat) (tv : Value) (x : Nat) : Prop := x = hb ∨ Foot sb tv x
section
variable {w0 w w' : World} {hb sb : Nat} {sd : BitVec 64} {s : ST} {tl : Bytes} {lo : BitVec 64} {tv : Value}
theorem HLive.lt (h : HLive w0 w hb sb sd s tl lo tv) : ∀ x, HFoot hb sb tv x → x < w.heap.size := fun x hx => by
 rcases hx with rfl | hx
 · exact (Array.getElem?_eq_some_iff.1 h.hc).1
 · exact h.on.lt x hx
theorem HLive.fr (h : HLive w0 w hb sb sd s tl lo tv) : Fr No w0 w := h.on.fr
theorem HLive.keep {F : Nat → Prop} (h : HLive w0 w hb sb sd s tl lo tv) (k : Fr F w w') (hF : ∀ x, F x → ¬ HFoot hb sb tv x) (hA : ∀ x, F x → w0.heap.size ≤ x) : HLive w0 w' hb sb sd s tl lo tv :=
 ⟨h.on.keep k (fun x hx g => hF x hx (.inr g)) hA, k.heap (fun g => hF _ g (.inl rfl)) h.hc, h.ge, h.ne, h.tlen⟩
theorem HLive.no (h : HLive w0 w hb sb sd s tl lo tv) (k : Fr No w w') : HLive w0 w' hb sb sd s tl lo tv := h.keep k (fun _ g => g.elim) (fun _ g => g.elim)
theorem HLive.cell (h : HLive w0 w hb sb sd s tl lo tv) : w.cell? ⟨hb, 1, none⟩ = some (.pointer (some ⟨sb, 0, none⟩)) := by rw [cell_of_row w hb 1 _ _ _ h.hc]; rfl
end
def GivesHash (w0 w : World) (sd : BitVec 64) (e : Ending) (w' : World) : Prop := ∃ hb sb, e = .returned (.pointer (some ⟨hb, 0, none⟩)) ∧ w.heap.size ≤ hb ∧ w.heap.size ≤ sb ∧ HLive w0 w' hb sb sd (firstF sd) [] 0#64 (.slice none 0 0) ∧ Fr No w w'
set_option maxHeartbeats 400000 in
theorem New_h (sd : BitVec 64) (w0 w : World) (hf : Fr No w0 w) : Calls Tryz.prog 153 #[.int .u64 (W64 sd)] w (GivesHash w0 w sd) := by
 go_enter Tryz.func153, Tryz.ntmps153
 go_wp2_with fail
 refine (first_any sd _).mono ?_
 rintro e w1 ⟨rfl, hW1⟩
 go_wp2_with fail
 refine (New_any 32 (firstF sd) q0 _ (by omega) (by omega)).mono ?_
 rintro e w2 ⟨sb, rfl, hge, hlt, hst, hfr⟩
 have hz : sizeOk 32 = ((32 : Nat) : Int) := rfl
 rw [hz] at hst
 have hW := hW1.no hfr
 have g0 := hf.size
 have g1 := hW1.size
 have g2 := hfr.size
 clear hz
 go_wp2_with fail
 go_ret
 have h3 : Fr No w2 (w2.alloc (.cells #[.int .u64 (W64 sd), .pointer (some ⟨sb, 0, none⟩)] 222)) := (Fr.refl No w2).alloc _
 refine ⟨w2.heap.size, sb, rfl, by omega, by omega, ⟨⟨hst.fr h3 (fun h => h), Owns.nil _ _, by omega, (hf.no hW).no h3⟩, heap_alloc_new w2 _, by omega, ?_, by simp⟩, hW.no h3⟩
 rintro (g | g)
 · omega
 · simp [Value.ownBlock] at g
end Go.Proofs.YtidlpihoafnobaaGreat.StX64
namespace Go.Proofs.YtidlpihoafnobaaGreat.StX64
set_option maxRecDepth 100000
open Go.Proofs.YtidlpihoafnobaaGreat.StG64
open Go.RowKit
def HAll (w0 w : World) (hb sb : Nat) (sd : BitVec 64) (d : Bytes) (tv : Value) : Prop := HLive w0 w hb sb sd (foldF stepG 32 (firstF sd) d).1 (foldF stepG 32 (firstF sd) d).2 (BitVec.ofNat 64 d.length) tv
theorem HAll.no {w' : World} {w0 w : World} {hb sb : Nat} {sd : BitVec 64} {d : Bytes} {tv : Value} (h : HAll w0 w hb sb sd d tv) (k : Fr No w w') : HAll w0 w' hb sb sd d tv := HLive.no h k
theorem HAll.keep {w' : World} {w0 w : World} {hb sb : Nat} {sd : BitVec 64} {d : Bytes} {tv : Value} {F : Nat → Prop} (h : HAll w0 w hb sb sd d tv) (k : Fr F w w') (hF : ∀ x, F x → ¬ HFoot hb sb tv x) (hA : ∀ x, F x → w0.heap.size ≤ x) : HAll w0 w' hb sb sd d tv := HLive.keep h k hF hA
theorem HAll.fr {w0 w : World} {hb sb : Nat} {sd : BitVec 64} {d : Bytes} {tv : Value} (h : HAll w0 w hb sb sd d tv) : Fr No w0 w := HLive.fr h
theorem HAll.lt {w0 w : World} {hb sb : Nat} {sd : BitVec 64} {d : Bytes} {tv : Value} (h : HAll w0 w hb sb sd d tv) : ∀ x, HFoot hb sb tv x → x < w.heap.size := HLive.lt h
set_option maxHeartbeats 400000 in
theorem One_any (sd : BitVec 64) (a : Option Addr) (n c : Nat) (l : Bytes) (w : World) (h : IsBytes w a n c l) (hn : n ≤ 1099511627776) :
 Calls Tryz.prog 150 #[.int .u64 (W64 sd), .slice a n c] w (GivesNew (.int .u64 (W64 (oneF sd l))) w) := by
 have hlen := Lib.hid h.1
 have q4 := foldF_lt (F := stepG) (size := 32) (by omega) (firstF sd) l
 unfold oneF
 rw [hlen.out]
 generalize hr : foldF stepG 32 (firstF sd) l = r at q4 ⊢
 have HR := Lib.hid hr
 clear hr
 go_enter Tryz.func150, Tryz.ntmps150
 go_wp2_with fail
 refine (first_any sd _).mono ?_
 rintro e w1 ⟨rfl, hf1⟩
 have h1 := h.no hf1
 have hF1 := hf1
 go_wp2_with fail
 refine (Fold_any (fun _ => True) stepG 32 32 (firstF sd) q0 _ _ _ l _ (fun _ _ => trivial) steps_any (by omega) (by omega) rfl h1 hn).mono ?_
 rw [show foldF stepG 32 (firstF sd) l = r from HR.out]
 rintro e w2 ⟨v, rfl, ho, hf2⟩
 obtain ⟨a2, c2, rfl, hb2, _⟩ := ho.bytes
 have hF2 := hF1.no hf2
 go_wp2_with fail
 refine (end_any sd r.1 _ _ _ r.2 _ _ (hb2.no ((Fr.refl No _).alloc _))).mono ?_
 rintro e w3 ⟨rfl, hf3⟩
 go_wp2_with fail
 go_ret
 exact ⟨rfl, (hF2.alloc _).no hf3⟩
end Go.Proofs.YtidlpihoafnobaaGreat.StX64
namespace Go.Proofs.YtidlpihoafnobaaGreat.StX64
open Go.Proofs.YtidlpihoafnobaaGreat.StG64
set_option maxRecDepth 100000
open Go.RowKit
abbrev Cap6 (w : World) (k : Int) (kh kl : BitVec 64) (ib c6 c7 c8 c9 c10 c11 : Nat) : Prop := Caps w 180 182 177 183 k kh kl ib (.func (.func 154) #[] #[]) (.func (.func 149) #[] #[]) (.func (.func 155) #[] #[]) c6 c7 c8 c9 c10 c11
def HS (w0 w : World) (hb : Nat) (F : Nat → Prop) (k : Int) (kh kl : BitVec 64) (s : ST) (tl : Bytes) (lo : BitVec 64) : Prop :=
 ∃ ib sb tv c6 c7 c8 c9 c10 c11, HRow w hb k kh kl (.iface 180 (.pointer (some ⟨ib, 0, none⟩))) (.func (.func 206) #[] #[.pointer (some ⟨c10, 0, none⟩), .pointer (some ⟨c9, 0, none⟩), .pointer (some ⟨c8, 0, none⟩)]) (.func (.func 207) #[] #[.pointer (some ⟨c6, 0, none⟩), .pointer (some ⟨c7, 0, none⟩), .pointer (some ⟨c11, 0, none⟩), .pointer (some ⟨c8, 0, none⟩), .pointer (some ⟨c9, 0, none⟩), .pointer (some ⟨c10, 0, none⟩)]) ∧ Cap6 w k kh kl ib c6 c7 c8 c9 c10 c11 ∧ HLive w0 w ib sb kl s tl lo tv ∧ F = Foot sb tv
theorem wrapped_h {w0 w : World} {k : Int} {kh kl : BitVec 64} {ib sb : Nat} {s : ST} {tl : Bytes} {lo : BitVec 64} {tv : Value} (h : HLive w0 w ib sb kl s tl lo tv) :
 Calls Tryz.prog 152 #[.int .i64 k, .agg #[.int .u64 (W64 kh), .int .u64 (W64 kl)], .pointer (some ⟨ib, 0, none⟩), .func (.func 154) #[] #[], .func (.func 149) #[] #[], .func (.func 155) #[] #[]] w (fun e w' => ∃ hb, e = .returned (.pointer (some ⟨hb, 0, none⟩)) ∧ HS w0 w' hb (Foot sb tv) k kh kl s tl lo ∧ w.heap.size ≤ hb ∧ Fr No w w') := by
 have r6 := row1_new w 3 (.int .i64 k)
 have r7 := row2_new (w.alloc (.cells #[.int .i64 k] 3)) 24 (.int .u64 (W64 kh)) (.int .u64 (W64 kl))
 replace r6 := r6.up (.cells #[.int .u64 (W64 kh), .int .u64 (W64 kl)] 24)
 have r8 := row1_new ((w.alloc (.cells #[.int .i64 k] 3)).alloc (.cells #[.int .u64 (W64 kh), .int .u64 (W64 kl)] 24)) 180 (.pointer (some ⟨ib, 0, none⟩))
 replace r6 := r6.up (.cells #[.pointer (some ⟨ib, 0, none⟩)] 180)
 replace r7 := r7.up (.cells #[.pointer (some ⟨ib, 0, none⟩)] 180)
 have r9 := row1_new (((w.alloc (.cells #[.int .i64 k] 3)).alloc (.cells #[.int .u64 (W64 kh), .int .u64 (W64 kl)] 24)).alloc (.cells #[.pointer (some ⟨ib, 0, none⟩)] 180)) 182 (.func (.func 154) #[] #[])
 replace r6 := r6.up (.cells #[.func (.func 154) #[] #[]] 182)
 replace r7 := r7.up (.cells #[.func (.func 154) #[] #[]] 182)
 replace r8 := r8.up (.cells #[.func (.func 154) #[] #[]] 182)
 have r10 := row1_new ((((w.alloc (.cells #[.int .i64 k] 3)).alloc (.cells #[.int .u64 (W64 kh), .int .u64 (W64 kl)] 24)).alloc (.cells #[.pointer (some ⟨ib, 0, none⟩)] 180)).alloc (.cells #[.func (.func 154) #[] #[]] 182)) 177 (.func (.func 149) #[] #[])
 replace r6 := r6.up (.cells #[.func (.func 149) #[] #[]] 177)
 replace r7 := r7.up (.cells #[.func (.func 149) #[] #[]] 177)
 replace r8 := r8.up (.cells #[.func (.func 149) #[] #[]] 177)
 replace r9 := r9.up (.cells #[.func (.func 149) #[] #[]] 177)
 have r11 := row1_new (((((w.alloc (.cells #[.int .i64 k] 3)).alloc (.cells #[.int .u64 (W64 kh), .int .u64 (W64 kl)] 24)).alloc (.cells #[.pointer (some ⟨ib, 0, none⟩)] 180)).alloc (.cells #[.func (.func 154) #[] #[]] 182)).alloc (.cells #[.func (.func 149) #[] #[]] 177)) 183 (.func (.func 155) #[] #[])
 replace r6 := r6.up (.cells #[.func (.func 155) #[] #[]] 183)
 replace r7 := r7.up (.cells #[.func (.func 155) #[] #[]] 183)
 replace r8 := r8.up (.cells #[.func (.func 155) #[] #[]] 183)
 replace r9 := r9.up (.cells #[.func (.func 155) #[] #[]] 183)
 replace r10 := r10.up (.cells #[.func (.func 155) #[] #[]] 183)
 have hF := ((((((Fr.refl No w).alloc (.cells #[.int .i64 k] 3)).alloc (.cells #[.int .u64 (W64 kh), .int .u64 (W64 kl)] 24)).alloc (.cells #[.pointer (some ⟨ib, 0, none⟩)] 180)).alloc (.cells #[.func (.func 154) #[] #[]] 182)).alloc (.cells #[.func (.func 149) #[] #[]] 177)).alloc (.cells #[.func (.func 155) #[] #[]] 183)
 simp only [World.size_alloc] at r6 r7 r8 r9 r10 r11
 have g6 := r6.c0
 have g7 := r7.c0
 have g7' := r7.c1
 have g8 := r8.c0
 go_enter Tryz.func152, Tryz.ntmps152
 go_upto_region 1 with fail
 have hlt := hF.size
 generalize ((((((w.alloc (.cells #[.int .i64 k] 3)).alloc (.cells #[.int .u64 (W64 kh), .int .u64 (W64 kl)] 24)).alloc (.cells #[.pointer (some ⟨ib, 0, none⟩)] 180)).alloc (.cells #[.func (.func 154) #[] #[]] 182)).alloc (.cells #[.func (.func 149) #[] #[]] 177)).alloc (.cells #[.func (.func 155) #[] #[]] 183)) = w6 at r6 r7 r8 r9 r10 r11 hF g6 g7 g7' g8 hlt ⊢
 generalize w.heap.size + 1 + 1 + 1 + 1 + 1 = c11 at r11 ⊢
 generalize w.heap.size + 1 + 1 + 1 + 1 = c10 at r10 ⊢
 generalize w.heap.size + 1 + 1 + 1 = c9 at r9 ⊢
 generalize w.heap.size + 1 + 1 = c8 at r8 g8 ⊢
 generalize w.heap.size + 1 = c7 at r7 g7 g7' ⊢
 obtain ⟨c6, e6⟩ : ∃ c6, c6 = w.heap.size := ⟨_, rfl⟩
 rw [← e6] at r6 g6 ⊢
 clear e6
 go_wp2_with fail
 go_ret
 have hv := (Fr.refl No w6).alloc (.cells #[.int .i64 k, .int .u64 (W64 kh), .int .u64 (W64 kl), .iface 180 (.pointer (some ⟨ib, 0, none⟩)), .func (.func 206) #[] #[.pointer (some ⟨c10, 0, none⟩), .pointer (some ⟨c9, 0, none⟩), .pointer (some ⟨c8, 0, none⟩)], .func (.func 207) #[] #[.pointer (some ⟨c6, 0, none⟩), .pointer (some ⟨c7, 0, none⟩), .pointer (some ⟨c11, 0, none⟩), .pointer (some ⟨c8, 0, none⟩), .pointer (some ⟨c9, 0, none⟩), .pointer (some ⟨c10, 0, none⟩)]] 74)
 exact ⟨w6.heap.size, rfl, ⟨ib, sb, tv, c6, c7, c8, c9, c10, c11, heap_alloc_new w6 _, ⟨r6.no hv, r7.no hv, r8.no hv, r9.no hv, r10.no hv, r11.no hv⟩, (h.no hF).no hv, rfl⟩, hlt, hF.no hv⟩
section
variable {w0 w w' : World} {hb : Nat} {F : Nat → Prop} {k : Int} {kh kl : BitVec 64} {s : ST} {tl : Bytes} {lo : BitVec 64}
theorem HS.fr (h : HS w0 w hb (F) k kh kl s tl lo) : Fr No w0 w := by
 obtain ⟨ib, sb, tv, c6, c7, c8, c9, c10, c11, hr, hc, hL, rfl⟩ := h
 exact hL.fr
theorem HS.lt (h : HS w0 w hb (F) k kh kl s tl lo) : ∀ x, F x → x < w.heap.size := by
 obtain ⟨ib, sb, tv, c6, c7, c8, c9, c10, c11, hr, hc, hL, rfl⟩ := h
 exact fun x hx => hL.lt x (.inr hx)
theorem HS.con (h : HS w0 w hb (F) k kh kl s tl lo) : Keeps w F := by
 obtain ⟨ib, sb, tv, c6, c7, c8, c9, c10, c11, hr, hc, hL, rfl⟩ := h
 exact hL.on.con
theorem HS.no (h : HS w0 w hb (F) k kh kl s tl lo) (f : Fr No w w') : HS w0 w' hb (F) k kh kl s tl lo := by
 obtain ⟨ib, sb, tv, c6, c7, c8, c9, c10, c11, hr, hc, hL, rfl⟩ := h
 exact ⟨ib, sb, _, c6, c7, c8, c9, c10, c11, hr.no f, (hc.no f), hL.no f, rfl⟩
theorem HS.keep {G : Nat → Prop} (h : HS w0 w hb (F) k kh kl s tl lo) (f : Fr G w w') (hG : ∀ x, G x → ¬ F x) (hK : Keeps w G) (hA : ∀ x, G x → w0.heap.size ≤ x) : HS w0 w' hb (F) k kh kl s tl lo := by
 obtain ⟨ib, sb, tv, c6, c7, c8, c9, c10, c11, hr, hc, hL, rfl⟩ := h
 refine ⟨ib, sb, _, c6, c7, c8, c9, c10, c11, hr.fr f hK, (hc.fr f (hK) (by decide)), hL.keep f (fun x hx => ?_) hA, rfl⟩
 rintro (rfl | g)
 · exact hK _ _ hL.hc ⟨_, _, rfl, by decide⟩ hx
 · exact hG x hx g
end
theorem HS.kind {w0 w : World} {hb : Nat} {F : Nat → Prop} {k : Int} {kh kl : BitVec 64} {s : ST} {tl : Bytes} {lo : BitVec 64} (h : HS w0 w hb (F) k kh kl s tl lo) : Calls Tryz.prog 21 #[.pointer (some ⟨hb, 0, none⟩)] w (Gives (.int .i64 k) w) := by
 obtain ⟨ib, sb, tv, c6, c7, c8, c9, c10, c11, hr, hc, hL, rfl⟩ := h
 exact hKind_yes hr.c3 hr.c0
theorem HS.key {w0 w : World} {hb : Nat} {F : Nat → Prop} {k : Int} {kh kl : BitVec 64} {s : ST} {tl : Bytes} {lo : BitVec 64} (h : HS w0 w hb (F) k kh kl s tl lo) : Calls Tryz.prog 22 #[.pointer (some ⟨hb, 0, none⟩)] w (GivesNew (.agg #[.int .u64 (W64 kh), .int .u64 (W64 kl)]) w) := by
 obtain ⟨ib, sb, tv, c6, c7, c8, c9, c10, c11, hr, hc, hL, rfl⟩ := h
 exact hKey_yes hr.c3 hr.c1 hr.c2
end Go.Proofs.YtidlpihoafnobaaGreat.StX64
namespace Go.Proofs.YtidlpihoafnobaaGreat.StX64
open Go.Proofs.YtidlpihoafnobaaGreat.StG64
set_option maxRecDepth 100000
open Go.RowKit
theorem one_cl (kh kl : BitVec 64) (a : Option Addr) (n c : Nat) (l : Bytes) (w : World) (hy : IsBytes w a n c l) (hn : n ≤ 1099511627776) :
 Calls Tryz.prog 148 #[.agg #[.int .u64 (W64 kh), .int .u64 (W64 kl)], .slice a n c] w (GivesBytes (leb (oneF kl l) 8) w) := by
 have hA := row2_new w 24 (.int .u64 (W64 kh)) (.int .u64 (W64 kl))
 have hF := (Fr.refl No w).alloc (.cells #[.int .u64 (W64 kh), .int .u64 (W64 kl)] 24)
 have hlt := hF.size
 replace hy := hy.no hF
 go_enter Tryz.func148, Tryz.ntmps148
 go_upto_region 1 with fail
 generalize w.heap.size = ab at hA ⊢
 generalize w.alloc (.cells #[.int .u64 (W64 kh), .int .u64 (W64 kl)] 24) = w1 at hF hA hlt hy ⊢
 have k0 := hA.c0
 have k1 := hA.c1
 go_wp2_with fail
 refine (One_any _ a n c l _ hy hn).mono ?_
 rintro e w2 ⟨rfl, hf2⟩
 go_wp2_with fail
 refine (eight_any _ _).mono ?_
 rintro e w3 ⟨v3, rfl, hO3, hf3⟩
 obtain ⟨a3, c3, rfl, hb3, _⟩ := hO3.bytes
 go_wp2_with fail
 go_ret
 exact ⟨_, rfl, hO3.mono (by have := hf2.size; omega), (hF.no hf2).no hf3⟩
theorem made_cl {w0 w : World} (hw : Fr No w0 w) (kh kl : BitVec 64) :
 Calls Tryz.prog 151 #[.agg #[.int .u64 (W64 kh), .int .u64 (W64 kl)]] w (fun e w' => ∃ hb, e = .returned (.pointer (some ⟨hb, 0, none⟩)) ∧ ∃ F, HS w0 w' hb F 5 kh kl (firstF kl) [] 0#64 ∧ (∀ x, F x → w.heap.size ≤ x) ∧ Fr No w w') := by
 have hA := row2_new w 24 (.int .u64 (W64 kh)) (.int .u64 (W64 kl))
 have hF := (Fr.refl No w).alloc (.cells #[.int .u64 (W64 kh), .int .u64 (W64 kl)] 24)
 have hlt := hF.size
 replace hw := hw.no hF
 go_enter Tryz.func151, Tryz.ntmps151
 go_wp2_with fail
 generalize w.heap.size = ab at hA ⊢
 generalize w.alloc (.cells #[.int .u64 (W64 kh), .int .u64 (W64 kl)] 24) = w1 at hF hA hlt hw ⊢
 refine rsq (by kernel_rfl) [(0, 1), (1, 1), (2, 1), (3, 0), (4, 0), (5, 1)] (by kernel_rfl) ?_
 have hS0 : Fr No w1 w1.drew := (Fr.refl No w1).drew
 iterate 3 refine tq _ rfl rfl (by intro w9 h9; have k0 := (hA.no h9).c0; have k1 := (hA.no h9).c1; clear h9; go_simp; try with_reducible rfl) ?_; simp only [es1, es2, es3]
 refine wpSeq_next rfl rfl (fun K hK => ?_)
 go_wp2_with fail
 refine (New_h kl w0 _ (hw.no hS0)).mono ?_
 rintro e w2 ⟨ib, sb, rfl, hge1, hge2, hL2, hf2⟩
 have hs2 : Fr No w1 w2 := (hS0).no hf2
 have hz0 := (hS0).size
 refine hK.out _ _ (fun _ => hs2) ?_
 clear hK K
 refine wpSeq_next rfl rfl (fun K hK => ?_)
 go_wp2_with fail
 refine (wrapped_h hL2).mono ?_
 rintro e w3 ⟨hb3, rfl, hH3, hge3, hf3⟩
 have hs3 : Fr No w1 w3 := (hs2).no hf3
 refine hK.out _ _ (fun _ => hs3) ?_
 clear hK K
 refine tp _ rfl rfl ?_; simp only [es1, es2, es3]
 refine wpSeq_done ?_
 go_wp2_with fail
 go_ret
 refine ⟨hb3, rfl, _, hH3, fun x hx => ?_, hF.no hs3⟩
 rcases hx with rfl | hx
 · omega
 · simp [Value.ownBlock] at hx
theorem great_any (w : World) : Calls Tryz.prog 80 #[] w (GivesNew (.agg #[.string ⟨#[120, 120, 54, 52]⟩, .int .i64 8, .int .i64 32, .int .i64 64, .func (.func 148) #[] #[], .func (.func 151) #[] #[]]) w) := by
 have hZ := row6_new w 65 (.string ⟨#[]⟩) (.int .i64 0) (.int .i64 0) (.int .i64 0) .nilFunc .nilFunc
 have hF := (Fr.refl No w).alloc (.cells #[.string ⟨#[]⟩, .int .i64 0, .int .i64 0, .int .i64 0, .nilFunc, .nilFunc] 65)
 go_enter Tryz.func80, Tryz.ntmps80
 go_upto_region 1 with fail
 obtain ⟨wz, hwz⟩ : ∃ wz : Nat, wz = w.heap.size := ⟨_, rfl⟩
 have hge : w.heap.size ≤ wz := by omega
 rw [← hwz] at hZ ⊢
 clear hwz
 generalize w.alloc (.cells #[.string ⟨#[]⟩, .int .i64 0, .int .i64 0, .int .i64 0, .nilFunc, .nilFunc] 65) = w6 at hF hZ ⊢
 have z0 := hZ.c0
 have z1 := hZ.c1
 have z2 := hZ.c2
 have z3 := hZ.c3
 have z4 := hZ.c4
 have z5 := hZ.c5
 have y0 := hZ.fz 0
 have y1 := hZ.fz 1
 have y2 := hZ.fz 2
 have y3 := hZ.fz 3
 have y4 := hZ.fz 4
 have y5 := hZ.fz 5
 go_wp2_with fail
 have hR := row_put6 hZ (.string ⟨#[120, 120, 54, 52]⟩) (.int .i64 8) (.int .i64 32) (.int .i64 64) (.func (.func 148) #[] #[]) (.func (.func 151) #[] #[])
 have hP := fr_put6 w6 wz (.string ⟨#[120, 120, 54, 52]⟩) (.int .i64 8) (.int .i64 32) (.int .i64 64) (.func (.func 148) #[] #[]) (.func (.func 151) #[] #[])
 have cd0 := hR.c0
 have cd1 := hR.c1
 have cd2 := hR.c2
 have cd3 := hR.c3
 have cd4 := hR.c4
 have cd5 := hR.c5
 refine bodyPost_ret (v := .agg #[.string ⟨#[120, 120, 54, 52]⟩, .int .i64 8, .int .i64 32, .int .i64 64, .func (.func 148) #[] #[], .func (.func 151) #[] #[]]) (by simp [results, Tryz.results80, go_sem, cd0, cd1, cd2, cd3, cd4, cd5]) rfl ?_
 exact ⟨rfl, hF.trans hP (fun x hx => .inr (by omega))⟩
end Go.Proofs.YtidlpihoafnobaaGreat.StX64
namespace Go.Proofs.YtidlpihoafnobaaGreat.StM86
open Go.Proofs.YtidlpihoafnobaaGreat.StG32
set_option maxRecDepth 100000
open Go.RowKit
theorem lanesV_of (s : ST) : lanesV s = .agg #[.int .u64 (W64 (s.1.setWidth 64)), .int .u64 (W64 (s.2.1.setWidth 64)), .int .u64 (W64 (s.2.2.1.setWidth 64)), .int .u64 (W64 (s.2.2.2.setWidth 64))] := rfl
end Go.Proofs.YtidlpihoafnobaaGreat.StM86
namespace Go.Proofs.YtidlpihoafnobaaGreat.StSip
open Go.Proofs.YtidlpihoafnobaaGreat.StG64
set_option maxRecDepth 100000
open Go.RowKit
theorem lanesV_of (s : ST) : lanesV s = .agg #[.int .u64 (W64 s.1), .int .u64 (W64 s.2.1), .int .u64 (W64 s.2.2.1), .int .u64 (W64 s.2.2.2)] := rfl
end Go.Proofs.YtidlpihoafnobaaGreat.StSip
namespace Go.Proofs.YtidlpihoafnobaaGreat.StX64
open Go.Proofs.YtidlpihoafnobaaGreat.StG64
set_option maxRecDepth 100000
open Go.RowKit
theorem lanesV_of (s : ST) : lanesV s = .agg #[.int .u64 (W64 s.1), .int .u64 (W64 s.2.1), .int .u64 (W64 s.2.2.1), .int .u64 (W64 s.2.2.2)] := rfl
end Go.Proofs.YtidlpihoafnobaaGreat.StX64
namespace Go.Proofs.YtidlpihoafnobaaGreat.StM32
set_option maxRecDepth 100000
open Go.RowKit
theorem lanesV_of (s : ST) : lanesV s = .agg #[.int .u64 (W64 (s.setWidth 64)), .int .u64 (W64 0#64), .int .u64 (W64 0#64), .int .u64 (W64 0#64)] := rfl
end Go.Proofs.YtidlpihoafnobaaGreat.StM32
namespace Go.Proofs.YtidlpihoafnobaaGreat.StM64
set_option maxRecDepth 100000
open Go.RowKit
theorem lanesV_of (s : ST) : lanesV s = .agg #[.int .u64 (W64 s.1), .int .u64 (W64 s.2), .int .u64 (W64 0#64), .int .u64 (W64 0#64)] := rfl
end Go.Proofs.YtidlpihoafnobaaGreat.StM64
namespace Go.Proofs.YtidlpihoafnobaaGreat
set_option maxRecDepth 100000
open Go.RowKit
abbrev L4 := BitVec 64 × BitVec 64 × BitVec 64 × BitVec 64
inductive HSt where
 | m32 (s : BitVec 32)
 | m86 (s : BitVec 32 × BitVec 32 × BitVec 32 × BitVec 32)
 | m64 (s : BitVec 64 × BitVec 64)
 | x32 (s : BitVec 32 × BitVec 32 × BitVec 32 × BitVec 32)
 | x64 (s : BitVec 64 × BitVec 64 × BitVec 64 × BitVec 64)
 | sip (s : BitVec 64 × BitVec 64 × BitVec 64 × BitVec 64)
def lanesS : HSt → L4
 | .m32 s => (s.setWidth 64, 0#64, 0#64, 0#64)
 | .m86 s => (s.1.setWidth 64, s.2.1.setWidth 64, s.2.2.1.setWidth 64, s.2.2.2.setWidth 64)
 | .m64 s => (s.1, s.2, 0#64, 0#64)
 | .x32 s => (s.1.setWidth 64, s.2.1.setWidth 64, s.2.2.1.setWidth 64, s.2.2.2.setWidth 64)
 | .x64 s => (s.1, s.2.1, s.2.2.1, s.2.2.2)
 | .sip s => (s.1, s.2.1, s.2.2.1, s.2.2.2)
def firstS (k : Int) (kh kl : BitVec 64) : HSt := if k = 1 then .m32 (StM32.firstF (kl.setWidth 32)) else if k = 2 then .m86 (StM86.firstF (kl.setWidth 32)) else if k = 3 then .m64 (StM64.firstF (kl.setWidth 32)) else if k = 4 then .x32 (StX32.firstF (kl.setWidth 32)) else if k = 5 then .x64 (StX64.firstF kl) else .sip (StSip.firstF k kh kl)
def OfK (k : Int) : HSt → Prop
 | .m32 _ => k = 1
 | .m86 _ => k = 2
 | .m64 _ => k = 3
 | .x32 _ => k = 4
 | .x64 _ => k = 5
 | .sip _ => StSip.IsK k
def foldS (k : Int) : HSt → Bytes → HSt × Bytes
 | .m32 s, l => (.m32 (foldF StM32.stepG 4 s l).1, (foldF StM32.stepG 4 s l).2)
 | .m86 s, l => (.m86 (foldF StM86.stepG 16 s l).1, (foldF StM86.stepG 16 s l).2)
 | .m64 s, l => (.m64 (foldF StM64.stepG 16 s l).1, (foldF StM64.stepG 16 s l).2)
 | .x32 s, l => (.x32 (foldF StX32.stepG 16 s l).1, (foldF StX32.stepG 16 s l).2)
 | .x64 s, l => (.x64 (foldF StX64.stepG 32 s l).1, (foldF StX64.stepG 32 s l).2)
 | .sip s, l => (.sip (foldF (StSip.stepG (StSip.cOf k)) 8 s l).1, (foldF (StSip.stepG (StSip.cOf k)) 8 s l).2)
def endS (k : Int) (kh kl : BitVec 64) : HSt → Bytes → BitVec 64 → Bytes
 | .m32 s, tl, lo => leb ((StM32.endF s tl lo).setWidth 64) 4
 | .m86 s, tl, lo => leb (StM86.endLo s tl lo) 8 ++ leb (StM86.endHi s tl lo) 8
 | .m64 s, tl, lo => leb (StM64.endLo s tl lo) 8 ++ leb (StM64.endHi s tl lo) 8
 | .x32 s, tl, lo => leb ((StX32.endF (kl.setWidth 32) s tl lo).setWidth 64) 4
 | .x64 s, tl, lo => leb (StX64.endF kl s tl lo) 8
 | .sip s, tl, lo => (leb (StSip.endLo k s tl lo) 8 ++ leb (StSip.endHi k s tl lo) 8).take (sizeN k).toNat
def oneS (k : Int) (kh kl : BitVec 64) (l : Bytes) : Bytes := endS k kh kl (foldS k (firstS k kh kl) l).1 (foldS k (firstS k kh kl) l).2 (BitVec.ofNat 64 l.length)
theorem isK_ok {k : Int} (h : StSip.IsK k) : KindOk k := by unfold StSip.IsK at h; unfold KindOk; omega
theorem isK_no {k : Int} (h : StSip.IsK k) : k ≠ 1 ∧ k ≠ 2 ∧ k ≠ 3 ∧ k ≠ 4 ∧ k ≠ 5 := by unfold StSip.IsK at h; omega
theorem firstS_m32 (kh kl : BitVec 64) : firstS 1 kh kl = .m32 (StM32.firstF (kl.setWidth 32)) := rfl
theorem firstS_m86 (kh kl : BitVec 64) : firstS 2 kh kl = .m86 (StM86.firstF (kl.setWidth 32)) := rfl
theorem firstS_m64 (kh kl : BitVec 64) : firstS 3 kh kl = .m64 (StM64.firstF (kl.setWidth 32)) := rfl
theorem firstS_x32 (kh kl : BitVec 64) : firstS 4 kh kl = .x32 (StX32.firstF (kl.setWidth 32)) := rfl
theorem firstS_x64 (kh kl : BitVec 64) : firstS 5 kh kl = .x64 (StX64.firstF kl) := rfl
theorem firstS_sip {k : Int} (hk : StSip.IsK k) (kh kl : BitVec 64) : firstS k kh kl = .sip (StSip.firstF k kh kl) := by
 obtain ⟨h1, h2, h3, h4, h5⟩ := isK_no hk
 unfold firstS; rw [if_neg h1, if_neg h2, if_neg h3, if_neg h4, if_neg h5]
theorem ofK_cases {C : Int → HSt → Prop} (hm32 : ∀ s, C 1 (.m32 s)) (hm86 : ∀ s, C 2 (.m86 s)) (hm64 : ∀ s, C 3 (.m64 s)) (hx32 : ∀ s, C 4 (.x32 s)) (hx64 : ∀ s, C 5 (.x64 s)) (hsip : ∀ k s, StSip.IsK k → C k (.sip s)) {k : Int} {s : HSt} (h : OfK k s) : C k s := by
 cases s with
 | m32 s => (obtain rfl : k = 1 := h; exact hm32 s)
 | m86 s => (obtain rfl : k = 2 := h; exact hm86 s)
 | m64 s => (obtain rfl : k = 3 := h; exact hm64 s)
 | x32 s => (obtain rfl : k = 4 := h; exact hx32 s)
 | x64 s => (obtain rfl : k = 5 := h; exact hx64 s)
 | sip s => exact hsip k s h
theorem kind_cases {C : Int → Prop} (hm32 : C 1) (hm86 : C 2) (hm64 : C 3) (hx32 : C 4) (hx64 : C 5) (hsip : ∀ k, StSip.IsK k → C k) {k : Int} (h : KindOk k) : C k := by
 by_cases e : StSip.IsK k
 · exact hsip k e
 · rcases h with rfl | rfl | rfl | rfl | rfl | rfl | rfl | rfl
   · exact hm32
   · exact hm86
   · exact hm64
   · exact hx32
   · exact hx64
   · exact absurd (Or.inl rfl) e
   · exact absurd (Or.inr (Or.inl rfl)) e
   · exact absurd (Or.inr (Or.inr rfl)) e
theorem OfK.ok {k : Int} {s : HSt} (h : OfK k s) : KindOk k := ofK_cases (C := fun k _ => KindOk k) (fun _ => by unfold KindOk; omega) (fun _ => by unfold KindOk; omega) (fun _ => by unfold KindOk; omega) (fun _ => by unfold KindOk; omega) (fun _ => by unfold KindOk; omega) (fun _ _ h => isK_ok h) h
theorem first_ofK {k : Int} (h : KindOk k) (kh kl : BitVec 64) : OfK k (firstS k kh kl) := kind_cases (C := fun k => OfK k (firstS k kh kl)) rfl rfl rfl rfl rfl (fun k h => by rw [firstS_sip h]; exact h) h
theorem block_sip {k : Int} (h : StSip.IsK k) : blockN k = 8 := by rcases h with rfl | rfl | rfl <;> rfl
theorem fold_mod {k : Int} {s : HSt} (h : OfK k s) (l : Bytes) : ((foldS k s l).2.length : Int) = (l.length : Int) % blockN k := by
 refine ofK_cases (C := fun k s => ((foldS k s l).2.length : Int) = (l.length : Int) % blockN k) ?_ ?_ ?_ ?_ ?_ ?_ h
 · intro s
   show ((foldF StM32.stepG 4 s l).2.length : Int) = (l.length : Int) % 4
   rw [foldF_mod (by omega)]; omega
 · intro s
   show ((foldF StM86.stepG 16 s l).2.length : Int) = (l.length : Int) % 16
   rw [foldF_mod (by omega)]; omega
 · intro s
   show ((foldF StM64.stepG 16 s l).2.length : Int) = (l.length : Int) % 16
   rw [foldF_mod (by omega)]; omega
 · intro s
   show ((foldF StX32.stepG 16 s l).2.length : Int) = (l.length : Int) % 16
   rw [foldF_mod (by omega)]; omega
 · intro s
   show ((foldF StX64.stepG 32 s l).2.length : Int) = (l.length : Int) % 32
   rw [foldF_mod (by omega)]; omega
 · intro k s hk
   rw [block_sip hk]
   show ((foldF (StSip.stepG (StSip.cOf k)) 8 s l).2.length : Int) = (l.length : Int) % 8
   rw [foldF_mod (by omega)]; omega
theorem block_pos {k : Int} (h : KindOk k) : 0 < blockN k ∧ blockN k ≤ 32 := by rcases h with rfl | rfl | rfl | rfl | rfl | rfl | rfl | rfl <;> decide
end Go.Proofs.YtidlpihoafnobaaGreat
namespace Go.Proofs.YtidlpihoafnobaaGreat
set_option maxRecDepth 100000
open Go.RowKit
def HSAny (w0 w : World) (hb : Nat) (F : Nat → Prop) (k : Int) (kh kl : BitVec 64) : HSt → Bytes → BitVec 64 → Prop
 | .m32 s, tl, lo => k = 1 ∧ StM32.HS w0 w hb F k kh kl s tl lo
 | .m86 s, tl, lo => k = 2 ∧ StM86.HS w0 w hb F k kh kl s tl lo
 | .m64 s, tl, lo => k = 3 ∧ StM64.HS w0 w hb F k kh kl s tl lo
 | .x32 s, tl, lo => k = 4 ∧ StX32.HS w0 w hb F k kh kl s tl lo
 | .x64 s, tl, lo => k = 5 ∧ StX64.HS w0 w hb F k kh kl s tl lo
 | .sip s, tl, lo => StSip.IsK k ∧ StSip.HS w0 w hb F k kh kl s tl lo (sizeN k).toNat
theorem HSAny.fr {w0 w : World} {hb : Nat} {F : Nat → Prop} {k : Int} {kh kl : BitVec 64} {s : HSt} {tl : Bytes} {lo : BitVec 64} (h : HSAny w0 w hb F k kh kl s tl lo) : Fr No w0 w := by
 cases s <;> exact h.2.fr
theorem HSAny.lt {w0 w : World} {hb : Nat} {F : Nat → Prop} {k : Int} {kh kl : BitVec 64} {s : HSt} {tl : Bytes} {lo : BitVec 64} (h : HSAny w0 w hb F k kh kl s tl lo) : ∀ x, F x → x < w.heap.size := by
 cases s <;> exact h.2.lt
theorem HSAny.con {w0 w : World} {hb : Nat} {F : Nat → Prop} {k : Int} {kh kl : BitVec 64} {s : HSt} {tl : Bytes} {lo : BitVec 64} (h : HSAny w0 w hb F k kh kl s tl lo) : Keeps w F := by
 cases s <;> exact h.2.con
theorem HSAny.no {w0 w : World} {hb : Nat} {F : Nat → Prop} {k : Int} {kh kl : BitVec 64} {s : HSt} {tl : Bytes} {lo : BitVec 64} (h : HSAny w0 w hb F k kh kl s tl lo) {w' : World} (f : Fr No w w') : HSAny w0 w' hb F k kh kl s tl lo := by
 cases s <;> exact ⟨h.1, h.2.no f⟩
theorem HSAny.keep {w0 w : World} {hb : Nat} {F : Nat → Prop} {k : Int} {kh kl : BitVec 64} {s : HSt} {tl : Bytes} {lo : BitVec 64} (h : HSAny w0 w hb F k kh kl s tl lo) {w' : World} {G : Nat → Prop} (f : Fr G w w') (hG : ∀ x, G x → ¬ F x) (hK : Keeps w G) (hA : ∀ x, G x → w0.heap.size ≤ x) : HSAny w0 w' hb F k kh kl s tl lo := by
 cases s <;> exact ⟨h.1, h.2.keep f hG hK hA⟩
theorem HSAny.kind {w0 w : World} {hb : Nat} {F : Nat → Prop} {k : Int} {kh kl : BitVec 64} {s : HSt} {tl : Bytes} {lo : BitVec 64} (h : HSAny w0 w hb F k kh kl s tl lo)  :
 Calls Tryz.prog 21 #[.pointer (some ⟨hb, 0, none⟩)] w (Gives (.int .i64 k) w) := by
 cases s with
 | m32 s =>
  exact h.2.kind
 | m86 s =>
  exact h.2.kind
 | m64 s =>
  exact h.2.kind
 | x32 s =>
  exact h.2.kind
 | x64 s =>
  exact h.2.kind
 | sip s =>
  exact h.2.kind
theorem HSAny.key {w0 w : World} {hb : Nat} {F : Nat → Prop} {k : Int} {kh kl : BitVec 64} {s : HSt} {tl : Bytes} {lo : BitVec 64} (h : HSAny w0 w hb F k kh kl s tl lo)  :
 Calls Tryz.prog 22 #[.pointer (some ⟨hb, 0, none⟩)] w (GivesNew (.agg #[.int .u64 (W64 kh), .int .u64 (W64 kl)]) w) := by
 cases s with
 | m32 s =>
  exact h.2.key
 | m86 s =>
  exact h.2.key
 | m64 s =>
  exact h.2.key
 | x32 s =>
  exact h.2.key
 | x64 s =>
  exact h.2.key
 | sip s =>
  exact h.2.key
def HDone (w0 w : World) (hb : Nat) (F : Nat → Prop) (k : Int) (kh kl : BitVec 64) (d : Bytes) : Prop := HSAny w0 w hb F k kh kl (foldS k (firstS k kh kl) d).1 (foldS k (firstS k kh kl) d).2 (BitVec.ofNat 64 d.length)
theorem HDone.any {w0 w : World} {hb : Nat} {F : Nat → Prop} {k : Int} {kh kl : BitVec 64} {d : Bytes} (h : HDone w0 w hb F k kh kl d) : HSAny w0 w hb F k kh kl (foldS k (firstS k kh kl) d).1 (foldS k (firstS k kh kl) d).2 (BitVec.ofNat 64 d.length) := h
theorem HDone.no {w0 w : World} {hb : Nat} {F : Nat → Prop} {k : Int} {kh kl : BitVec 64} {d : Bytes} (h : HDone w0 w hb F k kh kl d) {w' : World} (f : Fr No w w') : HDone w0 w' hb F k kh kl d := HSAny.no h f
theorem HDone.fr {w0 w : World} {hb : Nat} {F : Nat → Prop} {k : Int} {kh kl : BitVec 64} {d : Bytes} (h : HDone w0 w hb F k kh kl d) : Fr No w0 w := HSAny.fr h
theorem HDone.lt {w0 w : World} {hb : Nat} {F : Nat → Prop} {k : Int} {kh kl : BitVec 64} {d : Bytes} (h : HDone w0 w hb F k kh kl d) : ∀ x, F x → x < w.heap.size := HSAny.lt h
theorem HDone.con {w0 w : World} {hb : Nat} {F : Nat → Prop} {k : Int} {kh kl : BitVec 64} {d : Bytes} (h : HDone w0 w hb F k kh kl d) : Keeps w F := HSAny.con h
theorem HDone.keep {w0 w : World} {hb : Nat} {F : Nat → Prop} {k : Int} {kh kl : BitVec 64} {d : Bytes} (h : HDone w0 w hb F k kh kl d) {w' : World} {G : Nat → Prop} (f : Fr G w w') (hG : ∀ x, G x → ¬ F x) (hK : Keeps w G) (hA : ∀ x, G x → w0.heap.size ≤ x) : HDone w0 w' hb F k kh kl d := HSAny.keep h f hG hK hA
end Go.Proofs.YtidlpihoafnobaaGreat
namespace Go.Proofs.YtidlpihoafnobaaGreat
set_option maxRecDepth 100000
open Go.RowKit
open StSip (owns_take)
theorem mod32k (x : BitVec 64) : (x % 4294967296#64).setWidth 32 = x.setWidth 32 := by apply BitVec.eq_of_toNat_eq; simp
end Go.Proofs.YtidlpihoafnobaaGreat
