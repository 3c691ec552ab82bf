/- AllX32 StrHX32 StrIX32 StrKX32 -/
import Derived.Deep.Cut
import Derived.Test.YtidlpihoafnobaaGreatDoorPHashX32
set_option linter.unusedVariables false
set_option linter.unusedSimpArgs false
namespace Go.Proofs.YtidlpihoafnobaaGreatDoor.StX32
set_option maxRecDepth 100000
open Go.Proofs.YtidlpihoafnobaaGreatDoor.StG32
open Go.RowKit
def HAll (w0 w : World) (hb sb : Nat) (sd : BitVec 32) (d : Bytes) (tv : Value) : Prop := HLive w0 w hb sb sd (foldF stepG 16 (firstF sd) d).1 (foldF stepG 16 (firstF sd) d).2 (BitVec.ofNat 64 d.length) tv
theorem HAll.no {w' : World} {w0 w : World} {hb sb : Nat} {sd : BitVec 32} {d : Bytes} {tv : Value} (h : HAll w0 w hb sb sd d tv) (k : Fr No w w') : HAll w0 w' hb sb sd d tv := HLive.no h k
theorem HAll.keep {w' : World} {w0 w : World} {hb sb : Nat} {sd : BitVec 32} {d : Bytes} {tv : Value} {F : Nat → Prop} (h : HAll w0 w hb sb sd d tv) (k : Fr F w w') (hF : ∀ x, F x → ¬ HFoot hb sb tv x) (hA : ∀ x, F x → w0.heap.size ≤ x) : HAll w0 w' hb sb sd d tv := HLive.keep h k hF hA
theorem HAll.fr {w0 w : World} {hb sb : Nat} {sd : BitVec 32} {d : Bytes} {tv : Value} (h : HAll w0 w hb sb sd d tv) : Fr No w0 w := HLive.fr h
theorem HAll.lt {w0 w : World} {hb sb : Nat} {sd : BitVec 32} {d : Bytes} {tv : Value} (h : HAll w0 w hb sb sd d tv) : ∀ x, HFoot hb sb tv x → x < w.heap.size := HLive.lt h
theorem HAll.above {w0 w : World} {hb sb : Nat} {sd : BitVec 32} {d : Bytes} {tv : Value} (h : HAll w0 w hb sb sd d tv) : ∀ x, HFoot hb sb tv x → w0.heap.size ≤ x := HLive.above h
set_option maxHeartbeats 400000 in
theorem One_any (sd : BitVec 32) (a : Option Addr) (n c : Nat) (l : Bytes) (w : World) (h : IsBytes w a n c l) (hn : n ≤ 1099511627776) :
 Calls Tryz.prog 91 #[.int .u32 (W32 sd), .slice a n c] w (GivesNew (.int .u32 (W32 (oneF sd l))) w) := by
 have hlen := Lib.hid h.1
 have q4 := foldF_lt (F := stepG) (size := 16) (by omega) (firstF sd) l
 unfold oneF
 rw [hlen.out]
 generalize hr : foldF stepG 16 (firstF sd) l = r at q4 ⊢
 have HR := Lib.hid hr
 clear hr
 go_enter Tryz.func91, Tryz.ntmps91
 go_wp2_with fail
 refine (first_any sd _).mono ?_
 rintro e w1 ⟨rfl, hf1⟩
 have h1 := h.no hf1
 have hF1 := hf1
 go_wp2_with fail
 refine (Fold_any (fun _ => True) stepG 16 16 (firstF sd) q0 _ _ _ l _ (fun _ _ => trivial) steps_any (by omega) (by omega) rfl h1 hn).mono ?_
 rw [show foldF stepG 16 (firstF sd) l = r from HR.out]
 rintro e w2 ⟨v, rfl, ho, hf2⟩
 obtain ⟨a2, c2, rfl, hb2, _⟩ := ho.bytes
 have hF2 := hF1.no hf2
 go_wp2_with fail
 refine (end_any sd r.1 _ _ _ r.2 _ _ (hb2.no ((Fr.refl No _).alloc _))).mono ?_
 rintro e w3 ⟨rfl, hf3⟩
 go_wp2_with fail
 go_ret
 exact ⟨rfl, (hF2.alloc _).no hf3⟩
end Go.Proofs.YtidlpihoafnobaaGreatDoor.StX32
namespace Go.Proofs.YtidlpihoafnobaaGreatDoor.StX32
open Go.Proofs.YtidlpihoafnobaaGreatDoor.StG32
set_option maxRecDepth 100000
open Go.RowKit
abbrev Cap6 (w : World) (k : Int) (kh kl : BitVec 64) (ib c6 c7 c8 c9 c10 c11 : Nat) : Prop := Caps w 156 158 138 159 k kh kl ib (.func (.func 93) #[] #[]) (.func (.func 77) #[] #[]) (.func (.func 94) #[] #[]) c6 c7 c8 c9 c10 c11
def HS (w0 w : World) (hb : Nat) (F : Nat → Prop) (k : Int) (kh kl : BitVec 64) (s : ST) (tl : Bytes) (lo : BitVec 64) : Prop :=
 ∃ ib sb tv c6 c7 c8 c9 c10 c11, HRow w hb k kh kl (.iface 156 (.pointer (some ⟨ib, 0, none⟩))) (.func (.func 207) #[] #[.pointer (some ⟨c10, 0, none⟩), .pointer (some ⟨c9, 0, none⟩), .pointer (some ⟨c8, 0, none⟩)]) (.func (.func 208) #[] #[.pointer (some ⟨c6, 0, none⟩), .pointer (some ⟨c7, 0, none⟩), .pointer (some ⟨c11, 0, none⟩), .pointer (some ⟨c8, 0, none⟩), .pointer (some ⟨c9, 0, none⟩), .pointer (some ⟨c10, 0, none⟩)]) ∧ Cap6 w k kh kl ib c6 c7 c8 c9 c10 c11 ∧ HLive w0 w ib sb (kl.setWidth 32) s tl lo tv ∧ F = Foot sb tv
theorem wrapped_h {w0 w : World} {k : Int} {kh kl : BitVec 64} {ib sb : Nat} {s : ST} {tl : Bytes} {lo : BitVec 64} {tv : Value} (h : HLive w0 w ib sb (kl.setWidth 32) s tl lo tv) :
 Calls Tryz.prog 151 #[.int .i64 k, .agg #[.int .u64 (W64 kh), .int .u64 (W64 kl)], .pointer (some ⟨ib, 0, none⟩), .func (.func 93) #[] #[], .func (.func 77) #[] #[], .func (.func 94) #[] #[]] w (fun e w' => ∃ hb, e = .returned (.pointer (some ⟨hb, 0, none⟩)) ∧ HS w0 w' hb (Foot sb tv) k kh kl s tl lo ∧ w.heap.size ≤ hb ∧ Fr No w w') := by
 have r6 := row1_new w 3 (.int .i64 k)
 have r7 := row2_new (w.alloc (.cells #[.int .i64 k] 3)) 30 (.int .u64 (W64 kh)) (.int .u64 (W64 kl))
 replace r6 := r6.up (.cells #[.int .u64 (W64 kh), .int .u64 (W64 kl)] 30)
 have r8 := row1_new ((w.alloc (.cells #[.int .i64 k] 3)).alloc (.cells #[.int .u64 (W64 kh), .int .u64 (W64 kl)] 30)) 156 (.pointer (some ⟨ib, 0, none⟩))
 replace r6 := r6.up (.cells #[.pointer (some ⟨ib, 0, none⟩)] 156)
 replace r7 := r7.up (.cells #[.pointer (some ⟨ib, 0, none⟩)] 156)
 have r9 := row1_new (((w.alloc (.cells #[.int .i64 k] 3)).alloc (.cells #[.int .u64 (W64 kh), .int .u64 (W64 kl)] 30)).alloc (.cells #[.pointer (some ⟨ib, 0, none⟩)] 156)) 158 (.func (.func 93) #[] #[])
 replace r6 := r6.up (.cells #[.func (.func 93) #[] #[]] 158)
 replace r7 := r7.up (.cells #[.func (.func 93) #[] #[]] 158)
 replace r8 := r8.up (.cells #[.func (.func 93) #[] #[]] 158)
 have r10 := row1_new ((((w.alloc (.cells #[.int .i64 k] 3)).alloc (.cells #[.int .u64 (W64 kh), .int .u64 (W64 kl)] 30)).alloc (.cells #[.pointer (some ⟨ib, 0, none⟩)] 156)).alloc (.cells #[.func (.func 93) #[] #[]] 158)) 138 (.func (.func 77) #[] #[])
 replace r6 := r6.up (.cells #[.func (.func 77) #[] #[]] 138)
 replace r7 := r7.up (.cells #[.func (.func 77) #[] #[]] 138)
 replace r8 := r8.up (.cells #[.func (.func 77) #[] #[]] 138)
 replace r9 := r9.up (.cells #[.func (.func 77) #[] #[]] 138)
 have r11 := row1_new (((((w.alloc (.cells #[.int .i64 k] 3)).alloc (.cells #[.int .u64 (W64 kh), .int .u64 (W64 kl)] 30)).alloc (.cells #[.pointer (some ⟨ib, 0, none⟩)] 156)).alloc (.cells #[.func (.func 93) #[] #[]] 158)).alloc (.cells #[.func (.func 77) #[] #[]] 138)) 159 (.func (.func 94) #[] #[])
 replace r6 := r6.up (.cells #[.func (.func 94) #[] #[]] 159)
 replace r7 := r7.up (.cells #[.func (.func 94) #[] #[]] 159)
 replace r8 := r8.up (.cells #[.func (.func 94) #[] #[]] 159)
 replace r9 := r9.up (.cells #[.func (.func 94) #[] #[]] 159)
 replace r10 := r10.up (.cells #[.func (.func 94) #[] #[]] 159)
 have hF := ((((((Fr.refl No w).alloc (.cells #[.int .i64 k] 3)).alloc (.cells #[.int .u64 (W64 kh), .int .u64 (W64 kl)] 30)).alloc (.cells #[.pointer (some ⟨ib, 0, none⟩)] 156)).alloc (.cells #[.func (.func 93) #[] #[]] 158)).alloc (.cells #[.func (.func 77) #[] #[]] 138)).alloc (.cells #[.func (.func 94) #[] #[]] 159)
 simp only [World.size_alloc] at r6 r7 r8 r9 r10 r11
 have g6 := r6.c0
 have g7 := r7.c0
 have g7' := r7.c1
 have g8 := r8.c0
 go_enter Tryz.func151, Tryz.ntmps151
 go_upto_region 1 with fail
 have hlt := hF.size
 generalize ((((((w.alloc (.cells #[.int .i64 k] 3)).alloc (.cells #[.int .u64 (W64 kh), .int .u64 (W64 kl)] 30)).alloc (.cells #[.pointer (some ⟨ib, 0, none⟩)] 156)).alloc (.cells #[.func (.func 93) #[] #[]] 158)).alloc (.cells #[.func (.func 77) #[] #[]] 138)).alloc (.cells #[.func (.func 94) #[] #[]] 159)) = w6 at r6 r7 r8 r9 r10 r11 hF g6 g7 g7' g8 hlt ⊢
 generalize w.heap.size + 1 + 1 + 1 + 1 + 1 = c11 at r11 ⊢
 generalize w.heap.size + 1 + 1 + 1 + 1 = c10 at r10 ⊢
 generalize w.heap.size + 1 + 1 + 1 = c9 at r9 ⊢
 generalize w.heap.size + 1 + 1 = c8 at r8 g8 ⊢
 generalize w.heap.size + 1 = c7 at r7 g7 g7' ⊢
 obtain ⟨c6, e6⟩ : ∃ c6, c6 = w.heap.size := ⟨_, rfl⟩
 rw [← e6] at r6 g6 ⊢
 clear e6
 go_wp2_with fail
 go_ret
 have hv := (Fr.refl No w6).alloc (.cells #[.int .i64 k, .int .u64 (W64 kh), .int .u64 (W64 kl), .iface 156 (.pointer (some ⟨ib, 0, none⟩)), .func (.func 207) #[] #[.pointer (some ⟨c10, 0, none⟩), .pointer (some ⟨c9, 0, none⟩), .pointer (some ⟨c8, 0, none⟩)], .func (.func 208) #[] #[.pointer (some ⟨c6, 0, none⟩), .pointer (some ⟨c7, 0, none⟩), .pointer (some ⟨c11, 0, none⟩), .pointer (some ⟨c8, 0, none⟩), .pointer (some ⟨c9, 0, none⟩), .pointer (some ⟨c10, 0, none⟩)]] 78)
 exact ⟨w6.heap.size, rfl, ⟨ib, sb, tv, c6, c7, c8, c9, c10, c11, heap_alloc_new w6 _, ⟨r6.no hv, r7.no hv, r8.no hv, r9.no hv, r10.no hv, r11.no hv⟩, (h.no hF).no hv, rfl⟩, hlt, hF.no hv⟩
theorem sum_cl {w0 w : World} {k : Int} {kh kl : BitVec 64} {ib sb : Nat} {s : ST} {tl : Bytes} {lo : BitVec 64} {tv : Value} {c6 c7 c8 c9 c10 c11 : Nat} (hc : Cap6 w k kh kl ib c6 c7 c8 c9 c10 c11) (h : HLive w0 w ib sb (kl.setWidth 32) s tl lo tv) : Calls Tryz.prog 207 #[.pointer (some ⟨c10, 0, none⟩), .pointer (some ⟨c9, 0, none⟩), .pointer (some ⟨c8, 0, none⟩)] w (GivesBytes (leb ((endF (kl.setWidth 32) s tl lo).setWidth 64) 4) w) := by
 generalize hbb : leb ((endF (kl.setWidth 32) s tl lo).setWidth 64) 4 = bb
 have HB := Lib.hid hbb
 clear hbb
 go_enter Tryz.func207, Tryz.ntmps207
 go_wp2_with fail
 refine rsq (by kernel_rfl) [(0, 1), (1, 1), (2, 1), (3, 0), (4, 0), (5, 1)] (by kernel_rfl) ?_
 have hS0 : Fr No w w.drew := (Fr.refl No w).drew
 iterate 3 refine tq _ rfl rfl (by intro w9 h9; have q10 := (hc.k10.no h9).c0; have q9 := (hc.k9.no h9).c0; have q8 := (hc.k8.no h9).c0; clear h9; go_simp; try with_reducible rfl) ?_; simp only [es1, es2, es3]
 refine wpSeq_next rfl rfl (fun K hK => ?_)
 go_wp2_with fail
 refine (Sum_h (h.no hS0)).mono ?_
 rintro e w2 ⟨rfl, hf2⟩
 have hs2 : Fr No w w2 := (hS0).no hf2
 refine hK.out _ _ (fun _ => hs2) ?_
 clear hK K
 refine wpSeq_next rfl rfl (fun K hK => ?_)
 go_wp2_with fail
 refine (four_any _ _).mono ?_
 rintro e w3 ⟨v3, rfl, hO3, hf3⟩
 rw [HB.out] at hO3
 obtain ⟨a3, c3, rfl, hb3, _⟩ := hO3.bytes
 have hs3 : Fr No w w3 := (hs2).no hf3
 refine hK.out _ _ (fun _ => hs3) ?_
 clear hK K
 refine tp _ rfl rfl ?_; simp only [es1, es2, es3]
 refine wpSeq_done ?_
 go_wp2_with fail
 go_ret
 exact ⟨_, rfl, hO3.mono hs2.size, hs3⟩
section
variable {w0 w w' : World} {hb : Nat} {F : Nat → Prop} {k : Int} {kh kl : BitVec 64} {s : ST} {tl : Bytes} {lo : BitVec 64}
theorem HS.fr (h : HS w0 w hb (F) k kh kl s tl lo) : Fr No w0 w := by
 obtain ⟨ib, sb, tv, c6, c7, c8, c9, c10, c11, hr, hc, hL, rfl⟩ := h
 exact hL.fr
theorem HS.lt (h : HS w0 w hb (F) k kh kl s tl lo) : ∀ x, F x → x < w.heap.size := by
 obtain ⟨ib, sb, tv, c6, c7, c8, c9, c10, c11, hr, hc, hL, rfl⟩ := h
 exact fun x hx => hL.lt x (.inr hx)
theorem HS.above (h : HS w0 w hb (F) k kh kl s tl lo) : ∀ x, F x → w0.heap.size ≤ x := by
 obtain ⟨ib, sb, tv, c6, c7, c8, c9, c10, c11, hr, hc, hL, rfl⟩ := h
 exact fun x hx => hL.above x (.inr hx)
theorem HS.con (h : HS w0 w hb (F) k kh kl s tl lo) : Keeps w F := by
 obtain ⟨ib, sb, tv, c6, c7, c8, c9, c10, c11, hr, hc, hL, rfl⟩ := h
 exact hL.on.con
theorem HS.no (h : HS w0 w hb (F) k kh kl s tl lo) (f : Fr No w w') : HS w0 w' hb (F) k kh kl s tl lo := by
 obtain ⟨ib, sb, tv, c6, c7, c8, c9, c10, c11, hr, hc, hL, rfl⟩ := h
 exact ⟨ib, sb, _, c6, c7, c8, c9, c10, c11, hr.no f, (hc.no f), hL.no f, rfl⟩
theorem HS.keep {G : Nat → Prop} (h : HS w0 w hb (F) k kh kl s tl lo) (f : Fr G w w') (hG : ∀ x, G x → ¬ F x) (hK : Keeps w G) (hA : ∀ x, G x → w0.heap.size ≤ x) : HS w0 w' hb (F) k kh kl s tl lo := by
 obtain ⟨ib, sb, tv, c6, c7, c8, c9, c10, c11, hr, hc, hL, rfl⟩ := h
 refine ⟨ib, sb, _, c6, c7, c8, c9, c10, c11, hr.fr f hK, (hc.fr f (hK) (by decide)), hL.keep f (fun x hx => ?_) hA, rfl⟩
 rintro (rfl | g)
 · exact hK _ _ hL.hc ⟨_, _, rfl, by decide⟩ hx
 · exact hG x hx g
end
theorem HS.write {w0 w : World} {hb : Nat} {F : Nat → Prop} {k : Int} {kh kl : BitVec 64} {s : ST} {tl : Bytes} {lo : BitVec 64} (h : HS w0 w hb (F) k kh kl s tl lo) (a : Option Addr) (n c : Nat) (l : Bytes) (hy : IsBytes w a n c l) (hap : Apart F a n) (hn : n ≤ 1099511627776) :
 Calls Tryz.prog 14 #[.pointer (some ⟨hb, 0, none⟩), .slice a n c] w (fun e w' => e = .returned (.int .i64 0) ∧ ∃ F', HS w0 w' hb F' k kh kl (foldF stepG 16 s (tl ++ l)).1 (foldF stepG 16 s (tl ++ l)).2 (lo + BitVec.ofNat 64 n) ∧ Fr F w w' ∧ ∀ x, F' x → F x ∨ w.heap.size ≤ x) := by
 obtain ⟨ib, sb, tv, c6, c7, c8, c9, c10, c11, hr, hc, hL, rfl⟩ := h
 refine hWrite_of hr.c3 297 (fun W => by kernel_rfl) (calls_enter Tryz.func297 (by kernel_rfl) (by kernel_rfl)) a n c ((Write_h hL a n c l hy hap hn).mono ?_)
 rintro e w' ⟨rfl, tv', hL', hf, hk⟩
 have hK := hL.on.con
 refine ⟨rfl, _, ⟨ib, sb, _, c6, c7, c8, c9, c10, c11, hr.fr hf hK, (hc.fr hf (hK) (by decide)), hL', rfl⟩, hf, fun x hx => ?_⟩
 rcases hx with rfl | hx
 · exact .inl (.inl rfl)
 · rcases hk with e | e
   · exact .inl (.inr (by rw [← e]; exact hx))
   · exact .inr (e _ hx)
theorem HS.sum {w0 w : World} {hb : Nat} {F : Nat → Prop} {k : Int} {kh kl : BitVec 64} {s : ST} {tl : Bytes} {lo : BitVec 64} (h : HS w0 w hb (F) k kh kl s tl lo) :
 Calls Tryz.prog 9 #[.pointer (some ⟨hb, 0, none⟩)] w (fun e w' => ∃ v, e = .returned (.tuple #[v, .int .i64 0]) ∧ Owns w' w.heap.size v (leb ((endF (kl.setWidth 32) s tl lo).setWidth 64) 4) ∧ Fr No w w') := by
 obtain ⟨ib, sb, tv, c6, c7, c8, c9, c10, c11, hr, hc, hL, rfl⟩ := h
 exact hSum_of hr.c3 207 _ hr.c4 (calls_enter Tryz.func207 (by kernel_rfl) (by kernel_rfl)) (sum_cl hc hL)
theorem HS.kind {w0 w : World} {hb : Nat} {F : Nat → Prop} {k : Int} {kh kl : BitVec 64} {s : ST} {tl : Bytes} {lo : BitVec 64} (h : HS w0 w hb (F) k kh kl s tl lo) : Calls Tryz.prog 15 #[.pointer (some ⟨hb, 0, none⟩)] w (Gives (.int .i64 k) w) := by
 obtain ⟨ib, sb, tv, c6, c7, c8, c9, c10, c11, hr, hc, hL, rfl⟩ := h
 exact hKind_yes hr.c3 hr.c0
theorem HS.key {w0 w : World} {hb : Nat} {F : Nat → Prop} {k : Int} {kh kl : BitVec 64} {s : ST} {tl : Bytes} {lo : BitVec 64} (h : HS w0 w hb (F) k kh kl s tl lo) : Calls Tryz.prog 16 #[.pointer (some ⟨hb, 0, none⟩)] w (GivesNew (.agg #[.int .u64 (W64 kh), .int .u64 (W64 kl)]) w) := by
 obtain ⟨ib, sb, tv, c6, c7, c8, c9, c10, c11, hr, hc, hL, rfl⟩ := h
 exact hKey_yes hr.c3 hr.c1 hr.c2
end Go.Proofs.YtidlpihoafnobaaGreatDoor.StX32
namespace Go.Proofs.YtidlpihoafnobaaGreatDoor.StX32
open Go.Proofs.YtidlpihoafnobaaGreatDoor.StG32
set_option maxRecDepth 100000
open Go.RowKit
theorem lanesV_of (s : ST) : lanesV s = .agg #[.int .u64 (W64 (s.1.setWidth 64)), .int .u64 (W64 (s.2.1.setWidth 64)), .int .u64 (W64 (s.2.2.1.setWidth 64)), .int .u64 (W64 (s.2.2.2.setWidth 64))] := rfl
theorem HS.lanes {w0 w : World} {hb : Nat} {F : Nat → Prop} {k : Int} {kh kl : BitVec 64} {s : ST} {tl : Bytes} {lo : BitVec 64} (h : HS w0 w hb (F) k kh kl s tl lo) :
 Calls Tryz.prog 30 #[.pointer (some ⟨hb, 0, none⟩)] w (fun e w' => ∃ v, e = .returned (.tuple #[.agg #[.int .u64 (W64 (s.1.setWidth 64)), .int .u64 (W64 (s.2.1.setWidth 64)), .int .u64 (W64 (s.2.2.1.setWidth 64)), .int .u64 (W64 (s.2.2.2.setWidth 64))], .int .u64 (W64 lo), v]) ∧ Owns w' w.heap.size v tl ∧ Fr No w w') := by
 obtain ⟨ib, sb, tv, c6, c7, c8, c9, c10, c11, hr, hc, hL, rfl⟩ := h
 refine hLanes_of hr.c3 294 (fun W => by kernel_rfl) (calls_enter Tryz.func294 (by kernel_rfl) (by kernel_rfl)) (s.1.setWidth 64) (s.2.1.setWidth 64) (s.2.2.1.setWidth 64) (s.2.2.2.setWidth 64) lo (fun W hW => (Lanes_h (hL.no hW)).mono ?_)
 rintro e w' ⟨v, rfl, hO, hf⟩
 exact ⟨v, by rw [lanesV_of], hO, hf⟩
theorem HS.set_right {w0 w : World} {hb : Nat} {F : Nat → Prop} {k : Int} {kh kl : BitVec 64} {s : ST} {tl : Bytes} {lo : BitVec 64} (h : HS w0 w hb (F) k kh kl s tl lo) (x0 x1 x2 x3 lo2 : BitVec 64) (a : Option Addr) (n c : Nat) (hw : RightP x0 x1 x2 x3) (hfit : fitsB n lo2 16 = true) (l : Bytes) (hy : IsBytes w a n c l) (hn : n ≤ 1099511627776) :
 Calls Tryz.prog 25 #[.pointer (some ⟨hb, 0, none⟩), .agg #[.int .u64 (W64 x0), .int .u64 (W64 x1), .int .u64 (W64 x2), .int .u64 (W64 x3)], .int .u64 (W64 lo2), .slice a n c] w (fun e w' => e = .returned (.int .i64 0) ∧ ∃ F', HS w0 w' hb F' k kh kl (stateF x0 x1 x2 x3) l lo2 ∧ Fr F w w' ∧ ∀ x, F' x → F x ∨ w.heap.size ≤ x) := by
 obtain ⟨ib, sb, tv, c6, c7, c8, c9, c10, c11, hr, hc, hL, rfl⟩ := h
 refine hSet_of hr.c3 296 (fun W => by kernel_rfl) (calls_enter Tryz.func296 (by kernel_rfl) (by kernel_rfl)) x0 x1 x2 x3 lo2 a n c true (F := Foot sb tv) (hL.on.con _ _ hr ⟨_, _, rfl, by decide⟩) (fun x hx => hL.lt x (.inr hx)) (fun W hW => (Set_right (hL.no hW) x0 x1 x2 x3 _ rfl lo2 a n c hw hfit l (hy.no hW) hn).mono ?_)
 rintro e w' ⟨tv2, rfl, hL', hf, hk⟩
 have hK := (hL.no hW).on.con
 have hf2 : Fr (Foot sb tv) W w' := hf.mono (fun x _ g => .inl g)
 have hr := hr.no hW
 have hc := hc.no hW
 refine ⟨rfl, ⟨_, ⟨ib, sb, _, c6, c7, c8, c9, c10, c11, hr.fr hf2 hK, (hc.fr hf2 (hK) (by decide)), hL', rfl⟩, (hW.mono (fun x _ g => g.elim)).trans hf2 (fun x hx => .inl hx), fun x hx => ?_⟩, hf2⟩
 rcases hx with rfl | hx
 · exact .inl (.inl rfl)
 · exact .inr (Nat.le_trans hW.size (hk _ hx))
end Go.Proofs.YtidlpihoafnobaaGreatDoor.StX32
namespace Go.Proofs.YtidlpihoafnobaaGreatDoor.StX32
open Go.Proofs.YtidlpihoafnobaaGreatDoor.StG32
set_option maxRecDepth 100000
open Go.RowKit
theorem one_cl {w : World} {c16 c13 : Nat} (r16 : Row1 w c16 138 (.func (.func 77) #[] #[])) (r13 : Row1 w c13 134 (.func (.func 91) #[] #[])) (kh kl : BitVec 64) (a : Option Addr) (n c : Nat) (l : Bytes) (hy : IsBytes w a n c l) (hn : n ≤ 1099511627776) :
 Calls Tryz.prog 149 #[.agg #[.int .u64 (W64 kh), .int .u64 (W64 kl)], .slice a n c, .pointer (some ⟨c16, 0, none⟩), .pointer (some ⟨c13, 0, none⟩)] w (GivesBytes (leb ((oneF (kl.setWidth 32) l).setWidth 64) 4) w) := by
 generalize hbb : leb ((oneF (kl.setWidth 32) l).setWidth 64) 4 = bb
 have HB := Lib.hid hbb
 clear hbb
 have hA := row2_new w 30 (.int .u64 (W64 kh)) (.int .u64 (W64 kl))
 have hF := (Fr.refl No w).alloc (.cells #[.int .u64 (W64 kh), .int .u64 (W64 kl)] 30)
 have hlt := hF.size
 replace r16 := r16.no hF
 replace r13 := r13.no hF
 replace hy := hy.no hF
 obtain ⟨wz, hwz⟩ : ∃ wz : Nat, wz = w.heap.size := ⟨_, rfl⟩
 have hge : wz ≤ w.heap.size := by omega
 go_enter Tryz.func149, Tryz.ntmps149
 clear hwz
 go_wp2_with fail
 generalize w.heap.size = ab at hA ⊢
 generalize w.alloc (.cells #[.int .u64 (W64 kh), .int .u64 (W64 kl)] 30) = w1 at hF hA hlt r16 r13 hy ⊢
 refine rsq (by kernel_rfl) [(0, 1), (1, 1), (2, 1), (3, 1), (4, 1), (5, 1), (6, 0), (7, 0), (8, 1)] (by kernel_rfl) ?_
 have hS0 : Fr No w1 w1.drew := (Fr.refl No w1).drew
 iterate 6 refine tq _ rfl rfl (by intro w9 h9; have k0 := (hA.no h9).c0; have k1 := (hA.no h9).c1; have q16 := (r16.no h9).c0; have q13 := (r13.no h9).c0; clear h9; go_simp; try with_reducible rfl) ?_; simp only [es1, es2, es3]
 refine wpSeq_next rfl rfl (fun K hK => ?_)
 go_wp2_with fail
 refine (One_any _ a n c l _ (hy.no hS0) hn).mono ?_
 rintro e w2 ⟨rfl, hf2⟩
 have hs2 : Fr No w1 w2 := (hS0).no hf2
 refine hK.out _ _ (fun _ => hs2) ?_
 clear hK K
 refine wpSeq_next rfl rfl (fun K hK => ?_)
 go_wp2_with fail
 refine (four_any _ _).mono ?_
 rintro e w3 ⟨v3, rfl, hO3, hf3⟩
 rw [HB.out] at hO3
 obtain ⟨a3, c3, rfl, hb3, _⟩ := hO3.bytes
 have hs3 : Fr No w1 w3 := (hs2).no hf3
 refine hK.out _ _ (fun _ => hs3) ?_
 clear hK K
 refine tp _ rfl rfl ?_; simp only [es1, es2, es3]
 refine wpSeq_done ?_
 go_wp2_with fail
 go_ret
 exact ⟨_, rfl, hO3.mono (by have := hs2.size; omega), hF.no hs3⟩
theorem made_cl {w0 w : World} {k : Int} {c9 c14 c15 c16 c17 : Nat} (r9 : Row1 w c9 3 (.int .i64 k)) (r14 : Row1 w c14 157 (.func (.func 92) #[] #[])) (r15 : Row1 w c15 158 (.func (.func 93) #[] #[])) (r16 : Row1 w c16 138 (.func (.func 77) #[] #[])) (r17 : Row1 w c17 159 (.func (.func 94) #[] #[])) (hw : Fr No w0 w) (kh kl : BitVec 64) :
 Calls Tryz.prog 150 #[.agg #[.int .u64 (W64 kh), .int .u64 (W64 kl)], .pointer (some ⟨c9, 0, none⟩), .pointer (some ⟨c14, 0, none⟩), .pointer (some ⟨c15, 0, none⟩), .pointer (some ⟨c16, 0, none⟩), .pointer (some ⟨c17, 0, none⟩)] w (fun e w' => ∃ hb, e = .returned (.pointer (some ⟨hb, 0, none⟩)) ∧ ∃ F, HS w0 w' hb F k kh kl (firstF (kl.setWidth 32)) [] 0#64 ∧ (∀ x, F x → w.heap.size ≤ x) ∧ Fr No w w') := by
 have hA := row2_new w 30 (.int .u64 (W64 kh)) (.int .u64 (W64 kl))
 have hF := (Fr.refl No w).alloc (.cells #[.int .u64 (W64 kh), .int .u64 (W64 kl)] 30)
 have hlt := hF.size
 replace r9 := r9.no hF
 replace r14 := r14.no hF
 replace r15 := r15.no hF
 replace r16 := r16.no hF
 replace r17 := r17.no hF
 replace hw := hw.no hF
 go_enter Tryz.func150, Tryz.ntmps150
 go_wp2_with fail
 generalize w.heap.size = ab at hA ⊢
 generalize w.alloc (.cells #[.int .u64 (W64 kh), .int .u64 (W64 kl)] 30) = w1 at hF hA hlt r9 r14 r15 r16 r17 hw ⊢
 refine rsq (by kernel_rfl) [(0, 1), (1, 1), (2, 1), (3, 1), (4, 1), (5, 1), (7, 1), (8, 1), (9, 1), (6, 0), (10, 0), (11, 1)] (by kernel_rfl) ?_
 have hS0 : Fr No w1 w1.drew := (Fr.refl No w1).drew
 iterate 9 refine tq _ rfl rfl (by intro w9 h9; have k0 := (hA.no h9).c0; have k1 := (hA.no h9).c1; have q9 := (r9.no h9).c0; have q14 := (r14.no h9).c0; have q15 := (r15.no h9).c0; have q16 := (r16.no h9).c0; have q17 := (r17.no h9).c0; clear h9; go_simp; try with_reducible rfl) ?_; simp only [es1, es2, es3]
 refine wpSeq_next rfl rfl (fun K hK => ?_)
 go_wp2_with fail
 refine (New_h (kl.setWidth 32) w0 _ (hw.no hS0)).mono ?_
 rintro e w2 ⟨ib, sb, rfl, hge1, hge2, hL2, hf2⟩
 have hs2 : Fr No w1 w2 := (hS0).no hf2
 have hz0 := (hS0).size
 refine hK.out _ _ (fun _ => hs2) ?_
 clear hK K
 refine wpSeq_next rfl rfl (fun K hK => ?_)
 go_wp2_with fail
 refine (wrapped_h hL2).mono ?_
 rintro e w3 ⟨hb3, rfl, hH3, hge3, hf3⟩
 have hs3 : Fr No w1 w3 := (hs2).no hf3
 refine hK.out _ _ (fun _ => hs3) ?_
 clear hK K
 refine tp _ rfl rfl ?_; simp only [es1, es2, es3]
 refine wpSeq_done ?_
 go_wp2_with fail
 go_ret
 refine ⟨hb3, rfl, _, hH3, fun x hx => ?_, hF.no hs3⟩
 rcases hx with rfl | hx
 · omega
 · simp [Value.ownBlock] at hx
theorem small_any (k : Int) (nm : ByteArray) (sz bl : Int) (w : World) :
 Calls Tryz.prog 90 #[.int .i64 k, .string nm, .int .i64 sz, .int .i64 bl, .func (.func 91) #[] #[], .func (.func 92) #[] #[], .func (.func 93) #[] #[], .func (.func 77) #[] #[], .func (.func 94) #[] #[]] w (fun e w' => ∃ c9 c13 c14 c15 c16 c17, e = .returned (.agg #[.string nm, .int .i64 sz, .int .i64 bl, .int .i64 32, .func (.func 149) #[] #[.pointer (some ⟨c16, 0, none⟩), .pointer (some ⟨c13, 0, none⟩)], .func (.func 150) #[] #[.pointer (some ⟨c9, 0, none⟩), .pointer (some ⟨c14, 0, none⟩), .pointer (some ⟨c15, 0, none⟩), .pointer (some ⟨c16, 0, none⟩), .pointer (some ⟨c17, 0, none⟩)]]) ∧ Row1 w' c9 3 (.int .i64 k) ∧ Row1 w' c13 134 (.func (.func 91) #[] #[]) ∧ Row1 w' c14 157 (.func (.func 92) #[] #[]) ∧ Row1 w' c15 158 (.func (.func 93) #[] #[]) ∧ Row1 w' c16 138 (.func (.func 77) #[] #[]) ∧ Row1 w' c17 159 (.func (.func 94) #[] #[]) ∧ Fr No w w') := by
 have r9 := row1_new w 3 (.int .i64 k)
 have r13 := row1_new (w.alloc (.cells #[.int .i64 k] 3)) 134 (.func (.func 91) #[] #[])
 replace r9 := r9.up (.cells #[.func (.func 91) #[] #[]] 134)
 have r14 := row1_new ((w.alloc (.cells #[.int .i64 k] 3)).alloc (.cells #[.func (.func 91) #[] #[]] 134)) 157 (.func (.func 92) #[] #[])
 replace r9 := r9.up (.cells #[.func (.func 92) #[] #[]] 157)
 replace r13 := r13.up (.cells #[.func (.func 92) #[] #[]] 157)
 have r15 := row1_new (((w.alloc (.cells #[.int .i64 k] 3)).alloc (.cells #[.func (.func 91) #[] #[]] 134)).alloc (.cells #[.func (.func 92) #[] #[]] 157)) 158 (.func (.func 93) #[] #[])
 replace r9 := r9.up (.cells #[.func (.func 93) #[] #[]] 158)
 replace r13 := r13.up (.cells #[.func (.func 93) #[] #[]] 158)
 replace r14 := r14.up (.cells #[.func (.func 93) #[] #[]] 158)
 have r16 := row1_new ((((w.alloc (.cells #[.int .i64 k] 3)).alloc (.cells #[.func (.func 91) #[] #[]] 134)).alloc (.cells #[.func (.func 92) #[] #[]] 157)).alloc (.cells #[.func (.func 93) #[] #[]] 158)) 138 (.func (.func 77) #[] #[])
 replace r9 := r9.up (.cells #[.func (.func 77) #[] #[]] 138)
 replace r13 := r13.up (.cells #[.func (.func 77) #[] #[]] 138)
 replace r14 := r14.up (.cells #[.func (.func 77) #[] #[]] 138)
 replace r15 := r15.up (.cells #[.func (.func 77) #[] #[]] 138)
 have r17 := row1_new (((((w.alloc (.cells #[.int .i64 k] 3)).alloc (.cells #[.func (.func 91) #[] #[]] 134)).alloc (.cells #[.func (.func 92) #[] #[]] 157)).alloc (.cells #[.func (.func 93) #[] #[]] 158)).alloc (.cells #[.func (.func 77) #[] #[]] 138)) 159 (.func (.func 94) #[] #[])
 replace r9 := r9.up (.cells #[.func (.func 94) #[] #[]] 159)
 replace r13 := r13.up (.cells #[.func (.func 94) #[] #[]] 159)
 replace r14 := r14.up (.cells #[.func (.func 94) #[] #[]] 159)
 replace r15 := r15.up (.cells #[.func (.func 94) #[] #[]] 159)
 replace r16 := r16.up (.cells #[.func (.func 94) #[] #[]] 159)
 have hF := (((((((Fr.refl No w).alloc (.cells #[.int .i64 k] 3)).alloc (.cells #[.func (.func 91) #[] #[]] 134)).alloc (.cells #[.func (.func 92) #[] #[]] 157)).alloc (.cells #[.func (.func 93) #[] #[]] 158)).alloc (.cells #[.func (.func 77) #[] #[]] 138)).alloc (.cells #[.func (.func 94) #[] #[]] 159))
 simp only [World.size_alloc] at r9 r13 r14 r15 r16 r17
 have hZ := row6_new ((((((w.alloc (.cells #[.int .i64 k] 3)).alloc (.cells #[.func (.func 91) #[] #[]] 134)).alloc (.cells #[.func (.func 92) #[] #[]] 157)).alloc (.cells #[.func (.func 93) #[] #[]] 158)).alloc (.cells #[.func (.func 77) #[] #[]] 138)).alloc (.cells #[.func (.func 94) #[] #[]] 159)) 89 (.string ⟨#[]⟩) (.int .i64 0) (.int .i64 0) (.int .i64 0) .nilFunc .nilFunc
 replace r9 := r9.up (.cells #[.string ⟨#[]⟩, .int .i64 0, .int .i64 0, .int .i64 0, .nilFunc, .nilFunc] 89)
 replace r13 := r13.up (.cells #[.string ⟨#[]⟩, .int .i64 0, .int .i64 0, .int .i64 0, .nilFunc, .nilFunc] 89)
 replace r14 := r14.up (.cells #[.string ⟨#[]⟩, .int .i64 0, .int .i64 0, .int .i64 0, .nilFunc, .nilFunc] 89)
 replace r15 := r15.up (.cells #[.string ⟨#[]⟩, .int .i64 0, .int .i64 0, .int .i64 0, .nilFunc, .nilFunc] 89)
 replace r16 := r16.up (.cells #[.string ⟨#[]⟩, .int .i64 0, .int .i64 0, .int .i64 0, .nilFunc, .nilFunc] 89)
 replace r17 := r17.up (.cells #[.string ⟨#[]⟩, .int .i64 0, .int .i64 0, .int .i64 0, .nilFunc, .nilFunc] 89)
 replace hF := hF.alloc (.cells #[.string ⟨#[]⟩, .int .i64 0, .int .i64 0, .int .i64 0, .nilFunc, .nilFunc] 89)
 simp only [World.size_alloc] at hZ
 go_enter Tryz.func90, Tryz.ntmps90
 go_upto_region 1 with fail
 have hlt := hF.size
 obtain ⟨wz, hwz⟩ : ∃ wz : Nat, wz = w.heap.size := ⟨_, rfl⟩
 generalize (((((((w.alloc (.cells #[.int .i64 k] 3)).alloc (.cells #[.func (.func 91) #[] #[]] 134)).alloc (.cells #[.func (.func 92) #[] #[]] 157)).alloc (.cells #[.func (.func 93) #[] #[]] 158)).alloc (.cells #[.func (.func 77) #[] #[]] 138)).alloc (.cells #[.func (.func 94) #[] #[]] 159)).alloc (.cells #[.string ⟨#[]⟩, .int .i64 0, .int .i64 0, .int .i64 0, .nilFunc, .nilFunc] 89)) = w6 at r9 r13 r14 r15 r16 r17 hF hlt hZ ⊢
 have hkge : wz ≤ w.heap.size + 1 + 1 + 1 + 1 + 1 + 1 := by omega
 generalize w.heap.size + 1 + 1 + 1 + 1 + 1 + 1 = kb at hZ hkge ⊢
 generalize w.heap.size + 1 + 1 + 1 + 1 + 1 = c17 at r17 ⊢
 generalize w.heap.size + 1 + 1 + 1 + 1 = c16 at r16 ⊢
 generalize w.heap.size + 1 + 1 + 1 = c15 at r15 ⊢
 generalize w.heap.size + 1 + 1 = c14 at r14 ⊢
 generalize w.heap.size + 1 = c13 at r13 ⊢
 obtain ⟨c9, e9⟩ : ∃ c9, c9 = w.heap.size := ⟨_, rfl⟩
 rw [← e9] at r9 ⊢
 clear e9
 have hkge2 : w.heap.size ≤ kb := by omega
 clear hwz hkge
 have z0 := hZ.c0
 have z1 := hZ.c1
 have z2 := hZ.c2
 have z3 := hZ.c3
 have z4 := hZ.c4
 have z5 := hZ.c5
 have y0 := hZ.fz 0
 have y1 := hZ.fz 1
 have y2 := hZ.fz 2
 have y3 := hZ.fz 3
 have y4 := hZ.fz 4
 have y5 := hZ.fz 5
 go_wp2_with fail
 have hR := row_put6 hZ (.string nm) (.int .i64 sz) (.int .i64 bl) (.int .i64 32) (.func (.func 149) #[] #[.pointer (some ⟨c16, 0, none⟩), .pointer (some ⟨c13, 0, none⟩)]) (.func (.func 150) #[] #[.pointer (some ⟨c9, 0, none⟩), .pointer (some ⟨c14, 0, none⟩), .pointer (some ⟨c15, 0, none⟩), .pointer (some ⟨c16, 0, none⟩), .pointer (some ⟨c17, 0, none⟩)])
 have hP := fr_put6 w6 kb (.string nm) (.int .i64 sz) (.int .i64 bl) (.int .i64 32) (.func (.func 149) #[] #[.pointer (some ⟨c16, 0, none⟩), .pointer (some ⟨c13, 0, none⟩)]) (.func (.func 150) #[] #[.pointer (some ⟨c9, 0, none⟩), .pointer (some ⟨c14, 0, none⟩), .pointer (some ⟨c15, 0, none⟩), .pointer (some ⟨c16, 0, none⟩), .pointer (some ⟨c17, 0, none⟩)])
 have cd0 := hR.c0
 have cd1 := hR.c1
 have cd2 := hR.c2
 have cd3 := hR.c3
 have cd4 := hR.c4
 have cd5 := hR.c5
 refine bodyPost_ret (v := .agg #[.string nm, .int .i64 sz, .int .i64 bl, .int .i64 32, .func (.func 149) #[] #[.pointer (some ⟨c16, 0, none⟩), .pointer (some ⟨c13, 0, none⟩)], .func (.func 150) #[] #[.pointer (some ⟨c9, 0, none⟩), .pointer (some ⟨c14, 0, none⟩), .pointer (some ⟨c15, 0, none⟩), .pointer (some ⟨c16, 0, none⟩), .pointer (some ⟨c17, 0, none⟩)]]) (by simp [results, Tryz.results90, go_sem, cd0, cd1, cd2, cd3, cd4, cd5]) rfl ?_
 exact ⟨c9, c13, c14, c15, c16, c17, rfl, r9.past hZ hP, r13.past hZ hP, r14.past hZ hP, r15.past hZ hP, r16.past hZ hP, r17.past hZ hP, hF.trans hP (fun x hx => .inr (by omega))⟩
end Go.Proofs.YtidlpihoafnobaaGreatDoor.StX32
