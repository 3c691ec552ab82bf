/- StrHSip StrISip StrKSip -/
import Derived.Deep.Cut
import Derived.Test.YtidlpihoafnobaaGreatDoorPAllSip
set_option linter.unusedVariables false
set_option linter.unusedSimpArgs false
namespace Go.Proofs.YtidlpihoafnobaaGreatDoor.StSip
open Go.Proofs.YtidlpihoafnobaaGreatDoor.StG64
set_option maxRecDepth 100000
open Go.RowKit
abbrev Cap6 (w : World) (k : Int) (kh kl : BitVec 64) (ib c6 c7 c8 c9 c10 c11 : Nat) (c5 sz : Nat) : Prop := Caps w 235 237 146 238 k kh kl ib (.func (.func 170) #[] #[]) (.func (.func 164) #[] #[.pointer (some ⟨c5, 0, none⟩)]) (.func (.func 171) #[] #[]) c6 c7 c8 c9 c10 c11 ∧ Row1 w c5 3 (.int .i64 (sz : Int))
def HS (w0 w : World) (hb : Nat) (F : Nat → Prop) (k : Int) (kh kl : BitVec 64) (s : ST) (tl : Bytes) (lo : BitVec 64) (sz : Nat) : Prop :=
 ∃ ib sb tv c6 c7 c8 c9 c10 c11 q c5, HRow w hb k kh kl (.iface 235 (.pointer (some ⟨ib, 0, none⟩))) (.func (.func 225) #[] #[.pointer (some ⟨c10, 0, none⟩), .pointer (some ⟨c9, 0, none⟩), .pointer (some ⟨c8, 0, none⟩)]) (.func (.func 226) #[] #[.pointer (some ⟨c6, 0, none⟩), .pointer (some ⟨c7, 0, none⟩), .pointer (some ⟨c11, 0, none⟩), .pointer (some ⟨c8, 0, none⟩), .pointer (some ⟨c9, 0, none⟩), .pointer (some ⟨c10, 0, none⟩)]) ∧ Cap6 w k kh kl ib c6 c7 c8 c9 c10 c11 c5 sz ∧ HLive w0 w ib sb k kh kl q s tl lo tv ∧ F = Foot sb tv
theorem wrapped_h {w0 w : World} {k : Int} {kh kl : BitVec 64} {ib sb : Nat} {s : ST} {tl : Bytes} {lo : BitVec 64} {tv : Value} {q c5 sz : Nat} (h : HLive w0 w ib sb k kh kl q s tl lo tv) (h5 : Row1 w c5 3 (.int .i64 (sz : Int))) :
 Calls Tryz.prog 168 #[.int .i64 k, .agg #[.int .u64 (W64 kh), .int .u64 (W64 kl)], .pointer (some ⟨ib, 0, none⟩), .func (.func 170) #[] #[], .func (.func 164) #[] #[.pointer (some ⟨c5, 0, none⟩)], .func (.func 171) #[] #[]] w (fun e w' => ∃ hb, e = .returned (.pointer (some ⟨hb, 0, none⟩)) ∧ HS w0 w' hb (Foot sb tv) k kh kl s tl lo sz ∧ w.heap.size ≤ hb ∧ Fr No w w') := by
 have r6 := row1_new w 3 (.int .i64 k)
 have r7 := row2_new (w.alloc (.cells #[.int .i64 k] 3)) 30 (.int .u64 (W64 kh)) (.int .u64 (W64 kl))
 replace r6 := r6.up (.cells #[.int .u64 (W64 kh), .int .u64 (W64 kl)] 30)
 have r8 := row1_new ((w.alloc (.cells #[.int .i64 k] 3)).alloc (.cells #[.int .u64 (W64 kh), .int .u64 (W64 kl)] 30)) 235 (.pointer (some ⟨ib, 0, none⟩))
 replace r6 := r6.up (.cells #[.pointer (some ⟨ib, 0, none⟩)] 235)
 replace r7 := r7.up (.cells #[.pointer (some ⟨ib, 0, none⟩)] 235)
 have r9 := row1_new (((w.alloc (.cells #[.int .i64 k] 3)).alloc (.cells #[.int .u64 (W64 kh), .int .u64 (W64 kl)] 30)).alloc (.cells #[.pointer (some ⟨ib, 0, none⟩)] 235)) 237 (.func (.func 170) #[] #[])
 replace r6 := r6.up (.cells #[.func (.func 170) #[] #[]] 237)
 replace r7 := r7.up (.cells #[.func (.func 170) #[] #[]] 237)
 replace r8 := r8.up (.cells #[.func (.func 170) #[] #[]] 237)
 have r10 := row1_new ((((w.alloc (.cells #[.int .i64 k] 3)).alloc (.cells #[.int .u64 (W64 kh), .int .u64 (W64 kl)] 30)).alloc (.cells #[.pointer (some ⟨ib, 0, none⟩)] 235)).alloc (.cells #[.func (.func 170) #[] #[]] 237)) 146 (.func (.func 164) #[] #[.pointer (some ⟨c5, 0, none⟩)])
 replace r6 := r6.up (.cells #[.func (.func 164) #[] #[.pointer (some ⟨c5, 0, none⟩)]] 146)
 replace r7 := r7.up (.cells #[.func (.func 164) #[] #[.pointer (some ⟨c5, 0, none⟩)]] 146)
 replace r8 := r8.up (.cells #[.func (.func 164) #[] #[.pointer (some ⟨c5, 0, none⟩)]] 146)
 replace r9 := r9.up (.cells #[.func (.func 164) #[] #[.pointer (some ⟨c5, 0, none⟩)]] 146)
 have r11 := row1_new (((((w.alloc (.cells #[.int .i64 k] 3)).alloc (.cells #[.int .u64 (W64 kh), .int .u64 (W64 kl)] 30)).alloc (.cells #[.pointer (some ⟨ib, 0, none⟩)] 235)).alloc (.cells #[.func (.func 170) #[] #[]] 237)).alloc (.cells #[.func (.func 164) #[] #[.pointer (some ⟨c5, 0, none⟩)]] 146)) 238 (.func (.func 171) #[] #[])
 replace r6 := r6.up (.cells #[.func (.func 171) #[] #[]] 238)
 replace r7 := r7.up (.cells #[.func (.func 171) #[] #[]] 238)
 replace r8 := r8.up (.cells #[.func (.func 171) #[] #[]] 238)
 replace r9 := r9.up (.cells #[.func (.func 171) #[] #[]] 238)
 replace r10 := r10.up (.cells #[.func (.func 171) #[] #[]] 238)
 have hF := ((((((Fr.refl No w).alloc (.cells #[.int .i64 k] 3)).alloc (.cells #[.int .u64 (W64 kh), .int .u64 (W64 kl)] 30)).alloc (.cells #[.pointer (some ⟨ib, 0, none⟩)] 235)).alloc (.cells #[.func (.func 170) #[] #[]] 237)).alloc (.cells #[.func (.func 164) #[] #[.pointer (some ⟨c5, 0, none⟩)]] 146)).alloc (.cells #[.func (.func 171) #[] #[]] 238)
 simp only [World.size_alloc] at r6 r7 r8 r9 r10 r11
 have g6 := r6.c0
 have g7 := r7.c0
 have g7' := r7.c1
 have g8 := r8.c0
 go_enter Tryz.func168, Tryz.ntmps168
 go_upto_region 1 with fail
 have hlt := hF.size
 generalize ((((((w.alloc (.cells #[.int .i64 k] 3)).alloc (.cells #[.int .u64 (W64 kh), .int .u64 (W64 kl)] 30)).alloc (.cells #[.pointer (some ⟨ib, 0, none⟩)] 235)).alloc (.cells #[.func (.func 170) #[] #[]] 237)).alloc (.cells #[.func (.func 164) #[] #[.pointer (some ⟨c5, 0, none⟩)]] 146)).alloc (.cells #[.func (.func 171) #[] #[]] 238)) = w6 at r6 r7 r8 r9 r10 r11 hF g6 g7 g7' g8 hlt ⊢
 generalize w.heap.size + 1 + 1 + 1 + 1 + 1 = c11 at r11 ⊢
 generalize w.heap.size + 1 + 1 + 1 + 1 = c10 at r10 ⊢
 generalize w.heap.size + 1 + 1 + 1 = c9 at r9 ⊢
 generalize w.heap.size + 1 + 1 = c8 at r8 g8 ⊢
 generalize w.heap.size + 1 = c7 at r7 g7 g7' ⊢
 obtain ⟨c6, e6⟩ : ∃ c6, c6 = w.heap.size := ⟨_, rfl⟩
 rw [← e6] at r6 g6 ⊢
 clear e6
 go_wp2_with fail
 go_ret
 have hv := (Fr.refl No w6).alloc (.cells #[.int .i64 k, .int .u64 (W64 kh), .int .u64 (W64 kl), .iface 235 (.pointer (some ⟨ib, 0, none⟩)), .func (.func 225) #[] #[.pointer (some ⟨c10, 0, none⟩), .pointer (some ⟨c9, 0, none⟩), .pointer (some ⟨c8, 0, none⟩)], .func (.func 226) #[] #[.pointer (some ⟨c6, 0, none⟩), .pointer (some ⟨c7, 0, none⟩), .pointer (some ⟨c11, 0, none⟩), .pointer (some ⟨c8, 0, none⟩), .pointer (some ⟨c9, 0, none⟩), .pointer (some ⟨c10, 0, none⟩)]] 78)
 exact ⟨w6.heap.size, rfl, ⟨ib, sb, tv, c6, c7, c8, c9, c10, c11, q, c5, heap_alloc_new w6 _, ⟨⟨r6.no hv, r7.no hv, r8.no hv, r9.no hv, r10.no hv, r11.no hv⟩, (h5.no hF).no hv⟩, (h.no hF).no hv, rfl⟩, hlt, hF.no hv⟩
theorem owns_take {w : World} {base : Nat} {a : Option Addr} {c k : Nat} {l : Bytes} (h : Owns w base (.slice a 16 c) l) (hl : l.length = 16) (hk : k ≤ 16) : Owns w base (.slice (subAddr a 0 c 1) k c) (l.take k) := by
 rcases h.2 with ⟨e, hn⟩ | ⟨g, cap, cur, e, hb, hg, h1, h2, h3, h4⟩
 · omega
 · simp only [Value.slice.injEq] at e
   obtain ⟨rfl, _, rfl⟩ := e
   have hkl : (l.take k).length = k := by rw [List.length_take]; omega
   refine ⟨by simp, .inr ⟨g, c, cur, ?_, hb, hg, ?_, h2, h3, ?_⟩⟩
   · rw [hkl]; simp [subAddr]; intro _; first | rfl | simp [Addr.add]
   · rw [hkl]; omega
   · rw [hkl, List.map_take, ← h4, List.take_take]
     congr 1
     omega
theorem sipTell {w : World} {c5 sz : Nat} (h5 : Row1 w c5 3 (.int .i64 (sz : Int))) (hsz : sz ≤ 16) (zh zl : BitVec 64) : Calls Tryz.prog 164 #[.agg #[.int .u64 (W64 zh), .int .u64 (W64 zl)], .pointer (some ⟨c5, 0, none⟩)] w (GivesBytes ((leb zl 8 ++ leb zh 8).take sz) w) := by
 have hA := row2_new w 30 (.int .u64 (W64 zh)) (.int .u64 (W64 zl))
 have hF := (Fr.refl No w).alloc (.cells #[.int .u64 (W64 zh), .int .u64 (W64 zl)] 30)
 have hlt := hF.size
 replace h5 := h5.no hF
 go_enter Tryz.func164, Tryz.ntmps164
 go_wp2_with fail
 generalize w.heap.size = ab at hA ⊢
 generalize w.alloc (.cells #[.int .u64 (W64 zh), .int .u64 (W64 zl)] 30) = w1 at hF hA hlt h5 ⊢
 refine rsq (by kernel_rfl) [(0, 1), (2, 1), (1, 0), (3, 1), (4, 1)] (by kernel_rfl) ?_
 have hS0 : Fr No w1 w1.drew := (Fr.refl No w1).drew
 iterate 2 refine tq _ rfl rfl (by intro w9 h9; have q0 := (hA.no h9).c0; have q1 := (hA.no h9).c1; have q5 := (h5.no h9).c0; clear h9; go_simp; try with_reducible rfl) ?_; simp only [es1, es2, es3]
 refine wpSeq_next rfl rfl (fun K hK => ?_)
 go_wp2_with fail
 refine (sixteen_any _ _ _).mono ?_
 rintro e w2 ⟨v2, rfl, hO2, hf2⟩
 obtain ⟨a2, c2, rfl, hb2, _⟩ := hO2.bytes
 have hl2 : (leb zl 8 ++ leb zh 8).length = 16 := by rw [List.length_append, leb_length, leb_length]
 rw [hl2]
 rw [hl2] at hO2 hb2
 have i2 : sz ≤ c2 := by have := hb2.2.1; omega
 have hs2 : Fr No w1 w2 := (hS0).no hf2
 refine hK.out _ _ (fun _ => hs2) ?_
 clear hK K
 iterate 2 refine tp _ rfl rfl ?_; simp only [es1, es2, es3]
 refine wpSeq_done ?_
 go_wp2_with fail
 go_ret
 refine ⟨_, rfl, (owns_take hO2 ?_ hsz).mono (by have := hS0.size; omega), hF.no hs2⟩
 rw [List.length_append, leb_length, leb_length]
theorem sum_cl {w0 w : World} {k : Int} {kh kl : BitVec 64} {ib sb : Nat} {s : ST} {tl : Bytes} {lo : BitVec 64} {tv : Value} {c6 c7 c8 c9 c10 c11 : Nat} {q c5 sz : Nat} (hc : Cap6 w k kh kl ib c6 c7 c8 c9 c10 c11 c5 sz) (h : HLive w0 w ib sb k kh kl q s tl lo tv) (hsz : sz ≤ 16) : Calls Tryz.prog 225 #[.pointer (some ⟨c10, 0, none⟩), .pointer (some ⟨c9, 0, none⟩), .pointer (some ⟨c8, 0, none⟩)] w (GivesBytes ((leb (endLo k s tl lo) 8 ++ leb (endHi k s tl lo) 8).take sz) w) := by
 generalize hbb : (leb (endLo k s tl lo) 8 ++ leb (endHi k s tl lo) 8).take sz = bb
 have HB := Lib.hid hbb
 clear hbb
 go_enter Tryz.func225, Tryz.ntmps225
 go_wp2_with fail
 refine rsq (by kernel_rfl) [(0, 1), (1, 1), (2, 1), (3, 0), (4, 0), (5, 1)] (by kernel_rfl) ?_
 have hS0 : Fr No w w.drew := (Fr.refl No w).drew
 iterate 3 refine tq _ rfl rfl (by intro w9 h9; have q10 := (hc.1.k10.no h9).c0; have q9 := (hc.1.k9.no h9).c0; have q8 := (hc.1.k8.no h9).c0; clear h9; go_simp; try with_reducible rfl) ?_; simp only [es1, es2, es3]
 refine wpSeq_next rfl rfl (fun K hK => ?_)
 go_wp2_with fail
 refine (Sum_h (h.no hS0)).mono ?_
 rintro e w2 ⟨rfl, hf2⟩
 have hs2 : Fr No w w2 := (hS0).no hf2
 refine hK.out _ _ (fun _ => hs2) ?_
 clear hK K
 refine wpSeq_next rfl rfl (fun K hK => ?_)
 go_wp2_with fail
 refine (sipTell (hc.2.no hs2) hsz _ _).mono ?_
 rintro e w3 ⟨v3, rfl, hO3, hf3⟩
 rw [HB.out] at hO3
 obtain ⟨a3, c3, rfl, hb3, _⟩ := hO3.bytes
 have hs3 : Fr No w w3 := (hs2).no hf3
 refine hK.out _ _ (fun _ => hs3) ?_
 clear hK K
 refine tp _ rfl rfl ?_; simp only [es1, es2, es3]
 refine wpSeq_done ?_
 go_wp2_with fail
 go_ret
 exact ⟨_, rfl, hO3.mono hs2.size, hs3⟩
section
variable {w0 w w' : World} {hb : Nat} {F : Nat → Prop} {k : Int} {kh kl : BitVec 64} {s : ST} {tl : Bytes} {lo : BitVec 64} {sz : Nat}
theorem HS.fr (h : HS w0 w hb (F) k kh kl s tl lo sz) : Fr No w0 w := by
 obtain ⟨ib, sb, tv, c6, c7, c8, c9, c10, c11, q, c5, hr, hc, hL, rfl⟩ := h
 exact hL.fr
theorem HS.lt (h : HS w0 w hb (F) k kh kl s tl lo sz) : ∀ x, F x → x < w.heap.size := by
 obtain ⟨ib, sb, tv, c6, c7, c8, c9, c10, c11, q, c5, hr, hc, hL, rfl⟩ := h
 exact fun x hx => hL.lt x (.inr hx)
theorem HS.above (h : HS w0 w hb (F) k kh kl s tl lo sz) : ∀ x, F x → w0.heap.size ≤ x := by
 obtain ⟨ib, sb, tv, c6, c7, c8, c9, c10, c11, q, c5, hr, hc, hL, rfl⟩ := h
 exact fun x hx => hL.above x (.inr hx)
theorem HS.con (h : HS w0 w hb (F) k kh kl s tl lo sz) : Keeps w F := by
 obtain ⟨ib, sb, tv, c6, c7, c8, c9, c10, c11, q, c5, hr, hc, hL, rfl⟩ := h
 exact hL.on.con
theorem HS.no (h : HS w0 w hb (F) k kh kl s tl lo sz) (f : Fr No w w') : HS w0 w' hb (F) k kh kl s tl lo sz := by
 obtain ⟨ib, sb, tv, c6, c7, c8, c9, c10, c11, q, c5, hr, hc, hL, rfl⟩ := h
 exact ⟨ib, sb, _, c6, c7, c8, c9, c10, c11, q, c5, hr.no f, ⟨hc.1.no f, hc.2.no f⟩, hL.no f, rfl⟩
theorem HS.keep {G : Nat → Prop} (h : HS w0 w hb (F) k kh kl s tl lo sz) (f : Fr G w w') (hG : ∀ x, G x → ¬ F x) (hK : Keeps w G) (hA : ∀ x, G x → w0.heap.size ≤ x) : HS w0 w' hb (F) k kh kl s tl lo sz := by
 obtain ⟨ib, sb, tv, c6, c7, c8, c9, c10, c11, q, c5, hr, hc, hL, rfl⟩ := h
 refine ⟨ib, sb, _, c6, c7, c8, c9, c10, c11, q, c5, hr.fr f hK, ⟨hc.1.fr f (hK) (by decide), hc.2.con f (hK) (by decide)⟩, hL.keep f (fun x hx => ?_) hA (hK _ _ hL.hq ⟨_, _, rfl, by decide⟩), rfl⟩
 rintro (rfl | g)
 · exact hK _ _ hL.hc ⟨_, _, rfl, by decide⟩ hx
 · exact hG x hx g
end
theorem HS.write {w0 w : World} {hb : Nat} {F : Nat → Prop} {k : Int} {kh kl : BitVec 64} {s : ST} {tl : Bytes} {lo : BitVec 64} {sz : Nat} (h : HS w0 w hb (F) k kh kl s tl lo sz) (a : Option Addr) (n c : Nat) (l : Bytes) (hy : IsBytes w a n c l) (hap : Apart F a n) (hn : n ≤ 1099511627776) :
 Calls Tryz.prog 14 #[.pointer (some ⟨hb, 0, none⟩), .slice a n c] w (fun e w' => e = .returned (.int .i64 0) ∧ ∃ F', HS w0 w' hb F' k kh kl (foldF (stepG (cOf k)) 8 s (tl ++ l)).1 (foldF (stepG (cOf k)) 8 s (tl ++ l)).2 (lo + BitVec.ofNat 64 n) sz ∧ Fr F w w' ∧ ∀ x, F' x → F x ∨ w.heap.size ≤ x) := by
 obtain ⟨ib, sb, tv, c6, c7, c8, c9, c10, c11, q, c5, hr, hc, hL, rfl⟩ := h
 refine hWrite_of hr.c3 323 (fun W => by kernel_rfl) (calls_enter Tryz.func323 (by kernel_rfl) (by kernel_rfl)) a n c ((Write_h hL a n c l hy hap hn).mono ?_)
 rintro e w' ⟨rfl, tv', hL', hf, hk⟩
 have hK := hL.on.con
 refine ⟨rfl, _, ⟨ib, sb, _, c6, c7, c8, c9, c10, c11, q, c5, hr.fr hf hK, ⟨hc.1.fr hf (hK) (by decide), hc.2.con hf (hK) (by decide)⟩, hL', rfl⟩, hf, fun x hx => ?_⟩
 rcases hx with rfl | hx
 · exact .inl (.inl rfl)
 · rcases hk with e | e
   · exact .inl (.inr (by rw [← e]; exact hx))
   · exact .inr (e _ hx)
theorem HS.sum {w0 w : World} {hb : Nat} {F : Nat → Prop} {k : Int} {kh kl : BitVec 64} {s : ST} {tl : Bytes} {lo : BitVec 64} {sz : Nat} (h : HS w0 w hb (F) k kh kl s tl lo sz) (hsz : sz ≤ 16) :
 Calls Tryz.prog 9 #[.pointer (some ⟨hb, 0, none⟩)] w (fun e w' => ∃ v, e = .returned (.tuple #[v, .int .i64 0]) ∧ Owns w' w.heap.size v ((leb (endLo k s tl lo) 8 ++ leb (endHi k s tl lo) 8).take sz) ∧ Fr No w w') := by
 obtain ⟨ib, sb, tv, c6, c7, c8, c9, c10, c11, q, c5, hr, hc, hL, rfl⟩ := h
 exact hSum_of hr.c3 225 _ hr.c4 (calls_enter Tryz.func225 (by kernel_rfl) (by kernel_rfl)) (sum_cl hc hL hsz)
theorem HS.kind {w0 w : World} {hb : Nat} {F : Nat → Prop} {k : Int} {kh kl : BitVec 64} {s : ST} {tl : Bytes} {lo : BitVec 64} {sz : Nat} (h : HS w0 w hb (F) k kh kl s tl lo sz) : Calls Tryz.prog 15 #[.pointer (some ⟨hb, 0, none⟩)] w (Gives (.int .i64 k) w) := by
 obtain ⟨ib, sb, tv, c6, c7, c8, c9, c10, c11, q, c5, hr, hc, hL, rfl⟩ := h
 exact hKind_yes hr.c3 hr.c0
theorem HS.key {w0 w : World} {hb : Nat} {F : Nat → Prop} {k : Int} {kh kl : BitVec 64} {s : ST} {tl : Bytes} {lo : BitVec 64} {sz : Nat} (h : HS w0 w hb (F) k kh kl s tl lo sz) : Calls Tryz.prog 16 #[.pointer (some ⟨hb, 0, none⟩)] w (GivesNew (.agg #[.int .u64 (W64 kh), .int .u64 (W64 kl)]) w) := by
 obtain ⟨ib, sb, tv, c6, c7, c8, c9, c10, c11, q, c5, hr, hc, hL, rfl⟩ := h
 exact hKey_yes hr.c3 hr.c1 hr.c2
end Go.Proofs.YtidlpihoafnobaaGreatDoor.StSip
namespace Go.Proofs.YtidlpihoafnobaaGreatDoor.StSip
open Go.Proofs.YtidlpihoafnobaaGreatDoor.StG64
set_option maxRecDepth 100000
open Go.RowKit
theorem lanesV_of (s : ST) : lanesV s = .agg #[.int .u64 (W64 s.1), .int .u64 (W64 s.2.1), .int .u64 (W64 s.2.2.1), .int .u64 (W64 s.2.2.2)] := rfl
theorem HS.lanes {w0 w : World} {hb : Nat} {F : Nat → Prop} {k : Int} {kh kl : BitVec 64} {s : ST} {tl : Bytes} {lo : BitVec 64} {sz : Nat} (h : HS w0 w hb (F) k kh kl s tl lo sz) :
 Calls Tryz.prog 30 #[.pointer (some ⟨hb, 0, none⟩)] w (fun e w' => ∃ v, e = .returned (.tuple #[.agg #[.int .u64 (W64 s.1), .int .u64 (W64 s.2.1), .int .u64 (W64 s.2.2.1), .int .u64 (W64 s.2.2.2)], .int .u64 (W64 lo), v]) ∧ Owns w' w.heap.size v tl ∧ Fr No w w') := by
 obtain ⟨ib, sb, tv, c6, c7, c8, c9, c10, c11, q, c5, hr, hc, hL, rfl⟩ := h
 refine hLanes_of hr.c3 320 (fun W => by kernel_rfl) (calls_enter Tryz.func320 (by kernel_rfl) (by kernel_rfl)) s.1 s.2.1 s.2.2.1 s.2.2.2 lo (fun W hW => (Lanes_h (hL.no hW)).mono ?_)
 rintro e w' ⟨v, rfl, hO, hf⟩
 exact ⟨v, by rw [lanesV_of], hO, hf⟩
theorem HS.set_right {w0 w : World} {hb : Nat} {F : Nat → Prop} {k : Int} {kh kl : BitVec 64} {s : ST} {tl : Bytes} {lo : BitVec 64} {sz : Nat} (h : HS w0 w hb (F) k kh kl s tl lo sz) (x0 x1 x2 x3 lo2 : BitVec 64) (a : Option Addr) (n c : Nat) (hw : RightP x0 x1 x2 x3) (hfit : fitsB n lo2 8 = true) (l : Bytes) (hy : IsBytes w a n c l) (hn : n ≤ 1099511627776) :
 Calls Tryz.prog 25 #[.pointer (some ⟨hb, 0, none⟩), .agg #[.int .u64 (W64 x0), .int .u64 (W64 x1), .int .u64 (W64 x2), .int .u64 (W64 x3)], .int .u64 (W64 lo2), .slice a n c] w (fun e w' => e = .returned (.int .i64 0) ∧ ∃ F', HS w0 w' hb F' k kh kl (stateF x0 x1 x2 x3) l lo2 sz ∧ Fr F w w' ∧ ∀ x, F' x → F x ∨ w.heap.size ≤ x) := by
 obtain ⟨ib, sb, tv, c6, c7, c8, c9, c10, c11, q, c5, hr, hc, hL, rfl⟩ := h
 refine hSet_of hr.c3 322 (fun W => by kernel_rfl) (calls_enter Tryz.func322 (by kernel_rfl) (by kernel_rfl)) x0 x1 x2 x3 lo2 a n c true (F := Foot sb tv) (hL.on.con _ _ hr ⟨_, _, rfl, by decide⟩) (fun x hx => hL.lt x (.inr hx)) (fun W hW => (Set_right (hL.no hW) x0 x1 x2 x3 _ rfl lo2 a n c hw hfit l (hy.no hW) hn).mono ?_)
 rintro e w' ⟨tv2, rfl, hL', hf, hk⟩
 have hK := (hL.no hW).on.con
 have hf2 : Fr (Foot sb tv) W w' := hf.mono (fun x _ g => .inl g)
 have hr := hr.no hW
 have hc := (⟨hc.1.no hW, hc.2.no hW⟩ : Cap6 W k kh kl ib c6 c7 c8 c9 c10 c11 c5 sz)
 refine ⟨rfl, ⟨_, ⟨ib, sb, _, c6, c7, c8, c9, c10, c11, q, c5, hr.fr hf2 hK, ⟨hc.1.fr hf2 (hK) (by decide), hc.2.con hf2 (hK) (by decide)⟩, hL', rfl⟩, (hW.mono (fun x _ g => g.elim)).trans hf2 (fun x hx => .inl hx), fun x hx => ?_⟩, hf2⟩
 rcases hx with rfl | hx
 · exact .inl (.inl rfl)
 · exact .inr (Nat.le_trans hW.size (hk _ hx))
end Go.Proofs.YtidlpihoafnobaaGreatDoor.StSip
namespace Go.Proofs.YtidlpihoafnobaaGreatDoor.StSip
open Go.Proofs.YtidlpihoafnobaaGreatDoor.StG64
set_option maxRecDepth 100000
open Go.RowKit
theorem one_cl {w : World} {k : Int} {c3 c5 c7 sz : Nat} (r3 : Row1 w c3 3 (.int .i64 k)) (r5 : Row1 w c5 3 (.int .i64 (sz : Int))) (r7 : Row1 w c7 146 (.func (.func 164) #[] #[.pointer (some ⟨c5, 0, none⟩)])) (hsz : sz ≤ 16) (kh kl : BitVec 64) (a : Option Addr) (n c : Nat) (l : Bytes) (hy : IsBytes w a n c l) (hn : n ≤ 1099511627776) :
 Calls Tryz.prog 165 #[.agg #[.int .u64 (W64 kh), .int .u64 (W64 kl)], .slice a n c, .pointer (some ⟨c7, 0, none⟩), .pointer (some ⟨c3, 0, none⟩)] w (GivesBytes ((leb (oneLo k kh kl l) 8 ++ leb (oneHi k kh kl l) 8).take sz) w) := by
 generalize hbb : (leb (oneLo k kh kl l) 8 ++ leb (oneHi k kh kl l) 8).take sz = bb
 have HB := Lib.hid hbb
 clear hbb
 have hA := row2_new w 30 (.int .u64 (W64 kh)) (.int .u64 (W64 kl))
 have hF := (Fr.refl No w).alloc (.cells #[.int .u64 (W64 kh), .int .u64 (W64 kl)] 30)
 have hlt := hF.size
 replace r3 := r3.no hF
 replace r5 := r5.no hF
 replace r7 := r7.no hF
 replace hy := hy.no hF
 go_enter Tryz.func165, Tryz.ntmps165
 go_wp2_with fail
 generalize w.heap.size = ab at hA ⊢
 generalize w.alloc (.cells #[.int .u64 (W64 kh), .int .u64 (W64 kl)] 30) = w1 at hF hA hlt r3 r5 r7 hy ⊢
 refine rsq (by kernel_rfl) [(0, 1), (1, 1), (2, 1), (3, 1), (4, 0), (5, 0), (6, 1)] (by kernel_rfl) ?_
 have hS0 : Fr No w1 w1.drew := (Fr.refl No w1).drew
 iterate 4 refine tq _ rfl rfl (by intro w9 h9; have k0 := (hA.no h9).c0; have k1 := (hA.no h9).c1; have q7 := (r7.no h9).c0; have q3 := (r3.no h9).c0; clear h9; go_simp; try with_reducible rfl) ?_; simp only [es1, es2, es3]
 refine wpSeq_next rfl rfl (fun K hK => ?_)
 go_wp2_with fail
 refine (One_any k kh kl a n c l _ (hy.no hS0) hn).mono ?_
 rintro e w2 ⟨rfl, hf2⟩
 have hs2 : Fr No w1 w2 := (hS0).no hf2
 refine hK.out _ _ (fun _ => hs2) ?_
 clear hK K
 refine wpSeq_next rfl rfl (fun K hK => ?_)
 go_wp2_with fail
 refine (sipTell (r5.no hs2) hsz _ _).mono ?_
 rintro e w3 ⟨v3, rfl, hO3, hf3⟩
 rw [HB.out] at hO3
 obtain ⟨a3, c3', rfl, hb3, _⟩ := hO3.bytes
 have hs3 : Fr No w1 w3 := (hs2).no hf3
 refine hK.out _ _ (fun _ => hs3) ?_
 clear hK K
 refine tp _ rfl rfl ?_; simp only [es1, es2, es3]
 refine wpSeq_done ?_
 go_wp2_with fail
 go_ret
 exact ⟨_, rfl, hO3.mono (by have := hs2.size; omega), hF.no hs3⟩
theorem made_cl {w0 w : World} {k : Int} {c3 c5 c7 sz : Nat} (hk : IsK k) (r3 : Row1 w c3 3 (.int .i64 k)) (r5 : Row1 w c5 3 (.int .i64 (sz : Int))) (r7 : Row1 w c7 146 (.func (.func 164) #[] #[.pointer (some ⟨c5, 0, none⟩)])) (hw : Fr No w0 w) (kh kl : BitVec 64) :
 Calls Tryz.prog 167 #[.agg #[.int .u64 (W64 kh), .int .u64 (W64 kl)], .pointer (some ⟨c3, 0, none⟩), .pointer (some ⟨c7, 0, none⟩)] w (fun e w' => ∃ hb, e = .returned (.pointer (some ⟨hb, 0, none⟩)) ∧ ∃ F, HS w0 w' hb F k kh kl (firstF k kh kl) [] 0#64 sz ∧ (∀ x, F x → w.heap.size ≤ x) ∧ Fr No w w') := by
 have hA := row2_new w 30 (.int .u64 (W64 kh)) (.int .u64 (W64 kl))
 have hF := (Fr.refl No w).alloc (.cells #[.int .u64 (W64 kh), .int .u64 (W64 kl)] 30)
 have hlt := hF.size
 replace r3 := r3.no hF
 replace r5 := r5.no hF
 replace r7 := r7.no hF
 replace hw := hw.no hF
 replace hk := Lib.hid hk
 go_enter Tryz.func167, Tryz.ntmps167
 go_wp2_with fail
 generalize w.heap.size = ab at hA ⊢
 generalize w.alloc (.cells #[.int .u64 (W64 kh), .int .u64 (W64 kl)] 30) = w1 at hF hA hlt r3 r5 r7 hw ⊢
 refine rsq (by kernel_rfl) [(0, 1), (1, 1), (2, 1), (3, 1), (5, 1), (4, 0), (6, 0), (7, 1)] (by kernel_rfl) ?_
 have hS0 : Fr No w1 w1.drew := (Fr.refl No w1).drew
 iterate 5 refine tq _ rfl rfl (by intro w9 h9; have k0 := (hA.no h9).c0; have k1 := (hA.no h9).c1; have q7 := (r7.no h9).c0; have q3 := (r3.no h9).c0; clear h9; go_simp; try with_reducible rfl) ?_; simp only [es1, es2, es3]
 refine wpSeq_next rfl rfl (fun K hK => ?_)
 go_wp2_with fail
 refine (New_h k kh kl hk.out w0 _ (hw.no hS0)).mono ?_
 rintro e w2 ⟨ib, sb, q, rfl, hge1, hge2, hL2, hf2⟩
 have hs2 : Fr No w1 w2 := (hS0).no hf2
 have hz0 := (hS0).size
 refine hK.out _ _ (fun _ => hs2) ?_
 clear hK K
 refine wpSeq_next rfl rfl (fun K hK => ?_)
 go_wp2_with fail
 refine (wrapped_h hL2 (r5.no hs2)).mono ?_
 rintro e w3 ⟨hb3, rfl, hH3, hge3, hf3⟩
 have hs3 : Fr No w1 w3 := (hs2).no hf3
 refine hK.out _ _ (fun _ => hs3) ?_
 clear hK K
 refine tp _ rfl rfl ?_; simp only [es1, es2, es3]
 refine wpSeq_done ?_
 go_wp2_with fail
 go_ret
 refine ⟨hb3, rfl, _, hH3, fun x hx => ?_, hF.no hs3⟩
 rcases hx with rfl | hx
 · omega
 · simp [Value.ownBlock] at hx
theorem row6_no {w w' : World} {b : Nat} {T : TypeId} {v0 v1 v2 v3 v4 v5 : Value} (h : Row6 w b T v0 v1 v2 v3 v4 v5) (k : Fr No w w') : Row6 w' b T v0 v1 v2 v3 v4 v5 := k.heap (fun h => h) h
theorem sips_any (k : Int) (nm : ByteArray) (sz : Nat) (w : World) : Calls Tryz.prog 96 #[.int .i64 k, .string nm, .int .i64 (sz : Int)] w (fun e w' => ∃ c3 c5 c7, e = .returned (.agg #[.string nm, .int .i64 (sz : Int), .int .i64 8, .int .i64 128, .func (.func 165) #[] #[.pointer (some ⟨c7, 0, none⟩), .pointer (some ⟨c3, 0, none⟩)], .func (.func 167) #[] #[.pointer (some ⟨c3, 0, none⟩), .pointer (some ⟨c7, 0, none⟩)]]) ∧ Row1 w' c3 3 (.int .i64 k) ∧ Row1 w' c5 3 (.int .i64 (sz : Int)) ∧ Row1 w' c7 146 (.func (.func 164) #[] #[.pointer (some ⟨c5, 0, none⟩)]) ∧ Fr No w w') := by
 have r3 := ((row1_new w 3 (.int .i64 k)).up (.cells #[.int .i64 (sz : Int)] 3)).up (.cells #[.string ⟨#[]⟩, .int .i64 0, .int .i64 0, .int .i64 0, .nilFunc, .nilFunc] 89)
 have r5 := (row1_new (w.alloc (.cells #[.int .i64 k] 3)) 3 (.int .i64 (sz : Int))).up (.cells #[.string ⟨#[]⟩, .int .i64 0, .int .i64 0, .int .i64 0, .nilFunc, .nilFunc] 89)
 have hZ := row6_new ((w.alloc (.cells #[.int .i64 k] 3)).alloc (.cells #[.int .i64 (sz : Int)] 3)) 89 (.string ⟨#[]⟩) (.int .i64 0) (.int .i64 0) (.int .i64 0) .nilFunc .nilFunc
 have hF := (((Fr.refl No w).alloc (.cells #[.int .i64 k] 3)).alloc (.cells #[.int .i64 (sz : Int)] 3)).alloc (.cells #[.string ⟨#[]⟩, .int .i64 0, .int .i64 0, .int .i64 0, .nilFunc, .nilFunc] 89)
 simp only [World.size_alloc] at r5 hZ
 go_enter Tryz.func96, Tryz.ntmps96
 go_upto_region 1 with fail
 have hlt := hF.size
 obtain ⟨wz, hwz⟩ : ∃ wz : Nat, wz = w.heap.size := ⟨_, rfl⟩
 generalize (((w.alloc (.cells #[.int .i64 k] 3)).alloc (.cells #[.int .i64 (sz : Int)] 3)).alloc (.cells #[.string ⟨#[]⟩, .int .i64 0, .int .i64 0, .int .i64 0, .nilFunc, .nilFunc] 89)) = w3 at r3 r5 hF hlt hZ ⊢
 have hkge : wz ≤ w.heap.size + 1 + 1 := by omega
 generalize w.heap.size + 1 + 1 = kb at hZ hkge ⊢
 generalize w.heap.size + 1 = c5 at r5 ⊢
 obtain ⟨c3, e3⟩ : ∃ c3, c3 = w.heap.size := ⟨_, rfl⟩
 rw [← e3] at r3 ⊢
 clear e3
 have hkge2 : w.heap.size ≤ kb := by omega
 clear hwz hkge
 go_upto_region 2 with fail
 have r7 := row1_new w3 146 (.func (.func 164) #[] #[.pointer (some ⟨c5, 0, none⟩)])
 have hF7 := (Fr.refl No w3).alloc (.cells #[.func (.func 164) #[] #[.pointer (some ⟨c5, 0, none⟩)]] 146)
 replace r3 := r3.no hF7
 replace r5 := r5.no hF7
 replace hZ := row6_no hZ hF7
 replace hF := hF.no hF7
 clear hF7 hlt
 generalize w3.heap.size = c7 at r7 ⊢
 generalize w3.alloc (.cells #[.func (.func 164) #[] #[.pointer (some ⟨c5, 0, none⟩)]] 146) = w6 at r3 r5 r7 hZ hF ⊢
 have q5 := r5.c0
 have z0 := hZ.c0
 have z1 := hZ.c1
 have z2 := hZ.c2
 have z3 := hZ.c3
 have z4 := hZ.c4
 have z5 := hZ.c5
 have y0 := hZ.fz 0
 have y1 := hZ.fz 1
 have y2 := hZ.fz 2
 have y3 := hZ.fz 3
 have y4 := hZ.fz 4
 have y5 := hZ.fz 5
 go_wp2_with fail
 have hR := row_put6 hZ (.string nm) (.int .i64 (sz : Int)) (.int .i64 8) (.int .i64 128) (.func (.func 165) #[] #[.pointer (some ⟨c7, 0, none⟩), .pointer (some ⟨c3, 0, none⟩)]) (.func (.func 167) #[] #[.pointer (some ⟨c3, 0, none⟩), .pointer (some ⟨c7, 0, none⟩)])
 have hP := fr_put6 w6 kb (.string nm) (.int .i64 (sz : Int)) (.int .i64 8) (.int .i64 128) (.func (.func 165) #[] #[.pointer (some ⟨c7, 0, none⟩), .pointer (some ⟨c3, 0, none⟩)]) (.func (.func 167) #[] #[.pointer (some ⟨c3, 0, none⟩), .pointer (some ⟨c7, 0, none⟩)])
 have cd0 := hR.c0
 have cd1 := hR.c1
 have cd2 := hR.c2
 have cd3 := hR.c3
 have cd4 := hR.c4
 have cd5 := hR.c5
 refine bodyPost_ret (v := .agg #[.string nm, .int .i64 (sz : Int), .int .i64 8, .int .i64 128, .func (.func 165) #[] #[.pointer (some ⟨c7, 0, none⟩), .pointer (some ⟨c3, 0, none⟩)], .func (.func 167) #[] #[.pointer (some ⟨c3, 0, none⟩), .pointer (some ⟨c7, 0, none⟩)]]) (by simp [results, Tryz.results96, go_sem, cd0, cd1, cd2, cd3, cd4, cd5]) rfl ?_
 exact ⟨c3, c5, c7, rfl, r3.past hZ hP, r5.past hZ hP, r7.past hZ hP, hF.trans hP (fun x hx => .inr (by omega))⟩
end Go.Proofs.YtidlpihoafnobaaGreatDoor.StSip
