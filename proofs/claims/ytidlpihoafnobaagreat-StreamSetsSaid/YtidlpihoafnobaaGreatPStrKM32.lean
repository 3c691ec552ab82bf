/- StrCaps StrHM32 StrKM32 -/
import Derived.Deep.Cut
import Derived.Test.YtidlpihoafnobaaGreatPAllM32
set_option linter.unusedVariables false
set_option linter.unusedSimpArgs false
namespace Go.Proofs.YtidlpihoafnobaaGreat
set_option maxRecDepth 100000
open Go.RowKit
def Row1 (w : World) (b : Nat) (T : TypeId) (v : Value) : Prop := w.heap[b]? = some (.cells #[v] T (0, 0))
section
variable {w w' : World} {b : Nat} {T : TypeId} {v v0 v1 : Value}
theorem Row1.c0 (h : Row1 w b T v) : w.cell? ⟨b, 0, none⟩ = some v := by rw [cell_of_row w b 0 _ _ _ h]; rfl
theorem Row1.no (h : Row1 w b T v) (k : Fr No w w') : Row1 w' b T v := k.heap (fun h => h) h
theorem Row1.con {F : Nat → Prop} (h : Row1 w b T v) (k : Fr F w w') (c : Keeps w F) (hT : wrT.contains T = false) : Row1 w' b T v := c.fr k h ⟨_, _, rfl, hT⟩
theorem Row2.con {F : Nat → Prop} (h : Row2 w b T v0 v1) (k : Fr F w w') (c : Keeps w F) (hT : wrT.contains T = false) : Row2 w' b T v0 v1 := c.fr k h ⟨_, _, rfl, hT⟩
theorem row1_new (w : World) (T : TypeId) (v : Value) : Row1 (w.alloc (.cells #[v] T)) w.heap.size T v := heap_alloc_new w _
theorem Row1.up (h : Row1 w b T v) (o : Obj) : Row1 (w.alloc o) b T v := h.no ((Fr.refl No w).alloc o)
theorem Row2.up (h : Row2 w b T v0 v1) (o : Obj) : Row2 (w.alloc o) b T v0 v1 := h.no ((Fr.refl No w).alloc o)
end
def Row6 (w : World) (b : Nat) (T : TypeId) (v0 v1 v2 v3 v4 v5 : Value) : Prop := w.heap[b]? = some (.cells #[v0, v1, v2, v3, v4, v5] T (0, 0))
section
variable {w w' : World} {b : Nat} {T : TypeId} {v0 v1 v2 v3 v4 v5 : Value}
theorem Row6.c0 (h : Row6 w b T v0 v1 v2 v3 v4 v5) : w.cell? ⟨b, 0, none⟩ = some v0 := by rw [cell_of_row w b 0 _ _ _ h]; rfl
theorem Row6.c1 (h : Row6 w b T v0 v1 v2 v3 v4 v5) : w.cell? ⟨b, 1, none⟩ = some v1 := by rw [cell_of_row w b 1 _ _ _ h]; rfl
theorem Row6.c2 (h : Row6 w b T v0 v1 v2 v3 v4 v5) : w.cell? ⟨b, 2, none⟩ = some v2 := by rw [cell_of_row w b 2 _ _ _ h]; rfl
theorem Row6.c3 (h : Row6 w b T v0 v1 v2 v3 v4 v5) : w.cell? ⟨b, 3, none⟩ = some v3 := by rw [cell_of_row w b 3 _ _ _ h]; rfl
theorem Row6.c4 (h : Row6 w b T v0 v1 v2 v3 v4 v5) : w.cell? ⟨b, 4, none⟩ = some v4 := by rw [cell_of_row w b 4 _ _ _ h]; rfl
theorem Row6.c5 (h : Row6 w b T v0 v1 v2 v3 v4 v5) : w.cell? ⟨b, 5, none⟩ = some v5 := by rw [cell_of_row w b 5 _ _ _ h]; rfl
theorem Row6.fz (h : Row6 w b T v0 v1 v2 v3 v4 v5) (k : Nat) : w.frozen? ⟨b, k, none⟩ = false := frozen_of_row w b k _ _ h
theorem Row6.put0 (h : Row6 w b T v0 v1 v2 v3 v4 v5) (x : Value) : Row6 (w.setCell ⟨b, 0, none⟩ x) b T x v1 v2 v3 v4 v5 := by unfold Row6; rw [heap_setCell_same w b 0 _ _ x h]; rfl
theorem Row6.put1 (h : Row6 w b T v0 v1 v2 v3 v4 v5) (x : Value) : Row6 (w.setCell ⟨b, 1, none⟩ x) b T v0 x v2 v3 v4 v5 := by unfold Row6; rw [heap_setCell_same w b 1 _ _ x h]; rfl
theorem Row6.put2 (h : Row6 w b T v0 v1 v2 v3 v4 v5) (x : Value) : Row6 (w.setCell ⟨b, 2, none⟩ x) b T v0 v1 x v3 v4 v5 := by unfold Row6; rw [heap_setCell_same w b 2 _ _ x h]; rfl
theorem Row6.put3 (h : Row6 w b T v0 v1 v2 v3 v4 v5) (x : Value) : Row6 (w.setCell ⟨b, 3, none⟩ x) b T v0 v1 v2 x v4 v5 := by unfold Row6; rw [heap_setCell_same w b 3 _ _ x h]; rfl
theorem Row6.put4 (h : Row6 w b T v0 v1 v2 v3 v4 v5) (x : Value) : Row6 (w.setCell ⟨b, 4, none⟩ x) b T v0 v1 v2 v3 x v5 := by unfold Row6; rw [heap_setCell_same w b 4 _ _ x h]; rfl
theorem Row6.put5 (h : Row6 w b T v0 v1 v2 v3 v4 v5) (x : Value) : Row6 (w.setCell ⟨b, 5, none⟩ x) b T v0 v1 v2 v3 v4 x := by unfold Row6; rw [heap_setCell_same w b 5 _ _ x h]; rfl
theorem row_put6 (h : Row6 w b T v0 v1 v2 v3 v4 v5) (x0 x1 x2 x3 x4 x5 : Value) : Row6 ((((((w.setCell ⟨b, 0, none⟩ x0).setCell ⟨b, 1, none⟩ x1).setCell ⟨b, 2, none⟩ x2).setCell ⟨b, 3, none⟩ x3).setCell ⟨b, 4, none⟩ x4).setCell ⟨b, 5, none⟩ x5) b T x0 x1 x2 x3 x4 x5 := ((((((h.put0 x0).put1 x1).put2 x2).put3 x3).put4 x4).put5 x5)
theorem fr_put6 (w : World) (b : Nat) (x0 x1 x2 x3 x4 x5 : Value) : Fr (fun x => x = b) w ((((((w.setCell ⟨b, 0, none⟩ x0).setCell ⟨b, 1, none⟩ x1).setCell ⟨b, 2, none⟩ x2).setCell ⟨b, 3, none⟩ x3).setCell ⟨b, 4, none⟩ x4).setCell ⟨b, 5, none⟩ x5) := (((((((Fr.refl (fun x => x = b) w).setCell (p := ⟨b, 0, none⟩) (.inl rfl) x0).setCell (p := ⟨b, 1, none⟩) (.inl rfl) x1).setCell (p := ⟨b, 2, none⟩) (.inl rfl) x2).setCell (p := ⟨b, 3, none⟩) (.inl rfl) x3).setCell (p := ⟨b, 4, none⟩) (.inl rfl) x4).setCell (p := ⟨b, 5, none⟩) (.inl rfl) x5)
theorem row6_new (w : World) (T : TypeId) (v0 v1 v2 v3 v4 v5 : Value) : Row6 (w.alloc (.cells #[v0, v1, v2, v3, v4, v5] T)) w.heap.size T v0 v1 v2 v3 v4 v5 := heap_alloc_new w _
end
theorem Row1.past {w w' : World} {c b : Nat} {T U : TypeId} {v v0 v1 v2 v3 v4 v5 : Value} (h : Row1 w c T v) (hk : Row6 w b U v0 v1 v2 v3 v4 v5) (f : Fr (fun x => x = b) w w') : Row1 w' c T v :=
 f.heap (fun e => by subst e; unfold Row1 at h; unfold Row6 at hk; rw [hk] at h; simp at h) h
structure Caps (w : World) (Th Ts Tb Tc : TypeId) (k : Int) (kh kl : BitVec 64) (ib : Nat) (sf bf cf : Value) (c6 c7 c8 c9 c10 c11 : Nat) : Prop where
 k6 : Row1 w c6 3 (.int .i64 k)
 k7 : Row2 w c7 24 (.int .u64 (W64 kh)) (.int .u64 (W64 kl))
 k8 : Row1 w c8 Th (.pointer (some ⟨ib, 0, none⟩))
 k9 : Row1 w c9 Ts sf
 k10 : Row1 w c10 Tb bf
 k11 : Row1 w c11 Tc cf
section
variable {w w' : World} {Th Ts Tb Tc : TypeId} {k : Int} {kh kl : BitVec 64} {ib : Nat} {sf bf cf : Value} {c6 c7 c8 c9 c10 c11 : Nat}
theorem Caps.no (h : Caps w Th Ts Tb Tc k kh kl ib sf bf cf c6 c7 c8 c9 c10 c11) (f : Fr No w w') : Caps w' Th Ts Tb Tc k kh kl ib sf bf cf c6 c7 c8 c9 c10 c11 := ⟨h.k6.no f, h.k7.no f, h.k8.no f, h.k9.no f, h.k10.no f, h.k11.no f⟩
theorem Caps.fr {F : Nat → Prop} (h : Caps w Th Ts Tb Tc k kh kl ib sf bf cf c6 c7 c8 c9 c10 c11) (f : Fr F w w') (c : Keeps w F) (hT : (wrT.contains Th || wrT.contains Ts || wrT.contains Tb || wrT.contains Tc) = false) : Caps w' Th Ts Tb Tc k kh kl ib sf bf cf c6 c7 c8 c9 c10 c11 := by
 simp only [Bool.or_eq_false_iff] at hT
 obtain ⟨⟨⟨a, b⟩, d⟩, e⟩ := hT
 exact ⟨h.k6.con f c (by decide), h.k7.con f c (by decide), h.k8.con f c a, h.k9.con f c b, h.k10.con f c d, h.k11.con f c e⟩
end
theorem calls_enter {P : Program} {f : FuncId} {fn : Func} (hf : P.funcs[f]? = some fn) (hname : (fn.name == "runtime.NumGoroutine") = false) (hb : fn.body.isSome = true) (args : Array Value) (w : World) : Sem.run P (callFunc f args) w = .ok (.enter f args) w := by
 obtain ⟨c, hc⟩ := Option.isSome_iff_exists.1 hb
 have h1 : fn.name ≠ "runtime.NumGoroutine" := by simpa using hname
 simp [callFunc, hf, h1, hc, mark]
end Go.Proofs.YtidlpihoafnobaaGreat
namespace Go.Proofs.YtidlpihoafnobaaGreat.StM32
set_option maxRecDepth 100000
open Go.RowKit
abbrev Cap6 (w : World) (k : Int) (kh kl : BitVec 64) (ib c6 c7 c8 c9 c10 c11 : Nat) : Prop := Caps w 91 94 96 97 k kh kl ib (.func (.func 61) #[] #[]) (.func (.func 62) #[] #[]) (.func (.func 63) #[] #[]) c6 c7 c8 c9 c10 c11
def HS (w0 w : World) (hb : Nat) (F : Nat → Prop) (k : Int) (kh kl : BitVec 64) (s : ST) (tl : Bytes) (lo : BitVec 64) : Prop :=
 ∃ ib sb tv c6 c7 c8 c9 c10 c11, HRow w hb k kh kl (.iface 91 (.pointer (some ⟨ib, 0, none⟩))) (.func (.func 169) #[] #[.pointer (some ⟨c10, 0, none⟩), .pointer (some ⟨c9, 0, none⟩), .pointer (some ⟨c8, 0, none⟩)]) (.func (.func 170) #[] #[.pointer (some ⟨c6, 0, none⟩), .pointer (some ⟨c7, 0, none⟩), .pointer (some ⟨c11, 0, none⟩), .pointer (some ⟨c8, 0, none⟩), .pointer (some ⟨c9, 0, none⟩), .pointer (some ⟨c10, 0, none⟩)]) ∧ Cap6 w k kh kl ib c6 c7 c8 c9 c10 c11 ∧ HLive w0 w ib sb (kl.setWidth 32) s tl lo tv ∧ F = Foot sb tv
theorem wrapped_h {w0 w : World} {k : Int} {kh kl : BitVec 64} {ib sb : Nat} {s : ST} {tl : Bytes} {lo : BitVec 64} {tv : Value} (h : HLive w0 w ib sb (kl.setWidth 32) s tl lo tv) :
 Calls Tryz.prog 106 #[.int .i64 k, .agg #[.int .u64 (W64 kh), .int .u64 (W64 kl)], .pointer (some ⟨ib, 0, none⟩), .func (.func 61) #[] #[], .func (.func 62) #[] #[], .func (.func 63) #[] #[]] w (fun e w' => ∃ hb, e = .returned (.pointer (some ⟨hb, 0, none⟩)) ∧ HS w0 w' hb (Foot sb tv) k kh kl s tl lo ∧ w.heap.size ≤ hb ∧ Fr No w w') := by
 have r6 := row1_new w 3 (.int .i64 k)
 have r7 := row2_new (w.alloc (.cells #[.int .i64 k] 3)) 24 (.int .u64 (W64 kh)) (.int .u64 (W64 kl))
 replace r6 := r6.up (.cells #[.int .u64 (W64 kh), .int .u64 (W64 kl)] 24)
 have r8 := row1_new ((w.alloc (.cells #[.int .i64 k] 3)).alloc (.cells #[.int .u64 (W64 kh), .int .u64 (W64 kl)] 24)) 91 (.pointer (some ⟨ib, 0, none⟩))
 replace r6 := r6.up (.cells #[.pointer (some ⟨ib, 0, none⟩)] 91)
 replace r7 := r7.up (.cells #[.pointer (some ⟨ib, 0, none⟩)] 91)
 have r9 := row1_new (((w.alloc (.cells #[.int .i64 k] 3)).alloc (.cells #[.int .u64 (W64 kh), .int .u64 (W64 kl)] 24)).alloc (.cells #[.pointer (some ⟨ib, 0, none⟩)] 91)) 94 (.func (.func 61) #[] #[])
 replace r6 := r6.up (.cells #[.func (.func 61) #[] #[]] 94)
 replace r7 := r7.up (.cells #[.func (.func 61) #[] #[]] 94)
 replace r8 := r8.up (.cells #[.func (.func 61) #[] #[]] 94)
 have r10 := row1_new ((((w.alloc (.cells #[.int .i64 k] 3)).alloc (.cells #[.int .u64 (W64 kh), .int .u64 (W64 kl)] 24)).alloc (.cells #[.pointer (some ⟨ib, 0, none⟩)] 91)).alloc (.cells #[.func (.func 61) #[] #[]] 94)) 96 (.func (.func 62) #[] #[])
 replace r6 := r6.up (.cells #[.func (.func 62) #[] #[]] 96)
 replace r7 := r7.up (.cells #[.func (.func 62) #[] #[]] 96)
 replace r8 := r8.up (.cells #[.func (.func 62) #[] #[]] 96)
 replace r9 := r9.up (.cells #[.func (.func 62) #[] #[]] 96)
 have r11 := row1_new (((((w.alloc (.cells #[.int .i64 k] 3)).alloc (.cells #[.int .u64 (W64 kh), .int .u64 (W64 kl)] 24)).alloc (.cells #[.pointer (some ⟨ib, 0, none⟩)] 91)).alloc (.cells #[.func (.func 61) #[] #[]] 94)).alloc (.cells #[.func (.func 62) #[] #[]] 96)) 97 (.func (.func 63) #[] #[])
 replace r6 := r6.up (.cells #[.func (.func 63) #[] #[]] 97)
 replace r7 := r7.up (.cells #[.func (.func 63) #[] #[]] 97)
 replace r8 := r8.up (.cells #[.func (.func 63) #[] #[]] 97)
 replace r9 := r9.up (.cells #[.func (.func 63) #[] #[]] 97)
 replace r10 := r10.up (.cells #[.func (.func 63) #[] #[]] 97)
 have hF := ((((((Fr.refl No w).alloc (.cells #[.int .i64 k] 3)).alloc (.cells #[.int .u64 (W64 kh), .int .u64 (W64 kl)] 24)).alloc (.cells #[.pointer (some ⟨ib, 0, none⟩)] 91)).alloc (.cells #[.func (.func 61) #[] #[]] 94)).alloc (.cells #[.func (.func 62) #[] #[]] 96)).alloc (.cells #[.func (.func 63) #[] #[]] 97)
 simp only [World.size_alloc] at r6 r7 r8 r9 r10 r11
 have g6 := r6.c0
 have g7 := r7.c0
 have g7' := r7.c1
 have g8 := r8.c0
 go_enter Tryz.func106, Tryz.ntmps106
 go_upto_region 1 with fail
 have hlt := hF.size
 generalize ((((((w.alloc (.cells #[.int .i64 k] 3)).alloc (.cells #[.int .u64 (W64 kh), .int .u64 (W64 kl)] 24)).alloc (.cells #[.pointer (some ⟨ib, 0, none⟩)] 91)).alloc (.cells #[.func (.func 61) #[] #[]] 94)).alloc (.cells #[.func (.func 62) #[] #[]] 96)).alloc (.cells #[.func (.func 63) #[] #[]] 97)) = w6 at r6 r7 r8 r9 r10 r11 hF g6 g7 g7' g8 hlt ⊢
 generalize w.heap.size + 1 + 1 + 1 + 1 + 1 = c11 at r11 ⊢
 generalize w.heap.size + 1 + 1 + 1 + 1 = c10 at r10 ⊢
 generalize w.heap.size + 1 + 1 + 1 = c9 at r9 ⊢
 generalize w.heap.size + 1 + 1 = c8 at r8 g8 ⊢
 generalize w.heap.size + 1 = c7 at r7 g7 g7' ⊢
 obtain ⟨c6, e6⟩ : ∃ c6, c6 = w.heap.size := ⟨_, rfl⟩
 rw [← e6] at r6 g6 ⊢
 clear e6
 go_wp2_with fail
 go_ret
 have hv := (Fr.refl No w6).alloc (.cells #[.int .i64 k, .int .u64 (W64 kh), .int .u64 (W64 kl), .iface 91 (.pointer (some ⟨ib, 0, none⟩)), .func (.func 169) #[] #[.pointer (some ⟨c10, 0, none⟩), .pointer (some ⟨c9, 0, none⟩), .pointer (some ⟨c8, 0, none⟩)], .func (.func 170) #[] #[.pointer (some ⟨c6, 0, none⟩), .pointer (some ⟨c7, 0, none⟩), .pointer (some ⟨c11, 0, none⟩), .pointer (some ⟨c8, 0, none⟩), .pointer (some ⟨c9, 0, none⟩), .pointer (some ⟨c10, 0, none⟩)]] 74)
 exact ⟨w6.heap.size, rfl, ⟨ib, sb, tv, c6, c7, c8, c9, c10, c11, heap_alloc_new w6 _, ⟨r6.no hv, r7.no hv, r8.no hv, r9.no hv, r10.no hv, r11.no hv⟩, (h.no hF).no hv, rfl⟩, hlt, hF.no hv⟩
section
variable {w0 w w' : World} {hb : Nat} {F : Nat → Prop} {k : Int} {kh kl : BitVec 64} {s : ST} {tl : Bytes} {lo : BitVec 64}
theorem HS.fr (h : HS w0 w hb (F) k kh kl s tl lo) : Fr No w0 w := by
 obtain ⟨ib, sb, tv, c6, c7, c8, c9, c10, c11, hr, hc, hL, rfl⟩ := h
 exact hL.fr
theorem HS.lt (h : HS w0 w hb (F) k kh kl s tl lo) : ∀ x, F x → x < w.heap.size := by
 obtain ⟨ib, sb, tv, c6, c7, c8, c9, c10, c11, hr, hc, hL, rfl⟩ := h
 exact fun x hx => hL.lt x (.inr hx)
theorem HS.con (h : HS w0 w hb (F) k kh kl s tl lo) : Keeps w F := by
 obtain ⟨ib, sb, tv, c6, c7, c8, c9, c10, c11, hr, hc, hL, rfl⟩ := h
 exact hL.on.con
theorem HS.no (h : HS w0 w hb (F) k kh kl s tl lo) (f : Fr No w w') : HS w0 w' hb (F) k kh kl s tl lo := by
 obtain ⟨ib, sb, tv, c6, c7, c8, c9, c10, c11, hr, hc, hL, rfl⟩ := h
 exact ⟨ib, sb, _, c6, c7, c8, c9, c10, c11, hr.no f, (hc.no f), hL.no f, rfl⟩
theorem HS.keep {G : Nat → Prop} (h : HS w0 w hb (F) k kh kl s tl lo) (f : Fr G w w') (hG : ∀ x, G x → ¬ F x) (hK : Keeps w G) (hA : ∀ x, G x → w0.heap.size ≤ x) : HS w0 w' hb (F) k kh kl s tl lo := by
 obtain ⟨ib, sb, tv, c6, c7, c8, c9, c10, c11, hr, hc, hL, rfl⟩ := h
 refine ⟨ib, sb, _, c6, c7, c8, c9, c10, c11, hr.fr f hK, (hc.fr f (hK) (by decide)), hL.keep f (fun x hx => ?_) hA, rfl⟩
 rintro (rfl | g)
 · exact hK _ _ hL.hc ⟨_, _, rfl, by decide⟩ hx
 · exact hG x hx g
end
theorem HS.kind {w0 w : World} {hb : Nat} {F : Nat → Prop} {k : Int} {kh kl : BitVec 64} {s : ST} {tl : Bytes} {lo : BitVec 64} (h : HS w0 w hb (F) k kh kl s tl lo) : Calls Tryz.prog 21 #[.pointer (some ⟨hb, 0, none⟩)] w (Gives (.int .i64 k) w) := by
 obtain ⟨ib, sb, tv, c6, c7, c8, c9, c10, c11, hr, hc, hL, rfl⟩ := h
 exact hKind_yes hr.c3 hr.c0
theorem HS.key {w0 w : World} {hb : Nat} {F : Nat → Prop} {k : Int} {kh kl : BitVec 64} {s : ST} {tl : Bytes} {lo : BitVec 64} (h : HS w0 w hb (F) k kh kl s tl lo) : Calls Tryz.prog 22 #[.pointer (some ⟨hb, 0, none⟩)] w (GivesNew (.agg #[.int .u64 (W64 kh), .int .u64 (W64 kl)]) w) := by
 obtain ⟨ib, sb, tv, c6, c7, c8, c9, c10, c11, hr, hc, hL, rfl⟩ := h
 exact hKey_yes hr.c3 hr.c1 hr.c2
end Go.Proofs.YtidlpihoafnobaaGreat.StM32
namespace Go.Proofs.YtidlpihoafnobaaGreat.StM32
set_option maxRecDepth 100000
open Go.RowKit
theorem one_cl {w : World} {c16 c13 : Nat} (r16 : Row1 w c16 96 (.func (.func 62) #[] #[])) (r13 : Row1 w c13 92 (.func (.func 59) #[] #[])) (kh kl : BitVec 64) (a : Option Addr) (n c : Nat) (l : Bytes) (hy : IsBytes w a n c l) (hn : n ≤ 1099511627776) :
 Calls Tryz.prog 104 #[.agg #[.int .u64 (W64 kh), .int .u64 (W64 kl)], .slice a n c, .pointer (some ⟨c16, 0, none⟩), .pointer (some ⟨c13, 0, none⟩)] w (GivesBytes (leb ((oneF (kl.setWidth 32) l).setWidth 64) 4) w) := by
 generalize hbb : leb ((oneF (kl.setWidth 32) l).setWidth 64) 4 = bb
 have HB := Lib.hid hbb
 clear hbb
 have hA := row2_new w 24 (.int .u64 (W64 kh)) (.int .u64 (W64 kl))
 have hF := (Fr.refl No w).alloc (.cells #[.int .u64 (W64 kh), .int .u64 (W64 kl)] 24)
 have hlt := hF.size
 replace r16 := r16.no hF
 replace r13 := r13.no hF
 replace hy := hy.no hF
 obtain ⟨wz, hwz⟩ : ∃ wz : Nat, wz = w.heap.size := ⟨_, rfl⟩
 have hge : wz ≤ w.heap.size := by omega
 go_enter Tryz.func104, Tryz.ntmps104
 clear hwz
 go_wp2_with fail
 generalize w.heap.size = ab at hA ⊢
 generalize w.alloc (.cells #[.int .u64 (W64 kh), .int .u64 (W64 kl)] 24) = w1 at hF hA hlt r16 r13 hy ⊢
 refine rsq (by kernel_rfl) [(0, 1), (1, 1), (2, 1), (3, 1), (4, 1), (5, 1), (6, 0), (7, 0), (8, 1)] (by kernel_rfl) ?_
 have hS0 : Fr No w1 w1.drew := (Fr.refl No w1).drew
 iterate 6 refine tq _ rfl rfl (by intro w9 h9; have k0 := (hA.no h9).c0; have k1 := (hA.no h9).c1; have q16 := (r16.no h9).c0; have q13 := (r13.no h9).c0; clear h9; go_simp; try with_reducible rfl) ?_; simp only [es1, es2, es3]
 refine wpSeq_next rfl rfl (fun K hK => ?_)
 go_wp2_with fail
 refine (One_any _ a n c l _ (hy.no hS0) hn).mono ?_
 rintro e w2 ⟨rfl, hf2⟩
 have hs2 : Fr No w1 w2 := (hS0).no hf2
 refine hK.out _ _ (fun _ => hs2) ?_
 clear hK K
 refine wpSeq_next rfl rfl (fun K hK => ?_)
 go_wp2_with fail
 refine (four_any _ _).mono ?_
 rintro e w3 ⟨v3, rfl, hO3, hf3⟩
 rw [HB.out] at hO3
 obtain ⟨a3, c3, rfl, hb3, _⟩ := hO3.bytes
 have hs3 : Fr No w1 w3 := (hs2).no hf3
 refine hK.out _ _ (fun _ => hs3) ?_
 clear hK K
 refine tp _ rfl rfl ?_; simp only [es1, es2, es3]
 refine wpSeq_done ?_
 go_wp2_with fail
 go_ret
 exact ⟨_, rfl, hO3.mono (by have := hs2.size; omega), hF.no hs3⟩
theorem made_cl {w0 w : World} {k : Int} {c9 c14 c15 c16 c17 : Nat} (r9 : Row1 w c9 3 (.int .i64 k)) (r14 : Row1 w c14 93 (.func (.func 60) #[] #[])) (r15 : Row1 w c15 94 (.func (.func 61) #[] #[])) (r16 : Row1 w c16 96 (.func (.func 62) #[] #[])) (r17 : Row1 w c17 97 (.func (.func 63) #[] #[])) (hw : Fr No w0 w) (kh kl : BitVec 64) :
 Calls Tryz.prog 105 #[.agg #[.int .u64 (W64 kh), .int .u64 (W64 kl)], .pointer (some ⟨c9, 0, none⟩), .pointer (some ⟨c14, 0, none⟩), .pointer (some ⟨c15, 0, none⟩), .pointer (some ⟨c16, 0, none⟩), .pointer (some ⟨c17, 0, none⟩)] w (fun e w' => ∃ hb, e = .returned (.pointer (some ⟨hb, 0, none⟩)) ∧ ∃ F, HS w0 w' hb F k kh kl (firstF (kl.setWidth 32)) [] 0#64 ∧ (∀ x, F x → w.heap.size ≤ x) ∧ Fr No w w') := by
 have hA := row2_new w 24 (.int .u64 (W64 kh)) (.int .u64 (W64 kl))
 have hF := (Fr.refl No w).alloc (.cells #[.int .u64 (W64 kh), .int .u64 (W64 kl)] 24)
 have hlt := hF.size
 replace r9 := r9.no hF
 replace r14 := r14.no hF
 replace r15 := r15.no hF
 replace r16 := r16.no hF
 replace r17 := r17.no hF
 replace hw := hw.no hF
 go_enter Tryz.func105, Tryz.ntmps105
 go_wp2_with fail
 generalize w.heap.size = ab at hA ⊢
 generalize w.alloc (.cells #[.int .u64 (W64 kh), .int .u64 (W64 kl)] 24) = w1 at hF hA hlt r9 r14 r15 r16 r17 hw ⊢
 refine rsq (by kernel_rfl) [(0, 1), (1, 1), (2, 1), (3, 1), (4, 1), (5, 1), (7, 1), (8, 1), (9, 1), (6, 0), (10, 0), (11, 1)] (by kernel_rfl) ?_
 have hS0 : Fr No w1 w1.drew := (Fr.refl No w1).drew
 iterate 9 refine tq _ rfl rfl (by intro w9 h9; have k0 := (hA.no h9).c0; have k1 := (hA.no h9).c1; have q9 := (r9.no h9).c0; have q14 := (r14.no h9).c0; have q15 := (r15.no h9).c0; have q16 := (r16.no h9).c0; have q17 := (r17.no h9).c0; clear h9; go_simp; try with_reducible rfl) ?_; simp only [es1, es2, es3]
 refine wpSeq_next rfl rfl (fun K hK => ?_)
 go_wp2_with fail
 refine (New_h (kl.setWidth 32) w0 _ (hw.no hS0)).mono ?_
 rintro e w2 ⟨ib, sb, rfl, hge1, hge2, hL2, hf2⟩
 have hs2 : Fr No w1 w2 := (hS0).no hf2
 have hz0 := (hS0).size
 refine hK.out _ _ (fun _ => hs2) ?_
 clear hK K
 refine wpSeq_next rfl rfl (fun K hK => ?_)
 go_wp2_with fail
 refine (wrapped_h hL2).mono ?_
 rintro e w3 ⟨hb3, rfl, hH3, hge3, hf3⟩
 have hs3 : Fr No w1 w3 := (hs2).no hf3
 refine hK.out _ _ (fun _ => hs3) ?_
 clear hK K
 refine tp _ rfl rfl ?_; simp only [es1, es2, es3]
 refine wpSeq_done ?_
 go_wp2_with fail
 go_ret
 refine ⟨hb3, rfl, _, hH3, fun x hx => ?_, hF.no hs3⟩
 rcases hx with rfl | hx
 · omega
 · simp [Value.ownBlock] at hx
theorem small_any (k : Int) (nm : ByteArray) (sz bl : Int) (w : World) :
 Calls Tryz.prog 58 #[.int .i64 k, .string nm, .int .i64 sz, .int .i64 bl, .func (.func 59) #[] #[], .func (.func 60) #[] #[], .func (.func 61) #[] #[], .func (.func 62) #[] #[], .func (.func 63) #[] #[]] w (fun e w' => ∃ c9 c13 c14 c15 c16 c17, e = .returned (.agg #[.string nm, .int .i64 sz, .int .i64 bl, .int .i64 32, .func (.func 104) #[] #[.pointer (some ⟨c16, 0, none⟩), .pointer (some ⟨c13, 0, none⟩)], .func (.func 105) #[] #[.pointer (some ⟨c9, 0, none⟩), .pointer (some ⟨c14, 0, none⟩), .pointer (some ⟨c15, 0, none⟩), .pointer (some ⟨c16, 0, none⟩), .pointer (some ⟨c17, 0, none⟩)]]) ∧ Row1 w' c9 3 (.int .i64 k) ∧ Row1 w' c13 92 (.func (.func 59) #[] #[]) ∧ Row1 w' c14 93 (.func (.func 60) #[] #[]) ∧ Row1 w' c15 94 (.func (.func 61) #[] #[]) ∧ Row1 w' c16 96 (.func (.func 62) #[] #[]) ∧ Row1 w' c17 97 (.func (.func 63) #[] #[]) ∧ Fr No w w') := by
 have r9 := row1_new w 3 (.int .i64 k)
 have r13 := row1_new (w.alloc (.cells #[.int .i64 k] 3)) 92 (.func (.func 59) #[] #[])
 replace r9 := r9.up (.cells #[.func (.func 59) #[] #[]] 92)
 have r14 := row1_new ((w.alloc (.cells #[.int .i64 k] 3)).alloc (.cells #[.func (.func 59) #[] #[]] 92)) 93 (.func (.func 60) #[] #[])
 replace r9 := r9.up (.cells #[.func (.func 60) #[] #[]] 93)
 replace r13 := r13.up (.cells #[.func (.func 60) #[] #[]] 93)
 have r15 := row1_new (((w.alloc (.cells #[.int .i64 k] 3)).alloc (.cells #[.func (.func 59) #[] #[]] 92)).alloc (.cells #[.func (.func 60) #[] #[]] 93)) 94 (.func (.func 61) #[] #[])
 replace r9 := r9.up (.cells #[.func (.func 61) #[] #[]] 94)
 replace r13 := r13.up (.cells #[.func (.func 61) #[] #[]] 94)
 replace r14 := r14.up (.cells #[.func (.func 61) #[] #[]] 94)
 have r16 := row1_new ((((w.alloc (.cells #[.int .i64 k] 3)).alloc (.cells #[.func (.func 59) #[] #[]] 92)).alloc (.cells #[.func (.func 60) #[] #[]] 93)).alloc (.cells #[.func (.func 61) #[] #[]] 94)) 96 (.func (.func 62) #[] #[])
 replace r9 := r9.up (.cells #[.func (.func 62) #[] #[]] 96)
 replace r13 := r13.up (.cells #[.func (.func 62) #[] #[]] 96)
 replace r14 := r14.up (.cells #[.func (.func 62) #[] #[]] 96)
 replace r15 := r15.up (.cells #[.func (.func 62) #[] #[]] 96)
 have r17 := row1_new (((((w.alloc (.cells #[.int .i64 k] 3)).alloc (.cells #[.func (.func 59) #[] #[]] 92)).alloc (.cells #[.func (.func 60) #[] #[]] 93)).alloc (.cells #[.func (.func 61) #[] #[]] 94)).alloc (.cells #[.func (.func 62) #[] #[]] 96)) 97 (.func (.func 63) #[] #[])
 replace r9 := r9.up (.cells #[.func (.func 63) #[] #[]] 97)
 replace r13 := r13.up (.cells #[.func (.func 63) #[] #[]] 97)
 replace r14 := r14.up (.cells #[.func (.func 63) #[] #[]] 97)
 replace r15 := r15.up (.cells #[.func (.func 63) #[] #[]] 97)
 replace r16 := r16.up (.cells #[.func (.func 63) #[] #[]] 97)
 have hF := (((((((Fr.refl No w).alloc (.cells #[.int .i64 k] 3)).alloc (.cells #[.func (.func 59) #[] #[]] 92)).alloc (.cells #[.func (.func 60) #[] #[]] 93)).alloc (.cells #[.func (.func 61) #[] #[]] 94)).alloc (.cells #[.func (.func 62) #[] #[]] 96)).alloc (.cells #[.func (.func 63) #[] #[]] 97))
 simp only [World.size_alloc] at r9 r13 r14 r15 r16 r17
 have hZ := row6_new ((((((w.alloc (.cells #[.int .i64 k] 3)).alloc (.cells #[.func (.func 59) #[] #[]] 92)).alloc (.cells #[.func (.func 60) #[] #[]] 93)).alloc (.cells #[.func (.func 61) #[] #[]] 94)).alloc (.cells #[.func (.func 62) #[] #[]] 96)).alloc (.cells #[.func (.func 63) #[] #[]] 97)) 65 (.string ⟨#[]⟩) (.int .i64 0) (.int .i64 0) (.int .i64 0) .nilFunc .nilFunc
 replace r9 := r9.up (.cells #[.string ⟨#[]⟩, .int .i64 0, .int .i64 0, .int .i64 0, .nilFunc, .nilFunc] 65)
 replace r13 := r13.up (.cells #[.string ⟨#[]⟩, .int .i64 0, .int .i64 0, .int .i64 0, .nilFunc, .nilFunc] 65)
 replace r14 := r14.up (.cells #[.string ⟨#[]⟩, .int .i64 0, .int .i64 0, .int .i64 0, .nilFunc, .nilFunc] 65)
 replace r15 := r15.up (.cells #[.string ⟨#[]⟩, .int .i64 0, .int .i64 0, .int .i64 0, .nilFunc, .nilFunc] 65)
 replace r16 := r16.up (.cells #[.string ⟨#[]⟩, .int .i64 0, .int .i64 0, .int .i64 0, .nilFunc, .nilFunc] 65)
 replace r17 := r17.up (.cells #[.string ⟨#[]⟩, .int .i64 0, .int .i64 0, .int .i64 0, .nilFunc, .nilFunc] 65)
 replace hF := hF.alloc (.cells #[.string ⟨#[]⟩, .int .i64 0, .int .i64 0, .int .i64 0, .nilFunc, .nilFunc] 65)
 simp only [World.size_alloc] at hZ
 go_enter Tryz.func58, Tryz.ntmps58
 go_upto_region 1 with fail
 have hlt := hF.size
 obtain ⟨wz, hwz⟩ : ∃ wz : Nat, wz = w.heap.size := ⟨_, rfl⟩
 generalize (((((((w.alloc (.cells #[.int .i64 k] 3)).alloc (.cells #[.func (.func 59) #[] #[]] 92)).alloc (.cells #[.func (.func 60) #[] #[]] 93)).alloc (.cells #[.func (.func 61) #[] #[]] 94)).alloc (.cells #[.func (.func 62) #[] #[]] 96)).alloc (.cells #[.func (.func 63) #[] #[]] 97)).alloc (.cells #[.string ⟨#[]⟩, .int .i64 0, .int .i64 0, .int .i64 0, .nilFunc, .nilFunc] 65)) = w6 at r9 r13 r14 r15 r16 r17 hF hlt hZ ⊢
 have hkge : wz ≤ w.heap.size + 1 + 1 + 1 + 1 + 1 + 1 := by omega
 generalize w.heap.size + 1 + 1 + 1 + 1 + 1 + 1 = kb at hZ hkge ⊢
 generalize w.heap.size + 1 + 1 + 1 + 1 + 1 = c17 at r17 ⊢
 generalize w.heap.size + 1 + 1 + 1 + 1 = c16 at r16 ⊢
 generalize w.heap.size + 1 + 1 + 1 = c15 at r15 ⊢
 generalize w.heap.size + 1 + 1 = c14 at r14 ⊢
 generalize w.heap.size + 1 = c13 at r13 ⊢
 obtain ⟨c9, e9⟩ : ∃ c9, c9 = w.heap.size := ⟨_, rfl⟩
 rw [← e9] at r9 ⊢
 clear e9
 have hkge2 : w.heap.size ≤ kb := by omega
 clear hwz hkge
 have z0 := hZ.c0
 have z1 := hZ.c1
 have z2 := hZ.c2
 have z3 := hZ.c3
 have z4 := hZ.c4
 have z5 := hZ.c5
 have y0 := hZ.fz 0
 have y1 := hZ.fz 1
 have y2 := hZ.fz 2
 have y3 := hZ.fz 3
 have y4 := hZ.fz 4
 have y5 := hZ.fz 5
 go_wp2_with fail
 have hR := row_put6 hZ (.string nm) (.int .i64 sz) (.int .i64 bl) (.int .i64 32) (.func (.func 104) #[] #[.pointer (some ⟨c16, 0, none⟩), .pointer (some ⟨c13, 0, none⟩)]) (.func (.func 105) #[] #[.pointer (some ⟨c9, 0, none⟩), .pointer (some ⟨c14, 0, none⟩), .pointer (some ⟨c15, 0, none⟩), .pointer (some ⟨c16, 0, none⟩), .pointer (some ⟨c17, 0, none⟩)])
 have hP := fr_put6 w6 kb (.string nm) (.int .i64 sz) (.int .i64 bl) (.int .i64 32) (.func (.func 104) #[] #[.pointer (some ⟨c16, 0, none⟩), .pointer (some ⟨c13, 0, none⟩)]) (.func (.func 105) #[] #[.pointer (some ⟨c9, 0, none⟩), .pointer (some ⟨c14, 0, none⟩), .pointer (some ⟨c15, 0, none⟩), .pointer (some ⟨c16, 0, none⟩), .pointer (some ⟨c17, 0, none⟩)])
 have cd0 := hR.c0
 have cd1 := hR.c1
 have cd2 := hR.c2
 have cd3 := hR.c3
 have cd4 := hR.c4
 have cd5 := hR.c5
 refine bodyPost_ret (v := .agg #[.string nm, .int .i64 sz, .int .i64 bl, .int .i64 32, .func (.func 104) #[] #[.pointer (some ⟨c16, 0, none⟩), .pointer (some ⟨c13, 0, none⟩)], .func (.func 105) #[] #[.pointer (some ⟨c9, 0, none⟩), .pointer (some ⟨c14, 0, none⟩), .pointer (some ⟨c15, 0, none⟩), .pointer (some ⟨c16, 0, none⟩), .pointer (some ⟨c17, 0, none⟩)]]) (by simp [results, Tryz.results58, go_sem, cd0, cd1, cd2, cd3, cd4, cd5]) rfl ?_
 exact ⟨c9, c13, c14, c15, c16, c17, rfl, r9.past hZ hP, r13.past hZ hP, r14.past hZ hP, r15.past hZ hP, r16.past hZ hP, r17.past hZ hP, hF.trans hP (fun x hx => .inr (by omega))⟩
end Go.Proofs.YtidlpihoafnobaaGreat.StM32
