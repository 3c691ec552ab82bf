/- StrBlocks -/
import Derived.Test.YtidlpihoafnobaaGreatDoorPStrEnd
set_option linter.unusedVariables false
set_option linter.unusedSimpArgs false
namespace Go.Proofs.YtidlpihoafnobaaGreatDoor
set_option maxRecDepth 100000
open Go.RowKit
def GivesL (a : Option Addr) (n c : Nat) (l : Bytes) (r : HSt × Bytes) (w : World) (e : Ending) (w' : World) : Prop :=
 ∃ a' n' c', e = .returned (.tuple #[.agg #[.int .u64 (W64 (lanesS r.1).1), .int .u64 (W64 (lanesS r.1).2.1), .int .u64 (W64 (lanesS r.1).2.2.1), .int .u64 (W64 (lanesS r.1).2.2.2)], .slice a' n' c']) ∧ IsBytes w' a' n' c' r.2 ∧ (∀ w2, IsBytes w2 a n c l → IsBytes w2 a' n' c' r.2) ∧ Fr No w w'
set_option maxHeartbeats 1000000 in
theorem refBlocks_m32 (kh kl : BitVec 64) (a : Option Addr) (n c : Nat) (l : Bytes) (w : World) (hb : IsBytes w a n c l) (hn : n ≤ 1099511627776) :
 Calls Tryz.prog 43 #[.int .i64 1, .agg #[.int .u64 (W64 kh), .int .u64 (W64 kl)], .slice a n c] w (GivesL a n c l (foldS 1 (firstS 1 kh kl) l) w) := by
 have hans : foldS 1 (firstS 1 kh kl) l = (.m32 (foldF StM32.stepG 4 (StM32.firstF (kl.setWidth 32)) l).1, (foldF StM32.stepG 4 (StM32.firstF (kl.setWidth 32)) l).2) := by rw [firstS_m32]; rfl
 rw [hans]
 clear hans
 have hBl := fun w hb => StM32.refBlocks_any (kl.setWidth 32) a n c l w hb hn
 generalize foldF StM32.stepG 4 (StM32.firstF (kl.setWidth 32)) l = r at hBl ⊢
 have hU := row2_new w 30 (.int .u64 (W64 kh)) (.int .u64 (W64 kl))
 have hF := (Fr.refl No w).alloc (.cells #[.int .u64 (W64 kh), .int .u64 (W64 kl)] 30)
 have hV := row4_new (w.alloc (.cells #[.int .u64 (W64 kh), .int .u64 (W64 kl)] 30)) 31 (.int .u64 0) (.int .u64 0) (.int .u64 0) (.int .u64 0)
 replace hU := hU.no ((Fr.refl No _).alloc (.cells #[.int .u64 0, .int .u64 0, .int .u64 0, .int .u64 0] 31))
 replace hF := hF.alloc (.cells #[.int .u64 0, .int .u64 0, .int .u64 0, .int .u64 0] 31)
 simp only [World.size_alloc] at hV
 have hlt := hF.size
 have u0 := hU.c0
 have u1 := hU.c1
 go_enter Tryz.func43, Tryz.ntmps43
 go_wp2_with fail
 have hge : w.heap.size ≤ w.heap.size + 1 := by omega
 try rw [mod32k]
 generalize w.heap.size + 1 = vb at hV hge ⊢
 generalize ((w.alloc (.cells #[.int .u64 (W64 kh), .int .u64 (W64 kl)] 30)).alloc (.cells #[.int .u64 0, .int .u64 0, .int .u64 0, .int .u64 0] 31)) = w1 at hF hU hV hlt u0 u1 ⊢
 refine (hBl _ (hb.no hF)).mono ?_
 rintro e w2 ⟨a', n', c', rfl, hb2, hp, hf⟩
 rw [StM32.lanesV_of]
 obtain ⟨z0, hz0⟩ : ∃ z, Hid (z = r.1.setWidth 64) := ⟨_, Lib.hid rfl⟩
 obtain ⟨z1, hz1⟩ : ∃ z, Hid (z = 0#64) := ⟨_, Lib.hid rfl⟩
 obtain ⟨z2, hz2⟩ : ∃ z, Hid (z = 0#64) := ⟨_, Lib.hid rfl⟩
 obtain ⟨z3, hz3⟩ : ∃ z, Hid (z = 0#64) := ⟨_, Lib.hid rfl⟩
 have hv : (.agg #[.int .u64 (W64 (r.1.setWidth 64)), .int .u64 (W64 (0#64)), .int .u64 (W64 (0#64)), .int .u64 (W64 (0#64))] : Value) = .agg #[.int .u64 (W64 z0), .int .u64 (W64 z1), .int .u64 (W64 z2), .int .u64 (W64 z3)] := by rw [hz0.out, hz1.out, hz2.out, hz3.out]
 rw [hv]
 replace hV := hV.no hf
 replace hF := hF.no hf
 have hs2 := hF.size
 have v0 := hV.c0
 have y0 := hV.fz 0
 have v1 := hV.c1
 have y1 := hV.fz 1
 have v2 := hV.c2
 have y2 := hV.fz 2
 have v3 := hV.c3
 have y3 := hV.fz 3
 go_wp2_with fail
 have hR := row_put4 hV (.int .u64 (W64 z0)) (.int .u64 (W64 z1)) (.int .u64 (W64 z2)) (.int .u64 (W64 z3))
 have hP := fr_put4 w2 vb (.int .u64 (W64 z0)) (.int .u64 (W64 z1)) (.int .u64 (W64 z2)) (.int .u64 (W64 z3))
 have cd0 := hR.c0
 have cd1 := hR.c1
 have cd2 := hR.c2
 have cd3 := hR.c3
 refine bodyPost_ret (v := .tuple #[.agg #[.int .u64 (W64 z0), .int .u64 (W64 z1), .int .u64 (W64 z2), .int .u64 (W64 z3)], .slice a' n' c']) (by simp [results, Tryz.results43, go_sem, cd0, cd1, cd2, cd3]) rfl ?_
 refine ⟨a', n', c', by rw [← hv]; rfl, hp _ (hb.no (hF.trans hP (fun q hq => .inr (by omega)))), hp, hF.trans hP (fun q hq => .inr (by omega))⟩
set_option maxHeartbeats 1000000 in
theorem refBlocks_m86 (kh kl : BitVec 64) (a : Option Addr) (n c : Nat) (l : Bytes) (w : World) (hb : IsBytes w a n c l) (hn : n ≤ 1099511627776) :
 Calls Tryz.prog 43 #[.int .i64 2, .agg #[.int .u64 (W64 kh), .int .u64 (W64 kl)], .slice a n c] w (GivesL a n c l (foldS 2 (firstS 2 kh kl) l) w) := by
 have hans : foldS 2 (firstS 2 kh kl) l = (.m86 (foldF StM86.stepG 16 (StM86.firstF (kl.setWidth 32)) l).1, (foldF StM86.stepG 16 (StM86.firstF (kl.setWidth 32)) l).2) := by rw [firstS_m86]; rfl
 rw [hans]
 clear hans
 have hBl := fun w hb => StM86.refBlocks_any (kl.setWidth 32) a n c l w hb hn
 generalize foldF StM86.stepG 16 (StM86.firstF (kl.setWidth 32)) l = r at hBl ⊢
 have hU := row2_new w 30 (.int .u64 (W64 kh)) (.int .u64 (W64 kl))
 have hF := (Fr.refl No w).alloc (.cells #[.int .u64 (W64 kh), .int .u64 (W64 kl)] 30)
 have hV := row4_new (w.alloc (.cells #[.int .u64 (W64 kh), .int .u64 (W64 kl)] 30)) 31 (.int .u64 0) (.int .u64 0) (.int .u64 0) (.int .u64 0)
 replace hU := hU.no ((Fr.refl No _).alloc (.cells #[.int .u64 0, .int .u64 0, .int .u64 0, .int .u64 0] 31))
 replace hF := hF.alloc (.cells #[.int .u64 0, .int .u64 0, .int .u64 0, .int .u64 0] 31)
 simp only [World.size_alloc] at hV
 have hlt := hF.size
 have u0 := hU.c0
 have u1 := hU.c1
 go_enter Tryz.func43, Tryz.ntmps43
 go_wp2_with fail
 have hge : w.heap.size ≤ w.heap.size + 1 := by omega
 try rw [mod32k]
 generalize w.heap.size + 1 = vb at hV hge ⊢
 generalize ((w.alloc (.cells #[.int .u64 (W64 kh), .int .u64 (W64 kl)] 30)).alloc (.cells #[.int .u64 0, .int .u64 0, .int .u64 0, .int .u64 0] 31)) = w1 at hF hU hV hlt u0 u1 ⊢
 refine (hBl _ (hb.no hF)).mono ?_
 rintro e w2 ⟨a', n', c', rfl, hb2, hp, hf⟩
 rw [StM86.lanesV_of]
 obtain ⟨z0, hz0⟩ : ∃ z, Hid (z = r.1.1.setWidth 64) := ⟨_, Lib.hid rfl⟩
 obtain ⟨z1, hz1⟩ : ∃ z, Hid (z = r.1.2.1.setWidth 64) := ⟨_, Lib.hid rfl⟩
 obtain ⟨z2, hz2⟩ : ∃ z, Hid (z = r.1.2.2.1.setWidth 64) := ⟨_, Lib.hid rfl⟩
 obtain ⟨z3, hz3⟩ : ∃ z, Hid (z = r.1.2.2.2.setWidth 64) := ⟨_, Lib.hid rfl⟩
 have hv : (.agg #[.int .u64 (W64 (r.1.1.setWidth 64)), .int .u64 (W64 (r.1.2.1.setWidth 64)), .int .u64 (W64 (r.1.2.2.1.setWidth 64)), .int .u64 (W64 (r.1.2.2.2.setWidth 64))] : Value) = .agg #[.int .u64 (W64 z0), .int .u64 (W64 z1), .int .u64 (W64 z2), .int .u64 (W64 z3)] := by rw [hz0.out, hz1.out, hz2.out, hz3.out]
 rw [hv]
 replace hV := hV.no hf
 replace hF := hF.no hf
 have hs2 := hF.size
 have v0 := hV.c0
 have y0 := hV.fz 0
 have v1 := hV.c1
 have y1 := hV.fz 1
 have v2 := hV.c2
 have y2 := hV.fz 2
 have v3 := hV.c3
 have y3 := hV.fz 3
 go_wp2_with fail
 have hR := row_put4 hV (.int .u64 (W64 z0)) (.int .u64 (W64 z1)) (.int .u64 (W64 z2)) (.int .u64 (W64 z3))
 have hP := fr_put4 w2 vb (.int .u64 (W64 z0)) (.int .u64 (W64 z1)) (.int .u64 (W64 z2)) (.int .u64 (W64 z3))
 have cd0 := hR.c0
 have cd1 := hR.c1
 have cd2 := hR.c2
 have cd3 := hR.c3
 refine bodyPost_ret (v := .tuple #[.agg #[.int .u64 (W64 z0), .int .u64 (W64 z1), .int .u64 (W64 z2), .int .u64 (W64 z3)], .slice a' n' c']) (by simp [results, Tryz.results43, go_sem, cd0, cd1, cd2, cd3]) rfl ?_
 refine ⟨a', n', c', by rw [← hv]; rfl, hp _ (hb.no (hF.trans hP (fun q hq => .inr (by omega)))), hp, hF.trans hP (fun q hq => .inr (by omega))⟩
set_option maxHeartbeats 1000000 in
theorem refBlocks_m64 (kh kl : BitVec 64) (a : Option Addr) (n c : Nat) (l : Bytes) (w : World) (hb : IsBytes w a n c l) (hn : n ≤ 1099511627776) :
 Calls Tryz.prog 43 #[.int .i64 3, .agg #[.int .u64 (W64 kh), .int .u64 (W64 kl)], .slice a n c] w (GivesL a n c l (foldS 3 (firstS 3 kh kl) l) w) := by
 have hans : foldS 3 (firstS 3 kh kl) l = (.m64 (foldF StM64.stepG 16 (StM64.firstF (kl.setWidth 32)) l).1, (foldF StM64.stepG 16 (StM64.firstF (kl.setWidth 32)) l).2) := by rw [firstS_m64]; rfl
 rw [hans]
 clear hans
 have hBl := fun w hb => StM64.refBlocks_any (kl.setWidth 32) a n c l w hb hn
 generalize foldF StM64.stepG 16 (StM64.firstF (kl.setWidth 32)) l = r at hBl ⊢
 have hU := row2_new w 30 (.int .u64 (W64 kh)) (.int .u64 (W64 kl))
 have hF := (Fr.refl No w).alloc (.cells #[.int .u64 (W64 kh), .int .u64 (W64 kl)] 30)
 have hV := row4_new (w.alloc (.cells #[.int .u64 (W64 kh), .int .u64 (W64 kl)] 30)) 31 (.int .u64 0) (.int .u64 0) (.int .u64 0) (.int .u64 0)
 replace hU := hU.no ((Fr.refl No _).alloc (.cells #[.int .u64 0, .int .u64 0, .int .u64 0, .int .u64 0] 31))
 replace hF := hF.alloc (.cells #[.int .u64 0, .int .u64 0, .int .u64 0, .int .u64 0] 31)
 simp only [World.size_alloc] at hV
 have hlt := hF.size
 have u0 := hU.c0
 have u1 := hU.c1
 go_enter Tryz.func43, Tryz.ntmps43
 go_wp2_with fail
 have hge : w.heap.size ≤ w.heap.size + 1 := by omega
 try rw [mod32k]
 generalize w.heap.size + 1 = vb at hV hge ⊢
 generalize ((w.alloc (.cells #[.int .u64 (W64 kh), .int .u64 (W64 kl)] 30)).alloc (.cells #[.int .u64 0, .int .u64 0, .int .u64 0, .int .u64 0] 31)) = w1 at hF hU hV hlt u0 u1 ⊢
 refine (hBl _ (hb.no hF)).mono ?_
 rintro e w2 ⟨a', n', c', rfl, hb2, hp, hf⟩
 rw [StM64.lanesV_of]
 obtain ⟨z0, hz0⟩ : ∃ z, Hid (z = r.1.1) := ⟨_, Lib.hid rfl⟩
 obtain ⟨z1, hz1⟩ : ∃ z, Hid (z = r.1.2) := ⟨_, Lib.hid rfl⟩
 obtain ⟨z2, hz2⟩ : ∃ z, Hid (z = 0#64) := ⟨_, Lib.hid rfl⟩
 obtain ⟨z3, hz3⟩ : ∃ z, Hid (z = 0#64) := ⟨_, Lib.hid rfl⟩
 have hv : (.agg #[.int .u64 (W64 (r.1.1)), .int .u64 (W64 (r.1.2)), .int .u64 (W64 (0#64)), .int .u64 (W64 (0#64))] : Value) = .agg #[.int .u64 (W64 z0), .int .u64 (W64 z1), .int .u64 (W64 z2), .int .u64 (W64 z3)] := by rw [hz0.out, hz1.out, hz2.out, hz3.out]
 rw [hv]
 replace hV := hV.no hf
 replace hF := hF.no hf
 have hs2 := hF.size
 have v0 := hV.c0
 have y0 := hV.fz 0
 have v1 := hV.c1
 have y1 := hV.fz 1
 have v2 := hV.c2
 have y2 := hV.fz 2
 have v3 := hV.c3
 have y3 := hV.fz 3
 go_wp2_with fail
 have hR := row_put4 hV (.int .u64 (W64 z0)) (.int .u64 (W64 z1)) (.int .u64 (W64 z2)) (.int .u64 (W64 z3))
 have hP := fr_put4 w2 vb (.int .u64 (W64 z0)) (.int .u64 (W64 z1)) (.int .u64 (W64 z2)) (.int .u64 (W64 z3))
 have cd0 := hR.c0
 have cd1 := hR.c1
 have cd2 := hR.c2
 have cd3 := hR.c3
 refine bodyPost_ret (v := .tuple #[.agg #[.int .u64 (W64 z0), .int .u64 (W64 z1), .int .u64 (W64 z2), .int .u64 (W64 z3)], .slice a' n' c']) (by simp [results, Tryz.results43, go_sem, cd0, cd1, cd2, cd3]) rfl ?_
 refine ⟨a', n', c', by rw [← hv]; rfl, hp _ (hb.no (hF.trans hP (fun q hq => .inr (by omega)))), hp, hF.trans hP (fun q hq => .inr (by omega))⟩
set_option maxHeartbeats 1000000 in
theorem refBlocks_x32 (kh kl : BitVec 64) (a : Option Addr) (n c : Nat) (l : Bytes) (w : World) (hb : IsBytes w a n c l) (hn : n ≤ 1099511627776) :
 Calls Tryz.prog 43 #[.int .i64 4, .agg #[.int .u64 (W64 kh), .int .u64 (W64 kl)], .slice a n c] w (GivesL a n c l (foldS 4 (firstS 4 kh kl) l) w) := by
 have hans : foldS 4 (firstS 4 kh kl) l = (.x32 (foldF StX32.stepG 16 (StX32.firstF (kl.setWidth 32)) l).1, (foldF StX32.stepG 16 (StX32.firstF (kl.setWidth 32)) l).2) := by rw [firstS_x32]; rfl
 rw [hans]
 clear hans
 have hBl := fun w hb => StX32.refBlocks_any (kl.setWidth 32) a n c l w hb hn
 generalize foldF StX32.stepG 16 (StX32.firstF (kl.setWidth 32)) l = r at hBl ⊢
 have hU := row2_new w 30 (.int .u64 (W64 kh)) (.int .u64 (W64 kl))
 have hF := (Fr.refl No w).alloc (.cells #[.int .u64 (W64 kh), .int .u64 (W64 kl)] 30)
 have hV := row4_new (w.alloc (.cells #[.int .u64 (W64 kh), .int .u64 (W64 kl)] 30)) 31 (.int .u64 0) (.int .u64 0) (.int .u64 0) (.int .u64 0)
 replace hU := hU.no ((Fr.refl No _).alloc (.cells #[.int .u64 0, .int .u64 0, .int .u64 0, .int .u64 0] 31))
 replace hF := hF.alloc (.cells #[.int .u64 0, .int .u64 0, .int .u64 0, .int .u64 0] 31)
 simp only [World.size_alloc] at hV
 have hlt := hF.size
 have u0 := hU.c0
 have u1 := hU.c1
 go_enter Tryz.func43, Tryz.ntmps43
 go_wp2_with fail
 have hge : w.heap.size ≤ w.heap.size + 1 := by omega
 try rw [mod32k]
 generalize w.heap.size + 1 = vb at hV hge ⊢
 generalize ((w.alloc (.cells #[.int .u64 (W64 kh), .int .u64 (W64 kl)] 30)).alloc (.cells #[.int .u64 0, .int .u64 0, .int .u64 0, .int .u64 0] 31)) = w1 at hF hU hV hlt u0 u1 ⊢
 refine (hBl _ (hb.no hF)).mono ?_
 rintro e w2 ⟨a', n', c', rfl, hb2, hp, hf⟩
 rw [StX32.lanesV_of]
 obtain ⟨z0, hz0⟩ : ∃ z, Hid (z = r.1.1.setWidth 64) := ⟨_, Lib.hid rfl⟩
 obtain ⟨z1, hz1⟩ : ∃ z, Hid (z = r.1.2.1.setWidth 64) := ⟨_, Lib.hid rfl⟩
 obtain ⟨z2, hz2⟩ : ∃ z, Hid (z = r.1.2.2.1.setWidth 64) := ⟨_, Lib.hid rfl⟩
 obtain ⟨z3, hz3⟩ : ∃ z, Hid (z = r.1.2.2.2.setWidth 64) := ⟨_, Lib.hid rfl⟩
 have hv : (.agg #[.int .u64 (W64 (r.1.1.setWidth 64)), .int .u64 (W64 (r.1.2.1.setWidth 64)), .int .u64 (W64 (r.1.2.2.1.setWidth 64)), .int .u64 (W64 (r.1.2.2.2.setWidth 64))] : Value) = .agg #[.int .u64 (W64 z0), .int .u64 (W64 z1), .int .u64 (W64 z2), .int .u64 (W64 z3)] := by rw [hz0.out, hz1.out, hz2.out, hz3.out]
 rw [hv]
 replace hV := hV.no hf
 replace hF := hF.no hf
 have hs2 := hF.size
 have v0 := hV.c0
 have y0 := hV.fz 0
 have v1 := hV.c1
 have y1 := hV.fz 1
 have v2 := hV.c2
 have y2 := hV.fz 2
 have v3 := hV.c3
 have y3 := hV.fz 3
 go_wp2_with fail
 have hR := row_put4 hV (.int .u64 (W64 z0)) (.int .u64 (W64 z1)) (.int .u64 (W64 z2)) (.int .u64 (W64 z3))
 have hP := fr_put4 w2 vb (.int .u64 (W64 z0)) (.int .u64 (W64 z1)) (.int .u64 (W64 z2)) (.int .u64 (W64 z3))
 have cd0 := hR.c0
 have cd1 := hR.c1
 have cd2 := hR.c2
 have cd3 := hR.c3
 refine bodyPost_ret (v := .tuple #[.agg #[.int .u64 (W64 z0), .int .u64 (W64 z1), .int .u64 (W64 z2), .int .u64 (W64 z3)], .slice a' n' c']) (by simp [results, Tryz.results43, go_sem, cd0, cd1, cd2, cd3]) rfl ?_
 refine ⟨a', n', c', by rw [← hv]; rfl, hp _ (hb.no (hF.trans hP (fun q hq => .inr (by omega)))), hp, hF.trans hP (fun q hq => .inr (by omega))⟩
set_option maxHeartbeats 1000000 in
theorem refBlocks_x64 (kh kl : BitVec 64) (a : Option Addr) (n c : Nat) (l : Bytes) (w : World) (hb : IsBytes w a n c l) (hn : n ≤ 1099511627776) :
 Calls Tryz.prog 43 #[.int .i64 5, .agg #[.int .u64 (W64 kh), .int .u64 (W64 kl)], .slice a n c] w (GivesL a n c l (foldS 5 (firstS 5 kh kl) l) w) := by
 have hans : foldS 5 (firstS 5 kh kl) l = (.x64 (foldF StX64.stepG 32 (StX64.firstF kl) l).1, (foldF StX64.stepG 32 (StX64.firstF kl) l).2) := by rw [firstS_x64]; rfl
 rw [hans]
 clear hans
 have hBl := fun w hb => StX64.refBlocks_any kl a n c l w hb hn
 generalize foldF StX64.stepG 32 (StX64.firstF kl) l = r at hBl ⊢
 have hU := row2_new w 30 (.int .u64 (W64 kh)) (.int .u64 (W64 kl))
 have hF := (Fr.refl No w).alloc (.cells #[.int .u64 (W64 kh), .int .u64 (W64 kl)] 30)
 have hV := row4_new (w.alloc (.cells #[.int .u64 (W64 kh), .int .u64 (W64 kl)] 30)) 31 (.int .u64 0) (.int .u64 0) (.int .u64 0) (.int .u64 0)
 replace hU := hU.no ((Fr.refl No _).alloc (.cells #[.int .u64 0, .int .u64 0, .int .u64 0, .int .u64 0] 31))
 replace hF := hF.alloc (.cells #[.int .u64 0, .int .u64 0, .int .u64 0, .int .u64 0] 31)
 simp only [World.size_alloc] at hV
 have hlt := hF.size
 have u0 := hU.c0
 have u1 := hU.c1
 go_enter Tryz.func43, Tryz.ntmps43
 go_wp2_with fail
 have hge : w.heap.size ≤ w.heap.size + 1 := by omega
 generalize w.heap.size + 1 = vb at hV hge ⊢
 generalize ((w.alloc (.cells #[.int .u64 (W64 kh), .int .u64 (W64 kl)] 30)).alloc (.cells #[.int .u64 0, .int .u64 0, .int .u64 0, .int .u64 0] 31)) = w1 at hF hU hV hlt u0 u1 ⊢
 refine (hBl _ (hb.no hF)).mono ?_
 rintro e w2 ⟨a', n', c', rfl, hb2, hp, hf⟩
 rw [StX64.lanesV_of]
 obtain ⟨z0, hz0⟩ : ∃ z, Hid (z = r.1.1) := ⟨_, Lib.hid rfl⟩
 obtain ⟨z1, hz1⟩ : ∃ z, Hid (z = r.1.2.1) := ⟨_, Lib.hid rfl⟩
 obtain ⟨z2, hz2⟩ : ∃ z, Hid (z = r.1.2.2.1) := ⟨_, Lib.hid rfl⟩
 obtain ⟨z3, hz3⟩ : ∃ z, Hid (z = r.1.2.2.2) := ⟨_, Lib.hid rfl⟩
 have hv : (.agg #[.int .u64 (W64 (r.1.1)), .int .u64 (W64 (r.1.2.1)), .int .u64 (W64 (r.1.2.2.1)), .int .u64 (W64 (r.1.2.2.2))] : Value) = .agg #[.int .u64 (W64 z0), .int .u64 (W64 z1), .int .u64 (W64 z2), .int .u64 (W64 z3)] := by rw [hz0.out, hz1.out, hz2.out, hz3.out]
 rw [hv]
 replace hV := hV.no hf
 replace hF := hF.no hf
 have hs2 := hF.size
 have v0 := hV.c0
 have y0 := hV.fz 0
 have v1 := hV.c1
 have y1 := hV.fz 1
 have v2 := hV.c2
 have y2 := hV.fz 2
 have v3 := hV.c3
 have y3 := hV.fz 3
 go_wp2_with fail
 have hR := row_put4 hV (.int .u64 (W64 z0)) (.int .u64 (W64 z1)) (.int .u64 (W64 z2)) (.int .u64 (W64 z3))
 have hP := fr_put4 w2 vb (.int .u64 (W64 z0)) (.int .u64 (W64 z1)) (.int .u64 (W64 z2)) (.int .u64 (W64 z3))
 have cd0 := hR.c0
 have cd1 := hR.c1
 have cd2 := hR.c2
 have cd3 := hR.c3
 refine bodyPost_ret (v := .tuple #[.agg #[.int .u64 (W64 z0), .int .u64 (W64 z1), .int .u64 (W64 z2), .int .u64 (W64 z3)], .slice a' n' c']) (by simp [results, Tryz.results43, go_sem, cd0, cd1, cd2, cd3]) rfl ?_
 refine ⟨a', n', c', by rw [← hv]; rfl, hp _ (hb.no (hF.trans hP (fun q hq => .inr (by omega)))), hp, hF.trans hP (fun q hq => .inr (by omega))⟩
set_option maxHeartbeats 1000000 in
theorem refBlocks_sip (k : Int) (hk : StSip.IsK k) (kh kl : BitVec 64) (a : Option Addr) (n c : Nat) (l : Bytes) (w : World) (hb : IsBytes w a n c l) (hn : n ≤ 1099511627776) :
 Calls Tryz.prog 43 #[.int .i64 k, .agg #[.int .u64 (W64 kh), .int .u64 (W64 kl)], .slice a n c] w (GivesL a n c l (foldS k (firstS k kh kl) l) w) := by
 have hans : foldS k (firstS k kh kl) l = (.sip (foldF (StSip.stepG (StSip.cOf k)) 8 (StSip.firstF k kh kl) l).1, (foldF (StSip.stepG (StSip.cOf k)) 8 (StSip.firstF k kh kl) l).2) := by rw [firstS_sip hk]; rfl
 rw [hans]
 clear hans
 have hBl := fun w hb => StSip.refBlocks_any k hk kh kl a n c l w hb hn
 generalize foldF (StSip.stepG (StSip.cOf k)) 8 (StSip.firstF k kh kl) l = r at hBl ⊢
 obtain ⟨h1, h2, h3, h4, h5⟩ := isK_no hk
 have hU := row2_new w 30 (.int .u64 (W64 kh)) (.int .u64 (W64 kl))
 have hF := (Fr.refl No w).alloc (.cells #[.int .u64 (W64 kh), .int .u64 (W64 kl)] 30)
 have hV := row4_new (w.alloc (.cells #[.int .u64 (W64 kh), .int .u64 (W64 kl)] 30)) 31 (.int .u64 0) (.int .u64 0) (.int .u64 0) (.int .u64 0)
 replace hU := hU.no ((Fr.refl No _).alloc (.cells #[.int .u64 0, .int .u64 0, .int .u64 0, .int .u64 0] 31))
 replace hF := hF.alloc (.cells #[.int .u64 0, .int .u64 0, .int .u64 0, .int .u64 0] 31)
 simp only [World.size_alloc] at hV
 have hlt := hF.size
 have u0 := hU.c0
 have u1 := hU.c1
 go_enter Tryz.func43, Tryz.ntmps43
 go_wp2_with fail
 have hge : w.heap.size ≤ w.heap.size + 1 := by omega
 generalize w.heap.size + 1 = vb at hV hge ⊢
 generalize ((w.alloc (.cells #[.int .u64 (W64 kh), .int .u64 (W64 kl)] 30)).alloc (.cells #[.int .u64 0, .int .u64 0, .int .u64 0, .int .u64 0] 31)) = w1 at hF hU hV hlt u0 u1 ⊢
 refine (hBl _ (hb.no hF)).mono ?_
 rintro e w2 ⟨a', n', c', rfl, hb2, hp, hf⟩
 rw [StSip.lanesV_of]
 obtain ⟨z0, hz0⟩ : ∃ z, Hid (z = r.1.1) := ⟨_, Lib.hid rfl⟩
 obtain ⟨z1, hz1⟩ : ∃ z, Hid (z = r.1.2.1) := ⟨_, Lib.hid rfl⟩
 obtain ⟨z2, hz2⟩ : ∃ z, Hid (z = r.1.2.2.1) := ⟨_, Lib.hid rfl⟩
 obtain ⟨z3, hz3⟩ : ∃ z, Hid (z = r.1.2.2.2) := ⟨_, Lib.hid rfl⟩
 have hv : (.agg #[.int .u64 (W64 (r.1.1)), .int .u64 (W64 (r.1.2.1)), .int .u64 (W64 (r.1.2.2.1)), .int .u64 (W64 (r.1.2.2.2))] : Value) = .agg #[.int .u64 (W64 z0), .int .u64 (W64 z1), .int .u64 (W64 z2), .int .u64 (W64 z3)] := by rw [hz0.out, hz1.out, hz2.out, hz3.out]
 rw [hv]
 replace hV := hV.no hf
 replace hF := hF.no hf
 have hs2 := hF.size
 have v0 := hV.c0
 have y0 := hV.fz 0
 have v1 := hV.c1
 have y1 := hV.fz 1
 have v2 := hV.c2
 have y2 := hV.fz 2
 have v3 := hV.c3
 have y3 := hV.fz 3
 go_wp2_with fail
 have hR := row_put4 hV (.int .u64 (W64 z0)) (.int .u64 (W64 z1)) (.int .u64 (W64 z2)) (.int .u64 (W64 z3))
 have hP := fr_put4 w2 vb (.int .u64 (W64 z0)) (.int .u64 (W64 z1)) (.int .u64 (W64 z2)) (.int .u64 (W64 z3))
 have cd0 := hR.c0
 have cd1 := hR.c1
 have cd2 := hR.c2
 have cd3 := hR.c3
 refine bodyPost_ret (v := .tuple #[.agg #[.int .u64 (W64 z0), .int .u64 (W64 z1), .int .u64 (W64 z2), .int .u64 (W64 z3)], .slice a' n' c']) (by simp [results, Tryz.results43, go_sem, cd0, cd1, cd2, cd3]) rfl ?_
 refine ⟨a', n', c', by rw [← hv]; rfl, hp _ (hb.no (hF.trans hP (fun q hq => .inr (by omega)))), hp, hF.trans hP (fun q hq => .inr (by omega))⟩
theorem refBlocks_all {k : Int} (hk : KindOk k) (kh kl : BitVec 64) (a : Option Addr) (n c : Nat) (l : Bytes) (w : World) (hb : IsBytes w a n c l) (hn : n ≤ 1099511627776) :
 Calls Tryz.prog 43 #[.int .i64 k, .agg #[.int .u64 (W64 kh), .int .u64 (W64 kl)], .slice a n c] w (GivesL a n c l (foldS k (firstS k kh kl) l) w) :=
 kind_cases (C := fun k => Calls Tryz.prog 43 #[.int .i64 k, .agg #[.int .u64 (W64 kh), .int .u64 (W64 kl)], .slice a n c] w (GivesL a n c l (foldS k (firstS k kh kl) l) w)) (refBlocks_m32 kh kl a n c l w hb hn) (refBlocks_m86 kh kl a n c l w hb hn) (refBlocks_m64 kh kl a n c l w hb hn) (refBlocks_x32 kh kl a n c l w hb hn) (refBlocks_x64 kh kl a n c l w hb hn) (fun k hk => refBlocks_sip k hk kh kl a n c l w hb hn) hk
set_option maxHeartbeats 1000000 in
theorem refOne_all {k : Int} (hk : KindOk k) (kh kl : BitVec 64) (a : Option Addr) (n c : Nat) (l : Bytes) (w : World) (hb : IsBytes w a n c l) (hn : n ≤ 1099511627776) :
 Calls Tryz.prog 17 #[.int .i64 k, .agg #[.int .u64 (W64 kh), .int .u64 (W64 kl)], .slice a n c] w (GivesBytes (oneS k kh kl l) w) := by
 have hk0 := first_ofK hk kh kl
 have hB := fun w hb => refBlocks_all hk kh kl a n c l w hb hn
 have hE := fun x a n c l lo w hb hl => refEnd_all hk kh kl x a n c l lo w hb hl
 have hst := state_lanes (fold_ofK hk0 l)
 have hmod := fold_mod hk0 l
 have hbp := block_pos hk
 unfold oneS
 generalize foldS k (firstS k kh kl) l = r at hB hst hmod ⊢
 have hlt : (r.2.length : Int) < blockN k := by rw [hmod]; exact Int.emod_lt_of_pos _ hbp.1
 have HM := Lib.hid hlt
 have HL := Lib.hid hb.1
 clear hmod hbp hlt hk0
 have hU := row2_new w 30 (.int .u64 (W64 kh)) (.int .u64 (W64 kl))
 have hF := (Fr.refl No w).alloc (.cells #[.int .u64 (W64 kh), .int .u64 (W64 kl)] 30)
 have u0 := hU.c0
 have u1 := hU.c1
 go_enter Tryz.func17, Tryz.ntmps17
 go_wp2_with fail
 generalize w.heap.size = ub at hU u0 u1 ⊢
 generalize w.alloc (.cells #[.int .u64 (W64 kh), .int .u64 (W64 kl)] 30) = w1 at hF hU u0 u1 ⊢
 refine (hB _ (hb.no hF)).mono ?_
 rintro e w2 ⟨a', n', c', rfl, hb2, hp, hf⟩
 clear u0 u1 hB
 generalize lanesS r.1 = x at hst ⊢
 have hV := row4_new w2 31 (.int .u64 (W64 x.1)) (.int .u64 (W64 x.2.1)) (.int .u64 (W64 x.2.2.1)) (.int .u64 (W64 x.2.2.2))
 have hG := (Fr.refl No w2).alloc (.cells #[.int .u64 (W64 x.1), .int .u64 (W64 x.2.1), .int .u64 (W64 x.2.2.1), .int .u64 (W64 x.2.2.2)] 31)
 have u0 := ((hU.no hf).no hG).c0
 have u1 := ((hU.no hf).no hG).c1
 have v0 := hV.c0
 have v1 := hV.c1
 have v2 := hV.c2
 have v3 := hV.c3
 have hb3 := hb2.no hG
 have hF3 := (hF.no hf).no hG
 go_wp2_with fail
 have hn' : r.2.length = n' := hb2.1
 refine (hE x a' n' c' r.2 (BitVec.ofNat 64 n) _ hb3 HM.out).mono ?_
 rw [hst, ← HL.out]
 rintro e w4 ⟨v4, rfl, hO4, hf4⟩
 have hsz := hF3.size
 obtain ⟨a4, c4, rfl, hb4, _⟩ := hO4.bytes
 go_wp2_with fail
 go_ret
 exact ⟨_, rfl, hO4.mono hsz, hF3.no hf4⟩
end Go.Proofs.YtidlpihoafnobaaGreatDoor
