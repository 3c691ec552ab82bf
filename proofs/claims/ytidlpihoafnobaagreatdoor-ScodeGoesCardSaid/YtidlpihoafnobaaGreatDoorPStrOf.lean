/- StrOf -/
import Derived.Test.YtidlpihoafnobaaGreatDoorPStrAny
set_option linter.unusedVariables false
set_option linter.unusedSimpArgs false
namespace Go.Proofs.YtidlpihoafnobaaGreatDoor
set_option maxRecDepth 100000
open Go.RowKit
def bitsN (k : Int) : Int := if k = 5 then 64 else if k = 6 then 128 else if k = 7 then 128 else if k = 8 then 128 else 32
structure KindIs (k : Int) (f1 : FuncId) (c1 : Array Value) (f2 : FuncId) (c2 : Array Value) (w : World) : Prop where
 e1 : ∀ (args : Array Value) (W : World), Sem.run Tryz.prog (callFunc f1 args) W = .ok (.enter f1 args) W
 one : ∀ W (kh kl : BitVec 64) (a : Option Addr) (n c : Nat) (l : Bytes), Fr No w W → IsBytes W a n c l → n ≤ 1099511627776 → Calls Tryz.prog f1 (#[.agg #[.int .u64 (W64 kh), .int .u64 (W64 kl)], .slice a n c] ++ c1) W (GivesBytes (oneS k kh kl l) W)
 e2 : ∀ (args : Array Value) (W : World), Sem.run Tryz.prog (callFunc f2 args) W = .ok (.enter f2 args) W
 made : ∀ w0 W (kh kl : BitVec 64), Fr No w W → Fr No w0 W → Calls Tryz.prog f2 (#[.agg #[.int .u64 (W64 kh), .int .u64 (W64 kl)]] ++ c2) W (fun e w2 => ∃ hb, e = .returned (.pointer (some ⟨hb, 0, none⟩)) ∧ ∃ F, HSAny w0 w2 hb F k kh kl (firstS k kh kl) [] 0#64 ∧ (∀ x, F x → W.heap.size ≤ x) ∧ Fr No W w2)
theorem KindIs.no {k : Int} {f1 f2 : FuncId} {c1 c2 : Array Value} {w w' : World} (h : KindIs k f1 c1 f2 c2 w) (f : Fr No w w') : KindIs k f1 c1 f2 c2 w' := ⟨h.e1, fun W kh kl a n c l hW => h.one W kh kl a n c l (f.no hW), h.e2, fun w0 W kh kl hW => h.made w0 W kh kl (f.no hW)⟩
set_option maxHeartbeats 800000 in
theorem of_1 (w : World) : Calls Tryz.prog 42 #[.int .i64 1] w (fun e w' => ∃ f1 c1 f2 c2, e = .returned (.tuple #[.agg #[.string ⟨#[109, 117, 114, 109, 117, 114, 51, 50]⟩, .int .i64 4, .int .i64 4, .int .i64 32, .func (.func f1) #[] c1, .func (.func f2) #[] c2], .bool true]) ∧ KindIs 1 f1 c1 f2 c2 w' ∧ Fr No w w') := by
 have hZ := row6_new w 89 (.string ⟨#[]⟩) (.int .i64 0) (.int .i64 0) (.int .i64 0) .nilFunc .nilFunc
 have hF := (Fr.refl No w).alloc (.cells #[.string ⟨#[]⟩, .int .i64 0, .int .i64 0, .int .i64 0, .nilFunc, .nilFunc] 89)
 have hlt := hF.size
 go_enter Tryz.func42, Tryz.ntmps42
 go_wp2_with fail
 obtain ⟨wz, hwz⟩ : ∃ wz : Nat, wz = w.heap.size := ⟨_, rfl⟩
 have hge : w.heap.size ≤ wz := by omega
 rw [← hwz] at hZ ⊢
 clear hwz
 generalize w.alloc (.cells #[.string ⟨#[]⟩, .int .i64 0, .int .i64 0, .int .i64 0, .nilFunc, .nilFunc] 89) = w1 at hF hZ hlt ⊢
 refine (StM32.small_any 1 _ 4 4 _).mono ?_
 rintro e w2 ⟨c9, c13, c14, c15, c16, c17, rfl, r9, r13, r14, r15, r16, r17, hf⟩
 replace hZ := StSip.row6_no hZ hf
 replace hF := hF.no hf
 have z0 := hZ.c0
 have y0 := hZ.fz 0
 have z1 := hZ.c1
 have y1 := hZ.fz 1
 have z2 := hZ.c2
 have y2 := hZ.fz 2
 have z3 := hZ.c3
 have y3 := hZ.fz 3
 have z4 := hZ.c4
 have y4 := hZ.fz 4
 have z5 := hZ.c5
 have y5 := hZ.fz 5
 go_wp2_with fail
 have hR := row_put6 hZ (.string ⟨#[109, 117, 114, 109, 117, 114, 51, 50]⟩) (.int .i64 4) (.int .i64 4) (.int .i64 32) (.func (.func 112) #[] #[.pointer (some ⟨c16, 0, none⟩), .pointer (some ⟨c13, 0, none⟩)]) (.func (.func 113) #[] #[.pointer (some ⟨c9, 0, none⟩), .pointer (some ⟨c14, 0, none⟩), .pointer (some ⟨c15, 0, none⟩), .pointer (some ⟨c16, 0, none⟩), .pointer (some ⟨c17, 0, none⟩)])
 have hP := fr_put6 w2 wz (.string ⟨#[109, 117, 114, 109, 117, 114, 51, 50]⟩) (.int .i64 4) (.int .i64 4) (.int .i64 32) (.func (.func 112) #[] #[.pointer (some ⟨c16, 0, none⟩), .pointer (some ⟨c13, 0, none⟩)]) (.func (.func 113) #[] #[.pointer (some ⟨c9, 0, none⟩), .pointer (some ⟨c14, 0, none⟩), .pointer (some ⟨c15, 0, none⟩), .pointer (some ⟨c16, 0, none⟩), .pointer (some ⟨c17, 0, none⟩)])
 have cd0 := hR.c0
 have cd1 := hR.c1
 have cd2 := hR.c2
 have cd3 := hR.c3
 have cd4 := hR.c4
 have cd5 := hR.c5
 refine bodyPost_ret (v := .tuple #[.agg #[.string ⟨#[109, 117, 114, 109, 117, 114, 51, 50]⟩, .int .i64 4, .int .i64 4, .int .i64 32, .func (.func 112) #[] #[.pointer (some ⟨c16, 0, none⟩), .pointer (some ⟨c13, 0, none⟩)], .func (.func 113) #[] #[.pointer (some ⟨c9, 0, none⟩), .pointer (some ⟨c14, 0, none⟩), .pointer (some ⟨c15, 0, none⟩), .pointer (some ⟨c16, 0, none⟩), .pointer (some ⟨c17, 0, none⟩)]], .bool true]) (by simp [results, Tryz.results42, go_sem, cd0, cd1, cd2, cd3, cd4, cd5]) rfl ?_
 have hFz := hF.trans hP (fun x hx => .inr (by omega))
 replace r9 := r9.past hZ hP
 replace r13 := r13.past hZ hP
 replace r14 := r14.past hZ hP
 replace r15 := r15.past hZ hP
 replace r16 := r16.past hZ hP
 replace r17 := r17.past hZ hP
 refine ⟨_, _, _, _, rfl, ⟨calls_enter Tryz.func112 (by kernel_rfl) (by kernel_rfl), fun W kh kl a n c l hW hy hn => ?_, calls_enter Tryz.func113 (by kernel_rfl) (by kernel_rfl), fun w0 W kh kl hW h0 => ?_⟩, hFz⟩
 · exact StM32.one_cl (r16.no hW) (r13.no hW) kh kl a n c l hy hn
 · refine (StM32.made_cl (r9.no hW) (r14.no hW) (r15.no hW) (r16.no hW) (r17.no hW) h0 kh kl).mono ?_
   rintro e w3 ⟨hb, rfl, F, h', r⟩
   exact ⟨hb, rfl, F, ⟨rfl, h'⟩, r⟩
set_option maxHeartbeats 800000 in
theorem of_2 (w : World) : Calls Tryz.prog 42 #[.int .i64 2] w (fun e w' => ∃ f1 c1 f2 c2, e = .returned (.tuple #[.agg #[.string ⟨#[109, 117, 114, 109, 117, 114, 56, 54]⟩, .int .i64 16, .int .i64 16, .int .i64 32, .func (.func f1) #[] c1, .func (.func f2) #[] c2], .bool true]) ∧ KindIs 2 f1 c1 f2 c2 w' ∧ Fr No w w') := by
 have hZ := row6_new w 89 (.string ⟨#[]⟩) (.int .i64 0) (.int .i64 0) (.int .i64 0) .nilFunc .nilFunc
 have hF := (Fr.refl No w).alloc (.cells #[.string ⟨#[]⟩, .int .i64 0, .int .i64 0, .int .i64 0, .nilFunc, .nilFunc] 89)
 have hlt := hF.size
 go_enter Tryz.func42, Tryz.ntmps42
 go_wp2_with fail
 obtain ⟨wz, hwz⟩ : ∃ wz : Nat, wz = w.heap.size := ⟨_, rfl⟩
 have hge : w.heap.size ≤ wz := by omega
 rw [← hwz] at hZ ⊢
 clear hwz
 generalize w.alloc (.cells #[.string ⟨#[]⟩, .int .i64 0, .int .i64 0, .int .i64 0, .nilFunc, .nilFunc] 89) = w1 at hF hZ hlt ⊢
 refine (StM86.small_any 2 _ 16 16 _).mono ?_
 rintro e w2 ⟨c9, c13, c14, c15, c16, c17, rfl, r9, r13, r14, r15, r16, r17, hf⟩
 replace hZ := StSip.row6_no hZ hf
 replace hF := hF.no hf
 have z0 := hZ.c0
 have y0 := hZ.fz 0
 have z1 := hZ.c1
 have y1 := hZ.fz 1
 have z2 := hZ.c2
 have y2 := hZ.fz 2
 have z3 := hZ.c3
 have y3 := hZ.fz 3
 have z4 := hZ.c4
 have y4 := hZ.fz 4
 have z5 := hZ.c5
 have y5 := hZ.fz 5
 go_wp2_with fail
 have hR := row_put6 hZ (.string ⟨#[109, 117, 114, 109, 117, 114, 56, 54]⟩) (.int .i64 16) (.int .i64 16) (.int .i64 32) (.func (.func 124) #[] #[.pointer (some ⟨c16, 0, none⟩), .pointer (some ⟨c13, 0, none⟩)]) (.func (.func 125) #[] #[.pointer (some ⟨c9, 0, none⟩), .pointer (some ⟨c14, 0, none⟩), .pointer (some ⟨c15, 0, none⟩), .pointer (some ⟨c16, 0, none⟩), .pointer (some ⟨c17, 0, none⟩)])
 have hP := fr_put6 w2 wz (.string ⟨#[109, 117, 114, 109, 117, 114, 56, 54]⟩) (.int .i64 16) (.int .i64 16) (.int .i64 32) (.func (.func 124) #[] #[.pointer (some ⟨c16, 0, none⟩), .pointer (some ⟨c13, 0, none⟩)]) (.func (.func 125) #[] #[.pointer (some ⟨c9, 0, none⟩), .pointer (some ⟨c14, 0, none⟩), .pointer (some ⟨c15, 0, none⟩), .pointer (some ⟨c16, 0, none⟩), .pointer (some ⟨c17, 0, none⟩)])
 have cd0 := hR.c0
 have cd1 := hR.c1
 have cd2 := hR.c2
 have cd3 := hR.c3
 have cd4 := hR.c4
 have cd5 := hR.c5
 refine bodyPost_ret (v := .tuple #[.agg #[.string ⟨#[109, 117, 114, 109, 117, 114, 56, 54]⟩, .int .i64 16, .int .i64 16, .int .i64 32, .func (.func 124) #[] #[.pointer (some ⟨c16, 0, none⟩), .pointer (some ⟨c13, 0, none⟩)], .func (.func 125) #[] #[.pointer (some ⟨c9, 0, none⟩), .pointer (some ⟨c14, 0, none⟩), .pointer (some ⟨c15, 0, none⟩), .pointer (some ⟨c16, 0, none⟩), .pointer (some ⟨c17, 0, none⟩)]], .bool true]) (by simp [results, Tryz.results42, go_sem, cd0, cd1, cd2, cd3, cd4, cd5]) rfl ?_
 have hFz := hF.trans hP (fun x hx => .inr (by omega))
 replace r9 := r9.past hZ hP
 replace r13 := r13.past hZ hP
 replace r14 := r14.past hZ hP
 replace r15 := r15.past hZ hP
 replace r16 := r16.past hZ hP
 replace r17 := r17.past hZ hP
 refine ⟨_, _, _, _, rfl, ⟨calls_enter Tryz.func124 (by kernel_rfl) (by kernel_rfl), fun W kh kl a n c l hW hy hn => ?_, calls_enter Tryz.func125 (by kernel_rfl) (by kernel_rfl), fun w0 W kh kl hW h0 => ?_⟩, hFz⟩
 · exact StM86.one_cl (r16.no hW) (r13.no hW) kh kl a n c l hy hn
 · refine (StM86.made_cl (r9.no hW) (r14.no hW) (r15.no hW) (r16.no hW) (r17.no hW) h0 kh kl).mono ?_
   rintro e w3 ⟨hb, rfl, F, h', r⟩
   exact ⟨hb, rfl, F, ⟨rfl, h'⟩, r⟩
set_option maxHeartbeats 800000 in
theorem of_3 (w : World) : Calls Tryz.prog 42 #[.int .i64 3] w (fun e w' => ∃ f1 c1 f2 c2, e = .returned (.tuple #[.agg #[.string ⟨#[109, 117, 114, 109, 117, 114, 54, 52]⟩, .int .i64 16, .int .i64 16, .int .i64 32, .func (.func f1) #[] c1, .func (.func f2) #[] c2], .bool true]) ∧ KindIs 3 f1 c1 f2 c2 w' ∧ Fr No w w') := by
 have hZ := row6_new w 89 (.string ⟨#[]⟩) (.int .i64 0) (.int .i64 0) (.int .i64 0) .nilFunc .nilFunc
 have hF := (Fr.refl No w).alloc (.cells #[.string ⟨#[]⟩, .int .i64 0, .int .i64 0, .int .i64 0, .nilFunc, .nilFunc] 89)
 have hlt := hF.size
 go_enter Tryz.func42, Tryz.ntmps42
 go_wp2_with fail
 obtain ⟨wz, hwz⟩ : ∃ wz : Nat, wz = w.heap.size := ⟨_, rfl⟩
 have hge : w.heap.size ≤ wz := by omega
 rw [← hwz] at hZ ⊢
 clear hwz
 generalize w.alloc (.cells #[.string ⟨#[]⟩, .int .i64 0, .int .i64 0, .int .i64 0, .nilFunc, .nilFunc] 89) = w1 at hF hZ hlt ⊢
 refine (StM64.small_any 3 _ 16 16 _).mono ?_
 rintro e w2 ⟨c9, c13, c14, c15, c16, c17, rfl, r9, r13, r14, r15, r16, r17, hf⟩
 replace hZ := StSip.row6_no hZ hf
 replace hF := hF.no hf
 have z0 := hZ.c0
 have y0 := hZ.fz 0
 have z1 := hZ.c1
 have y1 := hZ.fz 1
 have z2 := hZ.c2
 have y2 := hZ.fz 2
 have z3 := hZ.c3
 have y3 := hZ.fz 3
 have z4 := hZ.c4
 have y4 := hZ.fz 4
 have z5 := hZ.c5
 have y5 := hZ.fz 5
 go_wp2_with fail
 have hR := row_put6 hZ (.string ⟨#[109, 117, 114, 109, 117, 114, 54, 52]⟩) (.int .i64 16) (.int .i64 16) (.int .i64 32) (.func (.func 136) #[] #[.pointer (some ⟨c16, 0, none⟩), .pointer (some ⟨c13, 0, none⟩)]) (.func (.func 137) #[] #[.pointer (some ⟨c9, 0, none⟩), .pointer (some ⟨c14, 0, none⟩), .pointer (some ⟨c15, 0, none⟩), .pointer (some ⟨c16, 0, none⟩), .pointer (some ⟨c17, 0, none⟩)])
 have hP := fr_put6 w2 wz (.string ⟨#[109, 117, 114, 109, 117, 114, 54, 52]⟩) (.int .i64 16) (.int .i64 16) (.int .i64 32) (.func (.func 136) #[] #[.pointer (some ⟨c16, 0, none⟩), .pointer (some ⟨c13, 0, none⟩)]) (.func (.func 137) #[] #[.pointer (some ⟨c9, 0, none⟩), .pointer (some ⟨c14, 0, none⟩), .pointer (some ⟨c15, 0, none⟩), .pointer (some ⟨c16, 0, none⟩), .pointer (some ⟨c17, 0, none⟩)])
 have cd0 := hR.c0
 have cd1 := hR.c1
 have cd2 := hR.c2
 have cd3 := hR.c3
 have cd4 := hR.c4
 have cd5 := hR.c5
 refine bodyPost_ret (v := .tuple #[.agg #[.string ⟨#[109, 117, 114, 109, 117, 114, 54, 52]⟩, .int .i64 16, .int .i64 16, .int .i64 32, .func (.func 136) #[] #[.pointer (some ⟨c16, 0, none⟩), .pointer (some ⟨c13, 0, none⟩)], .func (.func 137) #[] #[.pointer (some ⟨c9, 0, none⟩), .pointer (some ⟨c14, 0, none⟩), .pointer (some ⟨c15, 0, none⟩), .pointer (some ⟨c16, 0, none⟩), .pointer (some ⟨c17, 0, none⟩)]], .bool true]) (by simp [results, Tryz.results42, go_sem, cd0, cd1, cd2, cd3, cd4, cd5]) rfl ?_
 have hFz := hF.trans hP (fun x hx => .inr (by omega))
 replace r9 := r9.past hZ hP
 replace r13 := r13.past hZ hP
 replace r14 := r14.past hZ hP
 replace r15 := r15.past hZ hP
 replace r16 := r16.past hZ hP
 replace r17 := r17.past hZ hP
 refine ⟨_, _, _, _, rfl, ⟨calls_enter Tryz.func136 (by kernel_rfl) (by kernel_rfl), fun W kh kl a n c l hW hy hn => ?_, calls_enter Tryz.func137 (by kernel_rfl) (by kernel_rfl), fun w0 W kh kl hW h0 => ?_⟩, hFz⟩
 · exact StM64.one_cl (r16.no hW) (r13.no hW) kh kl a n c l hy hn
 · refine (StM64.made_cl (r9.no hW) (r14.no hW) (r15.no hW) (r16.no hW) (r17.no hW) h0 kh kl).mono ?_
   rintro e w3 ⟨hb, rfl, F, h', r⟩
   exact ⟨hb, rfl, F, ⟨rfl, h'⟩, r⟩
set_option maxHeartbeats 800000 in
theorem of_4 (w : World) : Calls Tryz.prog 42 #[.int .i64 4] w (fun e w' => ∃ f1 c1 f2 c2, e = .returned (.tuple #[.agg #[.string ⟨#[120, 120, 51, 50]⟩, .int .i64 4, .int .i64 16, .int .i64 32, .func (.func f1) #[] c1, .func (.func f2) #[] c2], .bool true]) ∧ KindIs 4 f1 c1 f2 c2 w' ∧ Fr No w w') := by
 have hZ := row6_new w 89 (.string ⟨#[]⟩) (.int .i64 0) (.int .i64 0) (.int .i64 0) .nilFunc .nilFunc
 have hF := (Fr.refl No w).alloc (.cells #[.string ⟨#[]⟩, .int .i64 0, .int .i64 0, .int .i64 0, .nilFunc, .nilFunc] 89)
 have hlt := hF.size
 go_enter Tryz.func42, Tryz.ntmps42
 go_wp2_with fail
 obtain ⟨wz, hwz⟩ : ∃ wz : Nat, wz = w.heap.size := ⟨_, rfl⟩
 have hge : w.heap.size ≤ wz := by omega
 rw [← hwz] at hZ ⊢
 clear hwz
 generalize w.alloc (.cells #[.string ⟨#[]⟩, .int .i64 0, .int .i64 0, .int .i64 0, .nilFunc, .nilFunc] 89) = w1 at hF hZ hlt ⊢
 refine (StX32.small_any 4 _ 4 16 _).mono ?_
 rintro e w2 ⟨c9, c13, c14, c15, c16, c17, rfl, r9, r13, r14, r15, r16, r17, hf⟩
 replace hZ := StSip.row6_no hZ hf
 replace hF := hF.no hf
 have z0 := hZ.c0
 have y0 := hZ.fz 0
 have z1 := hZ.c1
 have y1 := hZ.fz 1
 have z2 := hZ.c2
 have y2 := hZ.fz 2
 have z3 := hZ.c3
 have y3 := hZ.fz 3
 have z4 := hZ.c4
 have y4 := hZ.fz 4
 have z5 := hZ.c5
 have y5 := hZ.fz 5
 go_wp2_with fail
 have hR := row_put6 hZ (.string ⟨#[120, 120, 51, 50]⟩) (.int .i64 4) (.int .i64 16) (.int .i64 32) (.func (.func 149) #[] #[.pointer (some ⟨c16, 0, none⟩), .pointer (some ⟨c13, 0, none⟩)]) (.func (.func 150) #[] #[.pointer (some ⟨c9, 0, none⟩), .pointer (some ⟨c14, 0, none⟩), .pointer (some ⟨c15, 0, none⟩), .pointer (some ⟨c16, 0, none⟩), .pointer (some ⟨c17, 0, none⟩)])
 have hP := fr_put6 w2 wz (.string ⟨#[120, 120, 51, 50]⟩) (.int .i64 4) (.int .i64 16) (.int .i64 32) (.func (.func 149) #[] #[.pointer (some ⟨c16, 0, none⟩), .pointer (some ⟨c13, 0, none⟩)]) (.func (.func 150) #[] #[.pointer (some ⟨c9, 0, none⟩), .pointer (some ⟨c14, 0, none⟩), .pointer (some ⟨c15, 0, none⟩), .pointer (some ⟨c16, 0, none⟩), .pointer (some ⟨c17, 0, none⟩)])
 have cd0 := hR.c0
 have cd1 := hR.c1
 have cd2 := hR.c2
 have cd3 := hR.c3
 have cd4 := hR.c4
 have cd5 := hR.c5
 refine bodyPost_ret (v := .tuple #[.agg #[.string ⟨#[120, 120, 51, 50]⟩, .int .i64 4, .int .i64 16, .int .i64 32, .func (.func 149) #[] #[.pointer (some ⟨c16, 0, none⟩), .pointer (some ⟨c13, 0, none⟩)], .func (.func 150) #[] #[.pointer (some ⟨c9, 0, none⟩), .pointer (some ⟨c14, 0, none⟩), .pointer (some ⟨c15, 0, none⟩), .pointer (some ⟨c16, 0, none⟩), .pointer (some ⟨c17, 0, none⟩)]], .bool true]) (by simp [results, Tryz.results42, go_sem, cd0, cd1, cd2, cd3, cd4, cd5]) rfl ?_
 have hFz := hF.trans hP (fun x hx => .inr (by omega))
 replace r9 := r9.past hZ hP
 replace r13 := r13.past hZ hP
 replace r14 := r14.past hZ hP
 replace r15 := r15.past hZ hP
 replace r16 := r16.past hZ hP
 replace r17 := r17.past hZ hP
 refine ⟨_, _, _, _, rfl, ⟨calls_enter Tryz.func149 (by kernel_rfl) (by kernel_rfl), fun W kh kl a n c l hW hy hn => ?_, calls_enter Tryz.func150 (by kernel_rfl) (by kernel_rfl), fun w0 W kh kl hW h0 => ?_⟩, hFz⟩
 · exact StX32.one_cl (r16.no hW) (r13.no hW) kh kl a n c l hy hn
 · refine (StX32.made_cl (r9.no hW) (r14.no hW) (r15.no hW) (r16.no hW) (r17.no hW) h0 kh kl).mono ?_
   rintro e w3 ⟨hb, rfl, F, h', r⟩
   exact ⟨hb, rfl, F, ⟨rfl, h'⟩, r⟩
set_option maxHeartbeats 800000 in
theorem of_5 (w : World) : Calls Tryz.prog 42 #[.int .i64 5] w (fun e w' => ∃ f1 c1 f2 c2, e = .returned (.tuple #[.agg #[.string ⟨#[120, 120, 54, 52]⟩, .int .i64 8, .int .i64 32, .int .i64 64, .func (.func f1) #[] c1, .func (.func f2) #[] c2], .bool true]) ∧ KindIs 5 f1 c1 f2 c2 w' ∧ Fr No w w') := by
 have hZ := row6_new w 89 (.string ⟨#[]⟩) (.int .i64 0) (.int .i64 0) (.int .i64 0) .nilFunc .nilFunc
 have hF := (Fr.refl No w).alloc (.cells #[.string ⟨#[]⟩, .int .i64 0, .int .i64 0, .int .i64 0, .nilFunc, .nilFunc] 89)
 have hlt := hF.size
 go_enter Tryz.func42, Tryz.ntmps42
 go_wp2_with fail
 obtain ⟨wz, hwz⟩ : ∃ wz : Nat, wz = w.heap.size := ⟨_, rfl⟩
 have hge : w.heap.size ≤ wz := by omega
 rw [← hwz] at hZ ⊢
 clear hwz
 generalize w.alloc (.cells #[.string ⟨#[]⟩, .int .i64 0, .int .i64 0, .int .i64 0, .nilFunc, .nilFunc] 89) = w1 at hF hZ hlt ⊢
 refine (StX64.great_any _).mono ?_
 rintro e w2 ⟨rfl, hf⟩
 replace hZ := StSip.row6_no hZ hf
 replace hF := hF.no hf
 have z0 := hZ.c0
 have y0 := hZ.fz 0
 have z1 := hZ.c1
 have y1 := hZ.fz 1
 have z2 := hZ.c2
 have y2 := hZ.fz 2
 have z3 := hZ.c3
 have y3 := hZ.fz 3
 have z4 := hZ.c4
 have y4 := hZ.fz 4
 have z5 := hZ.c5
 have y5 := hZ.fz 5
 go_wp2_with fail
 have hR := row_put6 hZ (.string ⟨#[120, 120, 54, 52]⟩) (.int .i64 8) (.int .i64 32) (.int .i64 64) (.func (.func 156) #[] #[]) (.func (.func 159) #[] #[])
 have hP := fr_put6 w2 wz (.string ⟨#[120, 120, 54, 52]⟩) (.int .i64 8) (.int .i64 32) (.int .i64 64) (.func (.func 156) #[] #[]) (.func (.func 159) #[] #[])
 have cd0 := hR.c0
 have cd1 := hR.c1
 have cd2 := hR.c2
 have cd3 := hR.c3
 have cd4 := hR.c4
 have cd5 := hR.c5
 refine bodyPost_ret (v := .tuple #[.agg #[.string ⟨#[120, 120, 54, 52]⟩, .int .i64 8, .int .i64 32, .int .i64 64, .func (.func 156) #[] #[], .func (.func 159) #[] #[]], .bool true]) (by simp [results, Tryz.results42, go_sem, cd0, cd1, cd2, cd3, cd4, cd5]) rfl ?_
 have hFz := hF.trans hP (fun x hx => .inr (by omega))
 refine ⟨_, _, _, _, rfl, ⟨calls_enter Tryz.func156 (by kernel_rfl) (by kernel_rfl), fun W kh kl a n c l hW hy hn => ?_, calls_enter Tryz.func159 (by kernel_rfl) (by kernel_rfl), fun w0 W kh kl hW h0 => ?_⟩, hFz⟩
 · exact StX64.one_cl kh kl a n c l W hy hn
 · refine (StX64.made_cl h0 kh kl).mono ?_
   rintro e w3 ⟨hb, rfl, F, h', r⟩
   exact ⟨hb, rfl, F, ⟨rfl, h'⟩, r⟩
set_option maxHeartbeats 800000 in
theorem of_6 (w : World) : Calls Tryz.prog 42 #[.int .i64 6] w (fun e w' => ∃ f1 c1 f2 c2, e = .returned (.tuple #[.agg #[.string ⟨#[115, 105, 112, 50, 52]⟩, .int .i64 8, .int .i64 8, .int .i64 128, .func (.func f1) #[] c1, .func (.func f2) #[] c2], .bool true]) ∧ KindIs 6 f1 c1 f2 c2 w' ∧ Fr No w w') := by
 have hZ := row6_new w 89 (.string ⟨#[]⟩) (.int .i64 0) (.int .i64 0) (.int .i64 0) .nilFunc .nilFunc
 have hF := (Fr.refl No w).alloc (.cells #[.string ⟨#[]⟩, .int .i64 0, .int .i64 0, .int .i64 0, .nilFunc, .nilFunc] 89)
 have hlt := hF.size
 go_enter Tryz.func42, Tryz.ntmps42
 go_wp2_with fail
 obtain ⟨wz, hwz⟩ : ∃ wz : Nat, wz = w.heap.size := ⟨_, rfl⟩
 have hge : w.heap.size ≤ wz := by omega
 rw [← hwz] at hZ ⊢
 clear hwz
 generalize w.alloc (.cells #[.string ⟨#[]⟩, .int .i64 0, .int .i64 0, .int .i64 0, .nilFunc, .nilFunc] 89) = w1 at hF hZ hlt ⊢
 refine (StSip.sips_any 6 _ 8 _).mono ?_
 rintro e w2 ⟨c3, c5, c7, rfl, r3, r5, r7, hf⟩
 replace hZ := StSip.row6_no hZ hf
 replace hF := hF.no hf
 have z0 := hZ.c0
 have y0 := hZ.fz 0
 have z1 := hZ.c1
 have y1 := hZ.fz 1
 have z2 := hZ.c2
 have y2 := hZ.fz 2
 have z3 := hZ.c3
 have y3 := hZ.fz 3
 have z4 := hZ.c4
 have y4 := hZ.fz 4
 have z5 := hZ.c5
 have y5 := hZ.fz 5
 go_wp2_with fail
 have hR := row_put6 hZ (.string ⟨#[115, 105, 112, 50, 52]⟩) (.int .i64 8) (.int .i64 8) (.int .i64 128) (.func (.func 165) #[] #[.pointer (some ⟨c7, 0, none⟩), .pointer (some ⟨c3, 0, none⟩)]) (.func (.func 167) #[] #[.pointer (some ⟨c3, 0, none⟩), .pointer (some ⟨c7, 0, none⟩)])
 have hP := fr_put6 w2 wz (.string ⟨#[115, 105, 112, 50, 52]⟩) (.int .i64 8) (.int .i64 8) (.int .i64 128) (.func (.func 165) #[] #[.pointer (some ⟨c7, 0, none⟩), .pointer (some ⟨c3, 0, none⟩)]) (.func (.func 167) #[] #[.pointer (some ⟨c3, 0, none⟩), .pointer (some ⟨c7, 0, none⟩)])
 have cd0 := hR.c0
 have cd1 := hR.c1
 have cd2 := hR.c2
 have cd3 := hR.c3
 have cd4 := hR.c4
 have cd5 := hR.c5
 refine bodyPost_ret (v := .tuple #[.agg #[.string ⟨#[115, 105, 112, 50, 52]⟩, .int .i64 8, .int .i64 8, .int .i64 128, .func (.func 165) #[] #[.pointer (some ⟨c7, 0, none⟩), .pointer (some ⟨c3, 0, none⟩)], .func (.func 167) #[] #[.pointer (some ⟨c3, 0, none⟩), .pointer (some ⟨c7, 0, none⟩)]], .bool true]) (by simp [results, Tryz.results42, go_sem, cd0, cd1, cd2, cd3, cd4, cd5]) rfl ?_
 have hFz := hF.trans hP (fun x hx => .inr (by omega))
 replace r3 := r3.past hZ hP
 replace r5 := r5.past hZ hP
 replace r7 := r7.past hZ hP
 refine ⟨_, _, _, _, rfl, ⟨calls_enter Tryz.func165 (by kernel_rfl) (by kernel_rfl), fun W kh kl a n c l hW hy hn => ?_, calls_enter Tryz.func167 (by kernel_rfl) (by kernel_rfl), fun w0 W kh kl hW h0 => ?_⟩, hFz⟩
 · exact StSip.one_cl (r3.no hW) (r5.no hW) (r7.no hW) (by omega) kh kl a n c l hy hn
 · refine (StSip.made_cl (by unfold StSip.IsK; omega) (r3.no hW) (r5.no hW) (r7.no hW) h0 kh kl).mono ?_
   rintro e w3 ⟨hb, rfl, F, h', r⟩
   exact ⟨hb, rfl, F, ⟨(by unfold StSip.IsK; omega), h'⟩, r⟩
set_option maxHeartbeats 800000 in
theorem of_7 (w : World) : Calls Tryz.prog 42 #[.int .i64 7] w (fun e w' => ∃ f1 c1 f2 c2, e = .returned (.tuple #[.agg #[.string ⟨#[115, 105, 112, 49, 51]⟩, .int .i64 8, .int .i64 8, .int .i64 128, .func (.func f1) #[] c1, .func (.func f2) #[] c2], .bool true]) ∧ KindIs 7 f1 c1 f2 c2 w' ∧ Fr No w w') := by
 have hZ := row6_new w 89 (.string ⟨#[]⟩) (.int .i64 0) (.int .i64 0) (.int .i64 0) .nilFunc .nilFunc
 have hF := (Fr.refl No w).alloc (.cells #[.string ⟨#[]⟩, .int .i64 0, .int .i64 0, .int .i64 0, .nilFunc, .nilFunc] 89)
 have hlt := hF.size
 go_enter Tryz.func42, Tryz.ntmps42
 go_wp2_with fail
 obtain ⟨wz, hwz⟩ : ∃ wz : Nat, wz = w.heap.size := ⟨_, rfl⟩
 have hge : w.heap.size ≤ wz := by omega
 rw [← hwz] at hZ ⊢
 clear hwz
 generalize w.alloc (.cells #[.string ⟨#[]⟩, .int .i64 0, .int .i64 0, .int .i64 0, .nilFunc, .nilFunc] 89) = w1 at hF hZ hlt ⊢
 refine (StSip.sips_any 7 _ 8 _).mono ?_
 rintro e w2 ⟨c3, c5, c7, rfl, r3, r5, r7, hf⟩
 replace hZ := StSip.row6_no hZ hf
 replace hF := hF.no hf
 have z0 := hZ.c0
 have y0 := hZ.fz 0
 have z1 := hZ.c1
 have y1 := hZ.fz 1
 have z2 := hZ.c2
 have y2 := hZ.fz 2
 have z3 := hZ.c3
 have y3 := hZ.fz 3
 have z4 := hZ.c4
 have y4 := hZ.fz 4
 have z5 := hZ.c5
 have y5 := hZ.fz 5
 go_wp2_with fail
 have hR := row_put6 hZ (.string ⟨#[115, 105, 112, 49, 51]⟩) (.int .i64 8) (.int .i64 8) (.int .i64 128) (.func (.func 165) #[] #[.pointer (some ⟨c7, 0, none⟩), .pointer (some ⟨c3, 0, none⟩)]) (.func (.func 167) #[] #[.pointer (some ⟨c3, 0, none⟩), .pointer (some ⟨c7, 0, none⟩)])
 have hP := fr_put6 w2 wz (.string ⟨#[115, 105, 112, 49, 51]⟩) (.int .i64 8) (.int .i64 8) (.int .i64 128) (.func (.func 165) #[] #[.pointer (some ⟨c7, 0, none⟩), .pointer (some ⟨c3, 0, none⟩)]) (.func (.func 167) #[] #[.pointer (some ⟨c3, 0, none⟩), .pointer (some ⟨c7, 0, none⟩)])
 have cd0 := hR.c0
 have cd1 := hR.c1
 have cd2 := hR.c2
 have cd3 := hR.c3
 have cd4 := hR.c4
 have cd5 := hR.c5
 refine bodyPost_ret (v := .tuple #[.agg #[.string ⟨#[115, 105, 112, 49, 51]⟩, .int .i64 8, .int .i64 8, .int .i64 128, .func (.func 165) #[] #[.pointer (some ⟨c7, 0, none⟩), .pointer (some ⟨c3, 0, none⟩)], .func (.func 167) #[] #[.pointer (some ⟨c3, 0, none⟩), .pointer (some ⟨c7, 0, none⟩)]], .bool true]) (by simp [results, Tryz.results42, go_sem, cd0, cd1, cd2, cd3, cd4, cd5]) rfl ?_
 have hFz := hF.trans hP (fun x hx => .inr (by omega))
 replace r3 := r3.past hZ hP
 replace r5 := r5.past hZ hP
 replace r7 := r7.past hZ hP
 refine ⟨_, _, _, _, rfl, ⟨calls_enter Tryz.func165 (by kernel_rfl) (by kernel_rfl), fun W kh kl a n c l hW hy hn => ?_, calls_enter Tryz.func167 (by kernel_rfl) (by kernel_rfl), fun w0 W kh kl hW h0 => ?_⟩, hFz⟩
 · exact StSip.one_cl (r3.no hW) (r5.no hW) (r7.no hW) (by omega) kh kl a n c l hy hn
 · refine (StSip.made_cl (by unfold StSip.IsK; omega) (r3.no hW) (r5.no hW) (r7.no hW) h0 kh kl).mono ?_
   rintro e w3 ⟨hb, rfl, F, h', r⟩
   exact ⟨hb, rfl, F, ⟨(by unfold StSip.IsK; omega), h'⟩, r⟩
set_option maxHeartbeats 800000 in
theorem of_8 (w : World) : Calls Tryz.prog 42 #[.int .i64 8] w (fun e w' => ∃ f1 c1 f2 c2, e = .returned (.tuple #[.agg #[.string ⟨#[115, 105, 112, 49, 50, 56]⟩, .int .i64 16, .int .i64 8, .int .i64 128, .func (.func f1) #[] c1, .func (.func f2) #[] c2], .bool true]) ∧ KindIs 8 f1 c1 f2 c2 w' ∧ Fr No w w') := by
 have hZ := row6_new w 89 (.string ⟨#[]⟩) (.int .i64 0) (.int .i64 0) (.int .i64 0) .nilFunc .nilFunc
 have hF := (Fr.refl No w).alloc (.cells #[.string ⟨#[]⟩, .int .i64 0, .int .i64 0, .int .i64 0, .nilFunc, .nilFunc] 89)
 have hlt := hF.size
 go_enter Tryz.func42, Tryz.ntmps42
 go_wp2_with fail
 obtain ⟨wz, hwz⟩ : ∃ wz : Nat, wz = w.heap.size := ⟨_, rfl⟩
 have hge : w.heap.size ≤ wz := by omega
 rw [← hwz] at hZ ⊢
 clear hwz
 generalize w.alloc (.cells #[.string ⟨#[]⟩, .int .i64 0, .int .i64 0, .int .i64 0, .nilFunc, .nilFunc] 89) = w1 at hF hZ hlt ⊢
 refine (StSip.sips_any 8 _ 16 _).mono ?_
 rintro e w2 ⟨c3, c5, c7, rfl, r3, r5, r7, hf⟩
 replace hZ := StSip.row6_no hZ hf
 replace hF := hF.no hf
 have z0 := hZ.c0
 have y0 := hZ.fz 0
 have z1 := hZ.c1
 have y1 := hZ.fz 1
 have z2 := hZ.c2
 have y2 := hZ.fz 2
 have z3 := hZ.c3
 have y3 := hZ.fz 3
 have z4 := hZ.c4
 have y4 := hZ.fz 4
 have z5 := hZ.c5
 have y5 := hZ.fz 5
 go_wp2_with fail
 have hR := row_put6 hZ (.string ⟨#[115, 105, 112, 49, 50, 56]⟩) (.int .i64 16) (.int .i64 8) (.int .i64 128) (.func (.func 165) #[] #[.pointer (some ⟨c7, 0, none⟩), .pointer (some ⟨c3, 0, none⟩)]) (.func (.func 167) #[] #[.pointer (some ⟨c3, 0, none⟩), .pointer (some ⟨c7, 0, none⟩)])
 have hP := fr_put6 w2 wz (.string ⟨#[115, 105, 112, 49, 50, 56]⟩) (.int .i64 16) (.int .i64 8) (.int .i64 128) (.func (.func 165) #[] #[.pointer (some ⟨c7, 0, none⟩), .pointer (some ⟨c3, 0, none⟩)]) (.func (.func 167) #[] #[.pointer (some ⟨c3, 0, none⟩), .pointer (some ⟨c7, 0, none⟩)])
 have cd0 := hR.c0
 have cd1 := hR.c1
 have cd2 := hR.c2
 have cd3 := hR.c3
 have cd4 := hR.c4
 have cd5 := hR.c5
 refine bodyPost_ret (v := .tuple #[.agg #[.string ⟨#[115, 105, 112, 49, 50, 56]⟩, .int .i64 16, .int .i64 8, .int .i64 128, .func (.func 165) #[] #[.pointer (some ⟨c7, 0, none⟩), .pointer (some ⟨c3, 0, none⟩)], .func (.func 167) #[] #[.pointer (some ⟨c3, 0, none⟩), .pointer (some ⟨c7, 0, none⟩)]], .bool true]) (by simp [results, Tryz.results42, go_sem, cd0, cd1, cd2, cd3, cd4, cd5]) rfl ?_
 have hFz := hF.trans hP (fun x hx => .inr (by omega))
 replace r3 := r3.past hZ hP
 replace r5 := r5.past hZ hP
 replace r7 := r7.past hZ hP
 refine ⟨_, _, _, _, rfl, ⟨calls_enter Tryz.func165 (by kernel_rfl) (by kernel_rfl), fun W kh kl a n c l hW hy hn => ?_, calls_enter Tryz.func167 (by kernel_rfl) (by kernel_rfl), fun w0 W kh kl hW h0 => ?_⟩, hFz⟩
 · exact StSip.one_cl (r3.no hW) (r5.no hW) (r7.no hW) (by omega) kh kl a n c l hy hn
 · refine (StSip.made_cl (by unfold StSip.IsK; omega) (r3.no hW) (r5.no hW) (r7.no hW) h0 kh kl).mono ?_
   rintro e w3 ⟨hb, rfl, F, h', r⟩
   exact ⟨hb, rfl, F, ⟨(by unfold StSip.IsK; omega), h'⟩, r⟩
theorem of_yes {k : Int} (hk : KindOk k) (w : World) : Calls Tryz.prog 42 #[.int .i64 k] w (fun e w' => ∃ f1 c1 f2 c2, e = .returned (.tuple #[.agg #[.string (nameN k), .int .i64 (sizeN k), .int .i64 (blockN k), .int .i64 (bitsN k), .func (.func f1) #[] c1, .func (.func f2) #[] c2], .bool true]) ∧ KindIs k f1 c1 f2 c2 w' ∧ Fr No w w') := by
 rcases hk with rfl | rfl | rfl | rfl | rfl | rfl | rfl | rfl
 · exact of_1 w
 · exact of_2 w
 · exact of_3 w
 · exact of_4 w
 · exact of_5 w
 · exact of_6 w
 · exact of_7 w
 · exact of_8 w
@[go_sem] theorem run_store_nf (w : World) (a : Addr) (md : Mode) : (store a .nilFunc md).run Tryz.prog w = stored Tryz.prog w a .nilFunc md := run_store Tryz.prog w a _ md rfl
set_option maxHeartbeats 2000000 in
theorem of_no {k : Int} (hk : ¬ KindOk k) (w : World) : Calls Tryz.prog 42 #[.int .i64 k] w (GivesNew (.tuple #[.agg #[.string ⟨#[]⟩, .int .i64 0, .int .i64 0, .int .i64 0, .nilFunc, .nilFunc], .bool false]) w) := by
 have hh : ¬ k = 1 ∧ ¬ k = 2 ∧ ¬ k = 3 ∧ ¬ k = 4 ∧ ¬ k = 5 ∧ ¬ k = 6 ∧ ¬ k = 7 ∧ ¬ k = 8 := by unfold KindOk at hk; omega
 obtain ⟨h1, h2, h3, h4, h5, h6, h7, h8⟩ := hh
 clear hk
 have hZ := row6_new w 89 (.string ⟨#[]⟩) (.int .i64 0) (.int .i64 0) (.int .i64 0) .nilFunc .nilFunc
 have hF := (Fr.refl No w).alloc (.cells #[.string ⟨#[]⟩, .int .i64 0, .int .i64 0, .int .i64 0, .nilFunc, .nilFunc] 89)
 have hlt := hF.size
 obtain ⟨wz, hwz⟩ : ∃ wz : Nat, wz = w.heap.size := ⟨_, rfl⟩
 have hge : w.heap.size ≤ wz := by omega
 go_enter Tryz.func42, Tryz.ntmps42
 rw [← hwz] at hZ
 go_upto_region 1 with fail
 rw [← hwz]
 clear hwz
 generalize w.alloc (.cells #[.string ⟨#[]⟩, .int .i64 0, .int .i64 0, .int .i64 0, .nilFunc, .nilFunc] 89) = w1 at hF hZ hlt ⊢
 have z0 := hZ.c0
 have y0 := hZ.fz 0
 have z1 := hZ.c1
 have y1 := hZ.fz 1
 have z2 := hZ.c2
 have y2 := hZ.fz 2
 have z3 := hZ.c3
 have y3 := hZ.fz 3
 have z4 := hZ.c4
 have y4 := hZ.fz 4
 have z5 := hZ.c5
 have y5 := hZ.fz 5
 go_wp2_with fail
 have hR := row_put6 hZ (.string ⟨#[]⟩) (.int .i64 0) (.int .i64 0) (.int .i64 0) .nilFunc .nilFunc
 have hP := fr_put6 w1 wz (.string ⟨#[]⟩) (.int .i64 0) (.int .i64 0) (.int .i64 0) .nilFunc .nilFunc
 have cd0 := hR.c0
 have cd1 := hR.c1
 have cd2 := hR.c2
 have cd3 := hR.c3
 have cd4 := hR.c4
 have cd5 := hR.c5
 refine bodyPost_ret (v := .tuple #[.agg #[.string ⟨#[]⟩, .int .i64 0, .int .i64 0, .int .i64 0, .nilFunc, .nilFunc], .bool false]) (by simp [results, Tryz.results42, go_sem, cd0, cd1, cd2, cd3, cd4, cd5]) rfl ?_
 exact ⟨rfl, hF.trans hP (fun x hx => .inr (by omega))⟩
end Go.Proofs.YtidlpihoafnobaaGreatDoor
