/- StrOf StrNew -/
import Derived.Test.YtidlpihoafnobaaGreatPStrEnd
set_option linter.unusedVariables false
set_option linter.unusedSimpArgs false
namespace Go.Proofs.YtidlpihoafnobaaGreat
set_option maxRecDepth 100000
open Go.RowKit
def bitsN (k : Int) : Int := if k = 5 then 64 else if k = 6 then 128 else if k = 7 then 128 else if k = 8 then 128 else 32
structure KindIs (k : Int) (f1 : FuncId) (c1 : Array Value) (f2 : FuncId) (c2 : Array Value) (w : World) : Prop where
 e1 : ∀ (args : Array Value) (W : World), Sem.run Tryz.prog (callFunc f1 args) W = .ok (.enter f1 args) W
 one : ∀ W (kh kl : BitVec 64) (a : Option Addr) (n c : Nat) (l : Bytes), Fr No w W → IsBytes W a n c l → n ≤ 1099511627776 → Calls Tryz.prog f1 (#[.agg #[.int .u64 (W64 kh), .int .u64 (W64 kl)], .slice a n c] ++ c1) W (GivesBytes (oneS k kh kl l) W)
 e2 : ∀ (args : Array Value) (W : World), Sem.run Tryz.prog (callFunc f2 args) W = .ok (.enter f2 args) W
 made : ∀ w0 W (kh kl : BitVec 64), Fr No w W → Fr No w0 W → Calls Tryz.prog f2 (#[.agg #[.int .u64 (W64 kh), .int .u64 (W64 kl)]] ++ c2) W (fun e w2 => ∃ hb, e = .returned (.pointer (some ⟨hb, 0, none⟩)) ∧ ∃ F, HSAny w0 w2 hb F k kh kl (firstS k kh kl) [] 0#64 ∧ (∀ x, F x → W.heap.size ≤ x) ∧ Fr No W w2)
theorem KindIs.no {k : Int} {f1 f2 : FuncId} {c1 c2 : Array Value} {w w' : World} (h : KindIs k f1 c1 f2 c2 w) (f : Fr No w w') : KindIs k f1 c1 f2 c2 w' := ⟨h.e1, fun W kh kl a n c l hW => h.one W kh kl a n c l (f.no hW), h.e2, fun w0 W kh kl hW => h.made w0 W kh kl (f.no hW)⟩
set_option maxHeartbeats 800000 in
theorem of_1 (w : World) : Calls Tryz.prog 37 #[.int .i64 1] w (fun e w' => ∃ f1 c1 f2 c2, e = .returned (.tuple #[.agg #[.string ⟨#[109, 117, 114, 109, 117, 114, 51, 50]⟩, .int .i64 4, .int .i64 4, .int .i64 32, .func (.func f1) #[] c1, .func (.func f2) #[] c2], .bool true]) ∧ KindIs 1 f1 c1 f2 c2 w' ∧ Fr No w w') := by
 have hZ := row6_new w 65 (.string ⟨#[]⟩) (.int .i64 0) (.int .i64 0) (.int .i64 0) .nilFunc .nilFunc
 have hF := (Fr.refl No w).alloc (.cells #[.string ⟨#[]⟩, .int .i64 0, .int .i64 0, .int .i64 0, .nilFunc, .nilFunc] 65)
 have hlt := hF.size
 go_enter Tryz.func37, Tryz.ntmps37
 go_wp2_with fail
 obtain ⟨wz, hwz⟩ : ∃ wz : Nat, wz = w.heap.size := ⟨_, rfl⟩
 have hge : w.heap.size ≤ wz := by omega
 rw [← hwz] at hZ ⊢
 clear hwz
 generalize w.alloc (.cells #[.string ⟨#[]⟩, .int .i64 0, .int .i64 0, .int .i64 0, .nilFunc, .nilFunc] 65) = w1 at hF hZ hlt ⊢
 refine (StM32.small_any 1 _ 4 4 _).mono ?_
 rintro e w2 ⟨c9, c13, c14, c15, c16, c17, rfl, r9, r13, r14, r15, r16, r17, hf⟩
 replace hZ := StSip.row6_no hZ hf
 replace hF := hF.no hf
 have z0 := hZ.c0
 have y0 := hZ.fz 0
 have z1 := hZ.c1
 have y1 := hZ.fz 1
 have z2 := hZ.c2
 have y2 := hZ.fz 2
 have z3 := hZ.c3
 have y3 := hZ.fz 3
 have z4 := hZ.c4
 have y4 := hZ.fz 4
 have z5 := hZ.c5
 have y5 := hZ.fz 5
 go_wp2_with fail
 have hR := row_put6 hZ (.string ⟨#[109, 117, 114, 109, 117, 114, 51, 50]⟩) (.int .i64 4) (.int .i64 4) (.int .i64 32) (.func (.func 104) #[] #[.pointer (some ⟨c16, 0, none⟩), .pointer (some ⟨c13, 0, none⟩)]) (.func (.func 105) #[] #[.pointer (some ⟨c9, 0, none⟩), .pointer (some ⟨c14, 0, none⟩), .pointer (some ⟨c15, 0, none⟩), .pointer (some ⟨c16, 0, none⟩), .pointer (some ⟨c17, 0, none⟩)])
 have hP := fr_put6 w2 wz (.string ⟨#[109, 117, 114, 109, 117, 114, 51, 50]⟩) (.int .i64 4) (.int .i64 4) (.int .i64 32) (.func (.func 104) #[] #[.pointer (some ⟨c16, 0, none⟩), .pointer (some ⟨c13, 0, none⟩)]) (.func (.func 105) #[] #[.pointer (some ⟨c9, 0, none⟩), .pointer (some ⟨c14, 0, none⟩), .pointer (some ⟨c15, 0, none⟩), .pointer (some ⟨c16, 0, none⟩), .pointer (some ⟨c17, 0, none⟩)])
 have cd0 := hR.c0
 have cd1 := hR.c1
 have cd2 := hR.c2
 have cd3 := hR.c3
 have cd4 := hR.c4
 have cd5 := hR.c5
 refine bodyPost_ret (v := .tuple #[.agg #[.string ⟨#[109, 117, 114, 109, 117, 114, 51, 50]⟩, .int .i64 4, .int .i64 4, .int .i64 32, .func (.func 104) #[] #[.pointer (some ⟨c16, 0, none⟩), .pointer (some ⟨c13, 0, none⟩)], .func (.func 105) #[] #[.pointer (some ⟨c9, 0, none⟩), .pointer (some ⟨c14, 0, none⟩), .pointer (some ⟨c15, 0, none⟩), .pointer (some ⟨c16, 0, none⟩), .pointer (some ⟨c17, 0, none⟩)]], .bool true]) (by simp [results, Tryz.results37, go_sem, cd0, cd1, cd2, cd3, cd4, cd5]) rfl ?_
 have hFz := hF.trans hP (fun x hx => .inr (by omega))
 replace r9 := r9.past hZ hP
 replace r13 := r13.past hZ hP
 replace r14 := r14.past hZ hP
 replace r15 := r15.past hZ hP
 replace r16 := r16.past hZ hP
 replace r17 := r17.past hZ hP
 refine ⟨_, _, _, _, rfl, ⟨calls_enter Tryz.func104 (by kernel_rfl) (by kernel_rfl), fun W kh kl a n c l hW hy hn => ?_, calls_enter Tryz.func105 (by kernel_rfl) (by kernel_rfl), fun w0 W kh kl hW h0 => ?_⟩, hFz⟩
 · exact StM32.one_cl (r16.no hW) (r13.no hW) kh kl a n c l hy hn
 · refine (StM32.made_cl (r9.no hW) (r14.no hW) (r15.no hW) (r16.no hW) (r17.no hW) h0 kh kl).mono ?_
   rintro e w3 ⟨hb, rfl, F, h', r⟩
   exact ⟨hb, rfl, F, ⟨rfl, h'⟩, r⟩
set_option maxHeartbeats 800000 in
theorem of_2 (w : World) : Calls Tryz.prog 37 #[.int .i64 2] w (fun e w' => ∃ f1 c1 f2 c2, e = .returned (.tuple #[.agg #[.string ⟨#[109, 117, 114, 109, 117, 114, 56, 54]⟩, .int .i64 16, .int .i64 16, .int .i64 32, .func (.func f1) #[] c1, .func (.func f2) #[] c2], .bool true]) ∧ KindIs 2 f1 c1 f2 c2 w' ∧ Fr No w w') := by
 have hZ := row6_new w 65 (.string ⟨#[]⟩) (.int .i64 0) (.int .i64 0) (.int .i64 0) .nilFunc .nilFunc
 have hF := (Fr.refl No w).alloc (.cells #[.string ⟨#[]⟩, .int .i64 0, .int .i64 0, .int .i64 0, .nilFunc, .nilFunc] 65)
 have hlt := hF.size
 go_enter Tryz.func37, Tryz.ntmps37
 go_wp2_with fail
 obtain ⟨wz, hwz⟩ : ∃ wz : Nat, wz = w.heap.size := ⟨_, rfl⟩
 have hge : w.heap.size ≤ wz := by omega
 rw [← hwz] at hZ ⊢
 clear hwz
 generalize w.alloc (.cells #[.string ⟨#[]⟩, .int .i64 0, .int .i64 0, .int .i64 0, .nilFunc, .nilFunc] 65) = w1 at hF hZ hlt ⊢
 refine (StM86.small_any 2 _ 16 16 _).mono ?_
 rintro e w2 ⟨c9, c13, c14, c15, c16, c17, rfl, r9, r13, r14, r15, r16, r17, hf⟩
 replace hZ := StSip.row6_no hZ hf
 replace hF := hF.no hf
 have z0 := hZ.c0
 have y0 := hZ.fz 0
 have z1 := hZ.c1
 have y1 := hZ.fz 1
 have z2 := hZ.c2
 have y2 := hZ.fz 2
 have z3 := hZ.c3
 have y3 := hZ.fz 3
 have z4 := hZ.c4
 have y4 := hZ.fz 4
 have z5 := hZ.c5
 have y5 := hZ.fz 5
 go_wp2_with fail
 have hR := row_put6 hZ (.string ⟨#[109, 117, 114, 109, 117, 114, 56, 54]⟩) (.int .i64 16) (.int .i64 16) (.int .i64 32) (.func (.func 116) #[] #[.pointer (some ⟨c16, 0, none⟩), .pointer (some ⟨c13, 0, none⟩)]) (.func (.func 117) #[] #[.pointer (some ⟨c9, 0, none⟩), .pointer (some ⟨c14, 0, none⟩), .pointer (some ⟨c15, 0, none⟩), .pointer (some ⟨c16, 0, none⟩), .pointer (some ⟨c17, 0, none⟩)])
 have hP := fr_put6 w2 wz (.string ⟨#[109, 117, 114, 109, 117, 114, 56, 54]⟩) (.int .i64 16) (.int .i64 16) (.int .i64 32) (.func (.func 116) #[] #[.pointer (some ⟨c16, 0, none⟩), .pointer (some ⟨c13, 0, none⟩)]) (.func (.func 117) #[] #[.pointer (some ⟨c9, 0, none⟩), .pointer (some ⟨c14, 0, none⟩), .pointer (some ⟨c15, 0, none⟩), .pointer (some ⟨c16, 0, none⟩), .pointer (some ⟨c17, 0, none⟩)])
 have cd0 := hR.c0
 have cd1 := hR.c1
 have cd2 := hR.c2
 have cd3 := hR.c3
 have cd4 := hR.c4
 have cd5 := hR.c5
 refine bodyPost_ret (v := .tuple #[.agg #[.string ⟨#[109, 117, 114, 109, 117, 114, 56, 54]⟩, .int .i64 16, .int .i64 16, .int .i64 32, .func (.func 116) #[] #[.pointer (some ⟨c16, 0, none⟩), .pointer (some ⟨c13, 0, none⟩)], .func (.func 117) #[] #[.pointer (some ⟨c9, 0, none⟩), .pointer (some ⟨c14, 0, none⟩), .pointer (some ⟨c15, 0, none⟩), .pointer (some ⟨c16, 0, none⟩), .pointer (some ⟨c17, 0, none⟩)]], .bool true]) (by simp [results, Tryz.results37, go_sem, cd0, cd1, cd2, cd3, cd4, cd5]) rfl ?_
 have hFz := hF.trans hP (fun x hx => .inr (by omega))
 replace r9 := r9.past hZ hP
 replace r13 := r13.past hZ hP
 replace r14 := r14.past hZ hP
 replace r15 := r15.past hZ hP
 replace r16 := r16.past hZ hP
 replace r17 := r17.past hZ hP
 refine ⟨_, _, _, _, rfl, ⟨calls_enter Tryz.func116 (by kernel_rfl) (by kernel_rfl), fun W kh kl a n c l hW hy hn => ?_, calls_enter Tryz.func117 (by kernel_rfl) (by kernel_rfl), fun w0 W kh kl hW h0 => ?_⟩, hFz⟩
 · exact StM86.one_cl (r16.no hW) (r13.no hW) kh kl a n c l hy hn
 · refine (StM86.made_cl (r9.no hW) (r14.no hW) (r15.no hW) (r16.no hW) (r17.no hW) h0 kh kl).mono ?_
   rintro e w3 ⟨hb, rfl, F, h', r⟩
   exact ⟨hb, rfl, F, ⟨rfl, h'⟩, r⟩
set_option maxHeartbeats 800000 in
theorem of_3 (w : World) : Calls Tryz.prog 37 #[.int .i64 3] w (fun e w' => ∃ f1 c1 f2 c2, e = .returned (.tuple #[.agg #[.string ⟨#[109, 117, 114, 109, 117, 114, 54, 52]⟩, .int .i64 16, .int .i64 16, .int .i64 32, .func (.func f1) #[] c1, .func (.func f2) #[] c2], .bool true]) ∧ KindIs 3 f1 c1 f2 c2 w' ∧ Fr No w w') := by
 have hZ := row6_new w 65 (.string ⟨#[]⟩) (.int .i64 0) (.int .i64 0) (.int .i64 0) .nilFunc .nilFunc
 have hF := (Fr.refl No w).alloc (.cells #[.string ⟨#[]⟩, .int .i64 0, .int .i64 0, .int .i64 0, .nilFunc, .nilFunc] 65)
 have hlt := hF.size
 go_enter Tryz.func37, Tryz.ntmps37
 go_wp2_with fail
 obtain ⟨wz, hwz⟩ : ∃ wz : Nat, wz = w.heap.size := ⟨_, rfl⟩
 have hge : w.heap.size ≤ wz := by omega
 rw [← hwz] at hZ ⊢
 clear hwz
 generalize w.alloc (.cells #[.string ⟨#[]⟩, .int .i64 0, .int .i64 0, .int .i64 0, .nilFunc, .nilFunc] 65) = w1 at hF hZ hlt ⊢
 refine (StM64.small_any 3 _ 16 16 _).mono ?_
 rintro e w2 ⟨c9, c13, c14, c15, c16, c17, rfl, r9, r13, r14, r15, r16, r17, hf⟩
 replace hZ := StSip.row6_no hZ hf
 replace hF := hF.no hf
 have z0 := hZ.c0
 have y0 := hZ.fz 0
 have z1 := hZ.c1
 have y1 := hZ.fz 1
 have z2 := hZ.c2
 have y2 := hZ.fz 2
 have z3 := hZ.c3
 have y3 := hZ.fz 3
 have z4 := hZ.c4
 have y4 := hZ.fz 4
 have z5 := hZ.c5
 have y5 := hZ.fz 5
 go_wp2_with fail
 have hR := row_put6 hZ (.string ⟨#[109, 117, 114, 109, 117, 114, 54, 52]⟩) (.int .i64 16) (.int .i64 16) (.int .i64 32) (.func (.func 128) #[] #[.pointer (some ⟨c16, 0, none⟩), .pointer (some ⟨c13, 0, none⟩)]) (.func (.func 129) #[] #[.pointer (some ⟨c9, 0, none⟩), .pointer (some ⟨c14, 0, none⟩), .pointer (some ⟨c15, 0, none⟩), .pointer (some ⟨c16, 0, none⟩), .pointer (some ⟨c17, 0, none⟩)])
 have hP := fr_put6 w2 wz (.string ⟨#[109, 117, 114, 109, 117, 114, 54, 52]⟩) (.int .i64 16) (.int .i64 16) (.int .i64 32) (.func (.func 128) #[] #[.pointer (some ⟨c16, 0, none⟩), .pointer (some ⟨c13, 0, none⟩)]) (.func (.func 129) #[] #[.pointer (some ⟨c9, 0, none⟩), .pointer (some ⟨c14, 0, none⟩), .pointer (some ⟨c15, 0, none⟩), .pointer (some ⟨c16, 0, none⟩), .pointer (some ⟨c17, 0, none⟩)])
 have cd0 := hR.c0
 have cd1 := hR.c1
 have cd2 := hR.c2
 have cd3 := hR.c3
 have cd4 := hR.c4
 have cd5 := hR.c5
 refine bodyPost_ret (v := .tuple #[.agg #[.string ⟨#[109, 117, 114, 109, 117, 114, 54, 52]⟩, .int .i64 16, .int .i64 16, .int .i64 32, .func (.func 128) #[] #[.pointer (some ⟨c16, 0, none⟩), .pointer (some ⟨c13, 0, none⟩)], .func (.func 129) #[] #[.pointer (some ⟨c9, 0, none⟩), .pointer (some ⟨c14, 0, none⟩), .pointer (some ⟨c15, 0, none⟩), .pointer (some ⟨c16, 0, none⟩), .pointer (some ⟨c17, 0, none⟩)]], .bool true]) (by simp [results, Tryz.results37, go_sem, cd0, cd1, cd2, cd3, cd4, cd5]) rfl ?_
 have hFz := hF.trans hP (fun x hx => .inr (by omega))
 replace r9 := r9.past hZ hP
 replace r13 := r13.past hZ hP
 replace r14 := r14.past hZ hP
 replace r15 := r15.past hZ hP
 replace r16 := r16.past hZ hP
 replace r17 := r17.past hZ hP
 refine ⟨_, _, _, _, rfl, ⟨calls_enter Tryz.func128 (by kernel_rfl) (by kernel_rfl), fun W kh kl a n c l hW hy hn => ?_, calls_enter Tryz.func129 (by kernel_rfl) (by kernel_rfl), fun w0 W kh kl hW h0 => ?_⟩, hFz⟩
 · exact StM64.one_cl (r16.no hW) (r13.no hW) kh kl a n c l hy hn
 · refine (StM64.made_cl (r9.no hW) (r14.no hW) (r15.no hW) (r16.no hW) (r17.no hW) h0 kh kl).mono ?_
   rintro e w3 ⟨hb, rfl, F, h', r⟩
   exact ⟨hb, rfl, F, ⟨rfl, h'⟩, r⟩
set_option maxHeartbeats 800000 in
theorem of_4 (w : World) : Calls Tryz.prog 37 #[.int .i64 4] w (fun e w' => ∃ f1 c1 f2 c2, e = .returned (.tuple #[.agg #[.string ⟨#[120, 120, 51, 50]⟩, .int .i64 4, .int .i64 16, .int .i64 32, .func (.func f1) #[] c1, .func (.func f2) #[] c2], .bool true]) ∧ KindIs 4 f1 c1 f2 c2 w' ∧ Fr No w w') := by
 have hZ := row6_new w 65 (.string ⟨#[]⟩) (.int .i64 0) (.int .i64 0) (.int .i64 0) .nilFunc .nilFunc
 have hF := (Fr.refl No w).alloc (.cells #[.string ⟨#[]⟩, .int .i64 0, .int .i64 0, .int .i64 0, .nilFunc, .nilFunc] 65)
 have hlt := hF.size
 go_enter Tryz.func37, Tryz.ntmps37
 go_wp2_with fail
 obtain ⟨wz, hwz⟩ : ∃ wz : Nat, wz = w.heap.size := ⟨_, rfl⟩
 have hge : w.heap.size ≤ wz := by omega
 rw [← hwz] at hZ ⊢
 clear hwz
 generalize w.alloc (.cells #[.string ⟨#[]⟩, .int .i64 0, .int .i64 0, .int .i64 0, .nilFunc, .nilFunc] 65) = w1 at hF hZ hlt ⊢
 refine (StX32.small_any 4 _ 4 16 _).mono ?_
 rintro e w2 ⟨c9, c13, c14, c15, c16, c17, rfl, r9, r13, r14, r15, r16, r17, hf⟩
 replace hZ := StSip.row6_no hZ hf
 replace hF := hF.no hf
 have z0 := hZ.c0
 have y0 := hZ.fz 0
 have z1 := hZ.c1
 have y1 := hZ.fz 1
 have z2 := hZ.c2
 have y2 := hZ.fz 2
 have z3 := hZ.c3
 have y3 := hZ.fz 3
 have z4 := hZ.c4
 have y4 := hZ.fz 4
 have z5 := hZ.c5
 have y5 := hZ.fz 5
 go_wp2_with fail
 have hR := row_put6 hZ (.string ⟨#[120, 120, 51, 50]⟩) (.int .i64 4) (.int .i64 16) (.int .i64 32) (.func (.func 141) #[] #[.pointer (some ⟨c16, 0, none⟩), .pointer (some ⟨c13, 0, none⟩)]) (.func (.func 142) #[] #[.pointer (some ⟨c9, 0, none⟩), .pointer (some ⟨c14, 0, none⟩), .pointer (some ⟨c15, 0, none⟩), .pointer (some ⟨c16, 0, none⟩), .pointer (some ⟨c17, 0, none⟩)])
 have hP := fr_put6 w2 wz (.string ⟨#[120, 120, 51, 50]⟩) (.int .i64 4) (.int .i64 16) (.int .i64 32) (.func (.func 141) #[] #[.pointer (some ⟨c16, 0, none⟩), .pointer (some ⟨c13, 0, none⟩)]) (.func (.func 142) #[] #[.pointer (some ⟨c9, 0, none⟩), .pointer (some ⟨c14, 0, none⟩), .pointer (some ⟨c15, 0, none⟩), .pointer (some ⟨c16, 0, none⟩), .pointer (some ⟨c17, 0, none⟩)])
 have cd0 := hR.c0
 have cd1 := hR.c1
 have cd2 := hR.c2
 have cd3 := hR.c3
 have cd4 := hR.c4
 have cd5 := hR.c5
 refine bodyPost_ret (v := .tuple #[.agg #[.string ⟨#[120, 120, 51, 50]⟩, .int .i64 4, .int .i64 16, .int .i64 32, .func (.func 141) #[] #[.pointer (some ⟨c16, 0, none⟩), .pointer (some ⟨c13, 0, none⟩)], .func (.func 142) #[] #[.pointer (some ⟨c9, 0, none⟩), .pointer (some ⟨c14, 0, none⟩), .pointer (some ⟨c15, 0, none⟩), .pointer (some ⟨c16, 0, none⟩), .pointer (some ⟨c17, 0, none⟩)]], .bool true]) (by simp [results, Tryz.results37, go_sem, cd0, cd1, cd2, cd3, cd4, cd5]) rfl ?_
 have hFz := hF.trans hP (fun x hx => .inr (by omega))
 replace r9 := r9.past hZ hP
 replace r13 := r13.past hZ hP
 replace r14 := r14.past hZ hP
 replace r15 := r15.past hZ hP
 replace r16 := r16.past hZ hP
 replace r17 := r17.past hZ hP
 refine ⟨_, _, _, _, rfl, ⟨calls_enter Tryz.func141 (by kernel_rfl) (by kernel_rfl), fun W kh kl a n c l hW hy hn => ?_, calls_enter Tryz.func142 (by kernel_rfl) (by kernel_rfl), fun w0 W kh kl hW h0 => ?_⟩, hFz⟩
 · exact StX32.one_cl (r16.no hW) (r13.no hW) kh kl a n c l hy hn
 · refine (StX32.made_cl (r9.no hW) (r14.no hW) (r15.no hW) (r16.no hW) (r17.no hW) h0 kh kl).mono ?_
   rintro e w3 ⟨hb, rfl, F, h', r⟩
   exact ⟨hb, rfl, F, ⟨rfl, h'⟩, r⟩
set_option maxHeartbeats 800000 in
theorem of_5 (w : World) : Calls Tryz.prog 37 #[.int .i64 5] w (fun e w' => ∃ f1 c1 f2 c2, e = .returned (.tuple #[.agg #[.string ⟨#[120, 120, 54, 52]⟩, .int .i64 8, .int .i64 32, .int .i64 64, .func (.func f1) #[] c1, .func (.func f2) #[] c2], .bool true]) ∧ KindIs 5 f1 c1 f2 c2 w' ∧ Fr No w w') := by
 have hZ := row6_new w 65 (.string ⟨#[]⟩) (.int .i64 0) (.int .i64 0) (.int .i64 0) .nilFunc .nilFunc
 have hF := (Fr.refl No w).alloc (.cells #[.string ⟨#[]⟩, .int .i64 0, .int .i64 0, .int .i64 0, .nilFunc, .nilFunc] 65)
 have hlt := hF.size
 go_enter Tryz.func37, Tryz.ntmps37
 go_wp2_with fail
 obtain ⟨wz, hwz⟩ : ∃ wz : Nat, wz = w.heap.size := ⟨_, rfl⟩
 have hge : w.heap.size ≤ wz := by omega
 rw [← hwz] at hZ ⊢
 clear hwz
 generalize w.alloc (.cells #[.string ⟨#[]⟩, .int .i64 0, .int .i64 0, .int .i64 0, .nilFunc, .nilFunc] 65) = w1 at hF hZ hlt ⊢
 refine (StX64.great_any _).mono ?_
 rintro e w2 ⟨rfl, hf⟩
 replace hZ := StSip.row6_no hZ hf
 replace hF := hF.no hf
 have z0 := hZ.c0
 have y0 := hZ.fz 0
 have z1 := hZ.c1
 have y1 := hZ.fz 1
 have z2 := hZ.c2
 have y2 := hZ.fz 2
 have z3 := hZ.c3
 have y3 := hZ.fz 3
 have z4 := hZ.c4
 have y4 := hZ.fz 4
 have z5 := hZ.c5
 have y5 := hZ.fz 5
 go_wp2_with fail
 have hR := row_put6 hZ (.string ⟨#[120, 120, 54, 52]⟩) (.int .i64 8) (.int .i64 32) (.int .i64 64) (.func (.func 148) #[] #[]) (.func (.func 151) #[] #[])
 have hP := fr_put6 w2 wz (.string ⟨#[120, 120, 54, 52]⟩) (.int .i64 8) (.int .i64 32) (.int .i64 64) (.func (.func 148) #[] #[]) (.func (.func 151) #[] #[])
 have cd0 := hR.c0
 have cd1 := hR.c1
 have cd2 := hR.c2
 have cd3 := hR.c3
 have cd4 := hR.c4
 have cd5 := hR.c5
 refine bodyPost_ret (v := .tuple #[.agg #[.string ⟨#[120, 120, 54, 52]⟩, .int .i64 8, .int .i64 32, .int .i64 64, .func (.func 148) #[] #[], .func (.func 151) #[] #[]], .bool true]) (by simp [results, Tryz.results37, go_sem, cd0, cd1, cd2, cd3, cd4, cd5]) rfl ?_
 have hFz := hF.trans hP (fun x hx => .inr (by omega))
 refine ⟨_, _, _, _, rfl, ⟨calls_enter Tryz.func148 (by kernel_rfl) (by kernel_rfl), fun W kh kl a n c l hW hy hn => ?_, calls_enter Tryz.func151 (by kernel_rfl) (by kernel_rfl), fun w0 W kh kl hW h0 => ?_⟩, hFz⟩
 · exact StX64.one_cl kh kl a n c l W hy hn
 · refine (StX64.made_cl h0 kh kl).mono ?_
   rintro e w3 ⟨hb, rfl, F, h', r⟩
   exact ⟨hb, rfl, F, ⟨rfl, h'⟩, r⟩
set_option maxHeartbeats 800000 in
theorem of_6 (w : World) : Calls Tryz.prog 37 #[.int .i64 6] w (fun e w' => ∃ f1 c1 f2 c2, e = .returned (.tuple #[.agg #[.string ⟨#[115, 105, 112, 50, 52]⟩, .int .i64 8, .int .i64 8, .int .i64 128, .func (.func f1) #[] c1, .func (.func f2) #[] c2], .bool true]) ∧ KindIs 6 f1 c1 f2 c2 w' ∧ Fr No w w') := by
 have hZ := row6_new w 65 (.string ⟨#[]⟩) (.int .i64 0) (.int .i64 0) (.int .i64 0) .nilFunc .nilFunc
 have hF := (Fr.refl No w).alloc (.cells #[.string ⟨#[]⟩, .int .i64 0, .int .i64 0, .int .i64 0, .nilFunc, .nilFunc] 65)
 have hlt := hF.size
 go_enter Tryz.func37, Tryz.ntmps37
 go_wp2_with fail
 obtain ⟨wz, hwz⟩ : ∃ wz : Nat, wz = w.heap.size := ⟨_, rfl⟩
 have hge : w.heap.size ≤ wz := by omega
 rw [← hwz] at hZ ⊢
 clear hwz
 generalize w.alloc (.cells #[.string ⟨#[]⟩, .int .i64 0, .int .i64 0, .int .i64 0, .nilFunc, .nilFunc] 65) = w1 at hF hZ hlt ⊢
 refine (StSip.sips_any 6 _ 8 _).mono ?_
 rintro e w2 ⟨c3, c5, c7, rfl, r3, r5, r7, hf⟩
 replace hZ := StSip.row6_no hZ hf
 replace hF := hF.no hf
 have z0 := hZ.c0
 have y0 := hZ.fz 0
 have z1 := hZ.c1
 have y1 := hZ.fz 1
 have z2 := hZ.c2
 have y2 := hZ.fz 2
 have z3 := hZ.c3
 have y3 := hZ.fz 3
 have z4 := hZ.c4
 have y4 := hZ.fz 4
 have z5 := hZ.c5
 have y5 := hZ.fz 5
 go_wp2_with fail
 have hR := row_put6 hZ (.string ⟨#[115, 105, 112, 50, 52]⟩) (.int .i64 8) (.int .i64 8) (.int .i64 128) (.func (.func 157) #[] #[.pointer (some ⟨c7, 0, none⟩), .pointer (some ⟨c3, 0, none⟩)]) (.func (.func 159) #[] #[.pointer (some ⟨c3, 0, none⟩), .pointer (some ⟨c7, 0, none⟩)])
 have hP := fr_put6 w2 wz (.string ⟨#[115, 105, 112, 50, 52]⟩) (.int .i64 8) (.int .i64 8) (.int .i64 128) (.func (.func 157) #[] #[.pointer (some ⟨c7, 0, none⟩), .pointer (some ⟨c3, 0, none⟩)]) (.func (.func 159) #[] #[.pointer (some ⟨c3, 0, none⟩), .pointer (some ⟨c7, 0, none⟩)])
 have cd0 := hR.c0
 have cd1 := hR.c1
 have cd2 := hR.c2
 have cd3 := hR.c3
 have cd4 := hR.c4
 have cd5 := hR.c5
 refine bodyPost_ret (v := .tuple #[.agg #[.string ⟨#[115, 105, 112, 50, 52]⟩, .int .i64 8, .int .i64 8, .int .i64 128, .func (.func 157) #[] #[.pointer (some ⟨c7, 0, none⟩), .pointer (some ⟨c3, 0, none⟩)], .func (.func 159) #[] #[.pointer (some ⟨c3, 0, none⟩), .pointer (some ⟨c7, 0, none⟩)]], .bool true]) (by simp [results, Tryz.results37, go_sem, cd0, cd1, cd2, cd3, cd4, cd5]) rfl ?_
 have hFz := hF.trans hP (fun x hx => .inr (by omega))
 replace r3 := r3.past hZ hP
 replace r5 := r5.past hZ hP
 replace r7 := r7.past hZ hP
 refine ⟨_, _, _, _, rfl, ⟨calls_enter Tryz.func157 (by kernel_rfl) (by kernel_rfl), fun W kh kl a n c l hW hy hn => ?_, calls_enter Tryz.func159 (by kernel_rfl) (by kernel_rfl), fun w0 W kh kl hW h0 => ?_⟩, hFz⟩
 · exact StSip.one_cl (r3.no hW) (r5.no hW) (r7.no hW) (by omega) kh kl a n c l hy hn
 · refine (StSip.made_cl (by unfold StSip.IsK; omega) (r3.no hW) (r5.no hW) (r7.no hW) h0 kh kl).mono ?_
   rintro e w3 ⟨hb, rfl, F, h', r⟩
   exact ⟨hb, rfl, F, ⟨(by unfold StSip.IsK; omega), h'⟩, r⟩
set_option maxHeartbeats 800000 in
theorem of_7 (w : World) : Calls Tryz.prog 37 #[.int .i64 7] w (fun e w' => ∃ f1 c1 f2 c2, e = .returned (.tuple #[.agg #[.string ⟨#[115, 105, 112, 49, 51]⟩, .int .i64 8, .int .i64 8, .int .i64 128, .func (.func f1) #[] c1, .func (.func f2) #[] c2], .bool true]) ∧ KindIs 7 f1 c1 f2 c2 w' ∧ Fr No w w') := by
 have hZ := row6_new w 65 (.string ⟨#[]⟩) (.int .i64 0) (.int .i64 0) (.int .i64 0) .nilFunc .nilFunc
 have hF := (Fr.refl No w).alloc (.cells #[.string ⟨#[]⟩, .int .i64 0, .int .i64 0, .int .i64 0, .nilFunc, .nilFunc] 65)
 have hlt := hF.size
 go_enter Tryz.func37, Tryz.ntmps37
 go_wp2_with fail
 obtain ⟨wz, hwz⟩ : ∃ wz : Nat, wz = w.heap.size := ⟨_, rfl⟩
 have hge : w.heap.size ≤ wz := by omega
 rw [← hwz] at hZ ⊢
 clear hwz
 generalize w.alloc (.cells #[.string ⟨#[]⟩, .int .i64 0, .int .i64 0, .int .i64 0, .nilFunc, .nilFunc] 65) = w1 at hF hZ hlt ⊢
 refine (StSip.sips_any 7 _ 8 _).mono ?_
 rintro e w2 ⟨c3, c5, c7, rfl, r3, r5, r7, hf⟩
 replace hZ := StSip.row6_no hZ hf
 replace hF := hF.no hf
 have z0 := hZ.c0
 have y0 := hZ.fz 0
 have z1 := hZ.c1
 have y1 := hZ.fz 1
 have z2 := hZ.c2
 have y2 := hZ.fz 2
 have z3 := hZ.c3
 have y3 := hZ.fz 3
 have z4 := hZ.c4
 have y4 := hZ.fz 4
 have z5 := hZ.c5
 have y5 := hZ.fz 5
 go_wp2_with fail
 have hR := row_put6 hZ (.string ⟨#[115, 105, 112, 49, 51]⟩) (.int .i64 8) (.int .i64 8) (.int .i64 128) (.func (.func 157) #[] #[.pointer (some ⟨c7, 0, none⟩), .pointer (some ⟨c3, 0, none⟩)]) (.func (.func 159) #[] #[.pointer (some ⟨c3, 0, none⟩), .pointer (some ⟨c7, 0, none⟩)])
 have hP := fr_put6 w2 wz (.string ⟨#[115, 105, 112, 49, 51]⟩) (.int .i64 8) (.int .i64 8) (.int .i64 128) (.func (.func 157) #[] #[.pointer (some ⟨c7, 0, none⟩), .pointer (some ⟨c3, 0, none⟩)]) (.func (.func 159) #[] #[.pointer (some ⟨c3, 0, none⟩), .pointer (some ⟨c7, 0, none⟩)])
 have cd0 := hR.c0
 have cd1 := hR.c1
 have cd2 := hR.c2
 have cd3 := hR.c3
 have cd4 := hR.c4
 have cd5 := hR.c5
 refine bodyPost_ret (v := .tuple #[.agg #[.string ⟨#[115, 105, 112, 49, 51]⟩, .int .i64 8, .int .i64 8, .int .i64 128, .func (.func 157) #[] #[.pointer (some ⟨c7, 0, none⟩), .pointer (some ⟨c3, 0, none⟩)], .func (.func 159) #[] #[.pointer (some ⟨c3, 0, none⟩), .pointer (some ⟨c7, 0, none⟩)]], .bool true]) (by simp [results, Tryz.results37, go_sem, cd0, cd1, cd2, cd3, cd4, cd5]) rfl ?_
 have hFz := hF.trans hP (fun x hx => .inr (by omega))
 replace r3 := r3.past hZ hP
 replace r5 := r5.past hZ hP
 replace r7 := r7.past hZ hP
 refine ⟨_, _, _, _, rfl, ⟨calls_enter Tryz.func157 (by kernel_rfl) (by kernel_rfl), fun W kh kl a n c l hW hy hn => ?_, calls_enter Tryz.func159 (by kernel_rfl) (by kernel_rfl), fun w0 W kh kl hW h0 => ?_⟩, hFz⟩
 · exact StSip.one_cl (r3.no hW) (r5.no hW) (r7.no hW) (by omega) kh kl a n c l hy hn
 · refine (StSip.made_cl (by unfold StSip.IsK; omega) (r3.no hW) (r5.no hW) (r7.no hW) h0 kh kl).mono ?_
   rintro e w3 ⟨hb, rfl, F, h', r⟩
   exact ⟨hb, rfl, F, ⟨(by unfold StSip.IsK; omega), h'⟩, r⟩
set_option maxHeartbeats 800000 in
theorem of_8 (w : World) : Calls Tryz.prog 37 #[.int .i64 8] w (fun e w' => ∃ f1 c1 f2 c2, e = .returned (.tuple #[.agg #[.string ⟨#[115, 105, 112, 49, 50, 56]⟩, .int .i64 16, .int .i64 8, .int .i64 128, .func (.func f1) #[] c1, .func (.func f2) #[] c2], .bool true]) ∧ KindIs 8 f1 c1 f2 c2 w' ∧ Fr No w w') := by
 have hZ := row6_new w 65 (.string ⟨#[]⟩) (.int .i64 0) (.int .i64 0) (.int .i64 0) .nilFunc .nilFunc
 have hF := (Fr.refl No w).alloc (.cells #[.string ⟨#[]⟩, .int .i64 0, .int .i64 0, .int .i64 0, .nilFunc, .nilFunc] 65)
 have hlt := hF.size
 go_enter Tryz.func37, Tryz.ntmps37
 go_wp2_with fail
 obtain ⟨wz, hwz⟩ : ∃ wz : Nat, wz = w.heap.size := ⟨_, rfl⟩
 have hge : w.heap.size ≤ wz := by omega
 rw [← hwz] at hZ ⊢
 clear hwz
 generalize w.alloc (.cells #[.string ⟨#[]⟩, .int .i64 0, .int .i64 0, .int .i64 0, .nilFunc, .nilFunc] 65) = w1 at hF hZ hlt ⊢
 refine (StSip.sips_any 8 _ 16 _).mono ?_
 rintro e w2 ⟨c3, c5, c7, rfl, r3, r5, r7, hf⟩
 replace hZ := StSip.row6_no hZ hf
 replace hF := hF.no hf
 have z0 := hZ.c0
 have y0 := hZ.fz 0
 have z1 := hZ.c1
 have y1 := hZ.fz 1
 have z2 := hZ.c2
 have y2 := hZ.fz 2
 have z3 := hZ.c3
 have y3 := hZ.fz 3
 have z4 := hZ.c4
 have y4 := hZ.fz 4
 have z5 := hZ.c5
 have y5 := hZ.fz 5
 go_wp2_with fail
 have hR := row_put6 hZ (.string ⟨#[115, 105, 112, 49, 50, 56]⟩) (.int .i64 16) (.int .i64 8) (.int .i64 128) (.func (.func 157) #[] #[.pointer (some ⟨c7, 0, none⟩), .pointer (some ⟨c3, 0, none⟩)]) (.func (.func 159) #[] #[.pointer (some ⟨c3, 0, none⟩), .pointer (some ⟨c7, 0, none⟩)])
 have hP := fr_put6 w2 wz (.string ⟨#[115, 105, 112, 49, 50, 56]⟩) (.int .i64 16) (.int .i64 8) (.int .i64 128) (.func (.func 157) #[] #[.pointer (some ⟨c7, 0, none⟩), .pointer (some ⟨c3, 0, none⟩)]) (.func (.func 159) #[] #[.pointer (some ⟨c3, 0, none⟩), .pointer (some ⟨c7, 0, none⟩)])
 have cd0 := hR.c0
 have cd1 := hR.c1
 have cd2 := hR.c2
 have cd3 := hR.c3
 have cd4 := hR.c4
 have cd5 := hR.c5
 refine bodyPost_ret (v := .tuple #[.agg #[.string ⟨#[115, 105, 112, 49, 50, 56]⟩, .int .i64 16, .int .i64 8, .int .i64 128, .func (.func 157) #[] #[.pointer (some ⟨c7, 0, none⟩), .pointer (some ⟨c3, 0, none⟩)], .func (.func 159) #[] #[.pointer (some ⟨c3, 0, none⟩), .pointer (some ⟨c7, 0, none⟩)]], .bool true]) (by simp [results, Tryz.results37, go_sem, cd0, cd1, cd2, cd3, cd4, cd5]) rfl ?_
 have hFz := hF.trans hP (fun x hx => .inr (by omega))
 replace r3 := r3.past hZ hP
 replace r5 := r5.past hZ hP
 replace r7 := r7.past hZ hP
 refine ⟨_, _, _, _, rfl, ⟨calls_enter Tryz.func157 (by kernel_rfl) (by kernel_rfl), fun W kh kl a n c l hW hy hn => ?_, calls_enter Tryz.func159 (by kernel_rfl) (by kernel_rfl), fun w0 W kh kl hW h0 => ?_⟩, hFz⟩
 · exact StSip.one_cl (r3.no hW) (r5.no hW) (r7.no hW) (by omega) kh kl a n c l hy hn
 · refine (StSip.made_cl (by unfold StSip.IsK; omega) (r3.no hW) (r5.no hW) (r7.no hW) h0 kh kl).mono ?_
   rintro e w3 ⟨hb, rfl, F, h', r⟩
   exact ⟨hb, rfl, F, ⟨(by unfold StSip.IsK; omega), h'⟩, r⟩
theorem of_yes {k : Int} (hk : KindOk k) (w : World) : Calls Tryz.prog 37 #[.int .i64 k] w (fun e w' => ∃ f1 c1 f2 c2, e = .returned (.tuple #[.agg #[.string (nameN k), .int .i64 (sizeN k), .int .i64 (blockN k), .int .i64 (bitsN k), .func (.func f1) #[] c1, .func (.func f2) #[] c2], .bool true]) ∧ KindIs k f1 c1 f2 c2 w' ∧ Fr No w w') := by
 rcases hk with rfl | rfl | rfl | rfl | rfl | rfl | rfl | rfl
 · exact of_1 w
 · exact of_2 w
 · exact of_3 w
 · exact of_4 w
 · exact of_5 w
 · exact of_6 w
 · exact of_7 w
 · exact of_8 w
@[go_sem] theorem run_store_nf (w : World) (a : Addr) (md : Mode) : (store a .nilFunc md).run Tryz.prog w = stored Tryz.prog w a .nilFunc md := run_store Tryz.prog w a _ md rfl
set_option maxHeartbeats 2000000 in
theorem of_no {k : Int} (hk : ¬ KindOk k) (w : World) : Calls Tryz.prog 37 #[.int .i64 k] w (GivesNew (.tuple #[.agg #[.string ⟨#[]⟩, .int .i64 0, .int .i64 0, .int .i64 0, .nilFunc, .nilFunc], .bool false]) w) := by
 have hh : ¬ k = 1 ∧ ¬ k = 2 ∧ ¬ k = 3 ∧ ¬ k = 4 ∧ ¬ k = 5 ∧ ¬ k = 6 ∧ ¬ k = 7 ∧ ¬ k = 8 := by unfold KindOk at hk; omega
 obtain ⟨h1, h2, h3, h4, h5, h6, h7, h8⟩ := hh
 clear hk
 have hZ := row6_new w 65 (.string ⟨#[]⟩) (.int .i64 0) (.int .i64 0) (.int .i64 0) .nilFunc .nilFunc
 have hF := (Fr.refl No w).alloc (.cells #[.string ⟨#[]⟩, .int .i64 0, .int .i64 0, .int .i64 0, .nilFunc, .nilFunc] 65)
 have hlt := hF.size
 obtain ⟨wz, hwz⟩ : ∃ wz : Nat, wz = w.heap.size := ⟨_, rfl⟩
 have hge : w.heap.size ≤ wz := by omega
 go_enter Tryz.func37, Tryz.ntmps37
 rw [← hwz] at hZ
 go_upto_region 1 with fail
 rw [← hwz]
 clear hwz
 generalize w.alloc (.cells #[.string ⟨#[]⟩, .int .i64 0, .int .i64 0, .int .i64 0, .nilFunc, .nilFunc] 65) = w1 at hF hZ hlt ⊢
 have z0 := hZ.c0
 have y0 := hZ.fz 0
 have z1 := hZ.c1
 have y1 := hZ.fz 1
 have z2 := hZ.c2
 have y2 := hZ.fz 2
 have z3 := hZ.c3
 have y3 := hZ.fz 3
 have z4 := hZ.c4
 have y4 := hZ.fz 4
 have z5 := hZ.c5
 have y5 := hZ.fz 5
 go_wp2_with fail
 have hR := row_put6 hZ (.string ⟨#[]⟩) (.int .i64 0) (.int .i64 0) (.int .i64 0) .nilFunc .nilFunc
 have hP := fr_put6 w1 wz (.string ⟨#[]⟩) (.int .i64 0) (.int .i64 0) (.int .i64 0) .nilFunc .nilFunc
 have cd0 := hR.c0
 have cd1 := hR.c1
 have cd2 := hR.c2
 have cd3 := hR.c3
 have cd4 := hR.c4
 have cd5 := hR.c5
 refine bodyPost_ret (v := .tuple #[.agg #[.string ⟨#[]⟩, .int .i64 0, .int .i64 0, .int .i64 0, .nilFunc, .nilFunc], .bool false]) (by simp [results, Tryz.results37, go_sem, cd0, cd1, cd2, cd3, cd4, cd5]) rfl ?_
 exact ⟨rfl, hF.trans hP (fun x hx => .inr (by omega))⟩
end Go.Proofs.YtidlpihoafnobaaGreat
namespace Go.Proofs.YtidlpihoafnobaaGreat
set_option maxRecDepth 100000
open Go.RowKit
theorem Check_any (k : Int) (kh kl : BitVec 64) (w : World) : Calls Tryz.prog 11 #[.int .i64 k, .agg #[.int .u64 (W64 kh), .int .u64 (W64 kl)]] w (GivesNew (.int .i64 (checkN k kh kl)) w) := by
 have hU := row2_new w 24 (.int .u64 (W64 kh)) (.int .u64 (W64 kl))
 have hA := (Fr.refl No w).alloc (.cells #[.int .u64 (W64 kh), .int .u64 (W64 kl)] 24)
 by_cases hk : KindOk k
 · have hO := of_yes hk
   have hb : bitsN k = 32 ∧ k ≤ 4 ∨ bitsN k = 64 ∧ k = 5 ∨ bitsN k = 128 ∧ 6 ≤ k := by rcases hk with rfl | rfl | rfl | rfl | rfl | rfl | rfl | rfl <;> decide
   have hs : ¬ sizeN k = 0 := by rcases hk with rfl | rfl | rfl | rfl | rfl | rfl | rfl | rfl <;> decide
   generalize nameN k = x0 at hO
   have hc : checkN k kh kl = if (bitsN k < 128 ∧ 0 < W64 kh) ∨ (bitsN k < 64 ∧ 4294967296 ≤ W64 kl) then 13 else 0 := by
    unfold checkN
    rw [if_neg hs]
    congr 1
    exact propext (by omega)
   rw [hc]
   clear hc hs
   generalize sizeN k = x1 at hO
   generalize blockN k = x2 at hO
   obtain ⟨z9, hz9⟩ : ∃ z9 : Int, z9 = (if (bitsN k < 128 ∧ 0 < W64 kh) ∨ (bitsN k < 64 ∧ 4294967296 ≤ W64 kl) then 13 else 0) := ⟨_, rfl⟩
   rw [← hz9]
   have HZ := Lib.hid hz9
   clear hz9
   have hsh : (kl / 4294967296#64 = 0#64) = (W64 kl < 4294967296) := by
    unfold W64
    rw [← BitVec.toNat_inj]
    simp only [BitVec.toNat_udiv, BitVec.toNat_ofNat]
    rw [show 4294967296 % 2 ^ 64 = 4294967296 from rfl, show 0 % 2 ^ 64 = 0 from rfl]
    exact propext (by omega)
   have hkh : (kh = 0#64) = ¬ (0 < W64 kh) := by
    unfold W64
    rw [← BitVec.toNat_inj]
    simp only [BitVec.toNat_ofNat]
    exact propext (by omega)
   have hb' : bitsN k = 32 ∨ bitsN k = 64 ∨ bitsN k = 128 := by omega
   clear hb hk
   generalize bitsN k = x3 at hO hb' HZ
   have fin : Hid (z9 = if (x3 < 128 ∧ ¬ kh = 0#64) ∨ (x3 < 64 ∧ ¬ kl / 4294967296#64 = 0#64) then 13 else 0) := by
    show _ = _
    rw [HZ.out]
    have e1 : (¬ kh = 0#64) ↔ 0 < W64 kh := by rw [hkh]; omega
    have e2 : (¬ kl / 4294967296#64 = 0#64) ↔ 4294967296 ≤ W64 kl := by rw [hsh]; omega
    simp only [e1, e2]
   clear HZ hsh hkh
   go_enter Tryz.func11, Tryz.ntmps11
   go_wp2_with fail
   generalize w.heap.size = ub at hU ⊢
   generalize w.alloc (.cells #[.int .u64 (W64 kh), .int .u64 (W64 kl)] 24) = wa at hU hA ⊢
   refine (hO _).mono ?_
   rintro e w1 ⟨f1, c1, f2, c2, rfl, hI, hf⟩
   have hZ := row6_new w1 65 (.string x0) (.int .i64 x1) (.int .i64 x2) (.int .i64 x3) (.func (.func f1) #[] c1) (.func (.func f2) #[] c2)
   have hF := (Fr.refl No w1).alloc (.cells #[.string x0, .int .i64 x1, .int .i64 x2, .int .i64 x3, .func (.func f1) #[] c1, .func (.func f2) #[] c2] 65)
   have u0 := ((hU.no hf).no hF).c0
   have u1 := ((hU.no hf).no hF).c1
   have z0 := hZ.c0
   have z1 := hZ.c1
   have z2 := hZ.c2
   have z3 := hZ.c3
   have z4 := hZ.c4
   have z5 := hZ.c5
   rcases hb' with rfl | rfl | rfl
   all_goals go_wp2_with fail
   all_goals go_ret
   all_goals
    refine ⟨?_, (hA.no hf).no hF⟩
    have hz := fin.out
    clear fin hO hZ hF u0 u1 hU hA hI
    split at hz <;> first | (subst hz; rfl) | (exfalso; simp_all; done)
 · have hO := of_no hk
   have hv : checkN k kh kl = 6 := by
    unfold checkN
    rw [if_pos]
    unfold sizeN
    have h := kindOk_of k hk
    iterate 8 rw [if_neg (by omega)]
   rw [hv]
   clear hv hk
   go_enter Tryz.func11, Tryz.ntmps11
   go_wp2_with fail
   generalize w.heap.size = ub at hU ⊢
   generalize w.alloc (.cells #[.int .u64 (W64 kh), .int .u64 (W64 kl)] 24) = wa at hU hA ⊢
   refine (hO _).mono ?_
   rintro e w1 ⟨rfl, hf⟩
   have hF := (Fr.refl No w1).alloc (.cells #[.string ⟨#[]⟩, .int .i64 0, .int .i64 0, .int .i64 0, .nilFunc, .nilFunc] 65)
   go_wp2_with fail
   go_ret
   exact ⟨rfl, (hA.no hf).no hF⟩
theorem check_ok {k : Int} {kh kl : BitVec 64} (h : checkN k kh kl = 0) : KindOk k := by
 refine Classical.byContradiction fun hk => ?_
 have hv : sizeN k = 0 := by
  unfold sizeN
  have h := kindOk_of k hk
  iterate 8 rw [if_neg (by omega)]
 unfold checkN at h
 rw [if_pos hv] at h
 omega
theorem One_no {k : Int} {kh kl : BitVec 64} (hc : ¬ checkN k kh kl = 0) (a : Option Addr) (n c : Nat) (w : World) : Calls Tryz.prog 9 #[.int .i64 k, .agg #[.int .u64 (W64 kh), .int .u64 (W64 kl)], .slice a n c] w (GivesNew (.tuple #[.slice none 0 0, .int .i64 (checkN k kh kl)]) w) := by
 have hC := Check_any k kh kl
 generalize checkN k kh kl = z at hC hc ⊢
 have hU := row2_new w 24 (.int .u64 (W64 kh)) (.int .u64 (W64 kl))
 have hF := (Fr.refl No w).alloc (.cells #[.int .u64 (W64 kh), .int .u64 (W64 kl)] 24)
 have u0 := hU.c0
 have u1 := hU.c1
 go_enter Tryz.func9, Tryz.ntmps9
 go_wp2_with fail
 refine (hC _).mono ?_
 rintro e w1 ⟨rfl, hf⟩
 go_wp2_with fail
 go_ret2
 exact ⟨rfl, hF.no hf⟩
set_option maxHeartbeats 1000000 in
theorem New_yes {k : Int} {kh kl : BitVec 64} (hc : checkN k kh kl = 0) (w : World) (w0 : World) (hw : Fr No w0 w) : Calls Tryz.prog 18 #[.int .i64 k, .agg #[.int .u64 (W64 kh), .int .u64 (W64 kl)]] w (fun e w' => ∃ hb, e = .returned (.tuple #[.pointer (some ⟨hb, 0, none⟩), .int .i64 0]) ∧ ∃ F, HSAny w0 w' hb F k kh kl (firstS k kh kl) [] 0#64 ∧ (∀ x, F x → w.heap.size ≤ x) ∧ Fr No w w') := by
 have hk := check_ok hc
 have hC := Check_any k kh kl
 rw [hc] at hC
 have hO := of_yes hk
 clear hc hk
 generalize nameN k = x0 at hO
 generalize sizeN k = x1 at hO
 generalize blockN k = x2 at hO
 generalize bitsN k = x3 at hO
 have hU := row2_new w 24 (.int .u64 (W64 kh)) (.int .u64 (W64 kl))
 have hF := (Fr.refl No w).alloc (.cells #[.int .u64 (W64 kh), .int .u64 (W64 kl)] 24)
 have u0 := hU.c0
 have u1 := hU.c1
 go_enter Tryz.func18, Tryz.ntmps18
 go_wp2_with fail
 obtain ⟨ub, hub⟩ : ∃ ub, ub = w.heap.size := ⟨_, rfl⟩
 have hge : w.heap.size ≤ ub := by omega
 rw [← hub] at hU u0 u1 ⊢
 clear hub
 generalize w.alloc (.cells #[.int .u64 (W64 kh), .int .u64 (W64 kl)] 24) = wa at hU hF u0 u1 ⊢
 refine (hC _).mono ?_
 rintro e w1 ⟨rfl, hf⟩
 clear u0 u1
 have u0 := (hU.no hf).c0
 have u1 := (hU.no hf).c1
 go_wp2_with fail
 refine (hO _).mono ?_
 rintro e w2 ⟨f1, c1, f2, c2, rfl, hI, hf2⟩
 clear u0 u1 hO hC
 have hZ := row6_new w2 65 (.string x0) (.int .i64 x1) (.int .i64 x2) (.int .i64 x3) (.func (.func f1) #[] c1) (.func (.func f2) #[] c2)
 have hG := (Fr.refl No w2).alloc (.cells #[.string x0, .int .i64 x1, .int .i64 x2, .int .i64 x3, .func (.func f1) #[] c1, .func (.func f2) #[] c2] 65)
 have u0 := (((hU.no hf).no hf2).no hG).c0
 have u1 := (((hU.no hf).no hf2).no hG).c1
 have z4 := hZ.c4
 have z5 := hZ.c5
 have e1 := hI.e1
 have e2 := hI.e2
 have hFz := ((hF.no hf).no hf2).no hG
 go_wp2_with fail
 refine (hI.made w0 _ kh kl hG (hw.no hFz)).mono ?_
 rintro e w3 ⟨hb, rfl, F, h3, hnew, hf3⟩
 have hsz := hFz.size
 go_wp2_with fail
 go_ret2
 exact ⟨hb, rfl, F, h3, fun x hx => by have := hnew x hx; omega, hFz.no hf3⟩
end Go.Proofs.YtidlpihoafnobaaGreat
