/- CodeX64 EndX64 RefX64 -/
import Derived.Test.YtidlpihoafnobaaGreatDoorPHashM32
set_option linter.unusedVariables false
set_option linter.unusedSimpArgs false
namespace Go.Proofs.YtidlpihoafnobaaGreatDoor.StX64
set_option maxRecDepth 100000
open Go.Proofs.YtidlpihoafnobaaGreatDoor.StG64
open Go.RowKit
theorem cS0 (s : ST) : cS s 0 = .int .u64 (W64 s.1) := rfl
theorem cS1 (s : ST) : cS s 1 = .int .u64 (W64 s.2.1) := rfl
theorem cS2 (s : ST) : cS s 2 = .int .u64 (W64 s.2.2.1) := rfl
theorem cS3 (s : ST) : cS s 3 = .int .u64 (W64 s.2.2.2) := rfl
theorem box_row {w : World} {b : Nat} {s : ST} (h : BoxAt w b s) : Row4 w b 31 (.int .u64 (W64 s.1)) (.int .u64 (W64 s.2.1)) (.int .u64 (W64 s.2.2.1)) (.int .u64 (W64 s.2.2.2)) := h
theorem row_box {w : World} {b : Nat} {s : ST} (h : Row4 w b 31 (.int .u64 (W64 s.1)) (.int .u64 (W64 s.2.1)) (.int .u64 (W64 s.2.2.1)) (.int .u64 (W64 s.2.2.2))) : BoxAt w b s := h
theorem box_put0 {w : World} {b : Nat} {s : ST} (h : BoxAt w b s) (y : BitVec 64) : BoxAt (w.setCell ⟨b, 0, none⟩ (.int .u64 (W64 y))) b (y, s.2.1, s.2.2.1, s.2.2.2) := row_box ((box_row h).put0 _)
theorem box_put1 {w : World} {b : Nat} {s : ST} (h : BoxAt w b s) (y : BitVec 64) : BoxAt (w.setCell ⟨b, 1, none⟩ (.int .u64 (W64 y))) b (s.1, y, s.2.2.1, s.2.2.2) := row_box ((box_row h).put1 _)
theorem box_put2 {w : World} {b : Nat} {s : ST} (h : BoxAt w b s) (y : BitVec 64) : BoxAt (w.setCell ⟨b, 2, none⟩ (.int .u64 (W64 y))) b (s.1, s.2.1, y, s.2.2.2) := row_box ((box_row h).put2 _)
theorem box_put3 {w : World} {b : Nat} {s : ST} (h : BoxAt w b s) (y : BitVec 64) : BoxAt (w.setCell ⟨b, 3, none⟩ (.int .u64 (W64 y))) b (s.1, s.2.1, s.2.2.1, y) := row_box ((box_row h).put3 _)
def lanesV (s : ST) : Value := .agg #[.int .u64 (W64 s.1), .int .u64 (W64 s.2.1), .int .u64 (W64 s.2.2.1), .int .u64 (W64 s.2.2.2)]
theorem first_any (sd : BitVec 64) (w : World) : Calls Tryz.prog 210 #[.int .u64 (W64 sd)] w (GivesNew (.agg #[cS (firstF sd) 0, cS (firstF sd) 1, cS (firstF sd) 2, cS (firstF sd) 3]) w) := by
 have hR2 := row4_new w 31 (.int .u64 (W64 (sd + 11400714785074694791#64 + 14029467366897019727#64))) (.int .u64 (W64 (sd + 14029467366897019727#64))) (.int .u64 (W64 sd)) (.int .u64 (W64 (sd - 11400714785074694791#64)))
 have hF2 := (Fr.refl No w).alloc (.cells #[.int .u64 (W64 (sd + 11400714785074694791#64 + 14029467366897019727#64)), .int .u64 (W64 (sd + 14029467366897019727#64)), .int .u64 (W64 sd), .int .u64 (W64 (sd - 11400714785074694791#64))] 31)
 go_enter Tryz.func210, Tryz.ntmps210
 go_wp2
 generalize w.alloc (.cells #[.int .u64 (W64 (sd + 11400714785074694791#64 + 14029467366897019727#64)), .int .u64 (W64 (sd + 14029467366897019727#64)), .int .u64 (W64 sd), .int .u64 (W64 (sd - 11400714785074694791#64))] 31) = w3 at hR2 hF2 ⊢
 have cd0 := hR2.c0
 have cd1 := hR2.c1
 have cd2 := hR2.c2
 have cd3 := hR2.c3
 exact bodyPost_ret (v := .agg #[.int .u64 (W64 (sd + 11400714785074694791#64 + 14029467366897019727#64)), .int .u64 (W64 (sd + 14029467366897019727#64)), .int .u64 (W64 sd), .int .u64 (W64 (sd - 11400714785074694791#64))]) (by simp [results, Tryz.results210, go_sem, cd0, cd1, cd2, cd3]) rfl ⟨rfl, hF2⟩
theorem round_any (v k : BitVec 64) (w : World) : Calls Tryz.prog 237 #[.int .u64 (W64 v), .int .u64 (W64 k)] w (Gives (.int .u64 (W64 (roundF v k))) w) := by
 go_enter Tryz.func237, Tryz.ntmps237
 go_wp2_with fail
 refine (Rot64_any _ _ _).mono ?_
 rintro e w' ⟨rfl, rfl⟩
 go_wp2_with fail
 go_ret
 exact ⟨by rw [roundF_def]; rfl, rfl⟩
set_option maxHeartbeats 2000000 in
theorem step_any (s : ST) (a : Option Addr) (n c : Nat) (l : Bytes) (w : World) (h : IsBytes w a n c l) (hl : l.length = 32) :
 Calls Tryz.prog 211 #[.agg #[cS s 0, cS s 1, cS s 2, cS s 3], .slice a n c] w (GivesS (stepG s l) w) := by
 have hn : n = 32 := by rw [← h.1]; exact hl
 have hn1 : 32 ≤ n := by omega
 have hA : BoxAt (w.alloc (.cells (boxCells s).toArray 31)) w.heap.size s := heap_alloc_new w _
 have hbox : BoxAt ((w.alloc (.cells (boxCells s).toArray 31)).alloc (.cells #[.int .u64 0, .int .u64 0, .int .u64 0, .int .u64 0] 31)) w.heap.size s := hA.fr ((Fr.refl No _).alloc _) (fun h => h)
 have hres : Row4 ((w.alloc (.cells (boxCells s).toArray 31)).alloc (.cells #[.int .u64 0, .int .u64 0, .int .u64 0, .int .u64 0] 31)) (w.heap.size + 1) 31 (.int .u64 0) (.int .u64 0) (.int .u64 0) (.int .u64 0) := heap_alloc2_new w _ _
 have hfr := ((Fr.refl No w).alloc (.cells (boxCells s).toArray 31)).alloc (.cells #[.int .u64 0, .int .u64 0, .int .u64 0, .int .u64 0] 31)
 clear hA hn hl
 simp only [boxCells] at hbox hres hfr
 go_enter Tryz.func211, Tryz.ntmps211
 go_wp2
 go_loopw [8] (fun i wr => ∃ (k : Nat) (s' : ST), k ≤ 4 ∧ i = .int .i64 k ∧ BoxAt wr w.heap.size s' ∧ Hid (s' = stepTo s l k) ∧ Row4 wr (w.heap.size + 1) 31 (.int .u64 0) (.int .u64 0) (.int .u64 0) (.int .u64 0) ∧ Fr No w wr) (fun i _ => 4 - (intOf i).toNat)
 case atStart => exact ⟨0, s, by omega, rfl, hbox, rfl, hres, hfr⟩
 case round =>
  obtain ⟨k, s', hk, rfl, hB, hs, hres, hf⟩ := hrel
  clear hbox hfr
  rcases (show k = 0 ∨ k = 1 ∨ k = 2 ∨ k = 3 ∨ k = 4 by omega) with rfl | rfl | rfl | rfl | rfl
  · have hRow := box_row hB
    have cb0 := hRow.c0
    have cb1 := hRow.c1
    have cb2 := hRow.c2
    have cb3 := hRow.c3
    have fz0 := hRow.fz 0
    have fz1 := hRow.fz 1
    have fz2 := hRow.fz 2
    have fz3 := hRow.fz 3
    have hy := h.no hf
    go_wp2_with fail
    refine (Le64_yes _ _ _ l 0 _ hy (by omega) (by omega)).mono ?_
    rintro e w' ⟨rfl, rfl⟩
    go_wp2_with fail
    refine (round_any _ _ _).mono ?_
    rintro e w' ⟨rfl, rfl⟩
    clear hy
    go_wp2_with fail
    go_roundw
    case rel =>
     generalize hyy : roundF _ _ = y
     refine ⟨1, (y, s'.2.1, s'.2.2.1, s'.2.2.2), by omega, rfl, box_put0 hB _, ?_, hres.fr ((Fr.refl (fun x => x = w.heap.size) wr).setCell (p := ⟨w.heap.size, 0, none⟩) (.inl rfl) _) (by omega), hf.trans ((Fr.refl (fun x => x = w.heap.size) wr).setCell (p := ⟨w.heap.size, 0, none⟩) (.inl rfl) _) (fun x hx => .inr (by omega))⟩
     show _ = _
     rw [← hyy, hs.out]
     simp only [stepTo, num8, List.drop_zero]
    case measure => simp [intOf]
  · have hRow := box_row hB
    have cb0 := hRow.c0
    have cb1 := hRow.c1
    have cb2 := hRow.c2
    have cb3 := hRow.c3
    have fz0 := hRow.fz 0
    have fz1 := hRow.fz 1
    have fz2 := hRow.fz 2
    have fz3 := hRow.fz 3
    have hy := h.no hf
    go_wp2_with fail
    refine (Le64_yes _ _ _ l 8 _ hy (by omega) (by omega)).mono ?_
    rintro e w' ⟨rfl, rfl⟩
    go_wp2_with fail
    refine (round_any _ _ _).mono ?_
    rintro e w' ⟨rfl, rfl⟩
    clear hy
    go_wp2_with fail
    go_roundw
    case rel =>
     generalize hyy : roundF _ _ = y
     refine ⟨2, (s'.1, y, s'.2.2.1, s'.2.2.2), by omega, rfl, box_put1 hB _, ?_, hres.fr ((Fr.refl (fun x => x = w.heap.size) wr).setCell (p := ⟨w.heap.size, 1, none⟩) (.inl rfl) _) (by omega), hf.trans ((Fr.refl (fun x => x = w.heap.size) wr).setCell (p := ⟨w.heap.size, 1, none⟩) (.inl rfl) _) (fun x hx => .inr (by omega))⟩
     show _ = _
     rw [← hyy, hs.out]
     simp only [stepTo, num8, List.drop_zero]
    case measure => simp [intOf]
  · have hRow := box_row hB
    have cb0 := hRow.c0
    have cb1 := hRow.c1
    have cb2 := hRow.c2
    have cb3 := hRow.c3
    have fz0 := hRow.fz 0
    have fz1 := hRow.fz 1
    have fz2 := hRow.fz 2
    have fz3 := hRow.fz 3
    have hy := h.no hf
    go_wp2_with fail
    refine (Le64_yes _ _ _ l 16 _ hy (by omega) (by omega)).mono ?_
    rintro e w' ⟨rfl, rfl⟩
    go_wp2_with fail
    refine (round_any _ _ _).mono ?_
    rintro e w' ⟨rfl, rfl⟩
    clear hy
    go_wp2_with fail
    go_roundw
    case rel =>
     generalize hyy : roundF _ _ = y
     refine ⟨3, (s'.1, s'.2.1, y, s'.2.2.2), by omega, rfl, box_put2 hB _, ?_, hres.fr ((Fr.refl (fun x => x = w.heap.size) wr).setCell (p := ⟨w.heap.size, 2, none⟩) (.inl rfl) _) (by omega), hf.trans ((Fr.refl (fun x => x = w.heap.size) wr).setCell (p := ⟨w.heap.size, 2, none⟩) (.inl rfl) _) (fun x hx => .inr (by omega))⟩
     show _ = _
     rw [← hyy, hs.out]
     simp only [stepTo, num8, List.drop_zero]
    case measure => simp [intOf]
  · have hRow := box_row hB
    have cb0 := hRow.c0
    have cb1 := hRow.c1
    have cb2 := hRow.c2
    have cb3 := hRow.c3
    have fz0 := hRow.fz 0
    have fz1 := hRow.fz 1
    have fz2 := hRow.fz 2
    have fz3 := hRow.fz 3
    have hy := h.no hf
    go_wp2_with fail
    refine (Le64_yes _ _ _ l 24 _ hy (by omega) (by omega)).mono ?_
    rintro e w' ⟨rfl, rfl⟩
    go_wp2_with fail
    refine (round_any _ _ _).mono ?_
    rintro e w' ⟨rfl, rfl⟩
    clear hy
    go_wp2_with fail
    go_roundw
    case rel =>
     generalize hyy : roundF _ _ = y
     refine ⟨4, (s'.1, s'.2.1, s'.2.2.1, y), by omega, rfl, box_put3 hB _, ?_, hres.fr ((Fr.refl (fun x => x = w.heap.size) wr).setCell (p := ⟨w.heap.size, 3, none⟩) (.inl rfl) _) (by omega), hf.trans ((Fr.refl (fun x => x = w.heap.size) wr).setCell (p := ⟨w.heap.size, 3, none⟩) (.inl rfl) _) (fun x hx => .inr (by omega))⟩
     show _ = _
     rw [← hyy, hs.out]
     simp only [stepTo, num8, List.drop_zero]
    case measure => simp [intOf]
  · have hRow := box_row hB
    have cb0 := hRow.c0
    have cb1 := hRow.c1
    have cb2 := hRow.c2
    have cb3 := hRow.c3
    have cr0 := hres.c0
    have cr1 := hres.c1
    have cr2 := hres.c2
    have cr3 := hres.c3
    have fr0 := hres.fz 0
    have fr1 := hres.fz 1
    have fr2 := hres.fz 2
    have fr3 := hres.fz 3
    go_wp2_with fail
    have hF3 := fr_put4 wr (w.heap.size + 1) (.int .u64 (W64 s'.1)) (.int .u64 (W64 s'.2.1)) (.int .u64 (W64 s'.2.2.1)) (.int .u64 (W64 s'.2.2.2))
    have hR3 := row_put4 hres (.int .u64 (W64 s'.1)) (.int .u64 (W64 s'.2.1)) (.int .u64 (W64 s'.2.2.1)) (.int .u64 (W64 s'.2.2.2))
    clear cr0 fr0 cr1 fr1 cr2 fr2 cr3 fr3
    generalize (((wr.setCell ⟨w.heap.size + 1, 0, none⟩ (.int .u64 (W64 s'.1))).setCell ⟨w.heap.size + 1, 1, none⟩ (.int .u64 (W64 s'.2.1))).setCell ⟨w.heap.size + 1, 2, none⟩ (.int .u64 (W64 s'.2.2.1))).setCell ⟨w.heap.size + 1, 3, none⟩ (.int .u64 (W64 s'.2.2.2)) = w3 at hF3 hR3 ⊢
    have cd0 := hR3.c0
    have cd1 := hR3.c1
    have cd2 := hR3.c2
    have cd3 := hR3.c3
    refine bodyPost_ret (v := .agg #[cS s' 0, cS s' 1, cS s' 2, cS s' 3]) (by simp [results, Tryz.results211, go_sem, cd0, cd1, cd2, cd3, lanesV, cS0, cS1, cS2, cS3]) rfl ?_
    exact ⟨by rw [hs.out]; rfl, hf.trans hF3 (fun x hx => .inr (by omega))⟩
abbrev q0 : QT := (211, #[])
theorem run_callFunc_enter {P : Program} {f : FuncId} {fn : Func} (hf : P.funcs[f]? = some fn) (hname : (fn.name == "runtime.NumGoroutine") = false) (hb : fn.body.isSome = true) (args : Array Value) (w : World) : Sem.run P (callFunc f args) w = .ok (.enter f args) w := by
 obtain ⟨c, hc⟩ := Option.isSome_iff_exists.1 hb
 have h1 : fn.name ≠ "runtime.NumGoroutine" := by simpa using hname
 simp [callFunc, hf, h1, hc, mark]
theorem steps_any : Hid (StG64.Steps (fun _ => True) stepG 32 q0) := Lib.hid ⟨fun args w => run_callFunc_enter Tryz.func211 (by kernel_rfl) (by kernel_rfl) args w, fun w s a n c l _ hb hl => step_any s a n c l w hb hl⟩
end Go.Proofs.YtidlpihoafnobaaGreatDoor.StX64
namespace Go.Proofs.YtidlpihoafnobaaGreatDoor.StX64
set_option maxRecDepth 100000
open Go.Proofs.YtidlpihoafnobaaGreatDoor.StG64
open Go.RowKit
@[go_sem] theorem index4_0 (v0 v1 v2 v3 : Value) (w : World) : (Instr.index 31 (.agg #[v0, v1, v2, v3]) (.int .i64 0)).run Tryz.prog w = .ok v0 w := by simp [Instr.index, run_underlying Tryz.underlying31, asIntOf, go_sem]
@[go_sem] theorem index4_1 (v0 v1 v2 v3 : Value) (w : World) : (Instr.index 31 (.agg #[v0, v1, v2, v3]) (.int .i64 1)).run Tryz.prog w = .ok v1 w := by simp [Instr.index, run_underlying Tryz.underlying31, asIntOf, go_sem]
@[go_sem] theorem index4_2 (v0 v1 v2 v3 : Value) (w : World) : (Instr.index 31 (.agg #[v0, v1, v2, v3]) (.int .i64 2)).run Tryz.prog w = .ok v2 w := by simp [Instr.index, run_underlying Tryz.underlying31, asIntOf, go_sem]
@[go_sem] theorem index4_3 (v0 v1 v2 v3 : Value) (w : World) : (Instr.index 31 (.agg #[v0, v1, v2, v3]) (.int .i64 3)).run Tryz.prog w = .ok v3 w := by simp [Instr.index, run_underlying Tryz.underlying31, asIntOf, go_sem]
theorem round0_any (k : BitVec 64) (w : World) : Calls Tryz.prog 237 #[.int .u64 0, .int .u64 (W64 k)] w (Gives (.int .u64 (W64 (roundF 0#64 k))) w) := round_any 0#64 k w
theorem allTo1 (s : ST) : mergeF (allTo s 0) s.1 = allTo s 1 := rfl
theorem allTo2 (s : ST) : mergeF (allTo s 1) s.2.1 = allTo s 2 := rfl
theorem allTo3 (s : ST) : mergeF (allTo s 2) s.2.2.1 = allTo s 3 := rfl
theorem allTo4 (s : ST) : mergeF (allTo s 3) s.2.2.2 = allTo s 4 := rfl
theorem sumF_def (s : ST) : rotl64 s.1 1 + rotl64 s.2.1 7 + rotl64 s.2.2.1 12 + rotl64 s.2.2.2 18 = sumF s := rfl
set_option maxHeartbeats 2000000 in
theorem all_any (s : ST) (w : World) : Calls Tryz.prog 238 #[.agg #[.int .u64 (W64 s.1), .int .u64 (W64 s.2.1), .int .u64 (W64 s.2.2.1), .int .u64 (W64 s.2.2.2)]] w (GivesNew (.int .u64 (W64 (allF s))) w) := by
 have hf0 : Fr No w (w.alloc (.cells #[.int .u64 (W64 s.1), .int .u64 (W64 s.2.1), .int .u64 (W64 s.2.2.1), .int .u64 (W64 s.2.2.2)] 31)) := (Fr.refl No w).alloc _
 have hR := row4_new w 31 (.int .u64 (W64 s.1)) (.int .u64 (W64 s.2.1)) (.int .u64 (W64 s.2.2.1)) (.int .u64 (W64 s.2.2.2))
 go_enter Tryz.func238, Tryz.ntmps238
 go_wp2_with fail
 generalize w.heap.size = pb at hR ⊢
 generalize w.alloc (.cells #[.int .u64 (W64 s.1), .int .u64 (W64 s.2.1), .int .u64 (W64 s.2.2.1), .int .u64 (W64 s.2.2.2)] 31) = w0 at hf0 hR ⊢
 refine rsq (by kernel_rfl) [(0, 1), (1, 1), (3, 1), (4, 1), (7, 1), (8, 1), (11, 1), (12, 1), (2, 0), (5, 0), (6, 1), (9, 0), (10, 1), (13, 0), (14, 1), (15, 1)] (by kernel_rfl) ?_
 have hs0 : Fr No w0 w0.drew := (Fr.refl No w0).drew
 iterate 8 refine tq _ rfl rfl (by intro w9 h9; have q0 := (hR.no h9).c0; have q1 := (hR.no h9).c1; have q2 := (hR.no h9).c2; have q3 := (hR.no h9).c3; clear h9; go_simp; try with_reducible rfl) ?_; simp only [es1, es2, es3]
 refine wpSeq_next rfl rfl (fun K hK => ?_)
 go_wp2_with fail
 refine (Rot64_any _ 1 _).mono ?_
 rintro e w' ⟨rfl, rfl⟩
 refine hK.out _ _ (fun _ => hs0) ?_
 clear hK K
 refine wpSeq_next rfl rfl (fun K hK => ?_)
 go_wp2_with fail
 refine (Rot64_any _ 7 _).mono ?_
 rintro e w' ⟨rfl, rfl⟩
 refine hK.out _ _ (fun _ => hs0) ?_
 clear hK K
 refine tp _ rfl rfl ?_; simp only [es1, es2, es3]
 refine wpSeq_next rfl rfl (fun K hK => ?_)
 go_wp2_with fail
 refine (Rot64_any _ 12 _).mono ?_
 rintro e w' ⟨rfl, rfl⟩
 refine hK.out _ _ (fun _ => hs0) ?_
 clear hK K
 refine tp _ rfl rfl ?_; simp only [es1, es2, es3]
 refine wpSeq_next rfl rfl (fun K hK => ?_)
 go_wp2_with fail
 refine (Rot64_any _ 18 _).mono ?_
 rintro e w' ⟨rfl, rfl⟩
 refine hK.out _ _ (fun _ => hs0) ?_
 clear hK K
 iterate 2 refine tp _ rfl rfl ?_; simp only [es1, es2, es3]
 refine wpSeq_done ?_
 rw [sumF_def]
 have hf1 := hf0.no hs0
 have cq0 := (hR.no hs0).c0
 have cq1 := (hR.no hs0).c1
 have cq2 := (hR.no hs0).c2
 have cq3 := (hR.no hs0).c3
 clear hs0 hR hf0
 go_wp2_with fail
 generalize w0.drew = w1 at hf1 cq0 cq1 cq2 cq3 ⊢
 clear cq0 cq1 cq2 cq3
 go_loop [4, 24] (fun u i => ∃ k : Nat, k ≤ 4 ∧ i = .int .i64 k ∧ u = .int .u64 (W64 (allTo s k))) (fun _ i => 4 - (intOf i).toNat)
 case atStart => exact ⟨0, by omega, rfl, rfl⟩
 case round =>
  obtain ⟨k, hk, rfl, rfl⟩ := hrel
  rcases (show k = 0 ∨ k = 1 ∨ k = 2 ∨ k = 3 ∨ k = 4 by omega) with rfl | rfl | rfl | rfl | rfl
  · go_wp2_with fail
    refine (round0_any (s.1) _).mono ?_
    rintro e w' ⟨rfl, rfl⟩
    go_wp2_with fail
    refine ⟨⟨1, by omega, rfl, ?_⟩, by simp [intOf]⟩
    rw [mergeF_def, allTo1]
  · go_wp2_with fail
    refine (round0_any (s.2.1) _).mono ?_
    rintro e w' ⟨rfl, rfl⟩
    go_wp2_with fail
    refine ⟨⟨2, by omega, rfl, ?_⟩, by simp [intOf]⟩
    rw [mergeF_def, allTo2]
  · go_wp2_with fail
    refine (round0_any (s.2.2.1) _).mono ?_
    rintro e w' ⟨rfl, rfl⟩
    go_wp2_with fail
    refine ⟨⟨3, by omega, rfl, ?_⟩, by simp [intOf]⟩
    rw [mergeF_def, allTo3]
  · go_wp2_with fail
    refine (round0_any (s.2.2.2) _).mono ?_
    rintro e w' ⟨rfl, rfl⟩
    go_wp2_with fail
    refine ⟨⟨4, by omega, rfl, ?_⟩, by simp [intOf]⟩
    rw [mergeF_def, allTo4]
  · go_wp2_with fail
    go_ret
    exact ⟨rfl, hf1⟩
set_option maxHeartbeats 2000000 in
theorem rest_any (h : BitVec 64) (a : Option Addr) (n c : Nat) (l : Bytes) (w : World) (hb : IsBytes w a n c l) : Calls Tryz.prog 239 #[.int .u64 (W64 h), .slice a n c] w (Gives (.int .u64 (W64 (restF h l))) w) := by
 generalize hr : restF h l = r
 have HR := Lib.hid hr
 clear hr
 go_enter Tryz.func239, Tryz.ntmps239
 go_wp2_with fail
 go_step3
 go_wp2_with fail
 go_step3
 go_wp2_with fail
 go_loop [0, 1] (fun u v => ∃ m a' c' l' h', v = .slice a' m c' ∧ u = .int .u64 (W64 h') ∧ IsBytes w a' m c' l' ∧ restF h' l' = r) (fun _ v => match v with | .slice _ m _ => m | _ => 0)
 case atStart => exact ⟨n, a, c, l, _, rfl, rfl, hb, HR.out⟩
 case round =>
  obtain ⟨m, a', c', l', h', rfl, rfl, hb', hr'⟩ := hrel
  have hlen := Lib.hid hb'.1
  have hc : m ≤ c' := hb'.2.1
  have hc2 : c' ≤ 9223372036854775807 := hb'.2.2.1
  clear hb
  by_cases hlt : 8 ≤ m
  · have i2 : (8 : Int) ≤ (c' : Int) := by omega
    have i3 : (8 : Int) ≤ (m : Int) := by omega
    have hbig := Lib.hid (restF_big (h := h') (l := l') (by rw [hlen.out]; exact hlt))
    have hcut := hb'.cut_to_end 8 (n' := m - 8) (c' := c' - 8) hlt rfl rfl
    go_wp2_with fail
    refine (Le64_yes _ _ _ l' 0 _ hb' (by omega) (by omega)).mono ?_
    rintro e w' ⟨rfl, rfl⟩
    go_wp2_with fail
    refine (Le32_yes _ _ _ l' 0 _ hb' (by omega) (by omega)).mono ?_
    rintro e w' ⟨rfl, rfl⟩
    go_wp2_with fail
    refine (round0_any _ _).mono ?_
    rintro e w' ⟨rfl, rfl⟩
    go_wp2_with fail
    refine (Rot64_any _ _ _).mono ?_
    rintro e w' ⟨rfl, rfl⟩
    go_wp2_with fail
    refine ⟨⟨m - 8, _, _, _, g8 h' l', rfl, ?_, hcut, by rw [← hr', hbig.out]⟩, by simp; omega⟩
    rw [g8_def]
  · by_cases h4 : 4 ≤ m
    · have i2 : (4 : Int) ≤ (c' : Int) := by omega
      have i3 : (4 : Int) ≤ (m : Int) := by omega
      have hbig := Lib.hid (restF_four (h := h') (l := l') (by rw [hlen.out]; omega) (by rw [hlen.out]; exact h4))
      have hcut := hb'.cut_to_end 4 (n' := m - 4) (c' := c' - 4) h4 rfl rfl
      go_wp2_with fail
      refine (Le64_no _ _ _ 0 _ (by omega) (by omega) (by omega)).mono ?_
      rintro e w' ⟨rfl, rfl⟩
      go_wp2_with fail
      refine (Le32_yes _ _ _ l' 0 _ hb' (by omega) (by omega)).mono ?_
      rintro e w' ⟨rfl, rfl⟩
      go_wp2_with fail
      refine (Rot64_any _ _ _).mono ?_
      rintro e w' ⟨rfl, rfl⟩
      go_wp2_with fail
      refine ⟨⟨m - 4, _, _, _, g4 h' l', rfl, ?_, hcut, by rw [← hr', hbig.out]⟩, by simp; omega⟩
      rw [le4_back, g4_def]
    · rcases Nat.eq_zero_or_pos m with h0 | h0
      · subst h0
        have hnil : l' = [] := List.eq_nil_of_length_eq_zero hlen.out
        have hh : h' = r := by rw [← hr', hnil, restF_nil]
        rw [hh]
        clear hh hr' hnil
        go_wp2_with fail
        refine (Le64_no _ _ _ 0 _ (by omega) (by omega) (by omega)).mono ?_
        rintro e w' ⟨rfl, rfl⟩
        go_wp2_with fail
        refine (Le32_no _ _ _ 0 _ (by omega) (by omega) (by omega)).mono ?_
        rintro e w' ⟨rfl, rfl⟩
        go_wp2_with fail
        rw [Exit.noGoto_ret]
        go_ret
        exact ⟨rfl, rfl⟩
      · obtain ⟨k, hk⟩ : ∃ k, m = k + 1 := ⟨m - 1, by omega⟩
        obtain ⟨z, tl, hl', htl⟩ := cons_of (hlen.out.trans hk)
        obtain ⟨b, off, rfl, hcell⟩ := hb'.known h0
        have hc0 := hcell 0 h0
        rw [hl'] at hc0
        simp only [Nat.add_zero, List.getD_cons_zero] at hc0
        have hone := Lib.hid (restF_one (h := h') (b := z) (r := tl) (by rw [← hl', hlen.out]; omega))
        have hcut := hb'.cut_to_end 1 (n' := m - 1) (c' := c' - 1) (by omega) rfl rfl
        rw [hl'] at hcut hr'
        simp only [List.drop_succ_cons, List.drop_zero] at hcut
        have i2 : (1 : Int) ≤ (c' : Int) := by omega
        have i3 : (1 : Int) ≤ (m : Int) := by omega
        have i4 : (0 : Int) < (m : Int) := by omega
        clear hcell hl' htl hk
        go_wp2_with fail
        refine (Le64_no _ _ _ 0 _ (by omega) (by omega) (by omega)).mono ?_
        rintro e w' ⟨rfl, rfl⟩
        go_wp2_with fail
        refine (Le32_no _ _ _ 0 _ (by omega) (by omega) (by omega)).mono ?_
        rintro e w' ⟨rfl, rfl⟩
        go_wp2_with fail
        refine (Rot64_any _ _ _).mono ?_
        rintro e w' ⟨rfl, rfl⟩
        go_wp2_with fail
        refine ⟨⟨m - 1, _, _, _, g1 h' z, rfl, ?_, hcut, by rw [← hr', hone.out]⟩, by simp; omega⟩
        rw [g1_def]
set_option maxHeartbeats 2000000 in
theorem end_any (sd : BitVec 64) (s : ST) (a : Option Addr) (n c : Nat) (l : Bytes) (lo : BitVec 64) (w : World) (hb : IsBytes w a n c l) :
 Calls Tryz.prog 212 #[.int .u64 (W64 sd), .agg #[cS s 0, cS s 1, cS s 2, cS s 3], .slice a n c, .int .u64 (W64 lo)] w (GivesNew (.int .u64 (W64 (endF sd s l lo))) w) := by
 simp only [cS0, cS1, cS2, cS3]
 have hf0 : Fr No w (w.alloc (.cells #[.int .u64 (W64 s.1), .int .u64 (W64 s.2.1), .int .u64 (W64 s.2.2.1), .int .u64 (W64 s.2.2.2)] 31)) := (Fr.refl No w).alloc _
 have hR := row4_new w 31 (.int .u64 (W64 s.1)) (.int .u64 (W64 s.2.1)) (.int .u64 (W64 s.2.2.1)) (.int .u64 (W64 s.2.2.2))
 unfold endF headF
 by_cases hlo : 32 ≤ W64 lo
 · rw [if_pos hlo]
   go_enter Tryz.func212, Tryz.ntmps212
   go_wp2_with fail
   generalize w.heap.size = pb at hR ⊢
   generalize w.alloc (.cells #[.int .u64 (W64 s.1), .int .u64 (W64 s.2.1), .int .u64 (W64 s.2.2.1), .int .u64 (W64 s.2.2.2)] 31) = w0 at hf0 hR ⊢
   have cq0 := hR.c0
   have cq1 := hR.c1
   have cq2 := hR.c2
   have cq3 := hR.c3
   try go_wp2_with fail
   refine (all_any s _).mono ?_
   rintro e w1 ⟨rfl, hf1⟩
   have hy := (hb.no hf0).no hf1
   clear hb cq0 cq1 cq2 cq3
   go_wp2_with fail
   refine (rest_any _ _ _ _ l _ hy).mono ?_
   rintro e w' ⟨rfl, rfl⟩
   go_wp2_with fail
   go_ret
   rw [avalF_def]
   exact ⟨rfl, hf0.no hf1⟩
 · rw [if_neg hlo]
   have hlo2 : W64 lo < 32 := by omega
   clear hlo
   go_enter Tryz.func212, Tryz.ntmps212
   go_wp2_with fail
   refine (rest_any _ _ _ _ l _ (hb.no hf0)).mono ?_
   rintro e w' ⟨rfl, rfl⟩
   go_wp2_with fail
   go_ret
   rw [avalF_def]
   exact ⟨rfl, hf0⟩
end Go.Proofs.YtidlpihoafnobaaGreatDoor.StX64
namespace Go.Proofs.YtidlpihoafnobaaGreatDoor.StX64
set_option maxRecDepth 100000
open Go.Proofs.YtidlpihoafnobaaGreatDoor.StG64
open Go.RowKit
theorem refRound_any (v k : BitVec 64) (w : World) : Calls Tryz.prog 70 #[.int .u64 (W64 v), .int .u64 (W64 k)] w (Gives (.int .u64 (W64 (roundF v k))) w) := by
 go_enter Tryz.func70, Tryz.ntmps70
 go_wp2_with fail
 refine (refRot64_any _ 31 _ (by omega) (by omega)).mono ?_
 rintro e w' ⟨rfl, rfl⟩
 go_wp2_with fail
 go_ret
 exact ⟨by rw [roundF_def]; rfl, rfl⟩
end Go.Proofs.YtidlpihoafnobaaGreatDoor.StX64
