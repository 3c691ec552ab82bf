/- CodeX32 EndX32 -/
import Derived.Test.YtidlpihoafnobaaGreatDoorPSealErr
set_option linter.unusedVariables false
set_option linter.unusedSimpArgs false
namespace Go.Proofs.YtidlpihoafnobaaGreatDoor.StX32
set_option maxRecDepth 100000
open Go.Proofs.YtidlpihoafnobaaGreatDoor.StG32
open Go.RowKit
theorem cS0 (s : ST) : cS s 0 = .int .u32 (W32 s.1) := rfl
theorem cS1 (s : ST) : cS s 1 = .int .u32 (W32 s.2.1) := rfl
theorem cS2 (s : ST) : cS s 2 = .int .u32 (W32 s.2.2.1) := rfl
theorem cS3 (s : ST) : cS s 3 = .int .u32 (W32 s.2.2.2) := rfl
theorem box_row {w : World} {b : Nat} {s : ST} (h : BoxAt w b s) : Row4 w b 123 (.int .u32 (W32 s.1)) (.int .u32 (W32 s.2.1)) (.int .u32 (W32 s.2.2.1)) (.int .u32 (W32 s.2.2.2)) := h
theorem row_box {w : World} {b : Nat} {s : ST} (h : Row4 w b 123 (.int .u32 (W32 s.1)) (.int .u32 (W32 s.2.1)) (.int .u32 (W32 s.2.2.1)) (.int .u32 (W32 s.2.2.2))) : BoxAt w b s := h
theorem box_put0 {w : World} {b : Nat} {s : ST} (h : BoxAt w b s) (y : BitVec 32) : BoxAt (w.setCell ⟨b, 0, none⟩ (.int .u32 (W32 y))) b (y, s.2.1, s.2.2.1, s.2.2.2) := row_box ((box_row h).put0 _)
theorem box_put1 {w : World} {b : Nat} {s : ST} (h : BoxAt w b s) (y : BitVec 32) : BoxAt (w.setCell ⟨b, 1, none⟩ (.int .u32 (W32 y))) b (s.1, y, s.2.2.1, s.2.2.2) := row_box ((box_row h).put1 _)
theorem box_put2 {w : World} {b : Nat} {s : ST} (h : BoxAt w b s) (y : BitVec 32) : BoxAt (w.setCell ⟨b, 2, none⟩ (.int .u32 (W32 y))) b (s.1, s.2.1, y, s.2.2.2) := row_box ((box_row h).put2 _)
theorem box_put3 {w : World} {b : Nat} {s : ST} (h : BoxAt w b s) (y : BitVec 32) : BoxAt (w.setCell ⟨b, 3, none⟩ (.int .u32 (W32 y))) b (s.1, s.2.1, s.2.2.1, y) := row_box ((box_row h).put3 _)
def lanesV (s : ST) : Value := .agg #[.int .u64 (W64 (s.1.setWidth 64)), .int .u64 (W64 (s.2.1.setWidth 64)), .int .u64 (W64 (s.2.2.1.setWidth 64)), .int .u64 (W64 (s.2.2.2.setWidth 64))]
set_option maxHeartbeats 400000 in
theorem wide_any (s : ST) (w : World) : Calls Tryz.prog 298 #[.agg #[.int .u32 (W32 s.1), .int .u32 (W32 s.2.1), .int .u32 (W32 s.2.2.1), .int .u32 (W32 s.2.2.2)]] w (GivesNew (lanesV s) w) := by
 have hR := row4_new w 123 (.int .u32 (W32 s.1)) (.int .u32 (W32 s.2.1)) (.int .u32 (W32 s.2.2.1)) (.int .u32 (W32 s.2.2.2))
 have hF := (Fr.refl No w).alloc (.cells #[.int .u32 (W32 s.1), .int .u32 (W32 s.2.1), .int .u32 (W32 s.2.2.1), .int .u32 (W32 s.2.2.2)] 123)
 have hR2 : Row4 ((w.alloc (.cells #[.int .u32 (W32 s.1), .int .u32 (W32 s.2.1), .int .u32 (W32 s.2.2.1), .int .u32 (W32 s.2.2.2)] 123)).alloc (.cells #[.int .u64 (W64 (s.1.setWidth 64)), .int .u64 (W64 (s.2.1.setWidth 64)), .int .u64 (W64 (s.2.2.1.setWidth 64)), .int .u64 (W64 (s.2.2.2.setWidth 64))] 31)) (w.heap.size + 1) 31 (.int .u64 (W64 (s.1.setWidth 64))) (.int .u64 (W64 (s.2.1.setWidth 64))) (.int .u64 (W64 (s.2.2.1.setWidth 64))) (.int .u64 (W64 (s.2.2.2.setWidth 64))) := heap_alloc2_new w _ _
 have hF2 := hF.alloc (.cells #[.int .u64 (W64 (s.1.setWidth 64)), .int .u64 (W64 (s.2.1.setWidth 64)), .int .u64 (W64 (s.2.2.1.setWidth 64)), .int .u64 (W64 (s.2.2.2.setWidth 64))] 31)
 go_enter Tryz.func298, Tryz.ntmps298
 go_wp2
 generalize ((w.alloc (.cells #[.int .u32 (W32 s.1), .int .u32 (W32 s.2.1), .int .u32 (W32 s.2.2.1), .int .u32 (W32 s.2.2.2)] 123)).alloc (.cells #[.int .u64 (W64 (s.1.setWidth 64)), .int .u64 (W64 (s.2.1.setWidth 64)), .int .u64 (W64 (s.2.2.1.setWidth 64)), .int .u64 (W64 (s.2.2.2.setWidth 64))] 31)) = w3 at hR2 hF2 ⊢
 have cd0 := hR2.c0
 have cd1 := hR2.c1
 have cd2 := hR2.c2
 have cd3 := hR2.c3
 exact bodyPost_ret (v := lanesV s) (by simp [results, Tryz.results298, go_sem, cd0, cd1, cd2, cd3, lanesV]) rfl ⟨rfl, hF2⟩
set_option maxHeartbeats 400000 in
theorem narrow_any (x0 x1 x2 x3 : BitVec 64) (w : World) : Calls Tryz.prog 299 #[.agg #[.int .u64 (W64 x0), .int .u64 (W64 x1), .int .u64 (W64 x2), .int .u64 (W64 x3)]] w (GivesNew (.agg #[.int .u32 (W32 (x0.setWidth 32)), .int .u32 (W32 (x1.setWidth 32)), .int .u32 (W32 (x2.setWidth 32)), .int .u32 (W32 (x3.setWidth 32))]) w) := by
 have hR := row4_new w 31 (.int .u64 (W64 x0)) (.int .u64 (W64 x1)) (.int .u64 (W64 x2)) (.int .u64 (W64 x3))
 have hF := (Fr.refl No w).alloc (.cells #[.int .u64 (W64 x0), .int .u64 (W64 x1), .int .u64 (W64 x2), .int .u64 (W64 x3)] 31)
 have hR2 : Row4 ((w.alloc (.cells #[.int .u64 (W64 x0), .int .u64 (W64 x1), .int .u64 (W64 x2), .int .u64 (W64 x3)] 31)).alloc (.cells #[.int .u32 (W32 (x0.setWidth 32)), .int .u32 (W32 (x1.setWidth 32)), .int .u32 (W32 (x2.setWidth 32)), .int .u32 (W32 (x3.setWidth 32))] 123)) (w.heap.size + 1) 123 (.int .u32 (W32 (x0.setWidth 32))) (.int .u32 (W32 (x1.setWidth 32))) (.int .u32 (W32 (x2.setWidth 32))) (.int .u32 (W32 (x3.setWidth 32))) := heap_alloc2_new w _ _
 have hF2 := hF.alloc (.cells #[.int .u32 (W32 (x0.setWidth 32)), .int .u32 (W32 (x1.setWidth 32)), .int .u32 (W32 (x2.setWidth 32)), .int .u32 (W32 (x3.setWidth 32))] 123)
 go_enter Tryz.func299, Tryz.ntmps299
 go_wp2
 generalize ((w.alloc (.cells #[.int .u64 (W64 x0), .int .u64 (W64 x1), .int .u64 (W64 x2), .int .u64 (W64 x3)] 31)).alloc (.cells #[.int .u32 (W32 (x0.setWidth 32)), .int .u32 (W32 (x1.setWidth 32)), .int .u32 (W32 (x2.setWidth 32)), .int .u32 (W32 (x3.setWidth 32))] 123)) = w3 at hR2 hF2 ⊢
 have cd0 := hR2.c0
 have cd1 := hR2.c1
 have cd2 := hR2.c2
 have cd3 := hR2.c3
 exact bodyPost_ret (v := .agg #[.int .u32 (W32 (x0.setWidth 32)), .int .u32 (W32 (x1.setWidth 32)), .int .u32 (W32 (x2.setWidth 32)), .int .u32 (W32 (x3.setWidth 32))]) (by simp [results, Tryz.results299, go_sem, cd0, cd1, cd2, cd3]) rfl ⟨rfl, hF2⟩
theorem first_any (sd : BitVec 32) (w : World) : Calls Tryz.prog 152 #[.int .u32 (W32 sd)] w (GivesNew (.agg #[cS (firstF sd) 0, cS (firstF sd) 1, cS (firstF sd) 2, cS (firstF sd) 3]) w) := by
 have hR2 := row4_new w 123 (.int .u32 (W32 (sd + 606290984#32))) (.int .u32 (W32 (sd + 2246822519#32))) (.int .u32 (W32 sd)) (.int .u32 (W32 (sd - 2654435761#32)))
 have hF2 := (Fr.refl No w).alloc (.cells #[.int .u32 (W32 (sd + 606290984#32)), .int .u32 (W32 (sd + 2246822519#32)), .int .u32 (W32 sd), .int .u32 (W32 (sd - 2654435761#32))] 123)
 go_enter Tryz.func152, Tryz.ntmps152
 go_wp2
 generalize w.alloc (.cells #[.int .u32 (W32 (sd + 606290984#32)), .int .u32 (W32 (sd + 2246822519#32)), .int .u32 (W32 sd), .int .u32 (W32 (sd - 2654435761#32))] 123) = w3 at hR2 hF2 ⊢
 have cd0 := hR2.c0
 have cd1 := hR2.c1
 have cd2 := hR2.c2
 have cd3 := hR2.c3
 exact bodyPost_ret (v := .agg #[.int .u32 (W32 (sd + 606290984#32)), .int .u32 (W32 (sd + 2246822519#32)), .int .u32 (W32 sd), .int .u32 (W32 (sd - 2654435761#32))]) (by simp [results, Tryz.results152, go_sem, cd0, cd1, cd2, cd3]) rfl ⟨rfl, hF2⟩
set_option maxHeartbeats 2000000 in
theorem step_any (s : ST) (a : Option Addr) (n c : Nat) (l : Bytes) (w : World) (h : IsBytes w a n c l) (hl : l.length = 16) :
 Calls Tryz.prog 153 #[.agg #[cS s 0, cS s 1, cS s 2, cS s 3], .slice a n c] w (GivesS (stepG s l) w) := by
 have hn : n = 16 := by rw [← h.1]; exact hl
 have hn1 : 16 ≤ n := by omega
 have hA : BoxAt (w.alloc (.cells (boxCells s).toArray 123)) w.heap.size s := heap_alloc_new w _
 have hbox : BoxAt ((w.alloc (.cells (boxCells s).toArray 123)).alloc (.cells #[.int .u32 0, .int .u32 0, .int .u32 0, .int .u32 0] 123)) w.heap.size s := hA.fr ((Fr.refl No _).alloc _) (fun h => h)
 have hres : Row4 ((w.alloc (.cells (boxCells s).toArray 123)).alloc (.cells #[.int .u32 0, .int .u32 0, .int .u32 0, .int .u32 0] 123)) (w.heap.size + 1) 123 (.int .u32 0) (.int .u32 0) (.int .u32 0) (.int .u32 0) := heap_alloc2_new w _ _
 have hfr := ((Fr.refl No w).alloc (.cells (boxCells s).toArray 123)).alloc (.cells #[.int .u32 0, .int .u32 0, .int .u32 0, .int .u32 0] 123)
 clear hA hn hl
 simp only [boxCells] at hbox hres hfr
 go_enter Tryz.func153, Tryz.ntmps153
 go_wp2
 go_loopw [8] (fun i wr => ∃ (k : Nat) (s' : ST), k ≤ 4 ∧ i = .int .i64 k ∧ BoxAt wr w.heap.size s' ∧ Hid (s' = stepTo s l k) ∧ Row4 wr (w.heap.size + 1) 123 (.int .u32 0) (.int .u32 0) (.int .u32 0) (.int .u32 0) ∧ Fr No w wr) (fun i _ => 4 - (intOf i).toNat)
 case atStart => exact ⟨0, s, by omega, rfl, hbox, rfl, hres, hfr⟩
 case round =>
  obtain ⟨k, s', hk, rfl, hB, hs, hres, hf⟩ := hrel
  clear hbox hfr
  rcases (show k = 0 ∨ k = 1 ∨ k = 2 ∨ k = 3 ∨ k = 4 by omega) with rfl | rfl | rfl | rfl | rfl
  · have hRow := box_row hB
    have cb0 := hRow.c0
    have cb1 := hRow.c1
    have cb2 := hRow.c2
    have cb3 := hRow.c3
    have fz0 := hRow.fz 0
    have fz1 := hRow.fz 1
    have fz2 := hRow.fz 2
    have fz3 := hRow.fz 3
    have hy := h.no hf
    go_wp2_with fail
    refine (Le32_yes _ _ _ l 0 _ hy (by omega) (by omega)).mono ?_
    rintro e w' ⟨rfl, rfl⟩
    go_wp2_with fail
    refine (Rot32_any _ _ _).mono ?_
    rintro e w' ⟨rfl, rfl⟩
    clear hy
    go_wp2_with fail
    go_roundw
    case rel =>
     rw [roundF_def, num4_zero]
     generalize hyy : roundF _ _ = y
     refine ⟨1, (y, s'.2.1, s'.2.2.1, s'.2.2.2), by omega, rfl, box_put0 hB _, ?_, hres.fr ((Fr.refl (fun x => x = w.heap.size) wr).setCell (p := ⟨w.heap.size, 0, none⟩) (.inl rfl) _) (by omega), hf.trans ((Fr.refl (fun x => x = w.heap.size) wr).setCell (p := ⟨w.heap.size, 0, none⟩) (.inl rfl) _) (fun x hx => .inr (by omega))⟩
     show _ = _
     rw [← hyy, hs.out]
     simp only [stepTo]
    case measure => simp [intOf]
  · have hRow := box_row hB
    have cb0 := hRow.c0
    have cb1 := hRow.c1
    have cb2 := hRow.c2
    have cb3 := hRow.c3
    have fz0 := hRow.fz 0
    have fz1 := hRow.fz 1
    have fz2 := hRow.fz 2
    have fz3 := hRow.fz 3
    have hy := h.no hf
    go_wp2_with fail
    refine (Le32_yes _ _ _ l 4 _ hy (by omega) (by omega)).mono ?_
    rintro e w' ⟨rfl, rfl⟩
    go_wp2_with fail
    refine (Rot32_any _ _ _).mono ?_
    rintro e w' ⟨rfl, rfl⟩
    clear hy
    go_wp2_with fail
    go_roundw
    case rel =>
     rw [roundF_def, num4_def]
     generalize hyy : roundF _ _ = y
     refine ⟨2, (s'.1, y, s'.2.2.1, s'.2.2.2), by omega, rfl, box_put1 hB _, ?_, hres.fr ((Fr.refl (fun x => x = w.heap.size) wr).setCell (p := ⟨w.heap.size, 1, none⟩) (.inl rfl) _) (by omega), hf.trans ((Fr.refl (fun x => x = w.heap.size) wr).setCell (p := ⟨w.heap.size, 1, none⟩) (.inl rfl) _) (fun x hx => .inr (by omega))⟩
     show _ = _
     rw [← hyy, hs.out]
     simp only [stepTo]
    case measure => simp [intOf]
  · have hRow := box_row hB
    have cb0 := hRow.c0
    have cb1 := hRow.c1
    have cb2 := hRow.c2
    have cb3 := hRow.c3
    have fz0 := hRow.fz 0
    have fz1 := hRow.fz 1
    have fz2 := hRow.fz 2
    have fz3 := hRow.fz 3
    have hy := h.no hf
    go_wp2_with fail
    refine (Le32_yes _ _ _ l 8 _ hy (by omega) (by omega)).mono ?_
    rintro e w' ⟨rfl, rfl⟩
    go_wp2_with fail
    refine (Rot32_any _ _ _).mono ?_
    rintro e w' ⟨rfl, rfl⟩
    clear hy
    go_wp2_with fail
    go_roundw
    case rel =>
     rw [roundF_def, num4_def]
     generalize hyy : roundF _ _ = y
     refine ⟨3, (s'.1, s'.2.1, y, s'.2.2.2), by omega, rfl, box_put2 hB _, ?_, hres.fr ((Fr.refl (fun x => x = w.heap.size) wr).setCell (p := ⟨w.heap.size, 2, none⟩) (.inl rfl) _) (by omega), hf.trans ((Fr.refl (fun x => x = w.heap.size) wr).setCell (p := ⟨w.heap.size, 2, none⟩) (.inl rfl) _) (fun x hx => .inr (by omega))⟩
     show _ = _
     rw [← hyy, hs.out]
     simp only [stepTo]
    case measure => simp [intOf]
  · have hRow := box_row hB
    have cb0 := hRow.c0
    have cb1 := hRow.c1
    have cb2 := hRow.c2
    have cb3 := hRow.c3
    have fz0 := hRow.fz 0
    have fz1 := hRow.fz 1
    have fz2 := hRow.fz 2
    have fz3 := hRow.fz 3
    have hy := h.no hf
    go_wp2_with fail
    refine (Le32_yes _ _ _ l 12 _ hy (by omega) (by omega)).mono ?_
    rintro e w' ⟨rfl, rfl⟩
    go_wp2_with fail
    refine (Rot32_any _ _ _).mono ?_
    rintro e w' ⟨rfl, rfl⟩
    clear hy
    go_wp2_with fail
    go_roundw
    case rel =>
     rw [roundF_def, num4_def]
     generalize hyy : roundF _ _ = y
     refine ⟨4, (s'.1, s'.2.1, s'.2.2.1, y), by omega, rfl, box_put3 hB _, ?_, hres.fr ((Fr.refl (fun x => x = w.heap.size) wr).setCell (p := ⟨w.heap.size, 3, none⟩) (.inl rfl) _) (by omega), hf.trans ((Fr.refl (fun x => x = w.heap.size) wr).setCell (p := ⟨w.heap.size, 3, none⟩) (.inl rfl) _) (fun x hx => .inr (by omega))⟩
     show _ = _
     rw [← hyy, hs.out]
     simp only [stepTo]
    case measure => simp [intOf]
  · have hRow := box_row hB
    have cb0 := hRow.c0
    have cb1 := hRow.c1
    have cb2 := hRow.c2
    have cb3 := hRow.c3
    have cr0 := hres.c0
    have cr1 := hres.c1
    have cr2 := hres.c2
    have cr3 := hres.c3
    have fr0 := hres.fz 0
    have fr1 := hres.fz 1
    have fr2 := hres.fz 2
    have fr3 := hres.fz 3
    go_wp2_with fail
    have hF3 := fr_put4 wr (w.heap.size + 1) (.int .u32 (W32 s'.1)) (.int .u32 (W32 s'.2.1)) (.int .u32 (W32 s'.2.2.1)) (.int .u32 (W32 s'.2.2.2))
    have hR3 := row_put4 hres (.int .u32 (W32 s'.1)) (.int .u32 (W32 s'.2.1)) (.int .u32 (W32 s'.2.2.1)) (.int .u32 (W32 s'.2.2.2))
    clear cr0 fr0 cr1 fr1 cr2 fr2 cr3 fr3
    generalize (((wr.setCell ⟨w.heap.size + 1, 0, none⟩ (.int .u32 (W32 s'.1))).setCell ⟨w.heap.size + 1, 1, none⟩ (.int .u32 (W32 s'.2.1))).setCell ⟨w.heap.size + 1, 2, none⟩ (.int .u32 (W32 s'.2.2.1))).setCell ⟨w.heap.size + 1, 3, none⟩ (.int .u32 (W32 s'.2.2.2)) = w3 at hF3 hR3 ⊢
    have cd0 := hR3.c0
    have cd1 := hR3.c1
    have cd2 := hR3.c2
    have cd3 := hR3.c3
    refine bodyPost_ret (v := .agg #[cS s' 0, cS s' 1, cS s' 2, cS s' 3]) (by simp [results, Tryz.results153, go_sem, cd0, cd1, cd2, cd3, lanesV, cS0, cS1, cS2, cS3]) rfl ?_
    exact ⟨by rw [hs.out]; rfl, hf.trans hF3 (fun x hx => .inr (by omega))⟩
abbrev q0 : QT := (153, #[])
theorem run_callFunc_enter {P : Program} {f : FuncId} {fn : Func} (hf : P.funcs[f]? = some fn) (hname : (fn.name == "runtime.NumGoroutine") = false) (hb : fn.body.isSome = true) (args : Array Value) (w : World) : Sem.run P (callFunc f args) w = .ok (.enter f args) w := by
 obtain ⟨c, hc⟩ := Option.isSome_iff_exists.1 hb
 have h1 : fn.name ≠ "runtime.NumGoroutine" := by simpa using hname
 simp [callFunc, hf, h1, hc, mark]
theorem steps_any : Hid (StG32.Steps (fun _ => True) stepG 16 q0) := Lib.hid ⟨fun args w => run_callFunc_enter Tryz.func153 (by kernel_rfl) (by kernel_rfl) args w, fun w s a n c l _ hb hl => step_any s a n c l w hb hl⟩
end Go.Proofs.YtidlpihoafnobaaGreatDoor.StX32
namespace Go.Proofs.YtidlpihoafnobaaGreatDoor.StX32
set_option maxRecDepth 100000
open Go.Proofs.YtidlpihoafnobaaGreatDoor.StG32
open Go.RowKit
theorem g4_def (h : BitVec 32) (l : Bytes) : Value.int .u32 (W32 (rotl32 (h + BitVec.setWidth 32 (le (List.take 4 l)) * 3266489917#32) 17 * 668265263#32)) = .int .u32 (W32 (g4 h l)) := rfl
theorem g1_def (h : BitVec 32) (b : BitVec 8) : Value.int .u32 (W32 (rotl32 (h + BitVec.setWidth 32 b * 374761393#32) 11 * 2654435761#32)) = .int .u32 (W32 (g1 h b)) := rfl
set_option maxHeartbeats 2000000 in
theorem end_short (sd : BitVec 32) (s : ST) (a : Option Addr) (n c : Nat) (l : Bytes) (lo : BitVec 64) (w : World) (hb : IsBytes w a n c l) (hlo : W64 lo < 16) : Calls Tryz.prog 154 #[.int .u32 (W32 sd), .agg #[cS s 0, cS s 1, cS s 2, cS s 3], .slice a n c, .int .u64 (W64 lo)] w (GivesNew (.int .u32 (W32 (endF sd s l lo))) w) := by
 have hf0 : Fr No w (w.alloc (.cells #[cS s 0, cS s 1, cS s 2, cS s 3] 123)) := (Fr.refl No w).alloc _
 have hR : BoxAt (w.alloc (.cells #[cS s 0, cS s 1, cS s 2, cS s 3] 123)) w.heap.size s := heap_alloc_new w _
 have hH : headF sd s lo = sd + 374761393#32 := by unfold headF; rw [if_neg (by omega)]
 unfold endF
 rw [hH]
 generalize hr : restF (sd + 374761393#32 + lo.setWidth 32) l = r
 have HR := Lib.hid hr
 clear hr hH
 go_enter Tryz.func154, Tryz.ntmps154
 go_wp2_with fail
 go_step3
 go_wp2_with fail
 generalize w.alloc (.cells #[cS s 0, cS s 1, cS s 2, cS s 3] 123) = w1 at hf0 hR ⊢
 have hf1 := hf0
 have hy := hb.no hf1
 go_step3
 go_wp2_with fail
 clear hb
 go_loop [2, 9] (fun v u => ∃ m a' c' l' h', v = .slice a' m c' ∧ u = .int .u32 (W32 h') ∧ IsBytes w1 a' m c' l' ∧ restF h' l' = r) (fun v _ => match v with | .slice _ m _ => m | _ => 0)
 case atStart => exact ⟨n, a, c, l, _, rfl, rfl, hy, HR.out⟩
 case round =>
  obtain ⟨m, a', c', l', h', rfl, rfl, hb, hr'⟩ := hrel
  clear hy
  have hlen := Lib.hid hb.1
  have hc : m ≤ c' := hb.2.1
  have hc2 : c' ≤ 9223372036854775807 := hb.2.2.1
  by_cases hlt : 4 ≤ m
  · have i2 : (4 : Int) ≤ (c' : Int) := by omega
    have i3 : (4 : Int) ≤ (m : Int) := by omega
    have hbig := Lib.hid (restF_big (h := h') (l := l') (by rw [hlen.out]; exact hlt))
    have hcut := hb.cut_to_end 4 (n' := m - 4) (c' := c' - 4) hlt rfl rfl
    go_wp2_with fail
    refine (Le32_yes _ _ _ l' 0 _ hb (by omega) (by omega)).mono ?_
    rintro e w' ⟨rfl, rfl⟩
    go_wp2_with fail
    refine (Rot32_any _ _ _).mono ?_
    rintro e w' ⟨rfl, rfl⟩
    go_wp2_with fail
    refine ⟨⟨m - 4, _, _, _, g4 h' (l'.take 4), rfl, ?_, hcut, by rw [← hr', hbig.out]⟩, by simp; omega⟩
    rw [g4_take, g4_def]
  · rcases Nat.eq_zero_or_pos m with h0 | h0
    · subst h0
      have hnil : l' = [] := List.eq_nil_of_length_eq_zero hlen.out
      have hh : h' = r := by rw [← hr', hnil, restF_nil]
      rw [hh]
      clear hh hr' hnil
      go_wp2_with fail
      refine (Le32_no _ _ _ 0 _ (by omega) (by omega) (by omega)).mono ?_
      rintro e w' ⟨rfl, rfl⟩
      go_wp2_with fail
      rw [Exit.noGoto_ret]
      go_ret
      exact ⟨by unfold avalF; rfl, hf1⟩
    · obtain ⟨k, hk⟩ : ∃ k, m = k + 1 := ⟨m - 1, by omega⟩
      obtain ⟨z, tl, hl', htl⟩ := cons_of (hlen.out.trans hk)
      obtain ⟨b, off, rfl, hcell⟩ := hb.known h0
      have hc0 := hcell 0 h0
      rw [hl'] at hc0
      simp only [Nat.add_zero, List.getD_cons_zero] at hc0
      have hone := Lib.hid (restF_one (h := h') (b := z) (r := tl) (by rw [← hl', hlen.out]; omega))
      have hcut := hb.cut_to_end 1 (n' := m - 1) (c' := c' - 1) (by omega) rfl rfl
      rw [hl'] at hcut hr'
      simp only [List.drop_succ_cons, List.drop_zero] at hcut
      have i2 : (1 : Int) ≤ (c' : Int) := by omega
      have i3 : (1 : Int) ≤ (m : Int) := by omega
      have i4 : (0 : Int) < (m : Int) := by omega
      clear hcell hl' htl hk
      go_wp2_with fail
      refine (Le32_no _ _ _ 0 _ (by omega) (by omega) (by omega)).mono ?_
      rintro e w' ⟨rfl, rfl⟩
      go_wp2_with fail
      refine (Rot32_any _ _ _).mono ?_
      rintro e w' ⟨rfl, rfl⟩
      go_wp2_with fail
      refine ⟨⟨m - 1, _, _, _, g1 h' z, rfl, ?_, hcut, by rw [← hr', hone.out]⟩, by simp; omega⟩
      rw [g1_def]
set_option maxHeartbeats 2000000 in
theorem end_long (sd : BitVec 32) (s : ST) (a : Option Addr) (n c : Nat) (l : Bytes) (lo : BitVec 64) (w : World) (hb : IsBytes w a n c l) (hlo : 16 ≤ W64 lo) : Calls Tryz.prog 154 #[.int .u32 (W32 sd), .agg #[cS s 0, cS s 1, cS s 2, cS s 3], .slice a n c, .int .u64 (W64 lo)] w (GivesNew (.int .u32 (W32 (endF sd s l lo))) w) := by
 have hf0 : Fr No w (w.alloc (.cells #[cS s 0, cS s 1, cS s 2, cS s 3] 123)) := (Fr.refl No w).alloc _
 have hR : BoxAt (w.alloc (.cells #[cS s 0, cS s 1, cS s 2, cS s 3] 123)) w.heap.size s := heap_alloc_new w _
 have hH : headF sd s lo = sumF s := by unfold headF; rw [if_pos hlo]
 unfold endF
 rw [hH]
 generalize hr : restF (sumF s + lo.setWidth 32) l = r
 have HR := Lib.hid hr
 clear hr hH
 go_enter Tryz.func154, Tryz.ntmps154
 go_wp2_with fail
 go_step3
 go_wp2_with fail
 generalize w.heap.size = pb at hR ⊢
 generalize w.alloc (.cells #[cS s 0, cS s 1, cS s 2, cS s 3] 123) = w0 at hf0 hR ⊢
 refine rsq (by kernel_rfl) [(0, 1), (1, 1), (3, 1), (4, 1), (7, 1), (8, 1), (11, 1), (12, 1), (2, 0), (5, 0), (6, 1), (9, 0), (10, 1), (13, 0), (14, 1), (15, 1)] (by kernel_rfl) ?_
 have hs0 : Fr No w0 w0.drew := (Fr.refl No w0).drew
 iterate 8 refine tq _ rfl rfl (by intro w9 h9; have q0 : w9.cell? ⟨pb, 0, none⟩ = some (cS s 0) := (hR.fr h9 (fun h => h)).cell 0 rfl; have q1 : w9.cell? ⟨pb, 1, none⟩ = some (cS s 1) := (hR.fr h9 (fun h => h)).cell 1 rfl; have q2 : w9.cell? ⟨pb, 2, none⟩ = some (cS s 2) := (hR.fr h9 (fun h => h)).cell 2 rfl; have q3 : w9.cell? ⟨pb, 3, none⟩ = some (cS s 3) := (hR.fr h9 (fun h => h)).cell 3 rfl; clear h9; simp only [cS0, cS1, cS2, cS3] at q0 q1 q2 q3; go_simp; try with_reducible rfl) ?_; simp only [es1, es2, es3]
 refine wpSeq_next rfl rfl (fun K hK => ?_)
 go_wp2_with fail
 refine (Rot32_any _ 1 _).mono ?_
 rintro e w' ⟨rfl, rfl⟩
 refine hK.out _ _ (fun _ => hs0) ?_
 clear hK K
 refine wpSeq_next rfl rfl (fun K hK => ?_)
 go_wp2_with fail
 refine (Rot32_any _ 7 _).mono ?_
 rintro e w' ⟨rfl, rfl⟩
 refine hK.out _ _ (fun _ => hs0) ?_
 clear hK K
 refine tp _ rfl rfl ?_; simp only [es1, es2, es3]
 refine wpSeq_next rfl rfl (fun K hK => ?_)
 go_wp2_with fail
 refine (Rot32_any _ 12 _).mono ?_
 rintro e w' ⟨rfl, rfl⟩
 refine hK.out _ _ (fun _ => hs0) ?_
 clear hK K
 refine tp _ rfl rfl ?_; simp only [es1, es2, es3]
 refine wpSeq_next rfl rfl (fun K hK => ?_)
 go_wp2_with fail
 refine (Rot32_any _ 18 _).mono ?_
 rintro e w' ⟨rfl, rfl⟩
 refine hK.out _ _ (fun _ => hs0) ?_
 clear hK K
 iterate 2 refine tp _ rfl rfl ?_; simp only [es1, es2, es3]
 refine wpSeq_done ?_
 go_wp2_with fail
 have hf1 := hf0.no hs0
 have hy := hb.no hf1
 generalize w0.drew = w1 at hf1 hy ⊢
 clear hs0
 go_step3
 go_wp2_with fail
 clear hb
 go_loop [2, 9] (fun v u => ∃ m a' c' l' h', v = .slice a' m c' ∧ u = .int .u32 (W32 h') ∧ IsBytes w1 a' m c' l' ∧ restF h' l' = r) (fun v _ => match v with | .slice _ m _ => m | _ => 0)
 case atStart => exact ⟨n, a, c, l, _, rfl, rfl, hy, HR.out⟩
 case round =>
  obtain ⟨m, a', c', l', h', rfl, rfl, hb, hr'⟩ := hrel
  clear hy
  have hlen := Lib.hid hb.1
  have hc : m ≤ c' := hb.2.1
  have hc2 : c' ≤ 9223372036854775807 := hb.2.2.1
  by_cases hlt : 4 ≤ m
  · have i2 : (4 : Int) ≤ (c' : Int) := by omega
    have i3 : (4 : Int) ≤ (m : Int) := by omega
    have hbig := Lib.hid (restF_big (h := h') (l := l') (by rw [hlen.out]; exact hlt))
    have hcut := hb.cut_to_end 4 (n' := m - 4) (c' := c' - 4) hlt rfl rfl
    go_wp2_with fail
    refine (Le32_yes _ _ _ l' 0 _ hb (by omega) (by omega)).mono ?_
    rintro e w' ⟨rfl, rfl⟩
    go_wp2_with fail
    refine (Rot32_any _ _ _).mono ?_
    rintro e w' ⟨rfl, rfl⟩
    go_wp2_with fail
    refine ⟨⟨m - 4, _, _, _, g4 h' (l'.take 4), rfl, ?_, hcut, by rw [← hr', hbig.out]⟩, by simp; omega⟩
    rw [g4_take, g4_def]
  · rcases Nat.eq_zero_or_pos m with h0 | h0
    · subst h0
      have hnil : l' = [] := List.eq_nil_of_length_eq_zero hlen.out
      have hh : h' = r := by rw [← hr', hnil, restF_nil]
      rw [hh]
      clear hh hr' hnil
      go_wp2_with fail
      refine (Le32_no _ _ _ 0 _ (by omega) (by omega) (by omega)).mono ?_
      rintro e w' ⟨rfl, rfl⟩
      go_wp2_with fail
      rw [Exit.noGoto_ret]
      go_ret
      exact ⟨by unfold avalF; rfl, hf1⟩
    · obtain ⟨k, hk⟩ : ∃ k, m = k + 1 := ⟨m - 1, by omega⟩
      obtain ⟨z, tl, hl', htl⟩ := cons_of (hlen.out.trans hk)
      obtain ⟨b, off, rfl, hcell⟩ := hb.known h0
      have hc0 := hcell 0 h0
      rw [hl'] at hc0
      simp only [Nat.add_zero, List.getD_cons_zero] at hc0
      have hone := Lib.hid (restF_one (h := h') (b := z) (r := tl) (by rw [← hl', hlen.out]; omega))
      have hcut := hb.cut_to_end 1 (n' := m - 1) (c' := c' - 1) (by omega) rfl rfl
      rw [hl'] at hcut hr'
      simp only [List.drop_succ_cons, List.drop_zero] at hcut
      have i2 : (1 : Int) ≤ (c' : Int) := by omega
      have i3 : (1 : Int) ≤ (m : Int) := by omega
      have i4 : (0 : Int) < (m : Int) := by omega
      clear hcell hl' htl hk
      go_wp2_with fail
      refine (Le32_no _ _ _ 0 _ (by omega) (by omega) (by omega)).mono ?_
      rintro e w' ⟨rfl, rfl⟩
      go_wp2_with fail
      refine (Rot32_any _ _ _).mono ?_
      rintro e w' ⟨rfl, rfl⟩
      go_wp2_with fail
      refine ⟨⟨m - 1, _, _, _, g1 h' z, rfl, ?_, hcut, by rw [← hr', hone.out]⟩, by simp; omega⟩
      rw [g1_def]
theorem end_any (sd : BitVec 32) (s : ST) (a : Option Addr) (n c : Nat) (l : Bytes) (lo : BitVec 64) (w : World) (hb : IsBytes w a n c l) : Calls Tryz.prog 154 #[.int .u32 (W32 sd), .agg #[cS s 0, cS s 1, cS s 2, cS s 3], .slice a n c, .int .u64 (W64 lo)] w (GivesNew (.int .u32 (W32 (endF sd s l lo))) w) := by
 by_cases h : 16 ≤ W64 lo
 · exact end_long sd s a n c l lo w hb h
 · exact end_short sd s a n c l lo w hb (by omega)
end Go.Proofs.YtidlpihoafnobaaGreatDoor.StX32
