/- xx64's first, step. -/
import Derived.Test.YtdemhnkkohnflaeLiveX64
import Derived.Test.YtdemhnkkohnflaeXx64Plain
import Derived.Test.YtdemhnkkohnflaeLoad
import Derived.Test.YtdemhnkkohnflaeSeq
import Derived.Test.YtdemhnkkohnflaePut
import Derived.Test.YtdemhnkkohnflaeRow4
import Derived.Test.YtdemhnkkohnflaeWords2
namespace Go.Proofs.Ytdemhnkkohnflae.StX64
set_option linter.unusedVariables false
set_option linter.unusedSimpArgs false
open Go.RowKit

theorem cS0 (s : ST) : cS s 0 = .int .u64 (W64 s.1) := rfl
theorem cS1 (s : ST) : cS s 1 = .int .u64 (W64 s.2.1) := rfl
theorem cS2 (s : ST) : cS s 2 = .int .u64 (W64 s.2.2.1) := rfl
theorem cS3 (s : ST) : cS s 3 = .int .u64 (W64 s.2.2.2) := rfl
theorem box_row {w : World} {b : Nat} {s : ST} (h : BoxAt w b s) : Row4 w b 35 (.int .u64 (W64 s.1)) (.int .u64 (W64 s.2.1)) (.int .u64 (W64 s.2.2.1)) (.int .u64 (W64 s.2.2.2)) := h
theorem row_box {w : World} {b : Nat} {s : ST} (h : Row4 w b 35 (.int .u64 (W64 s.1)) (.int .u64 (W64 s.2.1)) (.int .u64 (W64 s.2.2.1)) (.int .u64 (W64 s.2.2.2))) : BoxAt w b s := h
theorem box_put0 {w : World} {b : Nat} {s : ST} (h : BoxAt w b s) (y : BitVec 64) : BoxAt (w.setCell ⟨b, 0, none⟩ (.int .u64 (W64 y))) b (y, s.2.1, s.2.2.1, s.2.2.2) := row_box ((box_row h).put0 _)
theorem box_put1 {w : World} {b : Nat} {s : ST} (h : BoxAt w b s) (y : BitVec 64) : BoxAt (w.setCell ⟨b, 1, none⟩ (.int .u64 (W64 y))) b (s.1, y, s.2.2.1, s.2.2.2) := row_box ((box_row h).put1 _)
theorem box_put2 {w : World} {b : Nat} {s : ST} (h : BoxAt w b s) (y : BitVec 64) : BoxAt (w.setCell ⟨b, 2, none⟩ (.int .u64 (W64 y))) b (s.1, s.2.1, y, s.2.2.2) := row_box ((box_row h).put2 _)
theorem box_put3 {w : World} {b : Nat} {s : ST} (h : BoxAt w b s) (y : BitVec 64) : BoxAt (w.setCell ⟨b, 3, none⟩ (.int .u64 (W64 y))) b (s.1, s.2.1, s.2.2.1, y) := row_box ((box_row h).put3 _)
/-- The lanes of a state, as a value. -/
def lanesV (s : ST) : Value := .agg #[.int .u64 (W64 s.1), .int .u64 (W64 s.2.1), .int .u64 (W64 s.2.2.1), .int .u64 (W64 s.2.2.2)]

theorem first_any (sd : BitVec 64) (w : World) : Calls Try.prog 24 #[.int .u64 (W64 sd)] w (GivesNew (.agg #[cS (firstF sd) 0, cS (firstF sd) 1, cS (firstF sd) 2, cS (firstF sd) 3]) w) := by
  have hR2 := row4_new w 35 (.int .u64 (W64 (sd + 11400714785074694791#64 + 14029467366897019727#64))) (.int .u64 (W64 (sd + 14029467366897019727#64))) (.int .u64 (W64 sd)) (.int .u64 (W64 (sd - 11400714785074694791#64)))
  have hF2 := (Fr.refl No w).alloc (.cells #[.int .u64 (W64 (sd + 11400714785074694791#64 + 14029467366897019727#64)), .int .u64 (W64 (sd + 14029467366897019727#64)), .int .u64 (W64 sd), .int .u64 (W64 (sd - 11400714785074694791#64))] 35)
  go_enter Try.func24, Try.ntmps24
  go_wp2
  generalize w.alloc (.cells #[.int .u64 (W64 (sd + 11400714785074694791#64 + 14029467366897019727#64)), .int .u64 (W64 (sd + 14029467366897019727#64)), .int .u64 (W64 sd), .int .u64 (W64 (sd - 11400714785074694791#64))] 35) = w3 at hR2 hF2 ⊢
  have cd0 := hR2.c0
  have cd1 := hR2.c1
  have cd2 := hR2.c2
  have cd3 := hR2.c3
  exact bodyPost_ret (v := .agg #[.int .u64 (W64 (sd + 11400714785074694791#64 + 14029467366897019727#64)), .int .u64 (W64 (sd + 14029467366897019727#64)), .int .u64 (W64 sd), .int .u64 (W64 (sd - 11400714785074694791#64))]) (by simp [results, Try.results24, go_sem, cd0, cd1, cd2, cd3]) rfl ⟨rfl, hF2⟩
theorem round_any (v k : BitVec 64) (w : World) : Calls Try.prog 44 #[.int .u64 (W64 v), .int .u64 (W64 k)] w (Gives (.int .u64 (W64 (roundF v k))) w) := by
  go_enter Try.func44, Try.ntmps44
  go_wp2_with fail
  refine (Rot64_any _ _ _).mono ?_
  rintro e w' ⟨rfl, rfl⟩
  go_wp2_with fail
  go_ret
  exact ⟨by rw [roundF_def]; rfl, rfl⟩

set_option maxHeartbeats 2000000 in
theorem step_any (s : ST) (a : Option Addr) (n c : Nat) (l : Bytes) (w : World) (h : IsBytes w a n c l) (hl : l.length = 32) :
    Calls Try.prog 25 #[.agg #[cS s 0, cS s 1, cS s 2, cS s 3], .slice a n c] w (GivesS (stepG s l) w) := by
  have hn : n = 32 := by rw [← h.1]; exact hl
  have hn1 : 32 ≤ n := by omega
  have hA : BoxAt (w.alloc (.cells (boxCells s).toArray 35)) w.heap.size s := heap_alloc_new w _
  have hbox : BoxAt ((w.alloc (.cells (boxCells s).toArray 35)).alloc (.cells #[.int .u64 0, .int .u64 0, .int .u64 0, .int .u64 0] 35)) w.heap.size s := hA.fr ((Fr.refl No _).alloc _) (fun h => h)
  have hres : Row4 ((w.alloc (.cells (boxCells s).toArray 35)).alloc (.cells #[.int .u64 0, .int .u64 0, .int .u64 0, .int .u64 0] 35)) (w.heap.size + 1) 35 (.int .u64 0) (.int .u64 0) (.int .u64 0) (.int .u64 0) := heap_alloc2_new w _ _
  have hfr := ((Fr.refl No w).alloc (.cells (boxCells s).toArray 35)).alloc (.cells #[.int .u64 0, .int .u64 0, .int .u64 0, .int .u64 0] 35)
  clear hA hn hl
  simp only [boxCells] at hbox hres hfr
  go_enter Try.func25, Try.ntmps25
  go_wp2
  go_loopw [8] (fun i wr => ∃ (k : Nat) (s' : ST), k ≤ 4 ∧ i = .int .i64 k ∧ BoxAt wr w.heap.size s' ∧ Hid (s' = stepTo s l k) ∧ Row4 wr (w.heap.size + 1) 35 (.int .u64 0) (.int .u64 0) (.int .u64 0) (.int .u64 0) ∧ Fr No w wr) (fun i _ => 4 - (intOf i).toNat)
  case atStart => exact ⟨0, s, by omega, rfl, hbox, rfl, hres, hfr⟩
  case round =>
    obtain ⟨k, s', hk, rfl, hB, hs, hres, hf⟩ := hrel
    clear hbox hfr
    rcases (show k = 0 ∨ k = 1 ∨ k = 2 ∨ k = 3 ∨ k = 4 by omega) with rfl | rfl | rfl | rfl | rfl
    · have hRow := box_row hB
      have cb0 := hRow.c0
      have cb1 := hRow.c1
      have cb2 := hRow.c2
      have cb3 := hRow.c3
      have fz0 := hRow.fz 0
      have fz1 := hRow.fz 1
      have fz2 := hRow.fz 2
      have fz3 := hRow.fz 3
      have hy := h.no hf
      go_wp2_with fail
      refine (Le64_yes _ _ _ l 0 _ hy (by omega) (by omega)).mono ?_
      rintro e w' ⟨rfl, rfl⟩
      go_wp2_with fail
      refine (round_any _ _ _).mono ?_
      rintro e w' ⟨rfl, rfl⟩
      clear hy
      go_wp2_with fail
      go_roundw
      case rel =>
        generalize hyy : roundF _ _ = y
        refine ⟨1, (y, s'.2.1, s'.2.2.1, s'.2.2.2), by omega, rfl, box_put0 hB _, ?_, hres.fr ((Fr.refl (fun x => x = w.heap.size) wr).setCell (p := ⟨w.heap.size, 0, none⟩) (.inl rfl) _) (by omega), hf.trans ((Fr.refl (fun x => x = w.heap.size) wr).setCell (p := ⟨w.heap.size, 0, none⟩) (.inl rfl) _) (fun x hx => .inr (by omega))⟩
        show _ = _
        rw [← hyy, hs.out]
        simp only [stepTo, num8, List.drop_zero]
      case measure => simp [intOf]
    · have hRow := box_row hB
      have cb0 := hRow.c0
      have cb1 := hRow.c1
      have cb2 := hRow.c2
      have cb3 := hRow.c3
      have fz0 := hRow.fz 0
      have fz1 := hRow.fz 1
      have fz2 := hRow.fz 2
      have fz3 := hRow.fz 3
      have hy := h.no hf
      go_wp2_with fail
      refine (Le64_yes _ _ _ l 8 _ hy (by omega) (by omega)).mono ?_
      rintro e w' ⟨rfl, rfl⟩
      go_wp2_with fail
      refine (round_any _ _ _).mono ?_
      rintro e w' ⟨rfl, rfl⟩
      clear hy
      go_wp2_with fail
      go_roundw
      case rel =>
        generalize hyy : roundF _ _ = y
        refine ⟨2, (s'.1, y, s'.2.2.1, s'.2.2.2), by omega, rfl, box_put1 hB _, ?_, hres.fr ((Fr.refl (fun x => x = w.heap.size) wr).setCell (p := ⟨w.heap.size, 1, none⟩) (.inl rfl) _) (by omega), hf.trans ((Fr.refl (fun x => x = w.heap.size) wr).setCell (p := ⟨w.heap.size, 1, none⟩) (.inl rfl) _) (fun x hx => .inr (by omega))⟩
        show _ = _
        rw [← hyy, hs.out]
        simp only [stepTo, num8, List.drop_zero]
      case measure => simp [intOf]
    · have hRow := box_row hB
      have cb0 := hRow.c0
      have cb1 := hRow.c1
      have cb2 := hRow.c2
      have cb3 := hRow.c3
      have fz0 := hRow.fz 0
      have fz1 := hRow.fz 1
      have fz2 := hRow.fz 2
      have fz3 := hRow.fz 3
      have hy := h.no hf
      go_wp2_with fail
      refine (Le64_yes _ _ _ l 16 _ hy (by omega) (by omega)).mono ?_
      rintro e w' ⟨rfl, rfl⟩
      go_wp2_with fail
      refine (round_any _ _ _).mono ?_
      rintro e w' ⟨rfl, rfl⟩
      clear hy
      go_wp2_with fail
      go_roundw
      case rel =>
        generalize hyy : roundF _ _ = y
        refine ⟨3, (s'.1, s'.2.1, y, s'.2.2.2), by omega, rfl, box_put2 hB _, ?_, hres.fr ((Fr.refl (fun x => x = w.heap.size) wr).setCell (p := ⟨w.heap.size, 2, none⟩) (.inl rfl) _) (by omega), hf.trans ((Fr.refl (fun x => x = w.heap.size) wr).setCell (p := ⟨w.heap.size, 2, none⟩) (.inl rfl) _) (fun x hx => .inr (by omega))⟩
        show _ = _
        rw [← hyy, hs.out]
        simp only [stepTo, num8, List.drop_zero]
      case measure => simp [intOf]
    · have hRow := box_row hB
      have cb0 := hRow.c0
      have cb1 := hRow.c1
      have cb2 := hRow.c2
      have cb3 := hRow.c3
      have fz0 := hRow.fz 0
      have fz1 := hRow.fz 1
      have fz2 := hRow.fz 2
      have fz3 := hRow.fz 3
      have hy := h.no hf
      go_wp2_with fail
      refine (Le64_yes _ _ _ l 24 _ hy (by omega) (by omega)).mono ?_
      rintro e w' ⟨rfl, rfl⟩
      go_wp2_with fail
      refine (round_any _ _ _).mono ?_
      rintro e w' ⟨rfl, rfl⟩
      clear hy
      go_wp2_with fail
      go_roundw
      case rel =>
        generalize hyy : roundF _ _ = y
        refine ⟨4, (s'.1, s'.2.1, s'.2.2.1, y), by omega, rfl, box_put3 hB _, ?_, hres.fr ((Fr.refl (fun x => x = w.heap.size) wr).setCell (p := ⟨w.heap.size, 3, none⟩) (.inl rfl) _) (by omega), hf.trans ((Fr.refl (fun x => x = w.heap.size) wr).setCell (p := ⟨w.heap.size, 3, none⟩) (.inl rfl) _) (fun x hx => .inr (by omega))⟩
        show _ = _
        rw [← hyy, hs.out]
        simp only [stepTo, num8, List.drop_zero]
      case measure => simp [intOf]
    · have hRow := box_row hB
      have cb0 := hRow.c0
      have cb1 := hRow.c1
      have cb2 := hRow.c2
      have cb3 := hRow.c3
      have cr0 := hres.c0
      have cr1 := hres.c1
      have cr2 := hres.c2
      have cr3 := hres.c3
      have fr0 := hres.fz 0
      have fr1 := hres.fz 1
      have fr2 := hres.fz 2
      have fr3 := hres.fz 3
      go_wp2_with fail
      have hF3 := fr_put4 wr (w.heap.size + 1) (.int .u64 (W64 s'.1)) (.int .u64 (W64 s'.2.1)) (.int .u64 (W64 s'.2.2.1)) (.int .u64 (W64 s'.2.2.2))
      have hR3 := row_put4 hres (.int .u64 (W64 s'.1)) (.int .u64 (W64 s'.2.1)) (.int .u64 (W64 s'.2.2.1)) (.int .u64 (W64 s'.2.2.2))
      clear cr0 fr0 cr1 fr1 cr2 fr2 cr3 fr3
      generalize (((wr.setCell ⟨w.heap.size + 1, 0, none⟩ (.int .u64 (W64 s'.1))).setCell ⟨w.heap.size + 1, 1, none⟩ (.int .u64 (W64 s'.2.1))).setCell ⟨w.heap.size + 1, 2, none⟩ (.int .u64 (W64 s'.2.2.1))).setCell ⟨w.heap.size + 1, 3, none⟩ (.int .u64 (W64 s'.2.2.2)) = w3 at hF3 hR3 ⊢
      have cd0 := hR3.c0
      have cd1 := hR3.c1
      have cd2 := hR3.c2
      have cd3 := hR3.c3
      refine bodyPost_ret (v := .agg #[cS s' 0, cS s' 1, cS s' 2, cS s' 3]) (by simp [results, Try.results25, go_sem, cd0, cd1, cd2, cd3, lanesV, cS0, cS1, cS2, cS3]) rfl ?_
      exact ⟨by rw [hs.out]; rfl, hf.trans hF3 (fun x hx => .inr (by omega))⟩
theorem steps_any : Hid (Steps (fun _ => True) stepG 32 0) := Lib.hid (fun w s a n c l _ hb hl => step_any s a n c l w hb hl)
end Go.Proofs.Ytdemhnkkohnflae.StX64
