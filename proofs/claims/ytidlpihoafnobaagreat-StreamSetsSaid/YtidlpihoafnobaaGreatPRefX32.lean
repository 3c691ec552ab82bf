/- CodeX32 EndX32 RefX32 -/
import Derived.Test.YtidlpihoafnobaaGreatPAllM32
set_option linter.unusedVariables false
set_option linter.unusedSimpArgs false
namespace Go.Proofs.YtidlpihoafnobaaGreat.StX32
set_option maxRecDepth 100000
open Go.Proofs.YtidlpihoafnobaaGreat.StG32
open Go.RowKit
theorem cS0 (s : ST) : cS s 0 = .int .u32 (W32 s.1) := rfl
theorem cS1 (s : ST) : cS s 1 = .int .u32 (W32 s.2.1) := rfl
theorem cS2 (s : ST) : cS s 2 = .int .u32 (W32 s.2.2.1) := rfl
theorem cS3 (s : ST) : cS s 3 = .int .u32 (W32 s.2.2.2) := rfl
theorem box_row {w : World} {b : Nat} {s : ST} (h : BoxAt w b s) : Row4 w b 122 (.int .u32 (W32 s.1)) (.int .u32 (W32 s.2.1)) (.int .u32 (W32 s.2.2.1)) (.int .u32 (W32 s.2.2.2)) := h
theorem row_box {w : World} {b : Nat} {s : ST} (h : Row4 w b 122 (.int .u32 (W32 s.1)) (.int .u32 (W32 s.2.1)) (.int .u32 (W32 s.2.2.1)) (.int .u32 (W32 s.2.2.2))) : BoxAt w b s := h
theorem box_put0 {w : World} {b : Nat} {s : ST} (h : BoxAt w b s) (y : BitVec 32) : BoxAt (w.setCell ⟨b, 0, none⟩ (.int .u32 (W32 y))) b (y, s.2.1, s.2.2.1, s.2.2.2) := row_box ((box_row h).put0 _)
theorem box_put1 {w : World} {b : Nat} {s : ST} (h : BoxAt w b s) (y : BitVec 32) : BoxAt (w.setCell ⟨b, 1, none⟩ (.int .u32 (W32 y))) b (s.1, y, s.2.2.1, s.2.2.2) := row_box ((box_row h).put1 _)
theorem box_put2 {w : World} {b : Nat} {s : ST} (h : BoxAt w b s) (y : BitVec 32) : BoxAt (w.setCell ⟨b, 2, none⟩ (.int .u32 (W32 y))) b (s.1, s.2.1, y, s.2.2.2) := row_box ((box_row h).put2 _)
theorem box_put3 {w : World} {b : Nat} {s : ST} (h : BoxAt w b s) (y : BitVec 32) : BoxAt (w.setCell ⟨b, 3, none⟩ (.int .u32 (W32 y))) b (s.1, s.2.1, s.2.2.1, y) := row_box ((box_row h).put3 _)
def lanesV (s : ST) : Value := .agg #[.int .u64 (W64 (s.1.setWidth 64)), .int .u64 (W64 (s.2.1.setWidth 64)), .int .u64 (W64 (s.2.2.1.setWidth 64)), .int .u64 (W64 (s.2.2.2.setWidth 64))]
theorem first_any (sd : BitVec 32) (w : World) : Calls Tryz.prog 144 #[.int .u32 (W32 sd)] w (GivesNew (.agg #[cS (firstF sd) 0, cS (firstF sd) 1, cS (firstF sd) 2, cS (firstF sd) 3]) w) := by
 have hR2 := row4_new w 122 (.int .u32 (W32 (sd + 606290984#32))) (.int .u32 (W32 (sd + 2246822519#32))) (.int .u32 (W32 sd)) (.int .u32 (W32 (sd - 2654435761#32)))
 have hF2 := (Fr.refl No w).alloc (.cells #[.int .u32 (W32 (sd + 606290984#32)), .int .u32 (W32 (sd + 2246822519#32)), .int .u32 (W32 sd), .int .u32 (W32 (sd - 2654435761#32))] 122)
 go_enter Tryz.func144, Tryz.ntmps144
 go_wp2
 generalize w.alloc (.cells #[.int .u32 (W32 (sd + 606290984#32)), .int .u32 (W32 (sd + 2246822519#32)), .int .u32 (W32 sd), .int .u32 (W32 (sd - 2654435761#32))] 122) = w3 at hR2 hF2 ⊢
 have cd0 := hR2.c0
 have cd1 := hR2.c1
 have cd2 := hR2.c2
 have cd3 := hR2.c3
 exact bodyPost_ret (v := .agg #[.int .u32 (W32 (sd + 606290984#32)), .int .u32 (W32 (sd + 2246822519#32)), .int .u32 (W32 sd), .int .u32 (W32 (sd - 2654435761#32))]) (by simp [results, Tryz.results144, go_sem, cd0, cd1, cd2, cd3]) rfl ⟨rfl, hF2⟩
set_option maxHeartbeats 2000000 in
theorem step_any (s : ST) (a : Option Addr) (n c : Nat) (l : Bytes) (w : World) (h : IsBytes w a n c l) (hl : l.length = 16) :
 Calls Tryz.prog 145 #[.agg #[cS s 0, cS s 1, cS s 2, cS s 3], .slice a n c] w (GivesS (stepG s l) w) := by
 have hn : n = 16 := by rw [← h.1]; exact hl
 have hn1 : 16 ≤ n := by omega
 have hA : BoxAt (w.alloc (.cells (boxCells s).toArray 122)) w.heap.size s := heap_alloc_new w _
 have hbox : BoxAt ((w.alloc (.cells (boxCells s).toArray 122)).alloc (.cells #[.int .u32 0, .int .u32 0, .int .u32 0, .int .u32 0] 122)) w.heap.size s := hA.fr ((Fr.refl No _).alloc _) (fun h => h)
 have hres : Row4 ((w.alloc (.cells (boxCells s).toArray 122)).alloc (.cells #[.int .u32 0, .int .u32 0, .int .u32 0, .int .u32 0] 122)) (w.heap.size + 1) 122 (.int .u32 0) (.int .u32 0) (.int .u32 0) (.int .u32 0) := heap_alloc2_new w _ _
 have hfr := ((Fr.refl No w).alloc (.cells (boxCells s).toArray 122)).alloc (.cells #[.int .u32 0, .int .u32 0, .int .u32 0, .int .u32 0] 122)
 clear hA hn hl
 simp only [boxCells] at hbox hres hfr
 go_enter Tryz.func145, Tryz.ntmps145
 go_wp2
 go_loopw [8] (fun i wr => ∃ (k : Nat) (s' : ST), k ≤ 4 ∧ i = .int .i64 k ∧ BoxAt wr w.heap.size s' ∧ Hid (s' = stepTo s l k) ∧ Row4 wr (w.heap.size + 1) 122 (.int .u32 0) (.int .u32 0) (.int .u32 0) (.int .u32 0) ∧ Fr No w wr) (fun i _ => 4 - (intOf i).toNat)
 case atStart => exact ⟨0, s, by omega, rfl, hbox, rfl, hres, hfr⟩
 case round =>
  obtain ⟨k, s', hk, rfl, hB, hs, hres, hf⟩ := hrel
  clear hbox hfr
  rcases (show k = 0 ∨ k = 1 ∨ k = 2 ∨ k = 3 ∨ k = 4 by omega) with rfl | rfl | rfl | rfl | rfl
  · have hRow := box_row hB
    have cb0 := hRow.c0
    have cb1 := hRow.c1
    have cb2 := hRow.c2
    have cb3 := hRow.c3
    have fz0 := hRow.fz 0
    have fz1 := hRow.fz 1
    have fz2 := hRow.fz 2
    have fz3 := hRow.fz 3
    have hy := h.no hf
    go_wp2_with fail
    refine (Le32_yes _ _ _ l 0 _ hy (by omega) (by omega)).mono ?_
    rintro e w' ⟨rfl, rfl⟩
    go_wp2_with fail
    refine (Rot32_any _ _ _).mono ?_
    rintro e w' ⟨rfl, rfl⟩
    clear hy
    go_wp2_with fail
    go_roundw
    case rel =>
     rw [roundF_def, num4_zero]
     generalize hyy : roundF _ _ = y
     refine ⟨1, (y, s'.2.1, s'.2.2.1, s'.2.2.2), by omega, rfl, box_put0 hB _, ?_, hres.fr ((Fr.refl (fun x => x = w.heap.size) wr).setCell (p := ⟨w.heap.size, 0, none⟩) (.inl rfl) _) (by omega), hf.trans ((Fr.refl (fun x => x = w.heap.size) wr).setCell (p := ⟨w.heap.size, 0, none⟩) (.inl rfl) _) (fun x hx => .inr (by omega))⟩
     show _ = _
     rw [← hyy, hs.out]
     simp only [stepTo]
    case measure => simp [intOf]
  · have hRow := box_row hB
    have cb0 := hRow.c0
    have cb1 := hRow.c1
    have cb2 := hRow.c2
    have cb3 := hRow.c3
    have fz0 := hRow.fz 0
    have fz1 := hRow.fz 1
    have fz2 := hRow.fz 2
    have fz3 := hRow.fz 3
    have hy := h.no hf
    go_wp2_with fail
    refine (Le32_yes _ _ _ l 4 _ hy (by omega) (by omega)).mono ?_
    rintro e w' ⟨rfl, rfl⟩
    go_wp2_with fail
    refine (Rot32_any _ _ _).mono ?_
    rintro e w' ⟨rfl, rfl⟩
    clear hy
    go_wp2_with fail
    go_roundw
    case rel =>
     rw [roundF_def, num4_def]
     generalize hyy : roundF _ _ = y
     refine ⟨2, (s'.1, y, s'.2.2.1, s'.2.2.2), by omega, rfl, box_put1 hB _, ?_, hres.fr ((Fr.refl (fun x => x = w.heap.size) wr).setCell (p := ⟨w.heap.size, 1, none⟩) (.inl rfl) _) (by omega), hf.trans ((Fr.refl (fun x => x = w.heap.size) wr).setCell (p := ⟨w.heap.size, 1, none⟩) (.inl rfl) _) (fun x hx => .inr (by omega))⟩
     show _ = _
     rw [← hyy, hs.out]
     simp only [stepTo]
    case measure => simp [intOf]
  · have hRow := box_row hB
    have cb0 := hRow.c0
    have cb1 := hRow.c1
    have cb2 := hRow.c2
    have cb3 := hRow.c3
    have fz0 := hRow.fz 0
    have fz1 := hRow.fz 1
    have fz2 := hRow.fz 2
    have fz3 := hRow.fz 3
    have hy := h.no hf
    go_wp2_with fail
    refine (Le32_yes _ _ _ l 8 _ hy (by omega) (by omega)).mono ?_
    rintro e w' ⟨rfl, rfl⟩
    go_wp2_with fail
    refine (Rot32_any _ _ _).mono ?_
    rintro e w' ⟨rfl, rfl⟩
    clear hy
    go_wp2_with fail
    go_roundw
    case rel =>
     rw [roundF_def, num4_def]
     generalize hyy : roundF _ _ = y
     refine ⟨3, (s'.1, s'.2.1, y, s'.2.2.2), by omega, rfl, box_put2 hB _, ?_, hres.fr ((Fr.refl (fun x => x = w.heap.size) wr).setCell (p := ⟨w.heap.size, 2, none⟩) (.inl rfl) _) (by omega), hf.trans ((Fr.refl (fun x => x = w.heap.size) wr).setCell (p := ⟨w.heap.size, 2, none⟩) (.inl rfl) _) (fun x hx => .inr (by omega))⟩
     show _ = _
     rw [← hyy, hs.out]
     simp only [stepTo]
    case measure => simp [intOf]
  · have hRow := box_row hB
    have cb0 := hRow.c0
    have cb1 := hRow.c1
    have cb2 := hRow.c2
    have cb3 := hRow.c3
    have fz0 := hRow.fz 0
    have fz1 := hRow.fz 1
    have fz2 := hRow.fz 2
    have fz3 := hRow.fz 3
    have hy := h.no hf
    go_wp2_with fail
    refine (Le32_yes _ _ _ l 12 _ hy (by omega) (by omega)).mono ?_
    rintro e w' ⟨rfl, rfl⟩
    go_wp2_with fail
    refine (Rot32_any _ _ _).mono ?_
    rintro e w' ⟨rfl, rfl⟩
    clear hy
    go_wp2_with fail
    go_roundw
    case rel =>
     rw [roundF_def, num4_def]
     generalize hyy : roundF _ _ = y
     refine ⟨4, (s'.1, s'.2.1, s'.2.2.1, y), by omega, rfl, box_put3 hB _, ?_, hres.fr ((Fr.refl (fun x => x = w.heap.size) wr).setCell (p := ⟨w.heap.size, 3, none⟩) (.inl rfl) _) (by omega), hf.trans ((Fr.refl (fun x => x = w.heap.size) wr).setCell (p := ⟨w.heap.size, 3, none⟩) (.inl rfl) _) (fun x hx => .inr (by omega))⟩
     show _ = _
     rw [← hyy, hs.out]
     simp only [stepTo]
    case measure => simp [intOf]
  · have hRow := box_row hB
    have cb0 := hRow.c0
    have cb1 := hRow.c1
    have cb2 := hRow.c2
    have cb3 := hRow.c3
    have cr0 := hres.c0
    have cr1 := hres.c1
    have cr2 := hres.c2
    have cr3 := hres.c3
    have fr0 := hres.fz 0
    have fr1 := hres.fz 1
    have fr2 := hres.fz 2
    have fr3 := hres.fz 3
    go_wp2_with fail
    have hF3 := fr_put4 wr (w.heap.size + 1) (.int .u32 (W32 s'.1)) (.int .u32 (W32 s'.2.1)) (.int .u32 (W32 s'.2.2.1)) (.int .u32 (W32 s'.2.2.2))
    have hR3 := row_put4 hres (.int .u32 (W32 s'.1)) (.int .u32 (W32 s'.2.1)) (.int .u32 (W32 s'.2.2.1)) (.int .u32 (W32 s'.2.2.2))
    clear cr0 fr0 cr1 fr1 cr2 fr2 cr3 fr3
    generalize (((wr.setCell ⟨w.heap.size + 1, 0, none⟩ (.int .u32 (W32 s'.1))).setCell ⟨w.heap.size + 1, 1, none⟩ (.int .u32 (W32 s'.2.1))).setCell ⟨w.heap.size + 1, 2, none⟩ (.int .u32 (W32 s'.2.2.1))).setCell ⟨w.heap.size + 1, 3, none⟩ (.int .u32 (W32 s'.2.2.2)) = w3 at hF3 hR3 ⊢
    have cd0 := hR3.c0
    have cd1 := hR3.c1
    have cd2 := hR3.c2
    have cd3 := hR3.c3
    refine bodyPost_ret (v := .agg #[cS s' 0, cS s' 1, cS s' 2, cS s' 3]) (by simp [results, Tryz.results145, go_sem, cd0, cd1, cd2, cd3, lanesV, cS0, cS1, cS2, cS3]) rfl ?_
    exact ⟨by rw [hs.out]; rfl, hf.trans hF3 (fun x hx => .inr (by omega))⟩
abbrev q0 : QT := (145, #[])
theorem run_callFunc_enter {P : Program} {f : FuncId} {fn : Func} (hf : P.funcs[f]? = some fn) (hname : (fn.name == "runtime.NumGoroutine") = false) (hb : fn.body.isSome = true) (args : Array Value) (w : World) : Sem.run P (callFunc f args) w = .ok (.enter f args) w := by
 obtain ⟨c, hc⟩ := Option.isSome_iff_exists.1 hb
 have h1 : fn.name ≠ "runtime.NumGoroutine" := by simpa using hname
 simp [callFunc, hf, h1, hc, mark]
theorem steps_any : Hid (StG32.Steps (fun _ => True) stepG 16 q0) := Lib.hid ⟨fun args w => run_callFunc_enter Tryz.func145 (by kernel_rfl) (by kernel_rfl) args w, fun w s a n c l _ hb hl => step_any s a n c l w hb hl⟩
end Go.Proofs.YtidlpihoafnobaaGreat.StX32
namespace Go.Proofs.YtidlpihoafnobaaGreat.StX32
set_option maxRecDepth 100000
open Go.Proofs.YtidlpihoafnobaaGreat.StG32
open Go.RowKit
theorem g4_def (h : BitVec 32) (l : Bytes) : Value.int .u32 (W32 (rotl32 (h + BitVec.setWidth 32 (le (List.take 4 l)) * 3266489917#32) 17 * 668265263#32)) = .int .u32 (W32 (g4 h l)) := rfl
theorem g1_def (h : BitVec 32) (b : BitVec 8) : Value.int .u32 (W32 (rotl32 (h + BitVec.setWidth 32 b * 374761393#32) 11 * 2654435761#32)) = .int .u32 (W32 (g1 h b)) := rfl
set_option maxHeartbeats 2000000 in
theorem end_short (sd : BitVec 32) (s : ST) (a : Option Addr) (n c : Nat) (l : Bytes) (lo : BitVec 64) (w : World) (hb : IsBytes w a n c l) (hlo : W64 lo < 16) : Calls Tryz.prog 146 #[.int .u32 (W32 sd), .agg #[cS s 0, cS s 1, cS s 2, cS s 3], .slice a n c, .int .u64 (W64 lo)] w (GivesNew (.int .u32 (W32 (endF sd s l lo))) w) := by
 have hf0 : Fr No w (w.alloc (.cells #[cS s 0, cS s 1, cS s 2, cS s 3] 122)) := (Fr.refl No w).alloc _
 have hR : BoxAt (w.alloc (.cells #[cS s 0, cS s 1, cS s 2, cS s 3] 122)) w.heap.size s := heap_alloc_new w _
 have hH : headF sd s lo = sd + 374761393#32 := by unfold headF; rw [if_neg (by omega)]
 unfold endF
 rw [hH]
 generalize hr : restF (sd + 374761393#32 + lo.setWidth 32) l = r
 have HR := Lib.hid hr
 clear hr hH
 go_enter Tryz.func146, Tryz.ntmps146
 go_wp2_with fail
 go_step3
 go_wp2_with fail
 generalize w.alloc (.cells #[cS s 0, cS s 1, cS s 2, cS s 3] 122) = w1 at hf0 hR ⊢
 have hf1 := hf0
 have hy := hb.no hf1
 go_step3
 go_wp2_with fail
 clear hb
 go_loop [2, 9] (fun v u => ∃ m a' c' l' h', v = .slice a' m c' ∧ u = .int .u32 (W32 h') ∧ IsBytes w1 a' m c' l' ∧ restF h' l' = r) (fun v _ => match v with | .slice _ m _ => m | _ => 0)
 case atStart => exact ⟨n, a, c, l, _, rfl, rfl, hy, HR.out⟩
 case round =>
  obtain ⟨m, a', c', l', h', rfl, rfl, hb, hr'⟩ := hrel
  clear hy
  have hlen := Lib.hid hb.1
  have hc : m ≤ c' := hb.2.1
  have hc2 : c' ≤ 9223372036854775807 := hb.2.2.1
  by_cases hlt : 4 ≤ m
  · have i2 : (4 : Int) ≤ (c' : Int) := by omega
    have i3 : (4 : Int) ≤ (m : Int) := by omega
    have hbig := Lib.hid (restF_big (h := h') (l := l') (by rw [hlen.out]; exact hlt))
    have hcut := hb.cut_to_end 4 (n' := m - 4) (c' := c' - 4) hlt rfl rfl
    go_wp2_with fail
    refine (Le32_yes _ _ _ l' 0 _ hb (by omega) (by omega)).mono ?_
    rintro e w' ⟨rfl, rfl⟩
    go_wp2_with fail
    refine (Rot32_any _ _ _).mono ?_
    rintro e w' ⟨rfl, rfl⟩
    go_wp2_with fail
    refine ⟨⟨m - 4, _, _, _, g4 h' (l'.take 4), rfl, ?_, hcut, by rw [← hr', hbig.out]⟩, by simp; omega⟩
    rw [g4_take, g4_def]
  · rcases Nat.eq_zero_or_pos m with h0 | h0
    · subst h0
      have hnil : l' = [] := List.eq_nil_of_length_eq_zero hlen.out
      have hh : h' = r := by rw [← hr', hnil, restF_nil]
      rw [hh]
      clear hh hr' hnil
      go_wp2_with fail
      refine (Le32_no _ _ _ 0 _ (by omega) (by omega) (by omega)).mono ?_
      rintro e w' ⟨rfl, rfl⟩
      go_wp2_with fail
      rw [Exit.noGoto_ret]
      go_ret
      exact ⟨by unfold avalF; rfl, hf1⟩
    · obtain ⟨k, hk⟩ : ∃ k, m = k + 1 := ⟨m - 1, by omega⟩
      obtain ⟨z, tl, hl', htl⟩ := cons_of (hlen.out.trans hk)
      obtain ⟨b, off, rfl, hcell⟩ := hb.known h0
      have hc0 := hcell 0 h0
      rw [hl'] at hc0
      simp only [Nat.add_zero, List.getD_cons_zero] at hc0
      have hone := Lib.hid (restF_one (h := h') (b := z) (r := tl) (by rw [← hl', hlen.out]; omega))
      have hcut := hb.cut_to_end 1 (n' := m - 1) (c' := c' - 1) (by omega) rfl rfl
      rw [hl'] at hcut hr'
      simp only [List.drop_succ_cons, List.drop_zero] at hcut
      have i2 : (1 : Int) ≤ (c' : Int) := by omega
      have i3 : (1 : Int) ≤ (m : Int) := by omega
      have i4 : (0 : Int) < (m : Int) := by omega
      clear hcell hl' htl hk
      go_wp2_with fail
      refine (Le32_no _ _ _ 0 _ (by omega) (by omega) (by omega)).mono ?_
      rintro e w' ⟨rfl, rfl⟩
      go_wp2_with fail
      refine (Rot32_any _ _ _).mono ?_
      rintro e w' ⟨rfl, rfl⟩
      go_wp2_with fail
      refine ⟨⟨m - 1, _, _, _, g1 h' z, rfl, ?_, hcut, by rw [← hr', hone.out]⟩, by simp; omega⟩
      rw [g1_def]
set_option maxHeartbeats 2000000 in
theorem end_long (sd : BitVec 32) (s : ST) (a : Option Addr) (n c : Nat) (l : Bytes) (lo : BitVec 64) (w : World) (hb : IsBytes w a n c l) (hlo : 16 ≤ W64 lo) : Calls Tryz.prog 146 #[.int .u32 (W32 sd), .agg #[cS s 0, cS s 1, cS s 2, cS s 3], .slice a n c, .int .u64 (W64 lo)] w (GivesNew (.int .u32 (W32 (endF sd s l lo))) w) := by
 have hf0 : Fr No w (w.alloc (.cells #[cS s 0, cS s 1, cS s 2, cS s 3] 122)) := (Fr.refl No w).alloc _
 have hR : BoxAt (w.alloc (.cells #[cS s 0, cS s 1, cS s 2, cS s 3] 122)) w.heap.size s := heap_alloc_new w _
 have hH : headF sd s lo = sumF s := by unfold headF; rw [if_pos hlo]
 unfold endF
 rw [hH]
 generalize hr : restF (sumF s + lo.setWidth 32) l = r
 have HR := Lib.hid hr
 clear hr hH
 go_enter Tryz.func146, Tryz.ntmps146
 go_wp2_with fail
 go_step3
 go_wp2_with fail
 generalize w.heap.size = pb at hR ⊢
 generalize w.alloc (.cells #[cS s 0, cS s 1, cS s 2, cS s 3] 122) = w0 at hf0 hR ⊢
 refine rsq (by kernel_rfl) [(0, 1), (1, 1), (3, 1), (4, 1), (7, 1), (8, 1), (11, 1), (12, 1), (2, 0), (5, 0), (6, 1), (9, 0), (10, 1), (13, 0), (14, 1), (15, 1)] (by kernel_rfl) ?_
 have hs0 : Fr No w0 w0.drew := (Fr.refl No w0).drew
 iterate 8 refine tq _ rfl rfl (by intro w9 h9; have q0 : w9.cell? ⟨pb, 0, none⟩ = some (cS s 0) := (hR.fr h9 (fun h => h)).cell 0 rfl; have q1 : w9.cell? ⟨pb, 1, none⟩ = some (cS s 1) := (hR.fr h9 (fun h => h)).cell 1 rfl; have q2 : w9.cell? ⟨pb, 2, none⟩ = some (cS s 2) := (hR.fr h9 (fun h => h)).cell 2 rfl; have q3 : w9.cell? ⟨pb, 3, none⟩ = some (cS s 3) := (hR.fr h9 (fun h => h)).cell 3 rfl; clear h9; simp only [cS0, cS1, cS2, cS3] at q0 q1 q2 q3; go_simp; try with_reducible rfl) ?_; simp only [es1, es2, es3]
 refine wpSeq_next rfl rfl (fun K hK => ?_)
 go_wp2_with fail
 refine (Rot32_any _ 1 _).mono ?_
 rintro e w' ⟨rfl, rfl⟩
 refine hK.out _ _ (fun _ => hs0) ?_
 clear hK K
 refine wpSeq_next rfl rfl (fun K hK => ?_)
 go_wp2_with fail
 refine (Rot32_any _ 7 _).mono ?_
 rintro e w' ⟨rfl, rfl⟩
 refine hK.out _ _ (fun _ => hs0) ?_
 clear hK K
 refine tp _ rfl rfl ?_; simp only [es1, es2, es3]
 refine wpSeq_next rfl rfl (fun K hK => ?_)
 go_wp2_with fail
 refine (Rot32_any _ 12 _).mono ?_
 rintro e w' ⟨rfl, rfl⟩
 refine hK.out _ _ (fun _ => hs0) ?_
 clear hK K
 refine tp _ rfl rfl ?_; simp only [es1, es2, es3]
 refine wpSeq_next rfl rfl (fun K hK => ?_)
 go_wp2_with fail
 refine (Rot32_any _ 18 _).mono ?_
 rintro e w' ⟨rfl, rfl⟩
 refine hK.out _ _ (fun _ => hs0) ?_
 clear hK K
 iterate 2 refine tp _ rfl rfl ?_; simp only [es1, es2, es3]
 refine wpSeq_done ?_
 go_wp2_with fail
 have hf1 := hf0.no hs0
 have hy := hb.no hf1
 generalize w0.drew = w1 at hf1 hy ⊢
 clear hs0
 go_step3
 go_wp2_with fail
 clear hb
 go_loop [2, 9] (fun v u => ∃ m a' c' l' h', v = .slice a' m c' ∧ u = .int .u32 (W32 h') ∧ IsBytes w1 a' m c' l' ∧ restF h' l' = r) (fun v _ => match v with | .slice _ m _ => m | _ => 0)
 case atStart => exact ⟨n, a, c, l, _, rfl, rfl, hy, HR.out⟩
 case round =>
  obtain ⟨m, a', c', l', h', rfl, rfl, hb, hr'⟩ := hrel
  clear hy
  have hlen := Lib.hid hb.1
  have hc : m ≤ c' := hb.2.1
  have hc2 : c' ≤ 9223372036854775807 := hb.2.2.1
  by_cases hlt : 4 ≤ m
  · have i2 : (4 : Int) ≤ (c' : Int) := by omega
    have i3 : (4 : Int) ≤ (m : Int) := by omega
    have hbig := Lib.hid (restF_big (h := h') (l := l') (by rw [hlen.out]; exact hlt))
    have hcut := hb.cut_to_end 4 (n' := m - 4) (c' := c' - 4) hlt rfl rfl
    go_wp2_with fail
    refine (Le32_yes _ _ _ l' 0 _ hb (by omega) (by omega)).mono ?_
    rintro e w' ⟨rfl, rfl⟩
    go_wp2_with fail
    refine (Rot32_any _ _ _).mono ?_
    rintro e w' ⟨rfl, rfl⟩
    go_wp2_with fail
    refine ⟨⟨m - 4, _, _, _, g4 h' (l'.take 4), rfl, ?_, hcut, by rw [← hr', hbig.out]⟩, by simp; omega⟩
    rw [g4_take, g4_def]
  · rcases Nat.eq_zero_or_pos m with h0 | h0
    · subst h0
      have hnil : l' = [] := List.eq_nil_of_length_eq_zero hlen.out
      have hh : h' = r := by rw [← hr', hnil, restF_nil]
      rw [hh]
      clear hh hr' hnil
      go_wp2_with fail
      refine (Le32_no _ _ _ 0 _ (by omega) (by omega) (by omega)).mono ?_
      rintro e w' ⟨rfl, rfl⟩
      go_wp2_with fail
      rw [Exit.noGoto_ret]
      go_ret
      exact ⟨by unfold avalF; rfl, hf1⟩
    · obtain ⟨k, hk⟩ : ∃ k, m = k + 1 := ⟨m - 1, by omega⟩
      obtain ⟨z, tl, hl', htl⟩ := cons_of (hlen.out.trans hk)
      obtain ⟨b, off, rfl, hcell⟩ := hb.known h0
      have hc0 := hcell 0 h0
      rw [hl'] at hc0
      simp only [Nat.add_zero, List.getD_cons_zero] at hc0
      have hone := Lib.hid (restF_one (h := h') (b := z) (r := tl) (by rw [← hl', hlen.out]; omega))
      have hcut := hb.cut_to_end 1 (n' := m - 1) (c' := c' - 1) (by omega) rfl rfl
      rw [hl'] at hcut hr'
      simp only [List.drop_succ_cons, List.drop_zero] at hcut
      have i2 : (1 : Int) ≤ (c' : Int) := by omega
      have i3 : (1 : Int) ≤ (m : Int) := by omega
      have i4 : (0 : Int) < (m : Int) := by omega
      clear hcell hl' htl hk
      go_wp2_with fail
      refine (Le32_no _ _ _ 0 _ (by omega) (by omega) (by omega)).mono ?_
      rintro e w' ⟨rfl, rfl⟩
      go_wp2_with fail
      refine (Rot32_any _ _ _).mono ?_
      rintro e w' ⟨rfl, rfl⟩
      go_wp2_with fail
      refine ⟨⟨m - 1, _, _, _, g1 h' z, rfl, ?_, hcut, by rw [← hr', hone.out]⟩, by simp; omega⟩
      rw [g1_def]
theorem end_any (sd : BitVec 32) (s : ST) (a : Option Addr) (n c : Nat) (l : Bytes) (lo : BitVec 64) (w : World) (hb : IsBytes w a n c l) : Calls Tryz.prog 146 #[.int .u32 (W32 sd), .agg #[cS s 0, cS s 1, cS s 2, cS s 3], .slice a n c, .int .u64 (W64 lo)] w (GivesNew (.int .u32 (W32 (endF sd s l lo))) w) := by
 by_cases h : 16 ≤ W64 lo
 · exact end_long sd s a n c l lo w hb h
 · exact end_short sd s a n c l lo w hb (by omega)
end Go.Proofs.YtidlpihoafnobaaGreat.StX32
namespace Go.Proofs.YtidlpihoafnobaaGreat.StX32
set_option maxRecDepth 100000
open Go.Proofs.YtidlpihoafnobaaGreat.StG32
open Go.RowKit
def GivesLanes (a : Option Addr) (n c : Nat) (l : Bytes) (r : ST × Bytes) (w : World) (e : Ending) (w' : World) : Prop :=
 ∃ a' n' c', e = .returned (.tuple #[lanesV r.1, .slice a' n' c']) ∧ IsBytes w' a' n' c' r.2 ∧ (∀ w2, IsBytes w2 a n c l → IsBytes w2 a' n' c' r.2) ∧ Fr No w w'
set_option maxHeartbeats 4000000 in
theorem refFrom_any (x0 x1 x2 x3 : BitVec 64) (s : ST) (a : Option Addr) (n c : Nat) (l : Bytes) (w : World) (hs : Hid (s = (x0.setWidth 32, x1.setWidth 32, x2.setWidth 32, x3.setWidth 32))) (h : IsBytes w a n c l) (hn : n ≤ 1099511627776) :
 Calls Tryz.prog 85 #[.agg #[.int .u64 (W64 x0), .int .u64 (W64 x1), .int .u64 (W64 x2), .int .u64 (W64 x3)], .slice a n c] w (GivesLanes a n c l (foldF stepG 16 s l) w) := by
 obtain ⟨r, hr⟩ : ∃ r, r = foldF stepG 16 s l := ⟨_, rfl⟩
 rw [← hr]
 have HR := Lib.hid hr
 clear hr
 have hF : Fr No w (((w.alloc (.cells #[.int .u64 (W64 x0), .int .u64 (W64 x1), .int .u64 (W64 x2), .int .u64 (W64 x3)] 49)).alloc (.cells #[.int .u64 0, .int .u64 0, .int .u64 0, .int .u64 0] 49)).alloc (.cells #[.int .u32 (W32 (x0.setWidth 32)), .int .u32 (W32 (x1.setWidth 32)), .int .u32 (W32 (x2.setWidth 32)), .int .u32 (W32 (x3.setWidth 32))] 122)) := (((Fr.refl No w).alloc _).alloc _).alloc _
 have hB0 : BoxAt (((w.alloc (.cells #[.int .u64 (W64 x0), .int .u64 (W64 x1), .int .u64 (W64 x2), .int .u64 (W64 x3)] 49)).alloc (.cells #[.int .u64 0, .int .u64 0, .int .u64 0, .int .u64 0] 49)).alloc (.cells #[.int .u32 (W32 (x0.setWidth 32)), .int .u32 (W32 (x1.setWidth 32)), .int .u32 (W32 (x2.setWidth 32)), .int .u32 (W32 (x3.setWidth 32))] 122)) (w.heap.size + 2) s := by
  have h0 := row4_new ((w.alloc (.cells #[.int .u64 (W64 x0), .int .u64 (W64 x1), .int .u64 (W64 x2), .int .u64 (W64 x3)] 49)).alloc (.cells #[.int .u64 0, .int .u64 0, .int .u64 0, .int .u64 0] 49)) 122 (.int .u32 (W32 (x0.setWidth 32))) (.int .u32 (W32 (x1.setWidth 32))) (.int .u32 (W32 (x2.setWidth 32))) (.int .u32 (W32 (x3.setWidth 32)))
  have e : ((w.alloc (.cells #[.int .u64 (W64 x0), .int .u64 (W64 x1), .int .u64 (W64 x2), .int .u64 (W64 x3)] 49)).alloc (.cells #[.int .u64 0, .int .u64 0, .int .u64 0, .int .u64 0] 49)).heap.size = w.heap.size + 2 := by simp
  rw [e] at h0
  rw [hs.out]
  exact row_box h0
 have hR0 : Row4 (((w.alloc (.cells #[.int .u64 (W64 x0), .int .u64 (W64 x1), .int .u64 (W64 x2), .int .u64 (W64 x3)] 49)).alloc (.cells #[.int .u64 0, .int .u64 0, .int .u64 0, .int .u64 0] 49)).alloc (.cells #[.int .u32 (W32 (x0.setWidth 32)), .int .u32 (W32 (x1.setWidth 32)), .int .u32 (W32 (x2.setWidth 32)), .int .u32 (W32 (x3.setWidth 32))] 122)) (w.heap.size + 1) 49 (.int .u64 0) (.int .u64 0) (.int .u64 0) (.int .u64 0) := Row4.no (heap_alloc2_new w _ _) ((Fr.refl No _).alloc _)
 go_enter Tryz.func85, Tryz.ntmps85
 go_wp2
 go_loopw [1] (fun v wr => ∃ m a' c' l' s', v = .slice a' m c' ∧ IsBytes w a' m c' l' ∧ (∀ w2, IsBytes w2 a n c l → IsBytes w2 a' m c' l') ∧ BoxAt wr (w.heap.size + 2) s' ∧ Row4 wr (w.heap.size + 1) 49 (.int .u64 0) (.int .u64 0) (.int .u64 0) (.int .u64 0) ∧ Fr No w wr ∧ Hid (foldF stepG 16 s' l' = r)) (fun v _ => match v with | .slice _ m _ => m | _ => 0)
 case atStart => exact ⟨n, a, c, l, s, rfl, h, fun _ h => h, hB0, hR0, hF, HR.out.symm⟩
 case round =>
  obtain ⟨m, a', c', l', s', rfl, hb, hst, hBx, hRx, hfx, hr'⟩ := hrel
  clear hF hB0 hR0
  have hlen := Lib.hid hb.1
  have hc : m ≤ c' := hb.2.1
  have hc2 : c' ≤ 9223372036854775807 := hb.2.2.1
  by_cases hlt : 16 ≤ m
  · have i1 : (16 : Int) ≤ (m : Int) := by omega
    have i2 : (16 : Int) ≤ (c' : Int) := by omega
    go_wp2_with fail
    obtain ⟨wo, rfl⟩ : ∃ wo : World, wo = wr := ⟨_, rfl⟩
    go_loopw [7] (fun i wi => ∃ (k : Nat) (s'' : ST), k ≤ 4 ∧ i = .int .i64 k ∧ BoxAt wi (w.heap.size + 2) s'' ∧ Hid (s'' = stepTo s' l' k) ∧ Row4 wi (w.heap.size + 1) 49 (.int .u64 0) (.int .u64 0) (.int .u64 0) (.int .u64 0) ∧ Fr No w wi) (fun i _ => 4 - (intOf i).toNat)
    case atStart => exact ⟨0, s', by omega, rfl, hBx, rfl, hRx, hfx⟩
    case round =>
     obtain ⟨k, s'', hk, rfl, hB, hs2, hR2, hf2⟩ := hrel
     clear hBx hRx hfx
     obtain ⟨wi, rfl⟩ : ∃ wi : World, wi = wr := ⟨_, rfl⟩
     rcases (show k = 0 ∨ k = 1 ∨ k = 2 ∨ k = 3 ∨ k = 4 by omega) with rfl | rfl | rfl | rfl | rfl
     · have hy := (hb.no hf2)
       have cq0 := (box_row hB).c0
       have hBd : BoxAt wi.drew (w.heap.size + 2) s'' := hB.fr (Fr.refl No wi).drew (fun h => h)
       go_wp2_with fail
       refine wp_region_seq (by kernel_rfl) (fun w' => Fr No wi w') (fun i => decide (14 ≤ i)) [(0, 1), (1, 1), (2, 1), (3, 1), (4, 1), (5, 1), (6, 1), (7, 0), (8, 1), (9, 1), (10, 1), (11, 0), (12, 1), (13, 1), (14, 0)] (by kernel_rfl) (Fr.refl No wi).drew ?_
       have hs0 : Fr No wi wi.drew := (Fr.refl No wi).drew
       iterate 7 refine tq _ rfl rfl (by intro w9 h9; have cq := h9.cell (fun h => h) cq0; clear h9; go_simp; try with_reducible rfl) ?_; simp only [es1, es2, es3]
       refine wpSeq_next rfl rfl (fun K hK => ?_)
       go_wp2_with fail
       refine (refNum_any _ _ _ l' 0 4 _ (hy.no hs0) (by omega) (by omega) (by omega) (by omega)).mono ?_
       rintro e w' ⟨rfl, rfl⟩
       refine hK.out _ _ (fun _ => hs0) ?_
       clear hK K
       iterate 3 refine tp _ rfl rfl ?_; simp only [es1, es2, es3]
       refine wpSeq_next rfl rfl (fun K hK => ?_)
       go_wp2_with fail
       refine (refRot32_any _ 13 _ (by omega) (by omega)).mono ?_
       rintro e w' ⟨rfl, rfl⟩
       refine hK.out _ _ (fun _ => hs0) ?_
       clear hK K
       iterate 2 refine tp _ rfl rfl ?_; simp only [es1, es2, es3]
       have hRow := box_row hBd
       have cx := hRow.c0
       have fx := hRow.fz 0
       refine wpSeq_next rfl rfl (fun K hK => ?_)
       go_wp2_with fail
       rw [roundF_def, num4_zero]
       obtain ⟨yy, hyy⟩ : ∃ yy, yy = roundF (s''.1) (num4 l' 0) := ⟨_, rfl⟩
       rw [← hyy]
       have HYY := Lib.hid hyy
       clear hyy
       refine hK.out _ _ (fun h => by simp at h) ?_
       clear hK K
       refine wpSeq_done ?_
       have hB3 := BoxAt.fr (box_put0 hB yy) (Fr.refl No _).drew (fun h => h)
       have hf3 := ((Fr.refl (fun x => x = w.heap.size + 2) wi).setCell (p := ⟨w.heap.size + 2, 0, none⟩) (.inl rfl) (.int .u32 (W32 yy))).no (Fr.refl No _).drew
       have hR3 := hR2.fr hf3 (by omega)
       have hf4 := hf2.trans hf3 (fun x hx => .inr (by omega))
       clear hs0 cq0 cx fx hRow hBd hy
       go_wp2_with fail
       go_roundw
       case rel =>
        refine ⟨1, (yy, s''.2.1, s''.2.2.1, s''.2.2.2), by omega, rfl, hB3, ?_, hR3, hf4⟩
        show _ = _
        rw [HYY.out, hs2.out]
        simp only [stepTo]
       case measure => simp [intOf]
     · have hy := (hb.no hf2)
       have cq0 := (box_row hB).c1
       have hBd : BoxAt wi.drew (w.heap.size + 2) s'' := hB.fr (Fr.refl No wi).drew (fun h => h)
       go_wp2_with fail
       refine wp_region_seq (by kernel_rfl) (fun w' => Fr No wi w') (fun i => decide (14 ≤ i)) [(0, 1), (1, 1), (2, 1), (3, 1), (4, 1), (5, 1), (6, 1), (7, 0), (8, 1), (9, 1), (10, 1), (11, 0), (12, 1), (13, 1), (14, 0)] (by kernel_rfl) (Fr.refl No wi).drew ?_
       have hs0 : Fr No wi wi.drew := (Fr.refl No wi).drew
       iterate 7 refine tq _ rfl rfl (by intro w9 h9; have cq := h9.cell (fun h => h) cq0; clear h9; go_simp; try with_reducible rfl) ?_; simp only [es1, es2, es3]
       refine wpSeq_next rfl rfl (fun K hK => ?_)
       go_wp2_with fail
       refine (refNum_any _ _ _ l' 4 4 _ (hy.no hs0) (by omega) (by omega) (by omega) (by omega)).mono ?_
       rintro e w' ⟨rfl, rfl⟩
       refine hK.out _ _ (fun _ => hs0) ?_
       clear hK K
       iterate 3 refine tp _ rfl rfl ?_; simp only [es1, es2, es3]
       refine wpSeq_next rfl rfl (fun K hK => ?_)
       go_wp2_with fail
       refine (refRot32_any _ 13 _ (by omega) (by omega)).mono ?_
       rintro e w' ⟨rfl, rfl⟩
       refine hK.out _ _ (fun _ => hs0) ?_
       clear hK K
       iterate 2 refine tp _ rfl rfl ?_; simp only [es1, es2, es3]
       have hRow := box_row hBd
       have cx := hRow.c1
       have fx := hRow.fz 1
       refine wpSeq_next rfl rfl (fun K hK => ?_)
       go_wp2_with fail
       rw [roundF_def, num4_def]
       obtain ⟨yy, hyy⟩ : ∃ yy, yy = roundF (s''.2.1) (num4 l' 4) := ⟨_, rfl⟩
       rw [← hyy]
       have HYY := Lib.hid hyy
       clear hyy
       refine hK.out _ _ (fun h => by simp at h) ?_
       clear hK K
       refine wpSeq_done ?_
       have hB3 := BoxAt.fr (box_put1 hB yy) (Fr.refl No _).drew (fun h => h)
       have hf3 := ((Fr.refl (fun x => x = w.heap.size + 2) wi).setCell (p := ⟨w.heap.size + 2, 1, none⟩) (.inl rfl) (.int .u32 (W32 yy))).no (Fr.refl No _).drew
       have hR3 := hR2.fr hf3 (by omega)
       have hf4 := hf2.trans hf3 (fun x hx => .inr (by omega))
       clear hs0 cq0 cx fx hRow hBd hy
       go_wp2_with fail
       go_roundw
       case rel =>
        refine ⟨2, (s''.1, yy, s''.2.2.1, s''.2.2.2), by omega, rfl, hB3, ?_, hR3, hf4⟩
        show _ = _
        rw [HYY.out, hs2.out]
        simp only [stepTo]
       case measure => simp [intOf]
     · have hy := (hb.no hf2)
       have cq0 := (box_row hB).c2
       have hBd : BoxAt wi.drew (w.heap.size + 2) s'' := hB.fr (Fr.refl No wi).drew (fun h => h)
       go_wp2_with fail
       refine wp_region_seq (by kernel_rfl) (fun w' => Fr No wi w') (fun i => decide (14 ≤ i)) [(0, 1), (1, 1), (2, 1), (3, 1), (4, 1), (5, 1), (6, 1), (7, 0), (8, 1), (9, 1), (10, 1), (11, 0), (12, 1), (13, 1), (14, 0)] (by kernel_rfl) (Fr.refl No wi).drew ?_
       have hs0 : Fr No wi wi.drew := (Fr.refl No wi).drew
       iterate 7 refine tq _ rfl rfl (by intro w9 h9; have cq := h9.cell (fun h => h) cq0; clear h9; go_simp; try with_reducible rfl) ?_; simp only [es1, es2, es3]
       refine wpSeq_next rfl rfl (fun K hK => ?_)
       go_wp2_with fail
       refine (refNum_any _ _ _ l' 8 4 _ (hy.no hs0) (by omega) (by omega) (by omega) (by omega)).mono ?_
       rintro e w' ⟨rfl, rfl⟩
       refine hK.out _ _ (fun _ => hs0) ?_
       clear hK K
       iterate 3 refine tp _ rfl rfl ?_; simp only [es1, es2, es3]
       refine wpSeq_next rfl rfl (fun K hK => ?_)
       go_wp2_with fail
       refine (refRot32_any _ 13 _ (by omega) (by omega)).mono ?_
       rintro e w' ⟨rfl, rfl⟩
       refine hK.out _ _ (fun _ => hs0) ?_
       clear hK K
       iterate 2 refine tp _ rfl rfl ?_; simp only [es1, es2, es3]
       have hRow := box_row hBd
       have cx := hRow.c2
       have fx := hRow.fz 2
       refine wpSeq_next rfl rfl (fun K hK => ?_)
       go_wp2_with fail
       rw [roundF_def, num4_def]
       obtain ⟨yy, hyy⟩ : ∃ yy, yy = roundF (s''.2.2.1) (num4 l' 8) := ⟨_, rfl⟩
       rw [← hyy]
       have HYY := Lib.hid hyy
       clear hyy
       refine hK.out _ _ (fun h => by simp at h) ?_
       clear hK K
       refine wpSeq_done ?_
       have hB3 := BoxAt.fr (box_put2 hB yy) (Fr.refl No _).drew (fun h => h)
       have hf3 := ((Fr.refl (fun x => x = w.heap.size + 2) wi).setCell (p := ⟨w.heap.size + 2, 2, none⟩) (.inl rfl) (.int .u32 (W32 yy))).no (Fr.refl No _).drew
       have hR3 := hR2.fr hf3 (by omega)
       have hf4 := hf2.trans hf3 (fun x hx => .inr (by omega))
       clear hs0 cq0 cx fx hRow hBd hy
       go_wp2_with fail
       go_roundw
       case rel =>
        refine ⟨3, (s''.1, s''.2.1, yy, s''.2.2.2), by omega, rfl, hB3, ?_, hR3, hf4⟩
        show _ = _
        rw [HYY.out, hs2.out]
        simp only [stepTo]
       case measure => simp [intOf]
     · have hy := (hb.no hf2)
       have cq0 := (box_row hB).c3
       have hBd : BoxAt wi.drew (w.heap.size + 2) s'' := hB.fr (Fr.refl No wi).drew (fun h => h)
       go_wp2_with fail
       refine wp_region_seq (by kernel_rfl) (fun w' => Fr No wi w') (fun i => decide (14 ≤ i)) [(0, 1), (1, 1), (2, 1), (3, 1), (4, 1), (5, 1), (6, 1), (7, 0), (8, 1), (9, 1), (10, 1), (11, 0), (12, 1), (13, 1), (14, 0)] (by kernel_rfl) (Fr.refl No wi).drew ?_
       have hs0 : Fr No wi wi.drew := (Fr.refl No wi).drew
       iterate 7 refine tq _ rfl rfl (by intro w9 h9; have cq := h9.cell (fun h => h) cq0; clear h9; go_simp; try with_reducible rfl) ?_; simp only [es1, es2, es3]
       refine wpSeq_next rfl rfl (fun K hK => ?_)
       go_wp2_with fail
       refine (refNum_any _ _ _ l' 12 4 _ (hy.no hs0) (by omega) (by omega) (by omega) (by omega)).mono ?_
       rintro e w' ⟨rfl, rfl⟩
       refine hK.out _ _ (fun _ => hs0) ?_
       clear hK K
       iterate 3 refine tp _ rfl rfl ?_; simp only [es1, es2, es3]
       refine wpSeq_next rfl rfl (fun K hK => ?_)
       go_wp2_with fail
       refine (refRot32_any _ 13 _ (by omega) (by omega)).mono ?_
       rintro e w' ⟨rfl, rfl⟩
       refine hK.out _ _ (fun _ => hs0) ?_
       clear hK K
       iterate 2 refine tp _ rfl rfl ?_; simp only [es1, es2, es3]
       have hRow := box_row hBd
       have cx := hRow.c3
       have fx := hRow.fz 3
       refine wpSeq_next rfl rfl (fun K hK => ?_)
       go_wp2_with fail
       rw [roundF_def, num4_def]
       obtain ⟨yy, hyy⟩ : ∃ yy, yy = roundF (s''.2.2.2) (num4 l' 12) := ⟨_, rfl⟩
       rw [← hyy]
       have HYY := Lib.hid hyy
       clear hyy
       refine hK.out _ _ (fun h => by simp at h) ?_
       clear hK K
       refine wpSeq_done ?_
       have hB3 := BoxAt.fr (box_put3 hB yy) (Fr.refl No _).drew (fun h => h)
       have hf3 := ((Fr.refl (fun x => x = w.heap.size + 2) wi).setCell (p := ⟨w.heap.size + 2, 3, none⟩) (.inl rfl) (.int .u32 (W32 yy))).no (Fr.refl No _).drew
       have hR3 := hR2.fr hf3 (by omega)
       have hf4 := hf2.trans hf3 (fun x hx => .inr (by omega))
       clear hs0 cq0 cx fx hRow hBd hy
       go_wp2_with fail
       go_roundw
       case rel =>
        refine ⟨4, (s''.1, s''.2.1, s''.2.2.1, yy), by omega, rfl, hB3, ?_, hR3, hf4⟩
        show _ = _
        rw [HYY.out, hs2.out]
        simp only [stepTo]
       case measure => simp [intOf]
     · have hcut := hb.cut_to_end 16 (n' := m - 16) (c' := c' - 16) hlt rfl rfl
       go_wp2_with fail
       go_roundw
       case rel =>
        refine ⟨m - 16, _, _, _, s'', rfl, hcut, fun w2 h2 => (hst w2 h2).cut_to_end 16 hlt rfl rfl, hB, hR2, hf2, ?_⟩
        show _ = _
        rw [← hr'.out, foldF_step (s := s') (l := l') (by omega) (by rw [hlen.out]; exact hlt), hs2.out, stepG_take]
       case measure => simp; omega
  · have i1 : (m : Int) < 16 := by omega
    have HS := Lib.hid (foldF_short (F := stepG) (size := 16) (s := s') (l := l') (by rw [hlen.out]; omega))
    have hRow := box_row hBx
    have cb0 := hRow.c0
    have cb1 := hRow.c1
    have cb2 := hRow.c2
    have cb3 := hRow.c3
    have cr0 := hRx.c0
    have cr1 := hRx.c1
    have cr2 := hRx.c2
    have cr3 := hRx.c3
    have fr0 := hRx.fz 0
    have fr1 := hRx.fz 1
    have fr2 := hRx.fz 2
    have fr3 := hRx.fz 3
    go_wp2_with fail
    have hF3 := fr_put4 wr (w.heap.size + 1) (.int .u64 (W64 (s'.1.setWidth 64))) (.int .u64 (W64 (s'.2.1.setWidth 64))) (.int .u64 (W64 (s'.2.2.1.setWidth 64))) (.int .u64 (W64 (s'.2.2.2.setWidth 64)))
    have hR3 := row_put4 hRx (.int .u64 (W64 (s'.1.setWidth 64))) (.int .u64 (W64 (s'.2.1.setWidth 64))) (.int .u64 (W64 (s'.2.2.1.setWidth 64))) (.int .u64 (W64 (s'.2.2.2.setWidth 64)))
    clear cr0 cr1 cr2 cr3 fr0 fr1 fr2 fr3
    generalize (((wr.setCell ⟨w.heap.size + 1, 0, none⟩ (.int .u64 (W64 (s'.1.setWidth 64)))).setCell ⟨w.heap.size + 1, 1, none⟩ (.int .u64 (W64 (s'.2.1.setWidth 64)))).setCell ⟨w.heap.size + 1, 2, none⟩ (.int .u64 (W64 (s'.2.2.1.setWidth 64)))).setCell ⟨w.heap.size + 1, 3, none⟩ (.int .u64 (W64 (s'.2.2.2.setWidth 64))) = w3 at hF3 hR3 ⊢
    have cd0 := hR3.c0
    have cd1 := hR3.c1
    have cd2 := hR3.c2
    have cd3 := hR3.c3
    have hFe : Fr No w w3 := hfx.trans hF3 (fun x hx => .inr (by omega))
    refine bodyPost_ret (v := .tuple #[lanesV s', .slice a' m c']) (by simp [results, Tryz.results85, go_sem, cd0, cd1, cd2, cd3, lanesV]) rfl ?_
    refine ⟨a', m, c', by rw [← hr'.out, HS.out], ?_, ?_, hFe⟩
    · rw [← hr'.out, HS.out]; exact hb.no hFe
    · rw [← hr'.out, HS.out]; exact hst
end Go.Proofs.YtidlpihoafnobaaGreat.StX32
