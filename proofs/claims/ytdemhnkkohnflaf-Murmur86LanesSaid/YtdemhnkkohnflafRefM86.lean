/- The reference of murmur86: c, word, From, Blocks. -/
import Derived.Test.YtdemhnkkohnflafLastM86
namespace Go.Proofs.Ytdemhnkkohnflaf.StM86
set_option linter.unusedVariables false
set_option linter.unusedSimpArgs false
open Go.RowKit

theorem refC0 (w : World) : Calls Try.prog 56 #[.int .i64 0] w (GivesNew (.int .u32 597399067) w) := by
  have em2 : (0 : Int).tmod 4 = 0 := by decide
  go_enter Try.func56, Try.ntmps56
  go_wp2_with fail
  go_ret
  exact ⟨rfl, (Fr.refl No w).alloc _⟩

theorem refC1 (w : World) : Calls Try.prog 56 #[.int .i64 1] w (GivesNew (.int .u32 2869860233) w) := by
  have em2 : (1 : Int).tmod 4 = 1 := by decide
  go_enter Try.func56, Try.ntmps56
  go_wp2_with fail
  go_ret
  exact ⟨rfl, (Fr.refl No w).alloc _⟩

theorem refC2 (w : World) : Calls Try.prog 56 #[.int .i64 2] w (GivesNew (.int .u32 951274213) w) := by
  have em2 : (2 : Int).tmod 4 = 2 := by decide
  go_enter Try.func56, Try.ntmps56
  go_wp2_with fail
  go_ret
  exact ⟨rfl, (Fr.refl No w).alloc _⟩

theorem refC3 (w : World) : Calls Try.prog 56 #[.int .i64 3] w (GivesNew (.int .u32 2716044179) w) := by
  have em2 : (3 : Int).tmod 4 = 3 := by decide
  go_enter Try.func56, Try.ntmps56
  go_wp2_with fail
  go_ret
  exact ⟨rfl, (Fr.refl No w).alloc _⟩

theorem refC4 (w : World) : Calls Try.prog 56 #[.int .i64 4] w (GivesNew (.int .u32 597399067) w) := by
  have em2 : (4 : Int).tmod 4 = 0 := by decide
  go_enter Try.func56, Try.ntmps56
  go_wp2_with fail
  go_ret
  exact ⟨rfl, (Fr.refl No w).alloc _⟩

theorem refWord0 (x : BitVec 64) (w : World) : Calls Try.prog 38 #[.int .u64 (W64 x), .int .i64 0] w (GivesNew (.int .u32 (W32 (w0 (x.setWidth 32)))) w) := by
  have em : IntKind.i64.wrap 15 = 15 := by decide
  have em1 : IntKind.i64.wrap 1 = 1 := by decide
  go_enter Try.func38, Try.ntmps38
  go_wp2_with fail
  refine (refC0 _).mono ?_
  rintro e w1 ⟨rfl, hf1⟩
  go_wp2_with fail
  refine (refRot32_any _ 15 _ (by omega) (by omega)).mono ?_
  rintro e w' ⟨rfl, rfl⟩
  go_wp2_with fail
  refine (refC1 _).mono ?_
  rintro e w2 ⟨rfl, hf2⟩
  go_wp2_with fail
  rw [w0_def]
  go_ret
  exact ⟨rfl, hf1.no hf2⟩

theorem refWord1 (x : BitVec 64) (w : World) : Calls Try.prog 38 #[.int .u64 (W64 x), .int .i64 1] w (GivesNew (.int .u32 (W32 (w1 (x.setWidth 32)))) w) := by
  have em : IntKind.i64.wrap 16 = 16 := by decide
  have em1 : IntKind.i64.wrap 2 = 2 := by decide
  go_enter Try.func38, Try.ntmps38
  go_wp2_with fail
  refine (refC1 _).mono ?_
  rintro e w1 ⟨rfl, hf1⟩
  go_wp2_with fail
  refine (refRot32_any _ 16 _ (by omega) (by omega)).mono ?_
  rintro e w' ⟨rfl, rfl⟩
  go_wp2_with fail
  refine (refC2 _).mono ?_
  rintro e w2 ⟨rfl, hf2⟩
  go_wp2_with fail
  rw [w1_def]
  go_ret
  exact ⟨rfl, hf1.no hf2⟩

theorem refWord2 (x : BitVec 64) (w : World) : Calls Try.prog 38 #[.int .u64 (W64 x), .int .i64 2] w (GivesNew (.int .u32 (W32 (w2 (x.setWidth 32)))) w) := by
  have em : IntKind.i64.wrap 17 = 17 := by decide
  have em1 : IntKind.i64.wrap 3 = 3 := by decide
  go_enter Try.func38, Try.ntmps38
  go_wp2_with fail
  refine (refC2 _).mono ?_
  rintro e w1 ⟨rfl, hf1⟩
  go_wp2_with fail
  refine (refRot32_any _ 17 _ (by omega) (by omega)).mono ?_
  rintro e w' ⟨rfl, rfl⟩
  go_wp2_with fail
  refine (refC3 _).mono ?_
  rintro e w2 ⟨rfl, hf2⟩
  go_wp2_with fail
  rw [w2_def]
  go_ret
  exact ⟨rfl, hf1.no hf2⟩

theorem refWord3 (x : BitVec 64) (w : World) : Calls Try.prog 38 #[.int .u64 (W64 x), .int .i64 3] w (GivesNew (.int .u32 (W32 (w3 (x.setWidth 32)))) w) := by
  have em : IntKind.i64.wrap 18 = 18 := by decide
  have em1 : IntKind.i64.wrap 4 = 4 := by decide
  go_enter Try.func38, Try.ntmps38
  go_wp2_with fail
  refine (refC3 _).mono ?_
  rintro e w1 ⟨rfl, hf1⟩
  go_wp2_with fail
  refine (refRot32_any _ 18 _ (by omega) (by omega)).mono ?_
  rintro e w' ⟨rfl, rfl⟩
  go_wp2_with fail
  refine (refC4 _).mono ?_
  rintro e w2 ⟨rfl, hf2⟩
  go_wp2_with fail
  rw [w3_def]
  go_ret
  exact ⟨rfl, hf1.no hf2⟩

/-- It returns lanes, and a part of the bytes that are there. -/
def GivesLanes (a : Option Addr) (n c : Nat) (l : Bytes) (r : ST × Bytes) (w : World) (e : Ending) (w' : World) : Prop :=
  ∃ a' n' c', e = .returned (.tuple #[lanesV r.1, .slice a' n' c']) ∧ IsBytes w' a' n' c' r.2 ∧ (∀ w2, IsBytes w2 a n c l → IsBytes w2 a' n' c' r.2) ∧ Fr No w w'
theorem flat_gen (f0 f1 f2 f3 : BitVec 32 → BitVec 32) (t0 t1 t2 t3 : BitVec 32 → BitVec 32 → BitVec 32) (s : S4) :
    ((t0 (f0 s.1) s.2.1, t1 (f1 s.2.1) s.2.2.1, t2 (f2 s.2.2.1) s.2.2.2, t3 (f3 s.2.2.2) (t0 (f0 s.1) s.2.1)) : S4) =
      (fun q : S4 => ((q.1, q.2.1, q.2.2.1, t3 (f3 q.2.2.2) q.1) : S4)) ((fun q : S4 => ((q.1, q.2.1, t2 (f2 q.2.2.1) q.2.2.2, q.2.2.2) : S4)) ((fun q : S4 => ((q.1, t1 (f1 q.2.1) q.2.2.1, q.2.2.1, q.2.2.2) : S4)) ((fun q : S4 => ((t0 (f0 q.1) q.2.1, q.2.1, q.2.2.1, q.2.2.2) : S4)) s))) := rfl
theorem stepG_flat (s : S4) (l : Bytes) : ((turn0 (mix0 s l) s.2.1, turn1 (mix1 s l) s.2.2.1, turn2 (mix2 s l) s.2.2.2, turn3 (mix3 s l) (turn0 (mix0 s l) s.2.1)) : S4) = stepG s l := by
  exact flat_gen (fun x => x ^^^ w0 (num4 l 0)) (fun x => x ^^^ w1 (num4 l 4)) (fun x => x ^^^ w2 (num4 l 8)) (fun x => x ^^^ w3 (num4 l 12)) turn0 turn1 turn2 turn3 s
set_option maxHeartbeats 4000000 in
theorem refFrom_any (x0 x1 x2 x3 : BitVec 64) (s : ST) (a : Option Addr) (n c : Nat) (l : Bytes) (w : World) (hs : Hid ((x0.setWidth 32, x1.setWidth 32, x2.setWidth 32, x3.setWidth 32) = s)) (h : IsBytes w a n c l) (hn : n ≤ 1099511627776) :
    Calls Try.prog 34 #[.agg #[.int .u64 (W64 (x0)), .int .u64 (W64 (x1)), .int .u64 (W64 (x2)), .int .u64 (W64 (x3))], .slice a n c] w (GivesLanes a n c l (foldF stepG 16 s l) w) := by
  obtain ⟨r, hr⟩ : ∃ r, r = foldF stepG 16 s l := ⟨_, rfl⟩
  rw [← hr]
  have HR := Lib.hid hr
  clear hr
  have hF : Fr No w ((w.alloc (.cells #[.int .u64 (W64 (x0)), .int .u64 (W64 (x1)), .int .u64 (W64 (x2)), .int .u64 (W64 (x3))] 38)).alloc (.cells #[.int .u64 0, .int .u64 0, .int .u64 0, .int .u64 0] 38)) := ((Fr.refl No w).alloc _).alloc _
  have hR0 : Row4 ((w.alloc (.cells #[.int .u64 (W64 (x0)), .int .u64 (W64 (x1)), .int .u64 (W64 (x2)), .int .u64 (W64 (x3))] 38)).alloc (.cells #[.int .u64 0, .int .u64 0, .int .u64 0, .int .u64 0] 38)) (w.heap.size + 1) 38 (.int .u64 0) (.int .u64 0) (.int .u64 0) (.int .u64 0) := heap_alloc2_new w _ _
  go_enter Try.func34, Try.ntmps34
  go_wp2
  go_loopw [1, 6, 7, 8, 9] (fun v u0 u1 u2 u3 wr => ∃ m a' c' l' s', v = .slice a' m c' ∧ u0 = .int .u32 (W32 s'.1) ∧ u1 = .int .u32 (W32 s'.2.1) ∧ u2 = .int .u32 (W32 s'.2.2.1) ∧ u3 = .int .u32 (W32 s'.2.2.2) ∧ IsBytes w a' m c' l' ∧ (∀ w2, IsBytes w2 a n c l → IsBytes w2 a' m c' l') ∧ Row4 wr (w.heap.size + 1) 38 (.int .u64 0) (.int .u64 0) (.int .u64 0) (.int .u64 0) ∧ Fr No w wr ∧ Hid (foldF stepG 16 (s' : S4) l' = r)) (fun v _ _ _ _ _ => match v with | .slice _ m _ => m | _ => 0)
  case atStart =>
    refine ⟨n, a, c, l, (x0.setWidth 32, x1.setWidth 32, x2.setWidth 32, x3.setWidth 32), rfl, rfl, rfl, rfl, rfl, h, fun _ h => h, hR0, hF, ?_⟩
    show _ = _
    rw [hs.out, HR.out]
  case round =>
    obtain ⟨m, a', c', l', s', rfl, rfl, rfl, rfl, rfl, hb, hst, hRx, hfx, hr'⟩ := hrel
    clear hF hR0
    have hlen := Lib.hid hb.1
    have hc : m ≤ c' := hb.2.1
    have hc2 : c' ≤ 9223372036854775807 := hb.2.2.1
    by_cases hlt : 16 ≤ m
    · have i1 : (16 : Int) ≤ (m : Int) := by omega
      have i2 : (16 : Int) ≤ (c' : Int) := by omega
      have hcut := hb.cut_to_end 16 (n' := m - 16) (c' := c' - 16) hlt rfl rfl
      go_wp2_with fail
      refine (refNum_any _ _ _ l' 0 4 _ (hb.no (hfx)) (by omega) (by omega) (by omega) (by omega)).mono ?_
      rintro e w' ⟨rfl, rfl⟩
      go_wp2_with fail
      refine (refWord0 _ _).mono ?_
      rw [num4_zero]
      rintro e u0 ⟨rfl, hf0⟩
      go_wp2_with fail
      rw [mix0_def]
      refine (refRot32_any _ 19 _ (by omega) (by omega)).mono ?_
      rintro e w' ⟨rfl, rfl⟩
      go_wp2_with fail
      rw [turn0_def]
      obtain ⟨y0, hy0⟩ : ∃ y, y = turn0 (mix0 s' l') (s'.2.1) := ⟨_, rfl⟩
      rw [← hy0]
      have Hy0 := Lib.hid hy0
      clear hy0
      try go_wp2_with fail
      refine (refNum_any _ _ _ l' 4 4 _ (hb.no ((hfx.no hf0))) (by omega) (by omega) (by omega) (by omega)).mono ?_
      rintro e w' ⟨rfl, rfl⟩
      go_wp2_with fail
      refine (refWord1 _ _).mono ?_
      rw [num4_def]
      rintro e u1 ⟨rfl, hf1⟩
      go_wp2_with fail
      rw [mix1_def]
      refine (refRot32_any _ 17 _ (by omega) (by omega)).mono ?_
      rintro e w' ⟨rfl, rfl⟩
      go_wp2_with fail
      rw [turn1_def]
      obtain ⟨y1, hy1⟩ : ∃ y, y = turn1 (mix1 s' l') (s'.2.2.1) := ⟨_, rfl⟩
      rw [← hy1]
      have Hy1 := Lib.hid hy1
      clear hy1
      try go_wp2_with fail
      refine (refNum_any _ _ _ l' 8 4 _ (hb.no (((hfx.no hf0).no hf1))) (by omega) (by omega) (by omega) (by omega)).mono ?_
      rintro e w' ⟨rfl, rfl⟩
      go_wp2_with fail
      refine (refWord2 _ _).mono ?_
      rw [num4_def]
      rintro e u2 ⟨rfl, hf2⟩
      go_wp2_with fail
      rw [mix2_def]
      refine (refRot32_any _ 15 _ (by omega) (by omega)).mono ?_
      rintro e w' ⟨rfl, rfl⟩
      go_wp2_with fail
      rw [turn2_def]
      obtain ⟨y2, hy2⟩ : ∃ y, y = turn2 (mix2 s' l') (s'.2.2.2) := ⟨_, rfl⟩
      rw [← hy2]
      have Hy2 := Lib.hid hy2
      clear hy2
      try go_wp2_with fail
      refine (refNum_any _ _ _ l' 12 4 _ (hb.no ((((hfx.no hf0).no hf1).no hf2))) (by omega) (by omega) (by omega) (by omega)).mono ?_
      rintro e w' ⟨rfl, rfl⟩
      go_wp2_with fail
      refine (refWord3 _ _).mono ?_
      rw [num4_def]
      rintro e u3 ⟨rfl, hf3⟩
      go_wp2_with fail
      rw [mix3_def]
      refine (refRot32_any _ 13 _ (by omega) (by omega)).mono ?_
      rintro e w' ⟨rfl, rfl⟩
      go_wp2_with fail
      rw [turn3_def]
      obtain ⟨y3, hy3⟩ : ∃ y, y = turn3 (mix3 s' l') (y0) := ⟨_, rfl⟩
      rw [← hy3]
      have Hy3 := Lib.hid hy3
      clear hy3
      have hf4 := (((hfx.no hf0).no hf1).no hf2).no hf3
      have hR4 := (((hRx.no hf0).no hf1).no hf2).no hf3
      clear hRx hfx hf0 hf1 hf2 hf3
      go_wp2_with fail
      go_roundw
      case rel =>
        refine ⟨m - 16, _, _, _, (y0, y1, y2, y3), rfl, rfl, rfl, rfl, rfl, hcut, fun w2 h2 => (hst w2 h2).cut_to_end 16 hlt rfl rfl, hR4, hf4, ?_⟩
        show _ = _
        rw [← hr'.out, foldF_step (s := s') (l := l') (by omega) (by rw [hlen.out]; exact hlt), Hy3.out, Hy2.out, Hy1.out, Hy0.out, stepG_flat, stepG_take]
        rfl
      case measure => simp; omega
    · have i1 : (m : Int) < 16 := by omega
      have HS := Lib.hid (foldF_short (F := stepG) (size := 16) (s := s') (l := l') (by rw [hlen.out]; omega))
      have cr0 := hRx.c0
      have cr1 := hRx.c1
      have cr2 := hRx.c2
      have cr3 := hRx.c3
      have fr0 := hRx.fz 0
      have fr1 := hRx.fz 1
      have fr2 := hRx.fz 2
      have fr3 := hRx.fz 3
      go_wp2_with fail
      have hF3 := fr_put4 wr (w.heap.size + 1) (.int .u64 (W64 (s'.1.setWidth 64))) (.int .u64 (W64 (s'.2.1.setWidth 64))) (.int .u64 (W64 (s'.2.2.1.setWidth 64))) (.int .u64 (W64 (s'.2.2.2.setWidth 64)))
      have hR3 := row_put4 hRx (.int .u64 (W64 (s'.1.setWidth 64))) (.int .u64 (W64 (s'.2.1.setWidth 64))) (.int .u64 (W64 (s'.2.2.1.setWidth 64))) (.int .u64 (W64 (s'.2.2.2.setWidth 64)))
      clear cr0 cr1 cr2 cr3 fr0 fr1 fr2 fr3
      generalize (((wr.setCell ⟨w.heap.size + 1, 0, none⟩ (.int .u64 (W64 (s'.1.setWidth 64)))).setCell ⟨w.heap.size + 1, 1, none⟩ (.int .u64 (W64 (s'.2.1.setWidth 64)))).setCell ⟨w.heap.size + 1, 2, none⟩ (.int .u64 (W64 (s'.2.2.1.setWidth 64)))).setCell ⟨w.heap.size + 1, 3, none⟩ (.int .u64 (W64 (s'.2.2.2.setWidth 64))) = w3 at hF3 hR3 ⊢
      have cd0 := hR3.c0
      have cd1 := hR3.c1
      have cd2 := hR3.c2
      have cd3 := hR3.c3
      have hFe : Fr No w w3 := hfx.trans hF3 (fun x hx => .inr (by omega))
      refine bodyPost_ret (v := .tuple #[lanesV s', .slice a' m c']) (by simp [results, Try.results34, go_sem, cd0, cd1, cd2, cd3, lanesV]) rfl ?_
      refine ⟨a', m, c', by rw [← hr'.out, HS.out], ?_, ?_, hFe⟩
      · rw [← hr'.out, HS.out]; exact hb.no hFe
      · rw [← hr'.out, HS.out]; exact hst
end Go.Proofs.Ytdemhnkkohnflaf.StM86
