/- The laws of layer 28. -/
import Derived.Test.YthjpnkjbkkeoaaaLiveS28
import Derived.Test.YthjpnkjbkkeoaaaRef28F
import Derived.Test.YthjpnkjbkkeoaaaPut
namespace Go.Proofs.Ythjpnkjbkkeoaaa.StS28
set_option linter.unusedVariables false
set_option linter.unusedSimpArgs false
open Go.RowKit

theorem steps28 (size : Nat) (hz : size ≤ 64) : Hid (Steps (fun _ => True) stepG size 0) := Lib.hid (fun w s a n c l _ hb hl => Step_any s a n c l w hb (by have := hb.1; omega))
theorem awake_fold : foldF stepG 2 (0#64, 0) ([] ++ [1#8, 2#8, 3#8]) = ((stepX 0#64 [1#8, 2#8], 1), [3#8]) := by
  have e : stepG (0#64, 0) (List.take 2 [1#8, 2#8, 3#8]) = (stepX 0#64 [1#8, 2#8], 1) := by
    unfold stepG
    rw [show wrap64 (((0#64, (0 : Int)) : ST).2 + 1) = 1 by (show wrap64 1 = 1; unfold wrap64; omega)]
    rfl
  rw [List.nil_append, foldF_step (size := 2) (l := [1#8, 2#8, 3#8]) (by omega) (by decide), e]
  exact foldF_short (F := stepG) (size := 2) (l := [3#8]) (by decide)
theorem field1 (u v : Value) (w : World) : (Instr.field 27 (.agg #[u, v]) 1).run Try.prog w = .ok v w := by kernel_rfl
theorem cS0 (s : ST) : cS s 0 = .int .u64 (W64 s.1) := rfl
theorem cS1 (s : ST) : cS s 1 = .int .i64 s.2 := rfl
theorem New_live (sz : Int) (size : Nat) (f : ST) (w0 w : World) (h1 : -9223372036854775808 ≤ sz) (h2 : sz ≤ 9223372036854775807) (hsz : sizeOk sz = size) (hf : Fr No w0 w) :
    Calls Try.prog 7 #[.int .i64 sz, .agg #[cS f 0, cS f 1], (.func (.func 8) #[] #[])] w
      (fun e w' => ∃ sb, e = .returned (.pointer (some ⟨sb, 0, none⟩)) ∧ w.heap.size ≤ sb ∧ Live w0 w' sb size f f 0 [] 0#64 (.slice none 0 0) ∧ Fr No w w') := by
  refine (New_any sz f 0 w h1 h2).mono ?_
  rintro e w' ⟨sb, rfl, hge, hlt, hst, hfr⟩
  rw [hsz] at hst
  exact ⟨sb, rfl, hge, ⟨hst, Owns.nil _ _, Nat.le_trans hf.size hge, hf.no hfr⟩, hfr⟩
set_option maxHeartbeats 400000 in
theorem awake_yes (w : World) : Calls Try.prog 6 #[] w (Yes w) := by
  have hb : ∀ w : World, IsBytes (w.alloc (.cells #[.int .u8 1, .int .u8 2, .int .u8 3] 5)) (some ⟨w.heap.size, 0, none⟩) 3 3 [1#8, 2#8, 3#8] := by
    intro w
    refine ⟨rfl, Nat.le_refl _, by omega, (fun e => by cases e), fun i hi => ⟨w.heap.size, 0, rfl, ?_⟩⟩
    rw [cell_of_row _ w.heap.size (0 + i) _ _ _ (heap_alloc_new w _)]
    match i, hi with
    | 0, _ => rfl
    | 1, _ => rfl
    | 2, _ => rfl
  go_enter Try.func6, Try.ntmps6
  go_wp2_with fail
  refine (New_live 2 2 (0#64, 0) w _ (by omega) (by omega) rfl (Fr.refl No w)).mono ?_
  rintro e w1 ⟨sb, rfl, hge, hL1, hf1⟩
  go_wp2_with fail
  have hL2 := hL1.no ((Fr.refl No w1).alloc (.cells #[.int .u8 1, .int .u8 2, .int .u8 3] 5))
  refine (live_write (fun _ => True) stepG hL2 (fun _ _ => trivial) (steps28 2 (by omega)) (by omega) (by omega) (by simp) _ 3 3 [1#8, 2#8, 3#8] (hb w1) (fun x _ e g => by cases e; have := hL1.lt _ g; simp at this) (by omega)).mono ?_
  rintro e w2 ⟨rfl, tv2, hL3, _, _⟩
  rw [awake_fold] at hL3
  clear hL1 hL2 hf1 hb hge
  go_wp2_with fail
  refine (State_any hL3.st).mono ?_
  rintro e w3 ⟨rfl, hf3⟩
  have hL4 := hL3.no hf3
  have hfd := field1 (cS (stepX 0#64 [1#8, 2#8], 1) 0) (.int .i64 1) w3
  rw [cS1]
  go_wp2_with fail
  refine (Tail_any hL4.st hL4.ow (by simp)).mono ?_
  rintro e w4 ⟨v4, rfl, ho4, hf4⟩
  have hL5 := hL4.no hf4
  obtain ⟨a4, c4, rfl, _, _⟩ := ho4.bytes
  go_wp2_with fail
  refine (Long_any hL5.st).mono ?_
  rintro e w5 ⟨rfl, rfl⟩
  go_wp2_with fail
  go_ret
  exact ⟨rfl, hL5.fr⟩
theorem neq_self (s : ST) (w : World) : (binOp .neq 27 (.agg #[cS s 0, cS s 1]) (.agg #[cS s 0, cS s 1])).run Try.prog w = .ok (.bool false) w := by
  simp only [cS0, cS1]
  go_simp
theorem eql_self (s : ST) (w : World) : (binOp .eql 27 (.agg #[cS s 0, cS s 1]) (.agg #[cS s 0, cS s 1])).run Try.prog w = .ok (.bool true) w := by
  simp only [cS0, cS1]
  go_simp
end Go.Proofs.Ythjpnkjbkkeoaaa.StS28
