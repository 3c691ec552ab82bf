/- slices.Clone of bytes; block.sized. -/
import Derived.Test.YtcbbllfgelnpjaaGives
namespace Go.Proofs.Ytcbbllfgelnpjaa
set_option linter.unusedVariables false
set_option linter.unusedSimpArgs false
open Go.RowKit

theorem Owns.empty (w : World) : Owns (w.alloc (.cells #[] 5)) w.heap.size (.slice (some ⟨w.heap.size, 0, none⟩) 0 0) [] :=
  World.ownsRow_made w #[] 0 (Nat.le_refl _) (by unfold maxLen; omega) rfl
set_option maxHeartbeats 400000 in
theorem Clone_any (a : Option Addr) (n c : Nat) (l : Bytes) (w : World) (h : IsBytes w a n c l) (hn : n ≤ 140737488355328) :
    Calls Try.prog 44 #[.slice a n c] w (GivesBytes l w) := by
  have qT : ∀ (w : World) (a : Option Addr) (n c n' c' : Nat), (binOp .eql 25 (.slice a n c) (.slice none n' c')).run Try.prog w = .ok (.bool a.isNone) w := fun w a n c n' c' => Lib.run_eql_slice_nil w _ _ a n c n' c' Try.underlying25
  cases a with
  | none =>
    have hc : c = 0 := h.2.2.2.1 rfl
    have hm : n = 0 := by have := h.2.1; omega
    subst hm; subst hc
    obtain rfl : l = [] := List.eq_nil_of_length_eq_zero h.1
    go_enter Try.func44, Try.ntmps44
    go_wp2
    go_ret
    exact ⟨_, rfl, Owns.nil _ _, Fr.refl _ _⟩
  | some x =>
    have hal := h.no ((Fr.refl No w).alloc (.cells #[] 5))
    go_enter Try.func44, Try.ntmps44
    go_wp2_with (refine wpList_append_bytes _ _ _ _ _ _ w.heap.size _ [] rfl (Owns.empty w) _ _ _ l rfl hal (by simp; omega) (by simp) ?_; intro v1 w1 hown1 hfr1 _)
    go_ret
    exact ⟨_, rfl, hown1, ((Fr.refl No w).alloc _).append hfr1 (Owns.empty w) (Nat.le_refl _)⟩
/-- a size that may be -/
def sizeOk (n : Int) : Int := if n < 1 then 1 else if 64 < n then 64 else n
theorem sizeOk_bd (n : Int) : 1 ≤ sizeOk n ∧ sizeOk n ≤ 64 := by unfold sizeOk; split <;> (try split) <;> omega
theorem sized_any (n : Int) (w : World) (h1 : -9223372036854775808 ≤ n) (h2 : n ≤ 9223372036854775807) :
    Calls Try.prog 42 #[.int .i64 n] w (Gives (.int .i64 (sizeOk n)) w) := by
  rcases (show n < 1 ∨ (1 ≤ n ∧ n ≤ 64) ∨ 64 < n by omega) with h | ⟨h, h'⟩ | h
  · rw [show sizeOk n = 1 by unfold sizeOk; rw [if_pos h]]
    go_enter Try.func42, Try.ntmps42
    go_wp2
    all_goals (go_ret; exact ⟨rfl, rfl⟩)
  · rw [show sizeOk n = n by unfold sizeOk; rw [if_neg (by omega), if_neg (by omega)]]
    rcases (show n = 1 ∨ n = 64 ∨ (1 < n ∧ n < 64) by omega) with rfl | rfl | ⟨g1, g2⟩
    all_goals
      go_enter Try.func42, Try.ntmps42
      go_wp2
      all_goals (go_ret; exact ⟨rfl, rfl⟩)
  · rw [show sizeOk n = 64 by unfold sizeOk; rw [if_neg (by omega), if_pos h]]
    go_enter Try.func42, Try.ntmps42
    go_wp2
    all_goals (go_ret; exact ⟨rfl, rfl⟩)
end Go.Proofs.Ytcbbllfgelnpjaa
