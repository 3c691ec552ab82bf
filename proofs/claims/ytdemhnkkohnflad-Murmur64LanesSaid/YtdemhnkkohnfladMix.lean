/- mix.Fmix32; the reference's Fold and Fmix32. -/
import Derived.Test.YtdemhnkkohnfladMixPlain
import Derived.Test.YtdemhnkkohnfladGives
namespace Go.Proofs.Ytdemhnkkohnflad
set_option linter.unusedVariables false
set_option linter.unusedSimpArgs false
open Go.RowKit

set_option maxHeartbeats 400000 in
theorem refFold7_any (z : BitVec 64) (n : Int) (k : Nat) (w : World) (hn : n = k) (h1 : 1 ≤ k) (h2 : k ≤ 63) :
    Calls Try.prog 52 #[.int .u64 (W64 z), .int .i64 n] w (Gives (.int .u64 (W64 (z ^^^ z >>> k))) w) := by
  subst hn
  have i1 : (1 : Int) ≤ (k : Int) := by omega
  have i2 : (k : Int) ≤ 63 := by omega
  go_enter Try.func52, Try.ntmps52
  go_wp2
  go_loop [5, 6] (fun y i => ∃ j : Nat, j ≤ 64 ∧ i = .int .i64 j ∧ y = .int .u64 (W64 (lowb (z ^^^ z >>> k) j))) (fun _ i => 64 - (intOf i).toNat)
  case atStart => exact ⟨0, by omega, rfl, by rw [lowb_zero]; rfl⟩
  case round =>
    obtain ⟨j, hj, rfl, rfl⟩ := hrel
    by_cases hlt : j < 64
    · have i3 : (j : Int) < 64 := by omega
      by_cases hs : j + k < 64
      · have HS := Lib.hid (fold_step2 z k j hs)
        have i4 : (j : Int) + (k : Int) < 64 := by omega
        generalize lowb (z ^^^ z >>> k) j = y at HS ⊢
        go_wp2
        exact ⟨⟨j + 1, by omega, rfl, by rw [← HS.out]⟩, by simp [intOf]; omega⟩
      · have HS := Lib.hid (fold_step1 z k j hlt (by omega))
        have i4 : ¬ (j : Int) + (k : Int) < 64 := by omega
        generalize lowb (z ^^^ z >>> k) j = y at HS ⊢
        go_wp2
        exact ⟨⟨j + 1, by omega, rfl, by rw [← HS.out]⟩, by simp [intOf]; omega⟩
    · obtain rfl : j = 64 := by omega
      rw [lowb_all]
      go_wp2
      go_ret
      exact ⟨rfl, rfl⟩
end Go.Proofs.Ytdemhnkkohnflad
