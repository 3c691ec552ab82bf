/- The turns of words: the program's (load.Rot32, load.Rot64) and the reference's give rotateLeft. -/
import Derived.Test.YtcbbllfgelnpjaaGives
import Derived.Test.YtcbbllfgelnpjaaRotPlain
import Derived.Test.YtcbbllfgelnpjaaProg
namespace Go.Proofs.Ytcbbllfgelnpjaa
set_option linter.unusedVariables false
set_option linter.unusedSimpArgs false
open Go.RowKit


set_option maxHeartbeats 400000 in
theorem Rot64_any (x : BitVec 64) (n : Int) (w : World) :
    Calls Try.prog 53 #[.int .u64 (W64 x), .int .i64 n] w (Gives (.int .u64 (W64 (rotl64 x n))) w) := by
  go_enter Try.func53, Try.ntmps53
  go_wp2
  go_ret
  exact ⟨ret_w64 (rot64_prog x n), rfl⟩
set_option maxHeartbeats 400000 in
theorem refLeft_any (n m : Int) (w : World) (h1 : -9223372036854775808 ≤ n) (h2 : n ≤ 9223372036854775807) (h3 : 1 ≤ m) (h4 : m ≤ 64) :
    Calls Try.prog 54 #[.int .i64 n, .int .i64 m] w (Gives (.int .i64 (n % m)) w) := by
  have hm : -m < n.tmod m ∧ n.tmod m < m := ⟨Int.lt_tmod_of_pos n (by omega), Int.tmod_lt_of_pos n (by omega)⟩
  have he : n % m = if n.tmod m < 0 then n.tmod m + m else n.tmod m := by
    have h5 := Int.emod_nonneg n (show m ≠ 0 by omega)
    have h6 := Int.emod_lt_of_pos n (show 0 < m by omega)
    have h7 : (m.natAbs : Int) = m := Int.natAbs_of_nonneg (by omega)
    rw [Int.tmod_eq_emod]
    by_cases hn : 0 ≤ n ∨ m ∣ n
    · rw [if_pos hn]; simp only [Int.ofNat_zero, Int.sub_zero]; rw [if_neg (by omega)]
    · rw [if_neg hn, h7, if_pos (by omega)]; omega
  go_enter Try.func54, Try.ntmps54
  go_wp2
  · go_ret
    exact ⟨ret_i64 (by rw [he, if_pos (by assumption)]), rfl⟩
  · go_ret
    exact ⟨ret_i64 (by rw [he, if_neg (by omega)]), rfl⟩
set_option maxHeartbeats 400000 in
theorem refRot64_any (x : BitVec 64) (n : Int) (w : World) (h1 : -9223372036854775808 ≤ n) (h2 : n ≤ 9223372036854775807) :
    Calls Try.prog 51 #[.int .u64 (W64 x), .int .i64 n] w (Gives (.int .u64 (W64 (rotl64 x n))) w) := by
  have h5 := Int.emod_nonneg n (show (64 : Int) ≠ 0 by omega)
  have h6 := Int.emod_lt_of_pos n (show (0 : Int) < 64 by omega)
  go_enter Try.func51, Try.ntmps51
  go_wp2
  go_loop [0, 5] (fun y i => ∃ k : Nat, (k : Int) ≤ n % 64 ∧ i = .int .i64 k ∧ y = .int .u64 (W64 (x.rotateLeft k))) (fun _ i => 128 - (intOf i).toNat)
  case atStart => exact ⟨0, by simpa using h5, rfl, by rw [rotl64_zero]⟩
  case round =>
    obtain ⟨k, hk, rfl, rfl⟩ := hrel
    by_cases hlt : (k : Int) < n % 64
    · go_wp2_with (go_at_call 54; refine (refLeft_any _ _ _ h1 h2 (by omega) (by omega)).mono ?_; rintro e w' ⟨rfl, rfl⟩)
      go_round
      case rel => exact ⟨k + 1, by omega, by go_num, by rw [step64 x k (by omega)]⟩
      case measure => simp [intOf]; omega
    · go_wp2_with (go_at_call 54; refine (refLeft_any _ _ _ h1 h2 (by omega) (by omega)).mono ?_; rintro e w' ⟨rfl, rfl⟩)
      go_ret
      exact ⟨ret_w64 (by unfold rotl64; rw [show (n % 64).toNat = k by omega]), rfl⟩
end Go.Proofs.Ytcbbllfgelnpjaa
