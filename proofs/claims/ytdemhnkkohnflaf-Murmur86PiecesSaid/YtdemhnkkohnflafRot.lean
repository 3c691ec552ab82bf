/- The turns of words: the program's (load.Rot32, load.Rot64) and the reference's give rotateLeft. -/
import Derived.Test.YtdemhnkkohnflafGives
import Derived.Test.YtdemhnkkohnflafRotPlain
import Derived.Test.YtdemhnkkohnflafProg
namespace Go.Proofs.Ytdemhnkkohnflaf
set_option linter.unusedVariables false
set_option linter.unusedSimpArgs false
open Go.RowKit


set_option maxHeartbeats 400000 in
theorem Rot32_any (x : BitVec 32) (n : Int) (w : World) :
    Calls Try.prog 47 #[.int .u32 (W32 x), .int .i64 n] w (Gives (.int .u32 (W32 (rotl32 x n))) w) := by
  go_enter Try.func47, Try.ntmps47
  go_wp2
  go_ret
  exact ⟨ret_w32 (rot32_prog x n), rfl⟩
set_option maxHeartbeats 400000 in
theorem refLeft_any (n m : Int) (w : World) (h1 : -9223372036854775808 ≤ n) (h2 : n ≤ 9223372036854775807) (h3 : 1 ≤ m) (h4 : m ≤ 64) :
    Calls Try.prog 61 #[.int .i64 n, .int .i64 m] w (Gives (.int .i64 (n % m)) w) := by
  have hm : -m < n.tmod m ∧ n.tmod m < m := ⟨Int.lt_tmod_of_pos n (by omega), Int.tmod_lt_of_pos n (by omega)⟩
  have he : n % m = if n.tmod m < 0 then n.tmod m + m else n.tmod m := by
    have h5 := Int.emod_nonneg n (show m ≠ 0 by omega)
    have h6 := Int.emod_lt_of_pos n (show 0 < m by omega)
    have h7 : (m.natAbs : Int) = m := Int.natAbs_of_nonneg (by omega)
    rw [Int.tmod_eq_emod]
    by_cases hn : 0 ≤ n ∨ m ∣ n
    · rw [if_pos hn]; simp only [Int.ofNat_zero, Int.sub_zero]; rw [if_neg (by omega)]
    · rw [if_neg hn, h7, if_pos (by omega)]; omega
  go_enter Try.func61, Try.ntmps61
  go_wp2
  · go_ret
    exact ⟨ret_i64 (by rw [he, if_pos (by assumption)]), rfl⟩
  · go_ret
    exact ⟨ret_i64 (by rw [he, if_neg (by omega)]), rfl⟩
set_option maxHeartbeats 400000 in
theorem refRot32_any (x : BitVec 32) (n : Int) (w : World) (h1 : -9223372036854775808 ≤ n) (h2 : n ≤ 9223372036854775807) :
    Calls Try.prog 55 #[.int .u32 (W32 x), .int .i64 n] w (Gives (.int .u32 (W32 (rotl32 x n))) w) := by
  have h5 := Int.emod_nonneg n (show (32 : Int) ≠ 0 by omega)
  have h6 := Int.emod_lt_of_pos n (show (0 : Int) < 32 by omega)
  go_enter Try.func55, Try.ntmps55
  go_wp2
  go_loop [0, 5] (fun y i => ∃ k : Nat, (k : Int) ≤ n % 32 ∧ i = .int .i64 k ∧ y = .int .u32 (W32 (x.rotateLeft k))) (fun _ i => 64 - (intOf i).toNat)
  case atStart => exact ⟨0, by simpa using h5, rfl, by rw [rotl32_zero]⟩
  case round =>
    obtain ⟨k, hk, rfl, rfl⟩ := hrel
    by_cases hlt : (k : Int) < n % 32
    · go_wp2_with (go_at_call 61; refine (refLeft_any _ _ _ h1 h2 (by omega) (by omega)).mono ?_; rintro e w' ⟨rfl, rfl⟩)
      go_round
      case rel => exact ⟨k + 1, by omega, by go_num, by rw [step32 x k (by omega)]⟩
      case measure => simp [intOf]; omega
    · go_wp2_with (go_at_call 61; refine (refLeft_any _ _ _ h1 h2 (by omega) (by omega)).mono ?_; rintro e w' ⟨rfl, rfl⟩)
      go_ret
      exact ⟨ret_w32 (by unfold rotl32; rw [show (n % 32).toNat = k by omega]), rfl⟩
end Go.Proofs.Ytdemhnkkohnflaf
