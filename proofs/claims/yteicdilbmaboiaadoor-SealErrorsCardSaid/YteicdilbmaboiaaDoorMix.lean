/- mix.Fmix32; the reference's Fold and Fmix32. -/
import Derived.Test.YteicdilbmaboiaaDoorMixPlain
import Derived.Test.YteicdilbmaboiaaDoorGives
namespace Go.Proofs.YteicdilbmaboiaaDoor
set_option linter.unusedVariables false
set_option linter.unusedSimpArgs false
open Go.RowKit

theorem Fmix32_any (h : BitVec 32) (w : World) :
    Calls Tryd.prog 21 #[.int .u32 (W32 h)] w (Gives (.int .u32 (W32 (fmix32 h))) w) := by
  go_enter Tryd.func21, Tryd.ntmps21
  go_wp2
  go_ret
  exact ⟨rfl, rfl⟩
set_option maxHeartbeats 400000 in
theorem refFold7_any (z : BitVec 64) (n : Int) (k : Nat) (w : World) (hn : n = k) (h1 : 1 ≤ k) (h2 : k ≤ 63) :
    Calls Tryd.prog 32 #[.int .u64 (W64 z), .int .i64 n] w (Gives (.int .u64 (W64 (z ^^^ z >>> k))) w) := by
  subst hn
  have i1 : (1 : Int) ≤ (k : Int) := by omega
  have i2 : (k : Int) ≤ 63 := by omega
  go_enter Tryd.func32, Tryd.ntmps32
  go_wp2
  go_loop [5, 6] (fun y i => ∃ j : Nat, j ≤ 64 ∧ i = .int .i64 j ∧ y = .int .u64 (W64 (lowb (z ^^^ z >>> k) j))) (fun _ i => 64 - (intOf i).toNat)
  case atStart => exact ⟨0, by omega, rfl, by rw [lowb_zero]; rfl⟩
  case round =>
    obtain ⟨j, hj, rfl, rfl⟩ := hrel
    by_cases hlt : j < 64
    · have i3 : (j : Int) < 64 := by omega
      by_cases hs : j + k < 64
      · have HS := Lib.hid (fold_step2 z k j hs)
        have i4 : (j : Int) + (k : Int) < 64 := by omega
        generalize lowb (z ^^^ z >>> k) j = y at HS ⊢
        go_wp2
        exact ⟨⟨j + 1, by omega, rfl, by rw [← HS.out]⟩, by simp [intOf]; omega⟩
      · have HS := Lib.hid (fold_step1 z k j hlt (by omega))
        have i4 : ¬ (j : Int) + (k : Int) < 64 := by omega
        generalize lowb (z ^^^ z >>> k) j = y at HS ⊢
        go_wp2
        exact ⟨⟨j + 1, by omega, rfl, by rw [← HS.out]⟩, by simp [intOf]; omega⟩
    · obtain rfl : j = 64 := by omega
      rw [lowb_all]
      go_wp2
      go_ret
      exact ⟨rfl, rfl⟩
theorem refFmix32_any (h : BitVec 32) (w : World) :
    Calls Tryd.prog 22 #[.int .u32 (W32 h)] w (Gives (.int .u32 (W32 (fmix32 h))) w) := by
  go_enter Tryd.func22, Tryd.ntmps22
  go_wp2_with fail
  refine (refFold7_any _ 16 16 _ rfl (by omega) (by omega)).mono ?_
  rintro e w' ⟨rfl, rfl⟩
  have h1 := narrow_fold h 16 65536#32 rfl
  go_wp2_with fail
  clear h1
  refine (refFold7_any _ 13 13 _ rfl (by omega) (by omega)).mono ?_
  rintro e w' ⟨rfl, rfl⟩
  have h2 := narrow_fold ((h ^^^ h / 65536#32) * 2246822507#32) 13 8192#32 rfl
  go_wp2_with fail
  clear h2
  refine (refFold7_any _ 16 16 _ rfl (by omega) (by omega)).mono ?_
  rintro e w' ⟨rfl, rfl⟩
  have h3 := narrow_fold (((h ^^^ h / 65536#32) * 2246822507#32 ^^^ (h ^^^ h / 65536#32) * 2246822507#32 / 8192#32) * 3266489909#32) 16 65536#32 rfl
  go_wp2_with fail
  clear h3
  go_ret
  exact ⟨rfl, rfl⟩
end Go.Proofs.YteicdilbmaboiaaDoor
