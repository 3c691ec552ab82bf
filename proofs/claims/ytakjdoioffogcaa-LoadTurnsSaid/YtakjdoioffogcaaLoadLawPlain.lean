/- What the laws of layer 2 lean on, in plain words. No program in sight. -/
import Derived.Test.YtakjdoioffogcaaPut
import Derived.Test.YtakjdoioffogcaaSwap
namespace Go.Proofs.Ytakjdoioffogcaa
set_option linter.unusedVariables false
set_option linter.unusedSimpArgs false

theorem rotl64_back (x : BitVec 64) (n : Int) : rotl64 (rotl64 x n) (64 - n % 64) = x := by
  unfold rotl64
  have h5 := Int.emod_nonneg n (show (64 : Int) ≠ 0 by omega)
  have h6 := Int.emod_lt_of_pos n (show (0 : Int) < 64 by omega)
  obtain ⟨k, hk⟩ := Int.eq_ofNat_of_zero_le h5
  rw [hk] at h6 ⊢
  have e : ((64 - (k : Int)) % 64).toNat = (64 - k) % 64 := by omega
  rw [e, Int.toNat_natCast]
  apply BitVec.eq_of_getLsbD_eq
  intro i hi
  simp only [BitVec.getLsbD_rotateLeft, Nat.mod_mod]
  rw [Nat.mod_eq_of_lt (by omega : k < 64)]
  by_cases h0 : k = 0
  · subst h0; simp [hi]
  · rw [Nat.mod_eq_of_lt (by omega : 64 - k < 64)]
    by_cases h1 : i < 64 - k
    · simp [h1, hi, show ¬ 64 - (64 - k) + i < k by omega, show 64 - (64 - k) + i - k = i by omega, show 64 - (64 - k) + i < 64 by omega]
    · simp [h1, hi, show i - (64 - k) < k by omega, show 64 - k + (i - (64 - k)) = i by omega]
theorem leb_cons (x : BitVec 64) (k : Nat) : leb x (k + 1) = x.setWidth 8 :: leb (x >>> 8) k := by
  unfold leb
  rw [List.range_succ_eq_map, List.map_cons, List.map_map]
  congr 1
  apply List.map_congr_left
  intro i _
  simp only [Function.comp_def, ← BitVec.shiftRight_add]
  congr 2; omega
theorem le_leb (k : Nat) : ∀ (x : BitVec 64), k ≤ 8 → (le (leb x k)).toNat = x.toNat % 2 ^ (8 * k) := by
  induction k with
  | zero => intro x _; simp [leb, le, Nat.mod_one]
  | succ k ih =>
    intro x hk
    rw [leb_cons, le, BitVec.toNat_add, BitVec.toNat_mul, ih (x >>> 8) (by omega), BitVec.toNat_ushiftRight, Nat.shiftRight_eq_div_pow, BitVec.toNat_setWidth, BitVec.toNat_setWidth]
    have h1 : 2 ^ (8 * (k + 1)) = 2 ^ 8 * 2 ^ (8 * k) := by rw [← Nat.pow_add]; congr 1; omega
    have h2 : x.toNat % 2 ^ (8 * (k + 1)) < 2 ^ 64 := Nat.lt_of_le_of_lt (Nat.mod_le _ _) x.isLt
    rw [h1, Nat.mod_mul] at h2 ⊢
    have e : (256#64).toNat = 2 ^ 8 := rfl
    rw [e]
    omega
theorem le_leb8 (x : BitVec 64) : le (leb x 8) = x := by
  apply BitVec.eq_of_toNat_eq; rw [le_leb 8 x (by omega)]; exact Nat.mod_eq_of_lt x.isLt
theorem le_leb4 (x : BitVec 32) : (le (leb (x.setWidth 64) 4)).setWidth 32 = x := by
  apply BitVec.eq_of_toNat_eq
  rw [BitVec.toNat_setWidth, le_leb 4 _ (by omega), BitVec.toNat_setWidth]
  have := x.isLt
  omega
theorem le_lt : ∀ (l : Bytes), l.length ≤ 4 → (le l).toNat < 256 ^ l.length
  | [], _ => by simp [le]
  | b :: r, h => by
    have ih := le_lt r (by simp at h; omega)
    have hb := b.isLt
    have hp : 256 ^ (b :: r).length = 256 * 256 ^ r.length := by rw [List.length_cons, Nat.pow_succ, Nat.mul_comm]
    have hr : 256 ^ r.length ≤ 256 ^ 3 := Nat.pow_le_pow_right (by decide) (by simp at h; omega)
    rw [le, BitVec.toNat_add, BitVec.toNat_mul, BitVec.toNat_setWidth, hp]
    have e : (256#64).toNat = 256 := rfl
    rw [e]
    omega
theorem setW_le4 (l : Bytes) (p : Nat) : BitVec.setWidth 64 (BitVec.setWidth 32 (le ((l.drop p).take 4))) = le ((l.drop p).take 4) := by
  apply BitVec.eq_of_toNat_eq
  have h := le_lt ((l.drop p).take 4) (List.length_take_le _ _)
  have h2 : 256 ^ ((l.drop p).take 4).length ≤ 256 ^ 4 := Nat.pow_le_pow_right (by decide) (List.length_take_le _ _)
  rw [BitVec.toNat_setWidth, BitVec.toNat_setWidth]
  omega
end Go.Proofs.Ytakjdoioffogcaa
