/- Turning words: what the program reckons (two shifts, and their sum) and what the reference reckons (one bit after the other) is rotateLeft. No program in sight. -/
import Derived.Test.YteicdilbmaboiaaDoorBytes
namespace Go.Proofs.YteicdilbmaboiaaDoor
set_option linter.unusedVariables false
set_option linter.unusedSimpArgs false

/-- turned to the left -/
def rotl32 (x : BitVec 32) (n : Int) : BitVec 32 := x.rotateLeft (n % 32).toNat
def rotl64 (x : BitVec 64) (n : Int) : BitVec 64 := x.rotateLeft (n % 64).toNat

theorem and31 (n : Int) : (W64 (O64 (n.tmod 32) &&& 31#64)).toNat = (n % 32).toNat := by
  have h : (O64 (n.tmod 32) &&& 31#64).toNat = (BitVec.ofInt 64 (n.tmod 32)).toNat % 32 := by
    rw [BitVec.toNat_and]; exact Nat.and_two_pow_sub_one_eq_mod _ 5
  unfold W64; rw [h, BitVec.toNat_ofInt, Int.tmod_def]; omega
theorem and63 (n : Int) : (W64 (O64 (n.tmod 64) &&& 63#64)).toNat = (n % 64).toNat := by
  have h : (O64 (n.tmod 64) &&& 63#64).toNat = (BitVec.ofInt 64 (n.tmod 64)).toNat % 64 := by
    rw [BitVec.toNat_and]; exact Nat.and_two_pow_sub_one_eq_mod _ 6
  unfold W64; rw [h, BitVec.toNat_ofInt, Int.tmod_def]; omega
theorem pow32 (x : BitVec 32) (s : Nat) : x * O32 (2 ^ s) = x <<< s := by
  rw [BitVec.shiftLeft_eq_mul_twoPow]; congr 1
  apply BitVec.eq_of_toNat_eq
  have : ((2 : Int) ^ s) = ((2 ^ s : Nat) : Int) := by simp
  rw [O32, this, BitVec.ofInt_natCast, BitVec.toNat_ofNat, BitVec.toNat_twoPow]
theorem pow64 (x : BitVec 64) (s : Nat) : x * O64 (2 ^ s) = x <<< s := by
  rw [BitVec.shiftLeft_eq_mul_twoPow]; congr 1
  apply BitVec.eq_of_toNat_eq
  have : ((2 : Int) ^ s) = ((2 ^ s : Nat) : Int) := by simp
  rw [O64, this, BitVec.ofInt_natCast, BitVec.toNat_ofNat, BitVec.toNat_twoPow]
theorem shr32 (x : BitVec 32) (s : Nat) : O32 (W32 x / 2 ^ s) = x >>> s := by
  have : W32 x / 2 ^ s = ((x.toNat / 2 ^ s : Nat) : Int) := by unfold W32; simp
  rw [this, O32_nat]; apply BitVec.eq_of_toNat_eq
  rw [BitVec.toNat_ofNat, BitVec.toNat_ushiftRight, Nat.shiftRight_eq_div_pow]
  exact Nat.mod_eq_of_lt (Nat.lt_of_le_of_lt (Nat.div_le_self _ _) x.isLt)
theorem shr64 (x : BitVec 64) (s : Nat) : O64 (W64 x / 2 ^ s) = x >>> s := by
  have : W64 x / 2 ^ s = ((x.toNat / 2 ^ s : Nat) : Int) := by unfold W64; simp
  rw [this, O64_nat]; apply BitVec.eq_of_toNat_eq
  rw [BitVec.toNat_ofNat, BitVec.toNat_ushiftRight, Nat.shiftRight_eq_div_pow]
  exact Nat.mod_eq_of_lt (Nat.lt_of_le_of_lt (Nat.div_le_self _ _) x.isLt)
theorem rot32_prog (x : BitVec 32) (n : Int) :
    (x * O32 (2 ^ min (W64 (O64 (n.tmod 32) &&& 31#64)).toNat 32) ||| O32 (W32 x / 2 ^ min (W64 (32#64 - (O64 (n.tmod 32) &&& 31#64))).toNat 32)) = rotl32 x n := by
  have h1 := and31 n
  have h2 : (W64 (32#64 - (O64 (n.tmod 32) &&& 31#64))).toNat = 32 - (n % 32).toNat := by
    have h3 : (O64 (n.tmod 32) &&& 31#64).toNat = (n % 32).toNat := by rw [← h1]; rfl
    show ((32#64 - (O64 (n.tmod 32) &&& 31#64)).toNat : Int).toNat = _
    rw [BitVec.toNat_sub, h3]; simp; omega
  rw [h1, h2, Nat.min_eq_left (by omega), Nat.min_eq_left (by omega), pow32, shr32]
  unfold rotl32 BitVec.rotateLeft BitVec.rotateLeftAux
  rw [Nat.mod_eq_of_lt (by omega : (n % 32).toNat < 32)]
theorem rot64_prog (x : BitVec 64) (n : Int) :
    (x * O64 (2 ^ min (W64 (O64 (n.tmod 64) &&& 63#64)).toNat 64) ||| O64 (W64 x / 2 ^ min (W64 (64#64 - (O64 (n.tmod 64) &&& 63#64))).toNat 64)) = rotl64 x n := by
  have h1 := and63 n
  have h2 : (W64 (64#64 - (O64 (n.tmod 64) &&& 63#64))).toNat = 64 - (n % 64).toNat := by
    have h3 : (O64 (n.tmod 64) &&& 63#64).toNat = (n % 64).toNat := by rw [← h1]; rfl
    show ((64#64 - (O64 (n.tmod 64) &&& 63#64)).toNat : Int).toNat = _
    rw [BitVec.toNat_sub, h3]; simp; omega
  rw [h1, h2, Nat.min_eq_left (by omega), Nat.min_eq_left (by omega), pow64, shr64]
  unfold rotl64 BitVec.rotateLeft BitVec.rotateLeftAux
  rw [Nat.mod_eq_of_lt (by omega : (n % 64).toNat < 64)]

/-! ### One bit after the other -/
theorem double32 (x : BitVec 32) : x * 2#32 + x / 2147483648#32 = x <<< 1 ||| x >>> 31 := by
  have h1 : x * 2#32 = x <<< 1 := by rw [BitVec.shiftLeft_eq_mul_twoPow]; rfl
  have h2 : x / 2147483648#32 = x >>> 31 := by
    apply BitVec.eq_of_toNat_eq
    rw [BitVec.toNat_udiv, BitVec.toNat_ushiftRight, Nat.shiftRight_eq_div_pow]; rfl
  rw [h1, h2]
  apply BitVec.add_eq_or_of_and_eq_zero
  apply BitVec.eq_of_getLsbD_eq
  intro i hi
  rw [BitVec.getLsbD_and, BitVec.getLsbD_shiftLeft, BitVec.getLsbD_ushiftRight]
  by_cases h0 : i = 0
  · subst h0; simp
  · rw [BitVec.getLsbD_of_ge x (31 + i) (by omega)]; simp
theorem double64 (x : BitVec 64) : x * 2#64 + x / 9223372036854775808#64 = x <<< 1 ||| x >>> 63 := by
  have h1 : x * 2#64 = x <<< 1 := by rw [BitVec.shiftLeft_eq_mul_twoPow]; rfl
  have h2 : x / 9223372036854775808#64 = x >>> 63 := by
    apply BitVec.eq_of_toNat_eq
    rw [BitVec.toNat_udiv, BitVec.toNat_ushiftRight, Nat.shiftRight_eq_div_pow]; rfl
  rw [h1, h2]
  apply BitVec.add_eq_or_of_and_eq_zero
  apply BitVec.eq_of_getLsbD_eq
  intro i hi
  rw [BitVec.getLsbD_and, BitVec.getLsbD_shiftLeft, BitVec.getLsbD_ushiftRight]
  by_cases h0 : i = 0
  · subst h0; simp
  · rw [BitVec.getLsbD_of_ge x (63 + i) (by omega)]; simp
theorem step32 (x : BitVec 32) (k : Nat) (hk : k + 1 < 32) : x.rotateLeft k * 2#32 + x.rotateLeft k / 2147483648#32 = x.rotateLeft (k + 1) := by
  rw [double32]
  apply BitVec.eq_of_getLsbD_eq
  intro i hi
  simp only [BitVec.getLsbD_or, BitVec.getLsbD_shiftLeft, BitVec.getLsbD_ushiftRight, BitVec.getLsbD_rotateLeft]
  rw [Nat.mod_eq_of_lt (by omega : k < 32), Nat.mod_eq_of_lt (by omega : k + 1 < 32)]
  by_cases h0 : i = 0
  · subst h0
    have e : 32 - (k + 1) + 0 = 31 + 0 - k := by omega
    rw [e, show decide (31 + 0 < k) = false from decide_eq_false (by omega), show decide (0 < k + 1) = true from decide_eq_true (by omega)]; rfl
  · by_cases h1 : i < k + 1
    · simp [h0, h1, hi, show i - 1 < k by omega, show ¬ 31 + i < 32 by omega, show 32 - k + (i - 1) = 32 - (k + 1) + i by omega, show ¬ 31 + i < k by omega]
    · simp [h0, h1, hi, show ¬ i - 1 < k by omega, show ¬ 31 + i < 32 by omega, show i - 1 - k = i - (k + 1) by omega, show ¬ 31 + i < k by omega, show i - 1 < 32 by omega]
theorem step64 (x : BitVec 64) (k : Nat) (hk : k + 1 < 64) : x.rotateLeft k * 2#64 + x.rotateLeft k / 9223372036854775808#64 = x.rotateLeft (k + 1) := by
  rw [double64]
  apply BitVec.eq_of_getLsbD_eq
  intro i hi
  simp only [BitVec.getLsbD_or, BitVec.getLsbD_shiftLeft, BitVec.getLsbD_ushiftRight, BitVec.getLsbD_rotateLeft]
  rw [Nat.mod_eq_of_lt (by omega : k < 64), Nat.mod_eq_of_lt (by omega : k + 1 < 64)]
  by_cases h0 : i = 0
  · subst h0
    have e : 64 - (k + 1) + 0 = 63 + 0 - k := by omega
    rw [e, show decide (63 + 0 < k) = false from decide_eq_false (by omega), show decide (0 < k + 1) = true from decide_eq_true (by omega)]; rfl
  · by_cases h1 : i < k + 1
    · simp [h0, h1, hi, show i - 1 < k by omega, show ¬ 63 + i < 64 by omega, show 64 - k + (i - 1) = 64 - (k + 1) + i by omega, show ¬ 63 + i < k by omega]
    · simp [h0, h1, hi, show ¬ i - 1 < k by omega, show ¬ 63 + i < 64 by omega, show i - 1 - k = i - (k + 1) by omega, show ¬ 63 + i < k by omega, show i - 1 < 64 by omega]
theorem rotl32_zero (x : BitVec 32) : x.rotateLeft 0 = x := by
  apply BitVec.eq_of_getLsbD_eq
  intro i hi
  rw [BitVec.getLsbD_rotateLeft]; simp [hi]
theorem rotl64_zero (x : BitVec 64) : x.rotateLeft 0 = x := by
  apply BitVec.eq_of_getLsbD_eq
  intro i hi
  rw [BitVec.getLsbD_rotateLeft]; simp [hi]
end Go.Proofs.YteicdilbmaboiaaDoor
