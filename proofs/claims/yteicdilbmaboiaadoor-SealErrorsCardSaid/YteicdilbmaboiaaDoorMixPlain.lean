/- Words folded onto themselves: the reference's way, bit by bit, comes to the program's. No program in sight. -/
import Derived.Test.YteicdilbmaboiaaDoorRotPlain
namespace Go.Proofs.YteicdilbmaboiaaDoor
set_option linter.unusedVariables false
set_option linter.unusedSimpArgs false

/-- Murmur's last turns of 32 bits. -/
def fmix32 (h : BitVec 32) : BitVec 32 :=
  ((h ^^^ h / 65536#32) * 2246822507#32 ^^^ (h ^^^ h / 65536#32) * 2246822507#32 / 8192#32) * 3266489909#32 ^^^
    ((h ^^^ h / 65536#32) * 2246822507#32 ^^^ (h ^^^ h / 65536#32) * 2246822507#32 / 8192#32) * 3266489909#32 / 65536#32
theorem bit_parity (a b j : Nat) : (a ^^^ b) / 2 ^ j % 2 = (a / 2 ^ j % 2 + b / 2 ^ j % 2) % 2 := by
  have h := Nat.testBit_xor a b j
  simp only [Nat.testBit_eq_decide_div_mod_eq] at h
  have h1 := Nat.mod_two_eq_zero_or_one (a / 2 ^ j)
  have h2 := Nat.mod_two_eq_zero_or_one (b / 2 ^ j)
  have h3 := Nat.mod_two_eq_zero_or_one ((a ^^^ b) / 2 ^ j)
  rcases h1 with h1 | h1 <;> rcases h2 with h2 | h2 <;> rcases h3 with h3 | h3 <;> simp_all
/-- The lowest j bits. -/
def lowb (x : BitVec 64) (j : Nat) : BitVec 64 := BitVec.ofNat 64 (x.toNat % 2 ^ j)
theorem lowb_zero (x : BitVec 64) : lowb x 0 = 0#64 := by simp [lowb, Nat.mod_one]
theorem lowb_all (x : BitVec 64) : lowb x 64 = x := by
  apply BitVec.eq_of_toNat_eq
  have := x.isLt
  simp [lowb, BitVec.toNat_ofNat]
  omega
theorem mod_pow_succ' (n j : Nat) : n % 2 ^ (j + 1) = n % 2 ^ j + 2 ^ j * (n / 2 ^ j % 2) := by
  rw [Nat.pow_succ, Nat.mod_mul]
theorem O64_bit (z : BitVec 64) (j : Nat) : O64 ((W64 z / 2 ^ j).tmod 2) = BitVec.ofNat 64 (z.toNat / 2 ^ j % 2) := by
  have e : (W64 z / 2 ^ j).tmod 2 = ((z.toNat / 2 ^ j % 2 : Nat) : Int) := by
    rw [Int.tmod_eq_emod_of_nonneg (Int.ediv_nonneg (W64_nn z) (by exact Int.le_of_lt (Int.pow_pos (by decide))))]
    simp [W64]
  rw [e, O64_nat]
theorem O64_pow (j : Nat) : O64 (2 ^ j) = BitVec.ofNat 64 (2 ^ j) := by
  rw [← O64_nat]; congr 1
theorem min_shift (j : Nat) (h : j < 64) : min (W64 (BitVec.ofNat 64 j)).toNat 64 = j := by
  rw [W64_of_nat j (by omega)]; omega
theorem min_shift2 (j k : Nat) (h : j + k < 64) : min (W64 (BitVec.ofNat 64 j + BitVec.ofNat 64 k)).toNat 64 = j + k := by
  rw [← BitVec.ofNat_add]; exact min_shift _ h
theorem fold_bit (z : BitVec 64) (k j : Nat) : (z ^^^ z >>> k).toNat / 2 ^ j % 2 = (z.toNat / 2 ^ j % 2 + z.toNat / 2 ^ (j + k) % 2) % 2 := by
  rw [BitVec.toNat_xor, BitVec.toNat_ushiftRight, bit_parity, Nat.shiftRight_eq_div_pow, Nat.div_div_eq_div_mul, ← Nat.pow_add, Nat.add_comm k j]
theorem low_next (x : BitVec 64) (j b : Nat) (hj : j < 64) (hb : x.toNat / 2 ^ j % 2 = b) : lowb x j + BitVec.ofNat 64 b * BitVec.ofNat 64 (2 ^ j) = lowb x (j + 1) := by
  unfold lowb
  rw [mod_pow_succ', hb, Nat.mul_comm (2 ^ j) b, BitVec.ofNat_add, BitVec.ofNat_mul]
theorem par_mod (a b : Nat) (ha : a < 2) (hb : b < 2) : (BitVec.ofNat 64 a + BitVec.ofNat 64 b) % 2#64 = BitVec.ofNat 64 ((a + b) % 2) := by
  rcases (show a = 0 ∨ a = 1 by omega) with rfl | rfl <;> rcases (show b = 0 ∨ b = 1 by omega) with rfl | rfl <;> rfl
theorem fold_step2 (z : BitVec 64) (k j : Nat) (hj : j + k < 64) : lowb (z ^^^ z >>> k) j +
    (O64 ((W64 z / 2 ^ min (W64 (BitVec.ofNat 64 j)).toNat 64).tmod 2) + O64 ((W64 z / 2 ^ min (W64 (BitVec.ofNat 64 j + BitVec.ofNat 64 k)).toNat 64).tmod 2)) % 2#64 *
      O64 (2 ^ min (W64 (BitVec.ofNat 64 j)).toNat 64) = lowb (z ^^^ z >>> k) (j + 1) := by
  rw [min_shift j (by omega), min_shift2 j k hj, O64_bit, O64_bit, O64_pow, par_mod _ _ (Nat.mod_lt _ (by omega)) (Nat.mod_lt _ (by omega))]
  exact low_next _ _ _ (by omega) (fold_bit z k j)
theorem fold_step1 (z : BitVec 64) (k j : Nat) (hj : j < 64) (hk : 64 ≤ j + k) : lowb (z ^^^ z >>> k) j +
    O64 ((W64 z / 2 ^ min (W64 (BitVec.ofNat 64 j)).toNat 64).tmod 2) * O64 (2 ^ min (W64 (BitVec.ofNat 64 j)).toNat 64) = lowb (z ^^^ z >>> k) (j + 1) := by
  rw [min_shift j (by omega), O64_bit, O64_pow]
  have h0 : z.toNat / 2 ^ (j + k) = 0 := Nat.div_eq_of_lt (Nat.lt_of_lt_of_le z.isLt (Nat.pow_le_pow_right (by omega) hk))
  refine low_next _ _ _ (by omega) ?_
  rw [fold_bit, h0]; simp
theorem div_shr32 (x c : BitVec 32) (k : Nat) (h : c.toNat = 2 ^ k) : x / c = x >>> k := by
  apply BitVec.eq_of_toNat_eq
  rw [BitVec.toNat_udiv, BitVec.toNat_ushiftRight, h, Nat.shiftRight_eq_div_pow]
theorem div_shr64 (x c : BitVec 64) (k : Nat) (h : c.toNat = 2 ^ k) : x / c = x >>> k := by
  apply BitVec.eq_of_toNat_eq
  rw [BitVec.toNat_udiv, BitVec.toNat_ushiftRight, h, Nat.shiftRight_eq_div_pow]
theorem narrow_fold (h : BitVec 32) (k : Nat) (c : BitVec 32) (hc : c.toNat = 2 ^ k) : BitVec.setWidth 32 (h.setWidth 64 ^^^ h.setWidth 64 >>> k) = h ^^^ h / c := by
  rw [div_shr32 h c k hc]
  apply BitVec.eq_of_toNat_eq
  have h1 := h.isLt
  have h2 : h.toNat >>> k < 4294967296 := by rw [Nat.shiftRight_eq_div_pow]; exact Nat.lt_of_le_of_lt (Nat.div_le_self _ _) h1
  have h3 : h.toNat ^^^ h.toNat >>> k < 2 ^ 32 := Nat.xor_lt_two_pow h1 h2
  simp only [BitVec.toNat_setWidth, BitVec.toNat_xor, BitVec.toNat_ushiftRight]
  rw [Nat.mod_eq_of_lt (show h.toNat < 2 ^ 64 by omega), Nat.mod_eq_of_lt h3]
theorem mod32 (x : BitVec 64) : BitVec.setWidth 32 (x % 4294967296#64) = BitVec.setWidth 32 x := by
  apply BitVec.eq_of_toNat_eq
  simp only [BitVec.toNat_setWidth, BitVec.toNat_umod, BitVec.toNat_ofNat]
  rw [show 4294967296 % 2 ^ 64 = 4294967296 from rfl]
  omega
end Go.Proofs.YteicdilbmaboiaaDoor
