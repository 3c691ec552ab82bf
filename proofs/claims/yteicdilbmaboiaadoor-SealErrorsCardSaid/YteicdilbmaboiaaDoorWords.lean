/- Words of 8, 32 and 64 bits as the walk's numbers: what the walk's arithmetic on them comes to. No program in sight. -/
import Derived.WalkKit
import Derived.WalkSpells
import Derived.WalkLawsBesides
import Derived.Lib.Hide
import Derived.BigQuiet
namespace Go.Proofs.YteicdilbmaboiaaDoor
set_option linter.unusedVariables false
set_option linter.unusedSimpArgs false
open Go.RowKit

def W64 (x : BitVec 64) : Int := (x.toNat : Int)
def W32 (x : BitVec 32) : Int := (x.toNat : Int)
def B8 (x : BitVec 8) : Int := (x.toNat : Int)
def O64 (n : Int) : BitVec 64 := BitVec.ofInt 64 n
def O32 (n : Int) : BitVec 32 := BitVec.ofInt 32 n
def O8 (n : Int) : BitVec 8 := BitVec.ofInt 8 n

theorem wrapu64_raw (n : Int) : IntKind.u64.wrap n = n % 18446744073709551616 := by simp [IntKind.wrap, IntKind.bits, IntKind.signed]
theorem wrapu32_raw (n : Int) : IntKind.u32.wrap n = n % 4294967296 := by simp [IntKind.wrap, IntKind.bits, IntKind.signed]
theorem wrapu8_raw (n : Int) : IntKind.u8.wrap n = n % 256 := by simp [IntKind.wrap, IntKind.bits, IntKind.signed]

@[go_sem] theorem wrapu64 (n : Int) : IntKind.u64.wrap n = W64 (O64 n) := by
  rw [wrapu64_raw, W64, O64, BitVec.toNat_ofInt]; omega
@[go_sem] theorem wrapu32 (n : Int) : IntKind.u32.wrap n = W32 (O32 n) := by
  rw [wrapu32_raw, W32, O32, BitVec.toNat_ofInt]; omega
@[go_sem] theorem wrapu8 (n : Int) : IntKind.u8.wrap n = B8 (O8 n) := by
  rw [wrapu8_raw, B8, O8, BitVec.toNat_ofInt]; omega

theorem W64_lt (x : BitVec 64) : 0 ≤ W64 x ∧ W64 x < 18446744073709551616 := by unfold W64; have := x.isLt; omega
theorem W32_lt (x : BitVec 32) : 0 ≤ W32 x ∧ W32 x < 4294967296 := by unfold W32; have := x.isLt; omega
theorem B8_lt (x : BitVec 8) : 0 ≤ B8 x ∧ B8 x < 256 := by unfold B8; have := x.isLt; omega
@[go_sem] theorem W64_nn (x : BitVec 64) : 0 ≤ W64 x := (W64_lt x).1
@[go_sem] theorem W32_nn (x : BitVec 32) : 0 ≤ W32 x := (W32_lt x).1
@[go_sem] theorem B8_nn (x : BitVec 8) : 0 ≤ B8 x := (B8_lt x).1

/-! ### The word of a number -/
theorem ofInt_sub' (w : Nat) (a b : Int) : BitVec.ofInt w (a - b) = BitVec.ofInt w a - BitVec.ofInt w b := by
  rw [Int.sub_eq_add_neg, BitVec.ofInt_add, BitVec.ofInt_neg, BitVec.sub_eq_add_neg]
@[go_sem] theorem O64_add (a b : Int) : O64 (a + b) = O64 a + O64 b := BitVec.ofInt_add a b
@[go_sem] theorem O64_mul (a b : Int) : O64 (a * b) = O64 a * O64 b := BitVec.ofInt_mul a b
@[go_sem] theorem O64_sub (a b : Int) : O64 (a - b) = O64 a - O64 b := ofInt_sub' _ _ _
@[go_sem] theorem O64_W64 (x : BitVec 64) : O64 (W64 x) = x := by simp [O64, W64]
@[go_sem] theorem O64_W32 (x : BitVec 32) : O64 (W32 x) = x.setWidth 64 := by
  simp only [O64, W32]; apply BitVec.eq_of_toNat_eq; simp
@[go_sem] theorem O64_B8 (x : BitVec 8) : O64 (B8 x) = x.setWidth 64 := by
  simp only [O64, B8]; apply BitVec.eq_of_toNat_eq; simp
@[go_sem] theorem O64_nat (n : Nat) : O64 (n : Int) = BitVec.ofNat 64 n := by simp [O64]
@[go_sem] theorem O64_lit (n : Nat) : O64 (no_index (OfNat.ofNat n)) = BitVec.ofNat 64 n := by
  show BitVec.ofInt 64 ((n : Nat) : Int) = _; rw [BitVec.ofInt_natCast]
@[go_sem] theorem O32_add (a b : Int) : O32 (a + b) = O32 a + O32 b := BitVec.ofInt_add a b
@[go_sem] theorem O32_mul (a b : Int) : O32 (a * b) = O32 a * O32 b := BitVec.ofInt_mul a b
@[go_sem] theorem O32_sub (a b : Int) : O32 (a - b) = O32 a - O32 b := ofInt_sub' _ _ _
@[go_sem] theorem O32_W32 (x : BitVec 32) : O32 (W32 x) = x := by simp [O32, W32]
@[go_sem] theorem O32_W64 (x : BitVec 64) : O32 (W64 x) = x.setWidth 32 := by
  simp only [O32, W64]; apply BitVec.eq_of_toNat_eq; simp
@[go_sem] theorem O32_B8 (x : BitVec 8) : O32 (B8 x) = x.setWidth 32 := by
  simp only [O32, B8]; apply BitVec.eq_of_toNat_eq; simp
@[go_sem] theorem O32_nat (n : Nat) : O32 (n : Int) = BitVec.ofNat 32 n := by simp [O32]
@[go_sem] theorem O32_lit (n : Nat) : O32 (no_index (OfNat.ofNat n)) = BitVec.ofNat 32 n := by
  show BitVec.ofInt 32 ((n : Nat) : Int) = _; rw [BitVec.ofInt_natCast]
@[go_sem] theorem O8_W64 (x : BitVec 64) : O8 (W64 x) = x.setWidth 8 := by
  simp only [O8, W64]; apply BitVec.eq_of_toNat_eq; simp
@[go_sem] theorem O8_W32 (x : BitVec 32) : O8 (W32 x) = x.setWidth 8 := by
  simp only [O8, W32]; apply BitVec.eq_of_toNat_eq; simp
@[go_sem] theorem O8_B8 (x : BitVec 8) : O8 (B8 x) = x := by simp [O8, B8]
@[go_sem] theorem O8_add (a b : Int) : O8 (a + b) = O8 a + O8 b := BitVec.ofInt_add a b
@[go_sem] theorem O8_sub (a b : Int) : O8 (a - b) = O8 a - O8 b := ofInt_sub' _ _ _
@[go_sem] theorem O8_lit (n : Nat) : O8 (no_index (OfNat.ofNat n)) = BitVec.ofNat 8 n := by
  show BitVec.ofInt 8 ((n : Nat) : Int) = _; rw [BitVec.ofInt_natCast]
@[go_sem] theorem O8_nat (n : Nat) : O8 (n : Int) = BitVec.ofNat 8 n := by simp [O8]

/-! ### Quotient, remainder -/
theorem W64_divn (x : BitVec 64) (n : Nat) (h : n < 18446744073709551616) : W64 x / (n : Int) = W64 (x / BitVec.ofNat 64 n) := by
  have e : (BitVec.ofNat 64 n).toNat = n := by rw [BitVec.toNat_ofNat]; exact Nat.mod_eq_of_lt h
  simp only [W64, BitVec.toNat_udiv, e]; rfl
theorem W64_modn (x : BitVec 64) (n : Nat) (h : n < 18446744073709551616) : W64 x % (n : Int) = W64 (x % BitVec.ofNat 64 n) := by
  have e : (BitVec.ofNat 64 n).toNat = n := by rw [BitVec.toNat_ofNat]; exact Nat.mod_eq_of_lt h
  simp only [W64, BitVec.toNat_umod, e]; rfl
theorem W32_divn (x : BitVec 32) (n : Nat) (h : n < 4294967296) : W32 x / (n : Int) = W32 (x / BitVec.ofNat 32 n) := by
  have e : (BitVec.ofNat 32 n).toNat = n := by rw [BitVec.toNat_ofNat]; exact Nat.mod_eq_of_lt h
  simp only [W32, BitVec.toNat_udiv, e]; rfl
theorem W32_modn (x : BitVec 32) (n : Nat) (h : n < 4294967296) : W32 x % (n : Int) = W32 (x % BitVec.ofNat 32 n) := by
  have e : (BitVec.ofNat 32 n).toNat = n := by rw [BitVec.toNat_ofNat]; exact Nat.mod_eq_of_lt h
  simp only [W32, BitVec.toNat_umod, e]; rfl
@[go_sem] theorem W64_div (x : BitVec 64) (n : Nat) (h : n < 18446744073709551616) : W64 x / no_index (OfNat.ofNat n : Int) = W64 (x / BitVec.ofNat 64 n) := W64_divn x n h
@[go_sem] theorem W32_div (x : BitVec 32) (n : Nat) (h : n < 4294967296) : W32 x / no_index (OfNat.ofNat n : Int) = W32 (x / BitVec.ofNat 32 n) := W32_divn x n h
@[go_sem] theorem W64_mod (x : BitVec 64) (n : Nat) (h : n < 18446744073709551616) : W64 x % no_index (OfNat.ofNat n : Int) = W64 (x % BitVec.ofNat 64 n) := W64_modn x n h
@[go_sem] theorem W32_mod (x : BitVec 32) (n : Nat) (h : n < 4294967296) : W32 x % no_index (OfNat.ofNat n : Int) = W32 (x % BitVec.ofNat 32 n) := W32_modn x n h
@[go_sem] theorem W64_tdiv (x : BitVec 64) (n : Nat) (h : n < 18446744073709551616) : (W64 x).tdiv (no_index (OfNat.ofNat n : Int)) = W64 (x / BitVec.ofNat 64 n) := by
  rw [Int.tdiv_eq_ediv_of_nonneg (W64_nn x)]; exact W64_divn x n h
@[go_sem] theorem W32_tdiv (x : BitVec 32) (n : Nat) (h : n < 4294967296) : (W32 x).tdiv (no_index (OfNat.ofNat n : Int)) = W32 (x / BitVec.ofNat 32 n) := by
  rw [Int.tdiv_eq_ediv_of_nonneg (W32_nn x)]; exact W32_divn x n h
@[go_sem] theorem W64_tmod (x : BitVec 64) (n : Nat) (h : n < 18446744073709551616) : (W64 x).tmod (no_index (OfNat.ofNat n : Int)) = W64 (x % BitVec.ofNat 64 n) := by
  rw [Int.tmod_eq_emod_of_nonneg (W64_nn x)]; exact W64_modn x n h
@[go_sem] theorem W32_tmod (x : BitVec 32) (n : Nat) (h : n < 4294967296) : (W32 x).tmod (no_index (OfNat.ofNat n : Int)) = W32 (x % BitVec.ofNat 32 n) := by
  rw [Int.tmod_eq_emod_of_nonneg (W32_nn x)]; exact W32_modn x n h

/-! ### Bits -/
@[go_sem] theorem bits_xor64 (a b : Int) : bits .xor .u64 a b = W64 (O64 a ^^^ O64 b) := by
  show IntKind.u64.wrap ((BitVec.ofInt 64 a ^^^ BitVec.ofInt 64 b).toNat : Int) = _
  rw [wrapu64, O64_nat, BitVec.ofNat_toNat, BitVec.setWidth_eq]; rfl
@[go_sem] theorem bits_and64 (a b : Int) : bits .and .u64 a b = W64 (O64 a &&& O64 b) := by
  show IntKind.u64.wrap ((BitVec.ofInt 64 a &&& BitVec.ofInt 64 b).toNat : Int) = _
  rw [wrapu64, O64_nat, BitVec.ofNat_toNat, BitVec.setWidth_eq]; rfl
@[go_sem] theorem bits_or64 (a b : Int) : bits .or .u64 a b = W64 (O64 a ||| O64 b) := by
  show IntKind.u64.wrap ((BitVec.ofInt 64 a ||| BitVec.ofInt 64 b).toNat : Int) = _
  rw [wrapu64, O64_nat, BitVec.ofNat_toNat, BitVec.setWidth_eq]; rfl
@[go_sem] theorem bits_xor32 (a b : Int) : bits .xor .u32 a b = W32 (O32 a ^^^ O32 b) := by
  show IntKind.u32.wrap ((BitVec.ofInt 32 a ^^^ BitVec.ofInt 32 b).toNat : Int) = _
  rw [wrapu32, O32_nat, BitVec.ofNat_toNat, BitVec.setWidth_eq]; rfl
@[go_sem] theorem bits_and32 (a b : Int) : bits .and .u32 a b = W32 (O32 a &&& O32 b) := by
  show IntKind.u32.wrap ((BitVec.ofInt 32 a &&& BitVec.ofInt 32 b).toNat : Int) = _
  rw [wrapu32, O32_nat, BitVec.ofNat_toNat, BitVec.setWidth_eq]; rfl
@[go_sem] theorem bits_or32 (a b : Int) : bits .or .u32 a b = W32 (O32 a ||| O32 b) := by
  show IntKind.u32.wrap ((BitVec.ofInt 32 a ||| BitVec.ofInt 32 b).toNat : Int) = _
  rw [wrapu32, O32_nat, BitVec.ofNat_toNat, BitVec.setWidth_eq]; rfl

/-! ### Tests -/
@[go_sem] theorem W64_inj (x y : BitVec 64) : (W64 x = W64 y) = (x = y) := by
  apply propext; constructor
  · intro h; apply BitVec.eq_of_toNat_eq; unfold W64 at h; omega
  · rintro rfl; rfl
@[go_sem] theorem W32_inj (x y : BitVec 32) : (W32 x = W32 y) = (x = y) := by
  apply propext; constructor
  · intro h; apply BitVec.eq_of_toNat_eq; unfold W32 at h; omega
  · rintro rfl; rfl
@[go_sem] theorem B8_inj (x y : BitVec 8) : (B8 x = B8 y) = (x = y) := by
  apply propext; constructor
  · intro h; apply BitVec.eq_of_toNat_eq; unfold B8 at h; omega
  · rintro rfl; rfl
@[go_sem] theorem W64_beq (x y : BitVec 64) : (W64 x == W64 y) = (x == y) := by
  rw [Bool.eq_iff_iff]; simp only [beq_iff_eq, W64_inj]
@[go_sem] theorem W32_beq (x y : BitVec 32) : (W32 x == W32 y) = (x == y) := by
  rw [Bool.eq_iff_iff]; simp only [beq_iff_eq, W32_inj]
theorem W64_of_nat (n : Nat) (h : n < 18446744073709551616) : W64 (BitVec.ofNat 64 n) = (n : Int) := by
  unfold W64; rw [BitVec.toNat_ofNat]; congr 1; exact Nat.mod_eq_of_lt h
theorem W32_of_nat (n : Nat) (h : n < 4294967296) : W32 (BitVec.ofNat 32 n) = (n : Int) := by
  unfold W32; rw [BitVec.toNat_ofNat]; congr 1; exact Nat.mod_eq_of_lt h
theorem B8_of_nat (n : Nat) (h : n < 256) : B8 (BitVec.ofNat 8 n) = (n : Int) := by
  unfold B8; rw [BitVec.toNat_ofNat]; congr 1; exact Nat.mod_eq_of_lt h
@[go_sem] theorem W64_beq_lit (x : BitVec 64) (n : Nat) (h : n < 18446744073709551616) : (W64 x == no_index (OfNat.ofNat n : Int)) = (x == BitVec.ofNat 64 n) := by
  have e : (OfNat.ofNat n : Int) = W64 (BitVec.ofNat 64 n) := (W64_of_nat _ h).symm
  rw [e, W64_beq]
@[go_sem] theorem W32_beq_lit (x : BitVec 32) (n : Nat) (h : n < 4294967296) : (W32 x == no_index (OfNat.ofNat n : Int)) = (x == BitVec.ofNat 32 n) := by
  have e : (OfNat.ofNat n : Int) = W32 (BitVec.ofNat 32 n) := (W32_of_nat _ h).symm
  rw [e, W32_beq]
@[go_sem] theorem W64_eq_lit (x : BitVec 64) (n : Nat) (h : n < 18446744073709551616) : (W64 x = no_index (OfNat.ofNat n : Int)) = (x = BitVec.ofNat 64 n) := by
  have e : (OfNat.ofNat n : Int) = W64 (BitVec.ofNat 64 n) := (W64_of_nat _ h).symm
  rw [e, W64_inj]
@[go_sem] theorem W32_eq_lit (x : BitVec 32) (n : Nat) (h : n < 4294967296) : (W32 x = no_index (OfNat.ofNat n : Int)) = (x = BitVec.ofNat 32 n) := by
  have e : (OfNat.ofNat n : Int) = W32 (BitVec.ofNat 32 n) := (W32_of_nat _ h).symm
  rw [e, W32_inj]

/-! ### Numerals as words -/
theorem lit64 (n : Nat) (h : n < 18446744073709551616) : (OfNat.ofNat n : Int) = W64 (BitVec.ofNat 64 n) := (W64_of_nat _ h).symm
theorem lit32 (n : Nat) (h : n < 4294967296) : (OfNat.ofNat n : Int) = W32 (BitVec.ofNat 32 n) := (W32_of_nat _ h).symm
theorem lit8 (n : Nat) (h : n < 256) : (OfNat.ofNat n : Int) = B8 (BitVec.ofNat 8 n) := (B8_of_nat _ h).symm
end Go.Proofs.YteicdilbmaboiaaDoor
