/- Remainders of words by words. -/
import Derived.Test.YteicdilbmaboiaaDoorWords
namespace Go.Proofs.YteicdilbmaboiaaDoor
set_option linter.unusedVariables false
set_option linter.unusedSimpArgs false
open Go.RowKit
@[go_sem] theorem W64_mod' (x y : BitVec 64) : W64 x % W64 y = W64 (x % y) := by
  simp only [W64, BitVec.toNat_umod]; rfl
@[go_sem] theorem W64_tmod' (x y : BitVec 64) : (W64 x).tmod (W64 y) = W64 (x % y) := by
  rw [Int.tmod_eq_emod_of_nonneg (W64_nn x), W64_mod']
@[go_sem] theorem W64_bne (x y : BitVec 64) : (W64 x != W64 y) = (x != y) := by simp only [bne, W64_beq]
@[go_sem] theorem W32_bne (x y : BitVec 32) : (W32 x != W32 y) = (x != y) := by simp only [bne, W32_beq]
@[go_sem] theorem W64_bne_lit (x : BitVec 64) (n : Nat) (h : n < 18446744073709551616) : (W64 x != no_index (OfNat.ofNat n : Int)) = (x != BitVec.ofNat 64 n) := by simp only [bne, W64_beq_lit x n h]
@[go_sem] theorem W32_bne_lit (x : BitVec 32) (n : Nat) (h : n < 4294967296) : (W32 x != no_index (OfNat.ofNat n : Int)) = (x != BitVec.ofNat 32 n) := by simp only [bne, W32_beq_lit x n h]
theorem wide_div (s : BitVec 32) : s.setWidth 64 / 4294967296#64 = 0#64 := by
  apply BitVec.eq_of_toNat_eq
  have := s.isLt
  simp only [BitVec.toNat_udiv, BitVec.toNat_setWidth, BitVec.toNat_ofNat]
  rw [show 4294967296 % 2 ^ 64 = 4294967296 from rfl, show 0 % 2 ^ 64 = 0 from rfl]
  omega
theorem ofNat_mod (n m : Nat) (hn : n < 18446744073709551616) (hm : m < 18446744073709551616) : BitVec.ofNat 64 n % BitVec.ofNat 64 m = BitVec.ofNat 64 (n % m) := by
  apply BitVec.eq_of_toNat_eq
  simp only [BitVec.toNat_umod, BitVec.toNat_ofNat]
  rw [Nat.mod_eq_of_lt (show n < 2 ^ 64 by omega), Nat.mod_eq_of_lt (show m < 2 ^ 64 by omega)]
  exact (Nat.mod_eq_of_lt (Nat.lt_of_le_of_lt (Nat.mod_le _ _) (by omega))).symm
theorem ofNat_inj' {n m : Nat} (hn : n < 18446744073709551616) (hm : m < 18446744073709551616) (h : BitVec.ofNat 64 n = BitVec.ofNat 64 m) : n = m := by
  have := congrArg BitVec.toNat h
  simp only [BitVec.toNat_ofNat] at this
  omega
end Go.Proofs.YteicdilbmaboiaaDoor
