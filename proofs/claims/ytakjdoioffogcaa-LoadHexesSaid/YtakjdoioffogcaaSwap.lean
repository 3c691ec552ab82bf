/- load.Swap64 and the reference's Swap: the bytes the other way round. -/
import Derived.Test.YtakjdoioffogcaaLePlain
import Derived.Test.YtakjdoioffogcaaRot
namespace Go.Proofs.Ytakjdoioffogcaa
set_option linter.unusedVariables false
set_option linter.unusedSimpArgs false
open Go.RowKit

theorem mul256 (x : BitVec 64) : x * 256#64 = x <<< 8 := mul_shl x _ 8 rfl
theorem mul65536 (x : BitVec 64) : x * 65536#64 = x <<< 16 := mul_shl x _ 16 rfl
theorem mul2_32 (x : BitVec 64) : x * 4294967296#64 = x <<< 32 := mul_shl x _ 32 rfl
theorem div_shr (x c : BitVec 64) (k : Nat) (h : c.toNat = 2 ^ k) : x / c = x >>> k := by
  apply BitVec.eq_of_toNat_eq
  rw [BitVec.toNat_udiv, BitVec.toNat_ushiftRight, Nat.shiftRight_eq_div_pow, h]
/-- the bytes the other way round, bit by bit -/
def IsSwap (x y : BitVec 64) : Prop := ∀ i, i < 64 → y.getLsbD i = x.getLsbD (8 * (7 - i / 8) + i % 8)
theorem IsSwap.unique {x y z : BitVec 64} (h : IsSwap x y) (k : IsSwap x z) : y = z := by
  apply BitVec.eq_of_getLsbD_eq; intro i hi; rw [h i hi, k i hi]
theorem IsSwap.back {x y : BitVec 64} (h : IsSwap x y) : IsSwap y x := fun i hi => by
  rw [h _ (by omega)]; congr 1; omega
theorem m8 : ∀ i : Nat, i < 64 → (71777214294589695#64).getLsbD i = decide (i / 8 % 2 = 0) := by decide
theorem m16 : ∀ i : Nat, i < 64 → (281470681808895#64).getLsbD i = decide (i / 16 % 2 = 0) := by decide
theorem half8 (x : BitVec 64) (i : Nat) (hi : i < 64) : (x >>> 8 &&& 71777214294589695#64 ||| (x &&& 71777214294589695#64) <<< 8).getLsbD i = x.getLsbD (if i / 8 % 2 = 0 then i + 8 else i - 8) := by
  rw [BitVec.getLsbD_or, BitVec.getLsbD_and, BitVec.getLsbD_ushiftRight, BitVec.getLsbD_shiftLeft, BitVec.getLsbD_and, m8 i hi]
  by_cases h : i / 8 % 2 = 0
  · by_cases h8 : i < 8
    · simp [h, h8, Nat.add_comm]
    · rw [m8 (i - 8) (by omega)]; simp [h, show ¬ (i - 8) / 8 % 2 = 0 by omega, Nat.add_comm]
  · rw [m8 (i - 8) (by omega)]; simp [h, hi, show (i - 8) / 8 % 2 = 0 by omega, show ¬ i < 8 by omega]
theorem half16 (x : BitVec 64) (i : Nat) (hi : i < 64) : (x >>> 16 &&& 281470681808895#64 ||| (x &&& 281470681808895#64) <<< 16).getLsbD i = x.getLsbD (if i / 16 % 2 = 0 then i + 16 else i - 16) := by
  rw [BitVec.getLsbD_or, BitVec.getLsbD_and, BitVec.getLsbD_ushiftRight, BitVec.getLsbD_shiftLeft, BitVec.getLsbD_and, m16 i hi]
  by_cases h : i / 16 % 2 = 0
  · by_cases h8 : i < 16
    · simp [h, h8, Nat.add_comm]
    · rw [m16 (i - 16) (by omega)]; simp [h, show ¬ (i - 16) / 16 % 2 = 0 by omega, Nat.add_comm]
  · rw [m16 (i - 16) (by omega)]; simp [h, hi, show (i - 16) / 16 % 2 = 0 by omega, show ¬ i < 16 by omega]
theorem half32 (x : BitVec 64) (i : Nat) (hi : i < 64) : (x >>> 32 ||| x <<< 32).getLsbD i = x.getLsbD (if i < 32 then i + 32 else i - 32) := by
  rw [BitVec.getLsbD_or, BitVec.getLsbD_ushiftRight, BitVec.getLsbD_shiftLeft]
  by_cases h : i < 32
  · simp [h, Nat.add_comm]
  · rw [BitVec.getLsbD_of_ge x (32 + i) (by omega)]; simp [h, hi]
def sw1 (x : BitVec 64) : BitVec 64 := x >>> 8 &&& 71777214294589695#64 ||| (x &&& 71777214294589695#64) <<< 8
def sw2 (x : BitVec 64) : BitVec 64 := x >>> 16 &&& 281470681808895#64 ||| (x &&& 281470681808895#64) <<< 16
def swap64 (x : BitVec 64) : BitVec 64 := sw2 (sw1 x) >>> 32 ||| sw2 (sw1 x) <<< 32
theorem swap64_is (x : BitVec 64) : IsSwap x (swap64 x) := fun i hi => by
  unfold swap64
  rw [half32 _ i hi]
  have a : (if i < 32 then i + 32 else i - 32) < 64 := by split <;> omega
  generalize hj : (if i < 32 then i + 32 else i - 32) = j at a
  unfold sw2
  rw [half16 _ j a]
  have b : (if j / 16 % 2 = 0 then j + 16 else j - 16) < 64 := by split <;> omega
  generalize hk : (if j / 16 % 2 = 0 then j + 16 else j - 16) = k at b
  unfold sw1
  rw [half8 _ k b]
  congr 1
  split at hj <;> split at hk <;> split <;> omega
/-- the reference: byte by byte -/
def SwTo (x : BitVec 64) (k : Nat) (y : BitVec 64) : Prop := ∀ i, i < 64 → y.getLsbD i = (decide (i < 8 * k) && x.getLsbD (8 * (k - 1 - i / 8) + i % 8))
theorem SwTo.zero (x : BitVec 64) : SwTo x 0 0#64 := fun i _ => by simp
theorem SwTo.step {x y : BitVec 64} {k : Nat} (h : SwTo x k y) (hk : k < 8) : SwTo x (k + 1) (y * 256#64 + (x >>> (8 * k)) % 256#64) := by
  have e : (x >>> (8 * k)) % 256#64 = x >>> (8 * k) &&& 255#64 := by
    apply BitVec.eq_of_toNat_eq
    rw [BitVec.toNat_umod, BitVec.toNat_and]
    exact (Nat.and_two_pow_sub_one_eq_mod _ 8).symm
  have m255 : ∀ i : Nat, i < 64 → (255#64).getLsbD i = decide (i < 8) := by decide
  have o : y * 256#64 + (x >>> (8 * k)) % 256#64 = y <<< 8 ||| (x >>> (8 * k) &&& 255#64) := by
    rw [e, mul256]
    apply BitVec.add_eq_or_of_and_eq_zero
    apply BitVec.eq_of_getLsbD_eq
    intro i hi
    rw [BitVec.getLsbD_and, BitVec.getLsbD_shiftLeft, BitVec.getLsbD_and, m255 i hi]
    by_cases h8 : i < 8 <;> simp [h8]
  rw [o]
  intro i hi
  rw [BitVec.getLsbD_or, BitVec.getLsbD_shiftLeft, BitVec.getLsbD_and, BitVec.getLsbD_ushiftRight, m255 i hi]
  by_cases h8 : i < 8
  · simp [h8, show i < 8 * (k + 1) by omega, show i / 8 = 0 by omega, show i % 8 = i by omega]
  · rw [h (i - 8) (by omega)]
    simp [h8, hi]
    by_cases h9 : i < 8 * (k + 1)
    · simp [h9, show i - 8 < 8 * k by omega, show 8 * (k - 1 - (i - 8) / 8) + (i - 8) % 8 = 8 * (k - i / 8) + i % 8 by omega]
    · simp [h9, show ¬ i - 8 < 8 * k by omega]
theorem SwTo.done {x y : BitVec 64} (h : SwTo x 8 y) : y = swap64 x :=
  IsSwap.unique (x := x) (fun i hi => by rw [h i hi]; simp [show i < 64 by omega]) (swap64_is x)
theorem swap_back (x : BitVec 64) : swap64 (swap64 x) = x := IsSwap.unique (swap64_is _) (swap64_is x).back

set_option maxHeartbeats 400000 in
theorem Swap64_any (x : BitVec 64) (w : World) : Calls Try.prog 18 #[.int .u64 (W64 x)] w (Gives (.int .u64 (W64 (swap64 x))) w) := by
  go_enter Try.func18, Try.ntmps18
  go_wp2
  go_ret
  exact ⟨ret_w64 (by simp only [swap64, sw2, sw1, mul256, mul65536, mul2_32, div_shr _ 256#64 8 rfl, div_shr _ 65536#64 16 rfl, div_shr _ 4294967296#64 32 rfl]), rfl⟩
set_option maxHeartbeats 400000 in
theorem refSwap_any (x : BitVec 64) (w : World) : Calls Try.prog 19 #[.int .u64 (W64 x)] w (Gives (.int .u64 (W64 (swap64 x))) w) := by
  go_enter Try.func19, Try.ntmps19
  go_wp2
  go_loop [0, 3, 4] (fun y o i => ∃ (k : Nat) (z : BitVec 64), k ≤ 8 ∧ i = .int .i64 k ∧ y = .int .u64 (W64 (x >>> (8 * k))) ∧ o = .int .u64 (W64 z) ∧ SwTo x k z) (fun _ _ i => 8 - (intOf i).toNat)
  case atStart => exact ⟨0, 0#64, by omega, rfl, by simp, rfl, SwTo.zero x⟩
  case round =>
    obtain ⟨k, z, hk, rfl, rfl, rfl, hsw⟩ := hrel
    by_cases hlt : k < 8
    · have hst := Lib.hid (hsw.step hlt)
      go_wp2
      go_round
      case rel => exact ⟨k + 1, _, by omega, by go_num, by rw [div_shr _ 256#64 8 rfl, ← BitVec.shiftRight_add]; rfl, rfl, hst.out⟩
      case measure => simp [intOf]; omega
    · obtain rfl : k = 8 := by omega
      have hd := Lib.hid hsw.done
      go_wp2
      go_ret
      exact ⟨ret_w64 hd.out, rfl⟩
end Go.Proofs.Ytakjdoioffogcaa
