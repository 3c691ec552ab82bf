/- The number of bytes, the lowest first: what the program reckons (shifts, bits put together) and what the reference reckons (sums) is 'le'. No program in sight. -/
import Derived.Test.YteicdilbmaboiaaDoorBytes
namespace Go.Proofs.YteicdilbmaboiaaDoor
set_option linter.unusedVariables false
set_option linter.unusedSimpArgs false

theorem le_zero_or (y : BitVec 64) (b : BitVec 8) : b.setWidth 64 + y * 256#64 = y <<< 8 ||| b.setWidth 64 := by
  have h1 : y * 256#64 = y <<< 8 := by rw [BitVec.shiftLeft_eq_mul_twoPow]; rfl
  rw [h1, BitVec.add_comm]
  apply BitVec.add_eq_or_of_and_eq_zero
  apply BitVec.eq_of_getLsbD_eq
  intro i hi
  rw [BitVec.getLsbD_and, BitVec.getLsbD_shiftLeft, BitVec.getLsbD_setWidth]
  by_cases h : i < 8
  · simp [h]
  · rw [BitVec.getLsbD_of_ge b i (by omega)]; simp
theorem le_cons (b : BitVec 8) (r : Bytes) : le (b :: r) = le r <<< 8 ||| b.setWidth 64 := le_zero_or _ _
theorem le_step (l : Bytes) (p m : Nat) : le ((l.drop p).take (m + 1)) = (l.getD p 0).setWidth 64 + le ((l.drop (p + 1)).take m) * 256#64 := by
  by_cases h : p < l.length
  · rw [List.drop_eq_getElem_cons h, List.take_succ_cons]
    show _ + _ = _
    rw [List.getD_eq_getElem?_getD, List.getElem?_eq_getElem h]; rfl
  · rw [List.drop_of_length_le (by omega), List.drop_of_length_le (by omega), List.getD_eq_getElem?_getD, List.getElem?_eq_none (by omega)]
    simp [le]
theorem le_take0 (l : Bytes) : le (l.take 0) = 0#64 := by simp [le]
theorem le_or (l : Bytes) (p m : Nat) : le ((l.drop p).take (m + 1)) = le ((l.drop (p + 1)).take m) <<< 8 ||| (l.getD p 0).setWidth 64 := by
  rw [le_step]; exact le_zero_or _ _
theorem mul_shl (x : BitVec 64) (c : BitVec 64) (k : Nat) (h : c = BitVec.twoPow 64 k) : x * c = x <<< k := by subst h; rw [BitVec.shiftLeft_eq_mul_twoPow]
/-- The eight bytes put together by shifts. -/
theorem le_tail (l : Bytes) : le (l.take 8) =
    ((((((((l.getD 7 0).setWidth 64 * 72057594037927936#64 ||| (l.getD 6 0).setWidth 64 * 281474976710656#64) ||| (l.getD 5 0).setWidth 64 * 1099511627776#64) ||| (l.getD 4 0).setWidth 64 * 4294967296#64) ||| (l.getD 3 0).setWidth 64 * 16777216#64) ||| (l.getD 2 0).setWidth 64 * 65536#64) ||| (l.getD 1 0).setWidth 64 * 256#64) ||| (l.getD 0 0).setWidth 64) := by
  have h := le_or l 0 7
  rw [List.drop_zero] at h
  rw [h, le_or l (0 + 1) 6, le_or l (0 + 1 + 1) 5, le_or l (0 + 1 + 1 + 1) 4, le_or l (0 + 1 + 1 + 1 + 1) 3, le_or l (0 + 1 + 1 + 1 + 1 + 1) 2, le_or l (0 + 1 + 1 + 1 + 1 + 1 + 1) 1, le_or l (0 + 1 + 1 + 1 + 1 + 1 + 1 + 1) 0, List.take_zero]
  rw [mul_shl _ 72057594037927936#64 56 rfl, mul_shl _ 281474976710656#64 48 rfl, mul_shl _ 1099511627776#64 40 rfl, mul_shl _ 4294967296#64 32 rfl, mul_shl _ 16777216#64 24 rfl, mul_shl _ 65536#64 16 rfl, mul_shl _ 256#64 8 rfl]
  simp only [le, BitVec.shiftLeft_or_distrib, ← BitVec.shiftLeft_add, Nat.zero_add, Nat.reduceAdd, BitVec.zero_shiftLeft, BitVec.zero_or]
end Go.Proofs.YteicdilbmaboiaaDoor
