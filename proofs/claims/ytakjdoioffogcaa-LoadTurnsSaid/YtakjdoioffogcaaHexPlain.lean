/- Digits: 16 of a word, and the word of any. No program in sight. -/
import Derived.Test.YtakjdoioffogcaaRotPlain
namespace Go.Proofs.Ytakjdoioffogcaa
set_option linter.unusedVariables false
set_option linter.unusedSimpArgs false

def hexd (d : BitVec 64) : BitVec 8 := if d < 10#64 then 48#8 + d.setWidth 8 else 87#8 + d.setWidth 8
def nib (x : BitVec 64) (i : Nat) : BitVec 64 := x >>> (60 - 4 * i) &&& 15#64
def hexTo (x : BitVec 64) (k : Nat) : Bytes := (List.range k).map fun i => hexd (nib x i)
def hexl (x : BitVec 64) : Bytes := hexTo x 16
theorem hexTo_succ (x : BitVec 64) (k : Nat) : hexTo x (k + 1) = hexTo x k ++ [hexd (x >>> (60 - 4 * k) &&& 15#64)] := by
  simp [hexTo, List.range_succ, nib]
theorem hexTo_length (x : BitVec 64) (k : Nat) : (hexTo x k).length = k := by simp [hexTo]
/-- the digit's number -/
def dig (c : BitVec 8) : Option (BitVec 64) := if 48#8 ≤ c ∧ c ≤ 57#8 then some ((c - 48#8).setWidth 64) else if 97#8 ≤ c ∧ c ≤ 102#8 then some ((c - 87#8).setWidth 64) else none
def unhexFrom : Bytes → BitVec 64 → Option (BitVec 64)
  | [], n => some n
  | c :: r, n => match dig c with
    | some d => unhexFrom r (n * 16#64 ||| d)
    | none => none
def unhexl (l : Bytes) : Option (BitVec 64) := if l.length = 16 then unhexFrom l 0#64 else none
theorem dig_hexd : ∀ k : Nat, k < 16 → dig (hexd (BitVec.ofNat 64 k)) = some (BitVec.ofNat 64 k) := by decide
theorem nib_nat (x : BitVec 64) (i : Nat) : nib x i = BitVec.ofNat 64 (x.toNat / 2 ^ (60 - 4 * i) % 16) := by
  apply BitVec.eq_of_toNat_eq
  rw [nib, BitVec.toNat_and, BitVec.toNat_ushiftRight, Nat.shiftRight_eq_div_pow]
  have : (x.toNat / 2 ^ (60 - 4 * i)) &&& (15#64).toNat = x.toNat / 2 ^ (60 - 4 * i) % 16 := Nat.and_two_pow_sub_one_eq_mod _ 4
  rw [this, BitVec.toNat_ofNat]; omega
theorem dig_nib (x : BitVec 64) (i : Nat) : dig (hexd (nib x i)) = some (nib x i) := by
  rw [nib_nat]; exact dig_hexd _ (Nat.mod_lt _ (by omega))
theorem or_nib (x : BitVec 64) (i : Nat) (hi : i < 16) : (x >>> (64 - 4 * i)) * 16#64 ||| nib x i = x >>> (64 - 4 * (i + 1)) := by
  have e : 64 - 4 * (i + 1) = 60 - 4 * i := by omega
  rw [e]
  have h1 : (x >>> (64 - 4 * i)) * 16#64 = (x >>> (64 - 4 * i)) <<< 4 := by rw [BitVec.shiftLeft_eq_mul_twoPow]; rfl
  rw [h1, show 64 - 4 * i = (60 - 4 * i) + 4 by omega, BitVec.shiftRight_add, nib]
  generalize x >>> (60 - 4 * i) = y
  apply BitVec.eq_of_getLsbD_eq
  intro j hj
  have h15 : (15#64).getLsbD j = decide (j < 4) := by
    have : ∀ j : Nat, j < 64 → (15#64).getLsbD j = decide (j < 4) := by decide
    exact this j hj
  rw [BitVec.getLsbD_or, BitVec.getLsbD_shiftLeft, BitVec.getLsbD_ushiftRight, BitVec.getLsbD_and, h15]
  by_cases h4 : j < 4
  · simp [h4]
  · simp [h4, hj, show 4 + (j - 4) = j by omega]
theorem drop_hexl (x : BitVec 64) (i : Nat) (hi : i < 16) : (hexl x).drop i = hexd (nib x i) :: (hexl x).drop (i + 1) := by
  have hl : i < (hexl x).length := by rw [hexl, hexTo_length]; exact hi
  rw [List.drop_eq_getElem_cons hl]
  congr 1
  simp [hexl, hexTo]
theorem unhex_hexl (x : BitVec 64) : unhexl (hexl x) = some x := by
  rw [unhexl, if_pos (by rw [hexl, hexTo_length])]
  have key : ∀ k i : Nat, i + k = 16 → unhexFrom ((hexl x).drop i) (x >>> (64 - 4 * i)) = some x := by
    intro k
    induction k with
    | zero =>
      intro i hi
      obtain rfl : i = 16 := by omega
      rw [List.drop_of_length_le (by rw [hexl, hexTo_length]; omega), unhexFrom]
      simp
    | succ k ih =>
      intro i hi
      rw [drop_hexl x i (by omega), unhexFrom, dig_nib]
      simp only []
      rw [or_nib x i (by omega)]
      exact ih (i + 1) (by omega)
  have := key 16 0 (by omega)
  rw [List.drop_zero] at this
  rw [← this]; congr 1
  apply BitVec.eq_of_toNat_eq
  rw [BitVec.toNat_ushiftRight, Nat.shiftRight_eq_div_pow, Nat.div_eq_of_lt x.isLt]; rfl
/-! the reference reckons from the other end -/
theorem hexd_low (y : BitVec 64) : hexd (y % 16#64) = hexd (y &&& 15#64) := by
  congr 1
  apply BitVec.eq_of_toNat_eq
  rw [BitVec.toNat_umod, BitVec.toNat_and]
  exact (Nat.and_two_pow_sub_one_eq_mod _ 4).symm
theorem shr_div16 (x : BitVec 64) (s : Nat) : (x >>> s) / 16#64 = x >>> (s + 4) := by
  apply BitVec.eq_of_toNat_eq
  rw [BitVec.toNat_udiv, BitVec.toNat_ushiftRight, BitVec.toNat_ushiftRight, Nat.shiftRight_eq_div_pow, Nat.shiftRight_eq_div_pow, Nat.pow_add, Nat.div_div_eq_div_mul]; rfl
theorem low_lt (y : BitVec 64) : B8 (BitVec.setWidth 8 (y % 16#64)) < 10 ↔ y % 16#64 < 10#64 := by
  have h : (y % 16#64).toNat < 16 := by rw [BitVec.toNat_umod]; exact Nat.mod_lt _ (by decide)
  rw [BitVec.lt_def, B8, BitVec.toNat_setWidth, Nat.mod_eq_of_lt (by omega)]
  show _ ↔ _ < 10
  omega
/-- the digits from place i on -/
def hexAt (x : BitVec 64) (i : Nat) : Bytes := (hexl x).drop i
theorem hexAt_step (x : BitVec 64) (k : Nat) (hk : k < 16) : [hexd ((x >>> (4 * k)) % 16#64)] ++ hexAt x (16 - k) = hexAt x (16 - (k + 1)) := by
  unfold hexAt
  rw [drop_hexl x (16 - (k + 1)) (by omega), hexd_low, nib, show 60 - 4 * (16 - (k + 1)) = 4 * k by omega, show 16 - (k + 1) + 1 = 16 - k by omega]; rfl
/-! what a digit's number is, by the tests that the programs make -/
theorem le8 (c : BitVec 8) (k : Nat) (hk : k < 256) : (BitVec.ofNat 8 k ≤ c ↔ (k : Int) ≤ B8 c) ∧ (c ≤ BitVec.ofNat 8 k ↔ B8 c ≤ (k : Int)) := by
  unfold B8
  rw [BitVec.le_def, BitVec.le_def, BitVec.toNat_ofNat, Nat.mod_eq_of_lt (by omega : k < 2 ^ 8)]
  omega
theorem dig_09 (c : BitVec 8) (h1 : 48 ≤ B8 c) (h2 : B8 c ≤ 57) : dig c = some ((c - 48#8).setWidth 64) := by
  rw [dig, if_pos ⟨(le8 c 48 (by omega)).1.2 h1, (le8 c 57 (by omega)).2.2 h2⟩]
theorem dig_af (c : BitVec 8) (h1 : 97 ≤ B8 c) (h2 : B8 c ≤ 102) : dig c = some ((c - 87#8).setWidth 64) := by
  rw [dig, if_neg (fun h => by have := (le8 c 57 (by omega)).2.1 h.2; omega), if_pos ⟨(le8 c 97 (by omega)).1.2 h1, (le8 c 102 (by omega)).2.2 h2⟩]
theorem dig_no (c : BitVec 8) (h1 : ¬ (48 ≤ B8 c ∧ B8 c ≤ 57)) (h2 : ¬ (97 ≤ B8 c ∧ B8 c ≤ 102)) : dig c = none := by
  rw [dig, if_neg (fun h => h1 ⟨(le8 c 48 (by omega)).1.1 h.1, (le8 c 57 (by omega)).2.1 h.2⟩), if_neg (fun h => h2 ⟨(le8 c 97 (by omega)).1.1 h.1, (le8 c 102 (by omega)).2.1 h.2⟩)]
theorem sub_add8 (c : BitVec 8) : c - 97#8 + 10#8 = c - 87#8 := by
  have : (87#8) = 97#8 - 10#8 := by decide
  rw [this]; simp only [BitVec.sub_eq_add_neg, BitVec.neg_add, BitVec.neg_neg, BitVec.add_assoc]
theorem wide_sub (c : BitVec 8) (k : Nat) (hk : k < 256) (h : (k : Int) ≤ B8 c) : c.setWidth 64 - BitVec.ofNat 64 k = (c - BitVec.ofNat 8 k).setWidth 64 := by
  unfold B8 at h
  apply BitVec.eq_of_toNat_eq
  have := c.isLt
  rw [BitVec.toNat_sub, BitVec.toNat_setWidth, BitVec.toNat_ofNat, BitVec.toNat_setWidth, BitVec.toNat_sub, BitVec.toNat_ofNat]
  omega
theorem sub_small (c : BitVec 8) (k m : Nat) (hk : k < 256) (h1 : (k : Int) ≤ B8 c) (h2 : B8 c ≤ (m : Int)) (hm : m < k + 16) : ((c - BitVec.ofNat 8 k).setWidth 64).toNat < 16 := by
  unfold B8 at h1 h2
  have := c.isLt
  rw [BitVec.toNat_setWidth, BitVec.toNat_sub, BitVec.toNat_ofNat]
  omega
theorem add_small (x d : BitVec 64) (h : d.toNat < 16) : x * 16#64 + d = x * 16#64 ||| d := by
  have h1 : x * 16#64 = x <<< 4 := by rw [BitVec.shiftLeft_eq_mul_twoPow]; rfl
  rw [h1]
  apply BitVec.add_eq_or_of_and_eq_zero
  apply BitVec.eq_of_getLsbD_eq
  intro i hi
  rw [BitVec.getLsbD_and, BitVec.getLsbD_shiftLeft]
  by_cases h4 : i < 4
  · simp [h4]
  · have : d.getLsbD i = false := by
      rw [BitVec.getLsbD, Nat.testBit_lt_two_pow]
      have hp : 2 ^ 4 ≤ 2 ^ i := Nat.pow_le_pow_right (by decide) (by omega)
      exact Nat.lt_of_lt_of_le h hp
    simp [this]
theorem not99 (d : BitVec 64) (h : d.toNat < 16) : (d == 99#64) = false := by
  rw [beq_eq_false_iff_ne]; rintro rfl; simp at h
theorem unhex_step (l : Bytes) (k : Nat) (x d : BitVec 64) (hk : k < l.length) (hd : dig (l.getD k 0) = some d) : unhexFrom (l.drop k) x = unhexFrom (l.drop (k + 1)) (x * 16#64 ||| d) := by
  rw [List.drop_eq_getElem_cons hk, unhexFrom]
  rw [List.getD_eq_getElem?_getD, List.getElem?_eq_getElem hk, Option.getD_some] at hd
  rw [hd]
theorem unhex_stop (l : Bytes) (k : Nat) (x : BitVec 64) (hk : k < l.length) (hd : dig (l.getD k 0) = none) : unhexFrom (l.drop k) x = none := by
  rw [List.drop_eq_getElem_cons hk, unhexFrom]
  rw [List.getD_eq_getElem?_getD, List.getElem?_eq_getElem hk, Option.getD_some] at hd
  rw [hd]
theorem unhex_end (l : Bytes) (k : Nat) (x : BitVec 64) (hk : l.length ≤ k) : unhexFrom (l.drop k) x = some x := by
  rw [List.drop_of_length_le hk, unhexFrom]
end Go.Proofs.Ytakjdoioffogcaa
