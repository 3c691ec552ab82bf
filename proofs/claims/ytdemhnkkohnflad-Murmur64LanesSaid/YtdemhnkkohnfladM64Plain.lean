/- Murmur3 of 128 bits by words of 64: what its steps and its end compute. No program in sight. -/
import Derived.Test.YtdemhnkkohnfladMix64Plain
import Derived.Test.YtdemhnkkohnfladFold
import Derived.Test.YtdemhnkkohnfladLePlain
namespace Go.Proofs.Ytdemhnkkohnflad.StM64
set_option linter.unusedVariables false
set_option linter.unusedSimpArgs false

abbrev S2 := BitVec 64 × BitVec 64
/-- The i-th number of a block. -/
def num8 (l : Bytes) (i : Nat) : BitVec 64 := le ((l.drop i).take 8)
theorem num8_def (l : Bytes) (i : Nat) : le (List.take 8 (List.drop i l)) = num8 l i := rfl
theorem num8_zero (l : Bytes) : le (List.take 8 l) = num8 l 0 := by unfold num8; rw [List.drop_zero]
def wordA (k : BitVec 64) : BitVec 64 := rotl64 (k * 9782798678568883157#64) 31 * 5545529020109919103#64
theorem wordA_def (k : BitVec 64) : rotl64 (k * 9782798678568883157#64) 31 * 5545529020109919103#64 = wordA k := rfl
def wordB (k : BitVec 64) : BitVec 64 := rotl64 (k * 5545529020109919103#64) 33 * 9782798678568883157#64
theorem wordB_def (k : BitVec 64) : rotl64 (k * 5545529020109919103#64) 33 * 9782798678568883157#64 = wordB k := rfl
/-- Lanes, with words mixed in. -/
def mixA (s : S2) (l : Bytes) : BitVec 64 := s.1 ^^^ wordA (num8 l 0)
def mixB (s : S2) (l : Bytes) : BitVec 64 := s.2 ^^^ wordB (num8 l 8)
def turnA (x y : BitVec 64) : BitVec 64 := (rotl64 x 27 + y) * 5#64 + 1390208809#64
def turnB (x y : BitVec 64) : BitVec 64 := (rotl64 x 31 + y) * 5#64 + 944331445#64
theorem turnA_def (x y : BitVec 64) : (rotl64 x 27 + y) * 5#64 + 1390208809#64 = turnA x y := rfl
theorem turnB_def (x y : BitVec 64) : (rotl64 x 31 + y) * 5#64 + 944331445#64 = turnB x y := rfl
def stepG (s : S2) (l : Bytes) : S2 := (turnA (mixA s l) s.2, turnB (mixB s l) (turnA (mixA s l) s.2))
def firstF (sd : BitVec 32) : S2 := (sd.setWidth 64, sd.setWidth 64)
/-- The last turns: of both lanes, behind how many came. -/
def lastHi (a b : BitVec 64) : BitVec 64 := fmix64 (b + (a + b)) + (fmix64 (a + b) + fmix64 (b + (a + b)))
def lastLo (a b : BitVec 64) : BitVec 64 := fmix64 (a + b) + fmix64 (b + (a + b))
def endHi (s : S2) (l : Bytes) (lo : BitVec 64) : BitVec 64 := lastHi (mixA s l ^^^ lo) (mixB s l ^^^ lo)
def endLo (s : S2) (l : Bytes) (lo : BitVec 64) : BitVec 64 := lastLo (mixA s l ^^^ lo) (mixB s l ^^^ lo)
def oneHi (sd : BitVec 32) (l : Bytes) : BitVec 64 := endHi (foldF stepG 16 (firstF sd) l).1 (foldF stepG 16 (firstF sd) l).2 (BitVec.ofNat 64 l.length)
def oneLo (sd : BitVec 32) (l : Bytes) : BitVec 64 := endLo (foldF stepG 16 (firstF sd) l).1 (foldF stepG 16 (firstF sd) l).2 (BitVec.ofNat 64 l.length)
theorem mixB_short {s : S2} {l : Bytes} (h : l.length ≤ 8) : mixB s l = s.2 := by
  unfold mixB num8
  rw [List.drop_eq_nil_of_le h]
  have e : wordB (le (List.take 8 ([] : Bytes))) = 0#64 := by decide
  rw [e, BitVec.xor_zero]
theorem num8_take (l : Bytes) (i : Nat) (h : i + 8 ≤ 16) : num8 (l.take 16) i = num8 l i := by
  unfold num8
  rw [List.drop_take, List.take_take, show min 8 (16 - i) = 8 by omega]
theorem stepG_take (s : S2) (l : Bytes) : stepG s (l.take 16) = stepG s l := by
  unfold stepG mixA mixB
  simp only [num8_take l 0 (by omega), num8_take l 8 (by omega)]
end Go.Proofs.Ytdemhnkkohnflad.StM64
