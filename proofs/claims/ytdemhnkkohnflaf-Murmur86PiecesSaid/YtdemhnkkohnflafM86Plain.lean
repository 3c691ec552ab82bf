/- Murmur3 of 128 bits by words of 32: what its steps and its end compute. No program in sight. -/
import Derived.Test.YtdemhnkkohnflafMixPlain
import Derived.Test.YtdemhnkkohnflafFold
import Derived.Test.YtdemhnkkohnflafLePlain
namespace Go.Proofs.Ytdemhnkkohnflaf.StM86
set_option linter.unusedVariables false
set_option linter.unusedSimpArgs false

abbrev S4 := BitVec 32 × BitVec 32 × BitVec 32 × BitVec 32
/-- The number of four bytes. -/
def num4 (l : Bytes) (i : Nat) : BitVec 32 := (le ((l.drop i).take 4)).setWidth 32
theorem num4_def (l : Bytes) (i : Nat) : BitVec.setWidth 32 (le (List.take 4 (List.drop i l))) = num4 l i := rfl
theorem num4_zero (l : Bytes) : BitVec.setWidth 32 (le (List.take 4 l)) = num4 l 0 := by unfold num4; rw [List.drop_zero]
theorem num4_none {l : Bytes} {i : Nat} (h : l.length ≤ i) : num4 l i = 0#32 := by unfold num4; rw [List.drop_eq_nil_of_le h]; rfl
def w0 (k : BitVec 32) : BitVec 32 := rotl32 (k * 597399067#32) 15 * 2869860233#32
def w1 (k : BitVec 32) : BitVec 32 := rotl32 (k * 2869860233#32) 16 * 951274213#32
def w2 (k : BitVec 32) : BitVec 32 := rotl32 (k * 951274213#32) 17 * 2716044179#32
def w3 (k : BitVec 32) : BitVec 32 := rotl32 (k * 2716044179#32) 18 * 597399067#32
theorem w0_def (k : BitVec 32) : rotl32 (k * 597399067#32) 15 * 2869860233#32 = w0 k := rfl
theorem w1_def (k : BitVec 32) : rotl32 (k * 2869860233#32) 16 * 951274213#32 = w1 k := rfl
theorem w2_def (k : BitVec 32) : rotl32 (k * 951274213#32) 17 * 2716044179#32 = w2 k := rfl
theorem w3_def (k : BitVec 32) : rotl32 (k * 2716044179#32) 18 * 597399067#32 = w3 k := rfl
theorem w0_zero : w0 0#32 = 0#32 := by decide
theorem w1_zero : w1 0#32 = 0#32 := by decide
theorem w2_zero : w2 0#32 = 0#32 := by decide
theorem w3_zero : w3 0#32 = 0#32 := by decide
def mix0 (s : S4) (l : Bytes) : BitVec 32 := s.1 ^^^ w0 (num4 l 0)
def mix1 (s : S4) (l : Bytes) : BitVec 32 := s.2.1 ^^^ w1 (num4 l 4)
def mix2 (s : S4) (l : Bytes) : BitVec 32 := s.2.2.1 ^^^ w2 (num4 l 8)
def mix3 (s : S4) (l : Bytes) : BitVec 32 := s.2.2.2 ^^^ w3 (num4 l 12)
theorem mix0_none {s : S4} {l : Bytes} (h : l.length ≤ 0) : mix0 s l = s.1 := by unfold mix0; rw [num4_none h, w0_zero, BitVec.xor_zero]
theorem mix1_none {s : S4} {l : Bytes} (h : l.length ≤ 4) : mix1 s l = s.2.1 := by unfold mix1; rw [num4_none h, w1_zero, BitVec.xor_zero]
theorem mix2_none {s : S4} {l : Bytes} (h : l.length ≤ 8) : mix2 s l = s.2.2.1 := by unfold mix2; rw [num4_none h, w2_zero, BitVec.xor_zero]
theorem mix3_none {s : S4} {l : Bytes} (h : l.length ≤ 12) : mix3 s l = s.2.2.2 := by unfold mix3; rw [num4_none h, w3_zero, BitVec.xor_zero]
def turn0 (x y : BitVec 32) : BitVec 32 := (rotl32 x 19 + y) * 5#32 + 1444728091#32
def turn1 (x y : BitVec 32) : BitVec 32 := (rotl32 x 17 + y) * 5#32 + 197830471#32
def turn2 (x y : BitVec 32) : BitVec 32 := (rotl32 x 15 + y) * 5#32 + 2530024501#32
def turn3 (x y : BitVec 32) : BitVec 32 := (rotl32 x 13 + y) * 5#32 + 850148119#32
theorem turn0_def (x y : BitVec 32) : (rotl32 x 19 + y) * 5#32 + 1444728091#32 = turn0 x y := rfl
theorem turn1_def (x y : BitVec 32) : (rotl32 x 17 + y) * 5#32 + 197830471#32 = turn1 x y := rfl
theorem turn2_def (x y : BitVec 32) : (rotl32 x 15 + y) * 5#32 + 2530024501#32 = turn2 x y := rfl
theorem turn3_def (x y : BitVec 32) : (rotl32 x 13 + y) * 5#32 + 850148119#32 = turn3 x y := rfl
def one0 (s : S4) (l : Bytes) : S4 := (turn0 (mix0 s l) s.2.1, s.2.1, s.2.2.1, s.2.2.2)
def one1 (s : S4) (l : Bytes) : S4 := (s.1, turn1 (mix1 s l) s.2.2.1, s.2.2.1, s.2.2.2)
def one2 (s : S4) (l : Bytes) : S4 := (s.1, s.2.1, turn2 (mix2 s l) s.2.2.2, s.2.2.2)
def one3 (s : S4) (l : Bytes) : S4 := (s.1, s.2.1, s.2.2.1, turn3 (mix3 s l) s.1)
/-- The first k lanes behind a block. -/
def stepTo (s : S4) (l : Bytes) : Nat → S4
  | 0 => s
  | 1 => one0 s l
  | 2 => one1 (one0 s l) l
  | 3 => one2 (one1 (one0 s l) l) l
  | _ => one3 (one2 (one1 (one0 s l) l) l) l
def stepG (s : S4) (l : Bytes) : S4 := stepTo s l 4
theorem stepTo0 (s : S4) (l : Bytes) : stepTo s l 0 = s := rfl
theorem stepTo1 (s : S4) (l : Bytes) : one0 (stepTo s l 0) l = stepTo s l 1 := rfl
theorem stepTo2 (s : S4) (l : Bytes) : one1 (stepTo s l 1) l = stepTo s l 2 := rfl
theorem stepTo3 (s : S4) (l : Bytes) : one2 (stepTo s l 2) l = stepTo s l 3 := rfl
theorem stepTo4 (s : S4) (l : Bytes) : one3 (stepTo s l 3) l = stepTo s l 4 := rfl
def firstF (sd : BitVec 32) : S4 := (sd, sd, sd, sd)
/-- The four numbers of a block; the first k of them. -/
def numsTo (l : Bytes) : Nat → S4
  | 0 => (0#32, 0#32, 0#32, 0#32)
  | 1 => (num4 l 0, 0#32, 0#32, 0#32)
  | 2 => (num4 l 0, num4 l 4, 0#32, 0#32)
  | 3 => (num4 l 0, num4 l 4, num4 l 8, 0#32)
  | _ => (num4 l 0, num4 l 4, num4 l 8, num4 l 12)
/-- The lanes behind the last bytes; the first k of them. -/
def mixTo (s : S4) (l : Bytes) : Nat → S4
  | 0 => s
  | 1 => (mix0 s l, s.2.1, s.2.2.1, s.2.2.2)
  | 2 => (mix0 s l, mix1 s l, s.2.2.1, s.2.2.2)
  | 3 => (mix0 s l, mix1 s l, mix2 s l, s.2.2.2)
  | _ => (mix0 s l, mix1 s l, mix2 s l, mix3 s l)
/-- Each lane by f; the first k of them. -/
def mapTo (f : BitVec 32 → BitVec 32) (s : S4) : Nat → S4
  | 0 => s
  | 1 => (f s.1, s.2.1, s.2.2.1, s.2.2.2)
  | 2 => (f s.1, f s.2.1, s.2.2.1, s.2.2.2)
  | 3 => (f s.1, f s.2.1, f s.2.2.1, s.2.2.2)
  | _ => (f s.1, f s.2.1, f s.2.2.1, f s.2.2.2)
def sumF (s : S4) : BitVec 32 := s.1 + s.2.1 + s.2.2.1 + s.2.2.2
/-- The first k of the other lanes added to the first. -/
def sumTo (s : S4) : Nat → BitVec 32
  | 0 => s.1
  | 1 => s.1 + s.2.1
  | 2 => s.1 + s.2.1 + s.2.2.1
  | _ => sumF s
/-- The sum added to the first k of the others. -/
def spreadTo (s : S4) : Nat → S4
  | 0 => (sumF s, s.2.1, s.2.2.1, s.2.2.2)
  | 1 => (sumF s, s.2.1 + sumF s, s.2.2.1, s.2.2.2)
  | 2 => (sumF s, s.2.1 + sumF s, s.2.2.1 + sumF s, s.2.2.2)
  | _ => (sumF s, s.2.1 + sumF s, s.2.2.1 + sumF s, s.2.2.2 + sumF s)
def spreadF (s : S4) : S4 := spreadTo s 3
def endS (s : S4) (l : Bytes) (lo : BitVec 64) : S4 := spreadF (mapTo fmix32 (spreadF (mapTo (fun x => x ^^^ lo.setWidth 32) (mixTo s l 4) 4)) 4)
def joinF (a b : BitVec 32) : BitVec 64 := a.setWidth 64 * 4294967296#64 + b.setWidth 64
def lastHi (s : S4) : BitVec 64 := joinF s.2.2.2 s.2.2.1
def lastLo (s : S4) : BitVec 64 := joinF s.2.1 s.1
def endHi (s : S4) (l : Bytes) (lo : BitVec 64) : BitVec 64 := lastHi (endS s l lo)
def endLo (s : S4) (l : Bytes) (lo : BitVec 64) : BitVec 64 := lastLo (endS s l lo)
def oneHi (sd : BitVec 32) (l : Bytes) : BitVec 64 := endHi (foldF stepG 16 (firstF sd) l).1 (foldF stepG 16 (firstF sd) l).2 (BitVec.ofNat 64 l.length)
def oneLo (sd : BitVec 32) (l : Bytes) : BitVec 64 := endLo (foldF stepG 16 (firstF sd) l).1 (foldF stepG 16 (firstF sd) l).2 (BitVec.ofNat 64 l.length)
theorem joinF_def (a b : BitVec 32) : a.setWidth 64 * 4294967296#64 + b.setWidth 64 = joinF a b := rfl
theorem join_or (a b : BitVec 32) : a.setWidth 64 * 4294967296#64 ||| b.setWidth 64 = joinF a b := by
  have h1 : a.setWidth 64 * 4294967296#64 = a.setWidth 64 <<< 32 := by rw [BitVec.shiftLeft_eq_mul_twoPow]; rfl
  unfold joinF
  rw [h1]
  symm
  apply BitVec.add_eq_or_of_and_eq_zero
  apply BitVec.eq_of_getLsbD_eq
  intro i hi
  rw [BitVec.getLsbD_and, BitVec.getLsbD_shiftLeft, BitVec.getLsbD_setWidth, BitVec.getLsbD_setWidth]
  by_cases h : i < 32
  · simp [h]
  · rw [BitVec.getLsbD_of_ge b i (by omega)]; simp
theorem num4_take (l : Bytes) (i : Nat) (h : i + 4 ≤ 16) : num4 (l.take 16) i = num4 l i := by
  unfold num4
  rw [List.drop_take, List.take_take, show min 4 (16 - i) = 4 by omega]
theorem one_take (s : S4) (l : Bytes) : one0 s (l.take 16) = one0 s l ∧ one1 s (l.take 16) = one1 s l ∧ one2 s (l.take 16) = one2 s l ∧ one3 s (l.take 16) = one3 s l := by
  unfold one0 one1 one2 one3 mix0 mix1 mix2 mix3
  rw [num4_take l 0 (by omega), num4_take l 4 (by omega), num4_take l 8 (by omega), num4_take l 12 (by omega)]
  exact ⟨rfl, rfl, rfl, rfl⟩
theorem stepG_take (s : S4) (l : Bytes) : stepG s (l.take 16) = stepTo s l 4 := by
  unfold stepG stepTo
  rw [(one_take _ l).1, (one_take _ l).2.1, (one_take _ l).2.2.1, (one_take _ l).2.2.2]
end Go.Proofs.Ytdemhnkkohnflaf.StM86
