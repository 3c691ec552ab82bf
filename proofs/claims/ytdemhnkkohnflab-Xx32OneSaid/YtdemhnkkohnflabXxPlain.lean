/- xxHash of 32 bits: what its steps and its end compute. No program in sight. -/
import Derived.Test.YtdemhnkkohnflabMixPlain
import Derived.Test.YtdemhnkkohnflabFold
namespace Go.Proofs.Ytdemhnkkohnflab.StX32
set_option linter.unusedVariables false
set_option linter.unusedSimpArgs false

abbrev S4 := BitVec 32 × BitVec 32 × BitVec 32 × BitVec 32
/-- A lane behind a number. -/
def roundF (v k : BitVec 32) : BitVec 32 := rotl32 (v + k * 2246822519#32) 13 * 2654435761#32
/-- The i-th number of a block. -/
def num4 (l : Bytes) (i : Nat) : BitVec 32 := (le ((l.drop i).take 4)).setWidth 32
theorem roundF_def (v k : BitVec 32) : rotl32 (v + k * 2246822519#32) 13 * 2654435761#32 = roundF v k := rfl
theorem num4_def (l : Bytes) (i : Nat) : BitVec.setWidth 32 (le (List.take 4 (List.drop i l))) = num4 l i := rfl
theorem num4_zero (l : Bytes) : BitVec.setWidth 32 (le (List.take 4 l)) = num4 l 0 := by unfold num4; rw [List.drop_zero]
/-- The first k lanes behind a block. -/
def stepTo (s : S4) (l : Bytes) : Nat → S4
  | 0 => s
  | 1 => (roundF s.1 (num4 l 0), s.2.1, s.2.2.1, s.2.2.2)
  | 2 => (roundF s.1 (num4 l 0), roundF s.2.1 (num4 l 4), s.2.2.1, s.2.2.2)
  | 3 => (roundF s.1 (num4 l 0), roundF s.2.1 (num4 l 4), roundF s.2.2.1 (num4 l 8), s.2.2.2)
  | _ => (roundF s.1 (num4 l 0), roundF s.2.1 (num4 l 4), roundF s.2.2.1 (num4 l 8), roundF s.2.2.2 (num4 l 12))
def stepG (s : S4) (l : Bytes) : S4 := stepTo s l 4
def firstF (sd : BitVec 32) : S4 := (sd + 606290984#32, sd + 2246822519#32, sd, sd - 2654435761#32)
def sumF (s : S4) : BitVec 32 := rotl32 s.1 1 + rotl32 s.2.1 7 + rotl32 s.2.2.1 12 + rotl32 s.2.2.2 18
/-- Four bytes more. -/
def g4 (h : BitVec 32) (l : Bytes) : BitVec 32 := rotl32 (h + (le (l.take 4)).setWidth 32 * 3266489917#32) 17 * 668265263#32
/-- A byte more. -/
def g1 (h : BitVec 32) (b : BitVec 8) : BitVec 32 := rotl32 (h + b.setWidth 32 * 374761393#32) 11 * 2654435761#32
/-- What is left. -/
def restF (h : BitVec 32) (l : Bytes) : BitVec 32 := (foldF g4 4 h l).2.foldl g1 (foldF g4 4 h l).1
theorem restF_big {h : BitVec 32} {l : Bytes} (hl : 4 ≤ l.length) : restF h l = restF (g4 h (l.take 4)) (l.drop 4) := by unfold restF; rw [foldF_step (by omega) hl]
theorem restF_small {h : BitVec 32} {l : Bytes} (hl : l.length < 4) : restF h l = l.foldl g1 h := by unfold restF; rw [foldF_short hl]
theorem restF_one {h : BitVec 32} {b : BitVec 8} {r : Bytes} (hl : (b :: r).length < 4) : restF h (b :: r) = restF (g1 h b) r := by
  rw [restF_small hl, restF_small (by simp at hl ⊢; omega)]; rfl
theorem restF_nil (h : BitVec 32) : restF h [] = h := by rw [restF_small (by simp)]; rfl
def avalF (h : BitVec 32) : BitVec 32 :=
  ((h ^^^ h / 32768#32) * 2246822519#32 ^^^ (h ^^^ h / 32768#32) * 2246822519#32 / 8192#32) * 3266489917#32 ^^^
    ((h ^^^ h / 32768#32) * 2246822519#32 ^^^ (h ^^^ h / 32768#32) * 2246822519#32 / 8192#32) * 3266489917#32 / 65536#32
def headF (sd : BitVec 32) (s : S4) (lo : BitVec 64) : BitVec 32 := if 16 ≤ W64 lo then sumF s else sd + 374761393#32
def endF (sd : BitVec 32) (s : S4) (l : Bytes) (lo : BitVec 64) : BitVec 32 := avalF (restF (headF sd s lo + lo.setWidth 32) l)
def oneF (sd : BitVec 32) (l : Bytes) : BitVec 32 := endF sd (foldF stepG 16 (firstF sd) l).1 (foldF stepG 16 (firstF sd) l).2 (BitVec.ofNat 64 l.length)
theorem g4_take (h : BitVec 32) (l : Bytes) : g4 h (l.take 4) = g4 h l := by unfold g4; rw [List.take_take, show min 4 4 = 4 from rfl]
theorem cons_of {l : Bytes} {n : Nat} (h : l.length = n + 1) : ∃ b r, l = b :: r ∧ r.length = n := by
  cases l with
  | nil => simp at h
  | cons b r => exact ⟨b, r, rfl, by simpa using h⟩
theorem num4_take (l : Bytes) (i : Nat) (h : i + 4 ≤ 16) : num4 (l.take 16) i = num4 l i := by
  unfold num4
  rw [List.drop_take, List.take_take, show min 4 (16 - i) = 4 by omega]
theorem stepG_take (s : S4) (l : Bytes) : stepG s (l.take 16) = stepTo s l 4 := by
  unfold stepG stepTo
  simp only [num4_take l 0 (by omega), num4_take l 4 (by omega), num4_take l 8 (by omega), num4_take l 12 (by omega)]
end Go.Proofs.Ytdemhnkkohnflab.StX32
