/- xxHash of 64 bits: what its steps and its end compute. No program in sight. -/
import Derived.Test.YtdemhnkkohnflaeMixPlain
import Derived.Test.YtdemhnkkohnflaeFold
import Derived.Test.YtdemhnkkohnflaeLePlain
namespace Go.Proofs.Ytdemhnkkohnflae.StX64
set_option linter.unusedVariables false
set_option linter.unusedSimpArgs false

abbrev S4 := BitVec 64 × BitVec 64 × BitVec 64 × BitVec 64
/-- A lane behind a number. -/
def roundF (v k : BitVec 64) : BitVec 64 := rotl64 (v + k * 14029467366897019727#64) 31 * 11400714785074694791#64
theorem roundF_def (v k : BitVec 64) : rotl64 (v + k * 14029467366897019727#64) 31 * 11400714785074694791#64 = roundF v k := rfl
/-- The i-th number of a block. -/
def num8 (l : Bytes) (i : Nat) : BitVec 64 := le ((l.drop i).take 8)
theorem num8_def (l : Bytes) (i : Nat) : le (List.take 8 (List.drop i l)) = num8 l i := rfl
theorem num8_zero (l : Bytes) : le (List.take 8 l) = num8 l 0 := by unfold num8; rw [List.drop_zero]
/-- The first k lanes behind a block. -/
def stepTo (s : S4) (l : Bytes) : Nat → S4
  | 0 => s
  | 1 => (roundF s.1 (num8 l 0), s.2.1, s.2.2.1, s.2.2.2)
  | 2 => (roundF s.1 (num8 l 0), roundF s.2.1 (num8 l 8), s.2.2.1, s.2.2.2)
  | 3 => (roundF s.1 (num8 l 0), roundF s.2.1 (num8 l 8), roundF s.2.2.1 (num8 l 16), s.2.2.2)
  | _ => (roundF s.1 (num8 l 0), roundF s.2.1 (num8 l 8), roundF s.2.2.1 (num8 l 16), roundF s.2.2.2 (num8 l 24))
def stepG (s : S4) (l : Bytes) : S4 := stepTo s l 4
def firstF (sd : BitVec 64) : S4 := (sd + 11400714785074694791#64 + 14029467366897019727#64, sd + 14029467366897019727#64, sd, sd - 11400714785074694791#64)
/-- A lane taken into the sum. -/
def mergeF (h v : BitVec 64) : BitVec 64 := (h ^^^ roundF 0#64 v) * 11400714785074694791#64 + 9650029242287828579#64
theorem mergeF_def (h v : BitVec 64) : (h ^^^ roundF 0#64 v) * 11400714785074694791#64 + 9650029242287828579#64 = mergeF h v := rfl
def sumF (s : S4) : BitVec 64 := rotl64 s.1 1 + rotl64 s.2.1 7 + rotl64 s.2.2.1 12 + rotl64 s.2.2.2 18
/-- The first k lanes taken in. -/
def allTo (s : S4) : Nat → BitVec 64
  | 0 => sumF s
  | 1 => mergeF (sumF s) s.1
  | 2 => mergeF (mergeF (sumF s) s.1) s.2.1
  | 3 => mergeF (mergeF (mergeF (sumF s) s.1) s.2.1) s.2.2.1
  | _ => mergeF (mergeF (mergeF (mergeF (sumF s) s.1) s.2.1) s.2.2.1) s.2.2.2
def allF (s : S4) : BitVec 64 := allTo s 4
/-- Eight bytes more. -/
def g8 (h : BitVec 64) (l : Bytes) : BitVec 64 := rotl64 (h ^^^ roundF 0#64 (le (l.take 8))) 27 * 11400714785074694791#64 + 9650029242287828579#64
theorem g8_def (h : BitVec 64) (l : Bytes) : rotl64 (h ^^^ roundF 0#64 (le (List.take 8 l))) 27 * 11400714785074694791#64 + 9650029242287828579#64 = g8 h l := rfl
/-- Four bytes more. -/
def g4 (h : BitVec 64) (l : Bytes) : BitVec 64 := rotl64 (h ^^^ le (l.take 4) * 11400714785074694791#64) 23 * 14029467366897019727#64 + 1609587929392839161#64
theorem g4_def (h : BitVec 64) (l : Bytes) : rotl64 (h ^^^ le (List.take 4 l) * 11400714785074694791#64) 23 * 14029467366897019727#64 + 1609587929392839161#64 = g4 h l := rfl
/-- A byte more. -/
def g1 (h : BitVec 64) (b : BitVec 8) : BitVec 64 := rotl64 (h ^^^ b.setWidth 64 * 2870177450012600261#64) 11 * 11400714785074694791#64
theorem g1_def (h : BitVec 64) (b : BitVec 8) : rotl64 (h ^^^ BitVec.setWidth 64 b * 2870177450012600261#64) 11 * 11400714785074694791#64 = g1 h b := rfl
/-- Fewer than eight bytes. -/
def smallF (h : BitVec 64) (l : Bytes) : BitVec 64 := if 4 ≤ l.length then (l.drop 4).foldl g1 (g4 h l) else l.foldl g1 h
/-- What is left. -/
def restF (h : BitVec 64) (l : Bytes) : BitVec 64 := smallF (foldF g8 8 h l).1 (foldF g8 8 h l).2
theorem g8_take (h : BitVec 64) (l : Bytes) : g8 h (l.take 8) = g8 h l := by unfold g8; rw [List.take_take, show min 8 8 = 8 from rfl]
theorem restF_big {h : BitVec 64} {l : Bytes} (hl : 8 ≤ l.length) : restF h l = restF (g8 h l) (l.drop 8) := by unfold restF; rw [foldF_step (by omega) hl, g8_take]
theorem restF_small {h : BitVec 64} {l : Bytes} (hl : l.length < 8) : restF h l = smallF h l := by unfold restF; rw [foldF_short hl]
theorem restF_four {h : BitVec 64} {l : Bytes} (hl : l.length < 8) (h4 : 4 ≤ l.length) : restF h l = restF (g4 h l) (l.drop 4) := by
  rw [restF_small hl, restF_small (by rw [List.length_drop]; omega)]
  unfold smallF
  rw [if_pos h4, if_neg (by rw [List.length_drop]; omega)]
theorem restF_one {h : BitVec 64} {b : BitVec 8} {r : Bytes} (hl : (b :: r).length < 4) : restF h (b :: r) = restF (g1 h b) r := by
  have h2 : r.length < 4 := by simp at hl; omega
  rw [restF_small (by omega), restF_small (by omega)]
  unfold smallF
  rw [if_neg (by omega), if_neg (by omega)]; rfl
theorem restF_nil (h : BitVec 64) : restF h [] = h := by rw [restF_small (by simp)]; rfl
def avalF (h : BitVec 64) : BitVec 64 :=
  ((h ^^^ h / 8589934592#64) * 14029467366897019727#64 ^^^ (h ^^^ h / 8589934592#64) * 14029467366897019727#64 / 536870912#64) * 1609587929392839161#64 ^^^
    ((h ^^^ h / 8589934592#64) * 14029467366897019727#64 ^^^ (h ^^^ h / 8589934592#64) * 14029467366897019727#64 / 536870912#64) * 1609587929392839161#64 / 4294967296#64
theorem avalF_def (h : BitVec 64) : ((h ^^^ h / 8589934592#64) * 14029467366897019727#64 ^^^ (h ^^^ h / 8589934592#64) * 14029467366897019727#64 / 536870912#64) * 1609587929392839161#64 ^^^
    ((h ^^^ h / 8589934592#64) * 14029467366897019727#64 ^^^ (h ^^^ h / 8589934592#64) * 14029467366897019727#64 / 536870912#64) * 1609587929392839161#64 / 4294967296#64 = avalF h := rfl
def headF (sd : BitVec 64) (s : S4) (lo : BitVec 64) : BitVec 64 := if 32 ≤ W64 lo then allF s else sd + 2870177450012600261#64
def endF (sd : BitVec 64) (s : S4) (l : Bytes) (lo : BitVec 64) : BitVec 64 := avalF (restF (headF sd s lo + lo) l)
def oneF (sd : BitVec 64) (l : Bytes) : BitVec 64 := endF sd (foldF stepG 32 (firstF sd) l).1 (foldF stepG 32 (firstF sd) l).2 (BitVec.ofNat 64 l.length)
theorem cons_of {l : Bytes} {n : Nat} (h : l.length = n + 1) : ∃ b r, l = b :: r ∧ r.length = n := by
  cases l with
  | nil => simp at h
  | cons b r => exact ⟨b, r, rfl, by simpa using h⟩
theorem num8_take (l : Bytes) (i : Nat) (h : i + 8 ≤ 32) : num8 (l.take 32) i = num8 l i := by
  unfold num8
  rw [List.drop_take, List.take_take, show min 8 (32 - i) = 8 by omega]
theorem stepG_take (s : S4) (l : Bytes) : stepG s (l.take 32) = stepTo s l 4 := by
  unfold stepG stepTo
  simp only [num8_take l 0 (by omega), num8_take l 8 (by omega), num8_take l 16 (by omega), num8_take l 24 (by omega)]
theorem le_bound (l : Bytes) : ∀ k : Nat, l.length ≤ k → (le l).toNat < 256 ^ k := by
  induction l with
  | nil => intro k _; exact Nat.pow_pos (by omega)
  | cons b r ih =>
    intro k hk
    obtain ⟨k, rfl⟩ : ∃ j, k = j + 1 := ⟨k - 1, by simp at hk; omega⟩
    have h1 := ih k (by simpa using hk)
    have h2 := b.isLt
    have h3 : (le (b :: r)).toNat ≤ b.toNat + (le r).toNat * 256 := by
      show (b.setWidth 64 + le r * 256#64).toNat ≤ _
      rw [BitVec.toNat_add, BitVec.toNat_mul, BitVec.toNat_setWidth]
      refine Nat.le_trans (Nat.mod_le _ _) ?_
      have h4 := Nat.mod_le b.toNat (2 ^ 64)
      have h5 := Nat.mod_le ((le r).toNat * 256) (2 ^ 64)
      have h6 : (256#64).toNat = 256 := rfl
      rw [h6]
      omega
    rw [Nat.pow_succ]
    omega
theorem le4_back (l : Bytes) : BitVec.setWidth 64 (BitVec.setWidth 32 (le (List.take 4 l))) = le (List.take 4 l) := by
  have h := le_bound (l.take 4) 4 (by rw [List.length_take]; omega)
  apply BitVec.eq_of_toNat_eq
  rw [BitVec.toNat_setWidth, BitVec.toNat_setWidth]
  omega
end Go.Proofs.Ytdemhnkkohnflae.StX64
