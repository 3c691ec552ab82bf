/- MixPlain Fold XxPlain LePlain Mix64Plain M64Plain Xx64Plain SipPlain M86Plain -/
import Derived.Test.YtidlpihoafnobaaGreatDoorPRowKit
set_option linter.unusedVariables false
set_option linter.unusedSimpArgs false
namespace Go.Proofs.YtidlpihoafnobaaGreatDoor
set_option maxRecDepth 100000
def fmix32 (h : BitVec 32) : BitVec 32 :=
 ((h ^^^ h / 65536#32) * 2246822507#32 ^^^ (h ^^^ h / 65536#32) * 2246822507#32 / 8192#32) * 3266489909#32 ^^^
  ((h ^^^ h / 65536#32) * 2246822507#32 ^^^ (h ^^^ h / 65536#32) * 2246822507#32 / 8192#32) * 3266489909#32 / 65536#32
theorem bit_parity (a b j : Nat) : (a ^^^ b) / 2 ^ j % 2 = (a / 2 ^ j % 2 + b / 2 ^ j % 2) % 2 := by
 have h := Nat.testBit_xor a b j
 simp only [Nat.testBit_eq_decide_div_mod_eq] at h
 have h1 := Nat.mod_two_eq_zero_or_one (a / 2 ^ j)
 have h2 := Nat.mod_two_eq_zero_or_one (b / 2 ^ j)
 have h3 := Nat.mod_two_eq_zero_or_one ((a ^^^ b) / 2 ^ j)
 rcases h1 with h1 | h1 <;> rcases h2 with h2 | h2 <;> rcases h3 with h3 | h3 <;> simp_all
def lowb (x : BitVec 64) (j : Nat) : BitVec 64 := BitVec.ofNat 64 (x.toNat % 2 ^ j)
theorem lowb_zero (x : BitVec 64) : lowb x 0 = 0#64 := by simp [lowb, Nat.mod_one]
theorem lowb_all (x : BitVec 64) : lowb x 64 = x := by
 apply BitVec.eq_of_toNat_eq
 have := x.isLt
 simp [lowb, BitVec.toNat_ofNat]
 omega
theorem mod_pow_succ' (n j : Nat) : n % 2 ^ (j + 1) = n % 2 ^ j + 2 ^ j * (n / 2 ^ j % 2) := by
 rw [Nat.pow_succ, Nat.mod_mul]
theorem O64_bit (z : BitVec 64) (j : Nat) : O64 ((W64 z / 2 ^ j).tmod 2) = BitVec.ofNat 64 (z.toNat / 2 ^ j % 2) := by
 have e : (W64 z / 2 ^ j).tmod 2 = ((z.toNat / 2 ^ j % 2 : Nat) : Int) := by
  rw [Int.tmod_eq_emod_of_nonneg (Int.ediv_nonneg (W64_nn z) (by exact Int.le_of_lt (Int.pow_pos (by decide))))]
  simp [W64]
 rw [e, O64_nat]
theorem O64_pow (j : Nat) : O64 (2 ^ j) = BitVec.ofNat 64 (2 ^ j) := by
 rw [← O64_nat]; congr 1
theorem min_shift (j : Nat) (h : j < 64) : min (W64 (BitVec.ofNat 64 j)).toNat 64 = j := by
 rw [W64_of_nat j (by omega)]; omega
theorem min_shift2 (j k : Nat) (h : j + k < 64) : min (W64 (BitVec.ofNat 64 j + BitVec.ofNat 64 k)).toNat 64 = j + k := by
 rw [← BitVec.ofNat_add]; exact min_shift _ h
theorem fold_bit (z : BitVec 64) (k j : Nat) : (z ^^^ z >>> k).toNat / 2 ^ j % 2 = (z.toNat / 2 ^ j % 2 + z.toNat / 2 ^ (j + k) % 2) % 2 := by
 rw [BitVec.toNat_xor, BitVec.toNat_ushiftRight, bit_parity, Nat.shiftRight_eq_div_pow, Nat.div_div_eq_div_mul, ← Nat.pow_add, Nat.add_comm k j]
theorem low_next (x : BitVec 64) (j b : Nat) (hj : j < 64) (hb : x.toNat / 2 ^ j % 2 = b) : lowb x j + BitVec.ofNat 64 b * BitVec.ofNat 64 (2 ^ j) = lowb x (j + 1) := by
 unfold lowb
 rw [mod_pow_succ', hb, Nat.mul_comm (2 ^ j) b, BitVec.ofNat_add, BitVec.ofNat_mul]
theorem par_mod (a b : Nat) (ha : a < 2) (hb : b < 2) : (BitVec.ofNat 64 a + BitVec.ofNat 64 b) % 2#64 = BitVec.ofNat 64 ((a + b) % 2) := by
 rcases (show a = 0 ∨ a = 1 by omega) with rfl | rfl <;> rcases (show b = 0 ∨ b = 1 by omega) with rfl | rfl <;> rfl
theorem fold_step2 (z : BitVec 64) (k j : Nat) (hj : j + k < 64) : lowb (z ^^^ z >>> k) j +
 (O64 ((W64 z / 2 ^ min (W64 (BitVec.ofNat 64 j)).toNat 64).tmod 2) + O64 ((W64 z / 2 ^ min (W64 (BitVec.ofNat 64 j + BitVec.ofNat 64 k)).toNat 64).tmod 2)) % 2#64 *
  O64 (2 ^ min (W64 (BitVec.ofNat 64 j)).toNat 64) = lowb (z ^^^ z >>> k) (j + 1) := by
 rw [min_shift j (by omega), min_shift2 j k hj, O64_bit, O64_bit, O64_pow, par_mod _ _ (Nat.mod_lt _ (by omega)) (Nat.mod_lt _ (by omega))]
 exact low_next _ _ _ (by omega) (fold_bit z k j)
theorem fold_step1 (z : BitVec 64) (k j : Nat) (hj : j < 64) (hk : 64 ≤ j + k) : lowb (z ^^^ z >>> k) j +
 O64 ((W64 z / 2 ^ min (W64 (BitVec.ofNat 64 j)).toNat 64).tmod 2) * O64 (2 ^ min (W64 (BitVec.ofNat 64 j)).toNat 64) = lowb (z ^^^ z >>> k) (j + 1) := by
 rw [min_shift j (by omega), O64_bit, O64_pow]
 have h0 : z.toNat / 2 ^ (j + k) = 0 := Nat.div_eq_of_lt (Nat.lt_of_lt_of_le z.isLt (Nat.pow_le_pow_right (by omega) hk))
 refine low_next _ _ _ (by omega) ?_
 rw [fold_bit, h0]; simp
theorem div_shr32 (x c : BitVec 32) (k : Nat) (h : c.toNat = 2 ^ k) : x / c = x >>> k := by
 apply BitVec.eq_of_toNat_eq
 rw [BitVec.toNat_udiv, BitVec.toNat_ushiftRight, h, Nat.shiftRight_eq_div_pow]
theorem div_shr64 (x c : BitVec 64) (k : Nat) (h : c.toNat = 2 ^ k) : x / c = x >>> k := by
 apply BitVec.eq_of_toNat_eq
 rw [BitVec.toNat_udiv, BitVec.toNat_ushiftRight, h, Nat.shiftRight_eq_div_pow]
theorem narrow_fold (h : BitVec 32) (k : Nat) (c : BitVec 32) (hc : c.toNat = 2 ^ k) : BitVec.setWidth 32 (h.setWidth 64 ^^^ h.setWidth 64 >>> k) = h ^^^ h / c := by
 rw [div_shr32 h c k hc]
 apply BitVec.eq_of_toNat_eq
 have h1 := h.isLt
 have h2 : h.toNat >>> k < 4294967296 := by rw [Nat.shiftRight_eq_div_pow]; exact Nat.lt_of_le_of_lt (Nat.div_le_self _ _) h1
 have h3 : h.toNat ^^^ h.toNat >>> k < 2 ^ 32 := Nat.xor_lt_two_pow h1 h2
 simp only [BitVec.toNat_setWidth, BitVec.toNat_xor, BitVec.toNat_ushiftRight]
 rw [Nat.mod_eq_of_lt (show h.toNat < 2 ^ 64 by omega), Nat.mod_eq_of_lt h3]
theorem mod32 (x : BitVec 64) : BitVec.setWidth 32 (x % 4294967296#64) = BitVec.setWidth 32 x := by
 apply BitVec.eq_of_toNat_eq
 simp only [BitVec.toNat_setWidth, BitVec.toNat_umod, BitVec.toNat_ofNat]
 rw [show 4294967296 % 2 ^ 64 = 4294967296 from rfl]
 omega
end Go.Proofs.YtidlpihoafnobaaGreatDoor
namespace Go.Proofs.YtidlpihoafnobaaGreatDoor
set_option maxRecDepth 100000
section
variable {σ : Type}
def foldN (F : σ → Bytes → σ) (size : Nat) : Nat → σ → Bytes → σ × Bytes
 | 0, s, l => (s, l)
 | k + 1, s, l => if size ≤ l.length then foldN F size k (F s (l.take size)) (l.drop size) else (s, l)
def foldF (F : σ → Bytes → σ) (size : Nat) (s : σ) (l : Bytes) : σ × Bytes := foldN F size l.length s l
variable {F : σ → Bytes → σ} {size : Nat}
theorem foldN_fuel (h1 : 1 ≤ size) : ∀ (k m : Nat) (s : σ) (l : Bytes), l.length ≤ k → l.length ≤ m → foldN F size k s l = foldN F size m s l := by
 intro k
 induction k with
 | zero =>
  intro m s l hk hm
  obtain rfl : l = [] := List.eq_nil_of_length_eq_zero (by omega)
  cases m with
  | zero => rfl
  | succ m => rw [foldN, foldN, if_neg (by simp; omega)]
 | succ k ih =>
  intro m s l hk hm
  cases m with
  | zero =>
   obtain rfl : l = [] := List.eq_nil_of_length_eq_zero (by omega)
   rw [foldN, foldN, if_neg (by simp; omega)]
  | succ m =>
   rw [foldN, foldN]
   by_cases h : size ≤ l.length
   · rw [if_pos h, if_pos h]
     exact ih m _ _ (by rw [List.length_drop]; omega) (by rw [List.length_drop]; omega)
   · rw [if_neg h, if_neg h]
theorem foldF_short {s : σ} {l : Bytes} (h : l.length < size) : foldF F size s l = (s, l) := by
 unfold foldF
 cases hl : l.length with
 | zero => rfl
 | succ k => rw [foldN, if_neg (by omega)]
theorem foldF_step (h1 : 1 ≤ size) {s : σ} {l : Bytes} (h : size ≤ l.length) : foldF F size s l = foldF F size (F s (l.take size)) (l.drop size) := by
 unfold foldF
 cases hl : l.length with
 | zero => omega
 | succ k =>
  rw [foldN, if_pos (by omega)]
  exact foldN_fuel h1 _ _ _ _ (by rw [List.length_drop]; omega) (Nat.le_refl _)
theorem foldF_ind (h1 : 1 ≤ size) (C : σ → Bytes → Prop) (hs : ∀ s l, l.length < size → C s l) (hstep : ∀ s l, size ≤ l.length → C (F s (l.take size)) (l.drop size) → C s l) : ∀ (s : σ) (l : Bytes), C s l := by
 have key : ∀ (k : Nat) (s : σ) (l : Bytes), l.length ≤ k → C s l := by
  intro k
  induction k with
  | zero => intro s l hl; exact hs s l (by omega)
  | succ k ih =>
   intro s l hl
   by_cases h : size ≤ l.length
   · exact hstep s l h (ih _ _ (by rw [List.length_drop]; omega))
   · exact hs s l (by omega)
 intro s l
 exact key l.length s l (Nat.le_refl _)
theorem foldF_lt (h1 : 1 ≤ size) (s : σ) (l : Bytes) : (foldF F size s l).2.length < size := by
 refine foldF_ind h1 (F := F) (fun s l => (foldF F size s l).2.length < size) ?_ ?_ s l
 · intro s l hl; rw [foldF_short hl]; exact hl
 · intro s l hl ih; rw [foldF_step h1 hl]; exact ih
end
end Go.Proofs.YtidlpihoafnobaaGreatDoor
namespace Go.Proofs.YtidlpihoafnobaaGreatDoor.StX32
set_option maxRecDepth 100000
abbrev S4 := BitVec 32 × BitVec 32 × BitVec 32 × BitVec 32
def roundF (v k : BitVec 32) : BitVec 32 := rotl32 (v + k * 2246822519#32) 13 * 2654435761#32
def num4 (l : Bytes) (i : Nat) : BitVec 32 := (le ((l.drop i).take 4)).setWidth 32
theorem roundF_def (v k : BitVec 32) : rotl32 (v + k * 2246822519#32) 13 * 2654435761#32 = roundF v k := rfl
theorem num4_def (l : Bytes) (i : Nat) : BitVec.setWidth 32 (le (List.take 4 (List.drop i l))) = num4 l i := rfl
theorem num4_zero (l : Bytes) : BitVec.setWidth 32 (le (List.take 4 l)) = num4 l 0 := by unfold num4; rw [List.drop_zero]
def stepTo (s : S4) (l : Bytes) : Nat → S4
 | 0 => s
 | 1 => (roundF s.1 (num4 l 0), s.2.1, s.2.2.1, s.2.2.2)
 | 2 => (roundF s.1 (num4 l 0), roundF s.2.1 (num4 l 4), s.2.2.1, s.2.2.2)
 | 3 => (roundF s.1 (num4 l 0), roundF s.2.1 (num4 l 4), roundF s.2.2.1 (num4 l 8), s.2.2.2)
 | _ => (roundF s.1 (num4 l 0), roundF s.2.1 (num4 l 4), roundF s.2.2.1 (num4 l 8), roundF s.2.2.2 (num4 l 12))
def stepG (s : S4) (l : Bytes) : S4 := stepTo s l 4
def firstF (sd : BitVec 32) : S4 := (sd + 606290984#32, sd + 2246822519#32, sd, sd - 2654435761#32)
def sumF (s : S4) : BitVec 32 := rotl32 s.1 1 + rotl32 s.2.1 7 + rotl32 s.2.2.1 12 + rotl32 s.2.2.2 18
def g4 (h : BitVec 32) (l : Bytes) : BitVec 32 := rotl32 (h + (le (l.take 4)).setWidth 32 * 3266489917#32) 17 * 668265263#32
def g1 (h : BitVec 32) (b : BitVec 8) : BitVec 32 := rotl32 (h + b.setWidth 32 * 374761393#32) 11 * 2654435761#32
def restF (h : BitVec 32) (l : Bytes) : BitVec 32 := (foldF g4 4 h l).2.foldl g1 (foldF g4 4 h l).1
theorem restF_big {h : BitVec 32} {l : Bytes} (hl : 4 ≤ l.length) : restF h l = restF (g4 h (l.take 4)) (l.drop 4) := by unfold restF; rw [foldF_step (by omega) hl]
theorem restF_small {h : BitVec 32} {l : Bytes} (hl : l.length < 4) : restF h l = l.foldl g1 h := by unfold restF; rw [foldF_short hl]
theorem restF_one {h : BitVec 32} {b : BitVec 8} {r : Bytes} (hl : (b :: r).length < 4) : restF h (b :: r) = restF (g1 h b) r := by
 rw [restF_small hl, restF_small (by simp at hl ⊢; omega)]; rfl
theorem restF_nil (h : BitVec 32) : restF h [] = h := by rw [restF_small (by simp)]; rfl
def avalF (h : BitVec 32) : BitVec 32 :=
 ((h ^^^ h / 32768#32) * 2246822519#32 ^^^ (h ^^^ h / 32768#32) * 2246822519#32 / 8192#32) * 3266489917#32 ^^^
  ((h ^^^ h / 32768#32) * 2246822519#32 ^^^ (h ^^^ h / 32768#32) * 2246822519#32 / 8192#32) * 3266489917#32 / 65536#32
def headF (sd : BitVec 32) (s : S4) (lo : BitVec 64) : BitVec 32 := if 16 ≤ W64 lo then sumF s else sd + 374761393#32
def endF (sd : BitVec 32) (s : S4) (l : Bytes) (lo : BitVec 64) : BitVec 32 := avalF (restF (headF sd s lo + lo.setWidth 32) l)
def oneF (sd : BitVec 32) (l : Bytes) : BitVec 32 := endF sd (foldF stepG 16 (firstF sd) l).1 (foldF stepG 16 (firstF sd) l).2 (BitVec.ofNat 64 l.length)
theorem g4_take (h : BitVec 32) (l : Bytes) : g4 h (l.take 4) = g4 h l := by unfold g4; rw [List.take_take, show min 4 4 = 4 from rfl]
theorem cons_of {l : Bytes} {n : Nat} (h : l.length = n + 1) : ∃ b r, l = b :: r ∧ r.length = n := by
 cases l with
 | nil => simp at h
 | cons b r => exact ⟨b, r, rfl, by simpa using h⟩
end Go.Proofs.YtidlpihoafnobaaGreatDoor.StX32
namespace Go.Proofs.YtidlpihoafnobaaGreatDoor
set_option maxRecDepth 100000
theorem le_zero_or (y : BitVec 64) (b : BitVec 8) : b.setWidth 64 + y * 256#64 = y <<< 8 ||| b.setWidth 64 := by
 have h1 : y * 256#64 = y <<< 8 := by rw [BitVec.shiftLeft_eq_mul_twoPow]; rfl
 rw [h1, BitVec.add_comm]
 apply BitVec.add_eq_or_of_and_eq_zero
 apply BitVec.eq_of_getLsbD_eq
 intro i hi
 rw [BitVec.getLsbD_and, BitVec.getLsbD_shiftLeft, BitVec.getLsbD_setWidth]
 by_cases h : i < 8
 · simp [h]
 · rw [BitVec.getLsbD_of_ge b i (by omega)]; simp
theorem le_step (l : Bytes) (p m : Nat) : le ((l.drop p).take (m + 1)) = (l.getD p 0).setWidth 64 + le ((l.drop (p + 1)).take m) * 256#64 := by
 by_cases h : p < l.length
 · rw [List.drop_eq_getElem_cons h, List.take_succ_cons]
   show _ + _ = _
   rw [List.getD_eq_getElem?_getD, List.getElem?_eq_getElem h]; rfl
 · rw [List.drop_of_length_le (by omega), List.drop_of_length_le (by omega), List.getD_eq_getElem?_getD, List.getElem?_eq_none (by omega)]
   simp [le]
theorem le_or (l : Bytes) (p m : Nat) : le ((l.drop p).take (m + 1)) = le ((l.drop (p + 1)).take m) <<< 8 ||| (l.getD p 0).setWidth 64 := by
 rw [le_step]; exact le_zero_or _ _
theorem mul_shl (x : BitVec 64) (c : BitVec 64) (k : Nat) (h : c = BitVec.twoPow 64 k) : x * c = x <<< k := by subst h; rw [BitVec.shiftLeft_eq_mul_twoPow]
theorem le_tail (l : Bytes) : le (l.take 8) =
 ((((((((l.getD 7 0).setWidth 64 * 72057594037927936#64 ||| (l.getD 6 0).setWidth 64 * 281474976710656#64) ||| (l.getD 5 0).setWidth 64 * 1099511627776#64) ||| (l.getD 4 0).setWidth 64 * 4294967296#64) ||| (l.getD 3 0).setWidth 64 * 16777216#64) ||| (l.getD 2 0).setWidth 64 * 65536#64) ||| (l.getD 1 0).setWidth 64 * 256#64) ||| (l.getD 0 0).setWidth 64) := by
 have h := le_or l 0 7
 rw [List.drop_zero] at h
 rw [h, le_or l (0 + 1) 6, le_or l (0 + 1 + 1) 5, le_or l (0 + 1 + 1 + 1) 4, le_or l (0 + 1 + 1 + 1 + 1) 3, le_or l (0 + 1 + 1 + 1 + 1 + 1) 2, le_or l (0 + 1 + 1 + 1 + 1 + 1 + 1) 1, le_or l (0 + 1 + 1 + 1 + 1 + 1 + 1 + 1) 0, List.take_zero]
 rw [mul_shl _ 72057594037927936#64 56 rfl, mul_shl _ 281474976710656#64 48 rfl, mul_shl _ 1099511627776#64 40 rfl, mul_shl _ 4294967296#64 32 rfl, mul_shl _ 16777216#64 24 rfl, mul_shl _ 65536#64 16 rfl, mul_shl _ 256#64 8 rfl]
 simp only [le, BitVec.shiftLeft_or_distrib, ← BitVec.shiftLeft_add, Nat.zero_add, Nat.reduceAdd, BitVec.zero_shiftLeft, BitVec.zero_or]
end Go.Proofs.YtidlpihoafnobaaGreatDoor
namespace Go.Proofs.YtidlpihoafnobaaGreatDoor
set_option maxRecDepth 100000
def fmix64 (h : BitVec 64) : BitVec 64 :=
 ((h ^^^ h / 8589934592#64) * 18397679294719823053#64 ^^^ (h ^^^ h / 8589934592#64) * 18397679294719823053#64 / 8589934592#64) * 14181476777654086739#64 ^^^
  ((h ^^^ h / 8589934592#64) * 18397679294719823053#64 ^^^ (h ^^^ h / 8589934592#64) * 18397679294719823053#64 / 8589934592#64) * 14181476777654086739#64 / 8589934592#64
theorem fmix64_def (h : BitVec 64) : ((h ^^^ h / 8589934592#64) * 18397679294719823053#64 ^^^ (h ^^^ h / 8589934592#64) * 18397679294719823053#64 / 8589934592#64) * 14181476777654086739#64 ^^^
 ((h ^^^ h / 8589934592#64) * 18397679294719823053#64 ^^^ (h ^^^ h / 8589934592#64) * 18397679294719823053#64 / 8589934592#64) * 14181476777654086739#64 / 8589934592#64 = fmix64 h := rfl
theorem shr33 (x : BitVec 64) : x >>> 33 = x / 8589934592#64 := (div_shr64 x _ 33 (by rfl)).symm
end Go.Proofs.YtidlpihoafnobaaGreatDoor
namespace Go.Proofs.YtidlpihoafnobaaGreatDoor.StM64
set_option maxRecDepth 100000
abbrev S2 := BitVec 64 × BitVec 64
def num8 (l : Bytes) (i : Nat) : BitVec 64 := le ((l.drop i).take 8)
theorem num8_def (l : Bytes) (i : Nat) : le (List.take 8 (List.drop i l)) = num8 l i := rfl
theorem num8_zero (l : Bytes) : le (List.take 8 l) = num8 l 0 := by unfold num8; rw [List.drop_zero]
def wordA (k : BitVec 64) : BitVec 64 := rotl64 (k * 9782798678568883157#64) 31 * 5545529020109919103#64
theorem wordA_def (k : BitVec 64) : rotl64 (k * 9782798678568883157#64) 31 * 5545529020109919103#64 = wordA k := rfl
def wordB (k : BitVec 64) : BitVec 64 := rotl64 (k * 5545529020109919103#64) 33 * 9782798678568883157#64
theorem wordB_def (k : BitVec 64) : rotl64 (k * 5545529020109919103#64) 33 * 9782798678568883157#64 = wordB k := rfl
def mixA (s : S2) (l : Bytes) : BitVec 64 := s.1 ^^^ wordA (num8 l 0)
def mixB (s : S2) (l : Bytes) : BitVec 64 := s.2 ^^^ wordB (num8 l 8)
def turnA (x y : BitVec 64) : BitVec 64 := (rotl64 x 27 + y) * 5#64 + 1390208809#64
def turnB (x y : BitVec 64) : BitVec 64 := (rotl64 x 31 + y) * 5#64 + 944331445#64
theorem turnA_def (x y : BitVec 64) : (rotl64 x 27 + y) * 5#64 + 1390208809#64 = turnA x y := rfl
theorem turnB_def (x y : BitVec 64) : (rotl64 x 31 + y) * 5#64 + 944331445#64 = turnB x y := rfl
def stepG (s : S2) (l : Bytes) : S2 := (turnA (mixA s l) s.2, turnB (mixB s l) (turnA (mixA s l) s.2))
def firstF (sd : BitVec 32) : S2 := (sd.setWidth 64, sd.setWidth 64)
def lastHi (a b : BitVec 64) : BitVec 64 := fmix64 (b + (a + b)) + (fmix64 (a + b) + fmix64 (b + (a + b)))
def lastLo (a b : BitVec 64) : BitVec 64 := fmix64 (a + b) + fmix64 (b + (a + b))
def endHi (s : S2) (l : Bytes) (lo : BitVec 64) : BitVec 64 := lastHi (mixA s l ^^^ lo) (mixB s l ^^^ lo)
def endLo (s : S2) (l : Bytes) (lo : BitVec 64) : BitVec 64 := lastLo (mixA s l ^^^ lo) (mixB s l ^^^ lo)
def oneHi (sd : BitVec 32) (l : Bytes) : BitVec 64 := endHi (foldF stepG 16 (firstF sd) l).1 (foldF stepG 16 (firstF sd) l).2 (BitVec.ofNat 64 l.length)
def oneLo (sd : BitVec 32) (l : Bytes) : BitVec 64 := endLo (foldF stepG 16 (firstF sd) l).1 (foldF stepG 16 (firstF sd) l).2 (BitVec.ofNat 64 l.length)
theorem mixB_short {s : S2} {l : Bytes} (h : l.length ≤ 8) : mixB s l = s.2 := by
 unfold mixB num8
 rw [List.drop_eq_nil_of_le h]
 have e : wordB (le (List.take 8 ([] : Bytes))) = 0#64 := by decide
 rw [e, BitVec.xor_zero]
end Go.Proofs.YtidlpihoafnobaaGreatDoor.StM64
namespace Go.Proofs.YtidlpihoafnobaaGreatDoor.StX64
set_option maxRecDepth 100000
abbrev S4 := BitVec 64 × BitVec 64 × BitVec 64 × BitVec 64
def roundF (v k : BitVec 64) : BitVec 64 := rotl64 (v + k * 14029467366897019727#64) 31 * 11400714785074694791#64
theorem roundF_def (v k : BitVec 64) : rotl64 (v + k * 14029467366897019727#64) 31 * 11400714785074694791#64 = roundF v k := rfl
def num8 (l : Bytes) (i : Nat) : BitVec 64 := le ((l.drop i).take 8)
def stepTo (s : S4) (l : Bytes) : Nat → S4
 | 0 => s
 | 1 => (roundF s.1 (num8 l 0), s.2.1, s.2.2.1, s.2.2.2)
 | 2 => (roundF s.1 (num8 l 0), roundF s.2.1 (num8 l 8), s.2.2.1, s.2.2.2)
 | 3 => (roundF s.1 (num8 l 0), roundF s.2.1 (num8 l 8), roundF s.2.2.1 (num8 l 16), s.2.2.2)
 | _ => (roundF s.1 (num8 l 0), roundF s.2.1 (num8 l 8), roundF s.2.2.1 (num8 l 16), roundF s.2.2.2 (num8 l 24))
def stepG (s : S4) (l : Bytes) : S4 := stepTo s l 4
def firstF (sd : BitVec 64) : S4 := (sd + 11400714785074694791#64 + 14029467366897019727#64, sd + 14029467366897019727#64, sd, sd - 11400714785074694791#64)
def mergeF (h v : BitVec 64) : BitVec 64 := (h ^^^ roundF 0#64 v) * 11400714785074694791#64 + 9650029242287828579#64
theorem mergeF_def (h v : BitVec 64) : (h ^^^ roundF 0#64 v) * 11400714785074694791#64 + 9650029242287828579#64 = mergeF h v := rfl
def sumF (s : S4) : BitVec 64 := rotl64 s.1 1 + rotl64 s.2.1 7 + rotl64 s.2.2.1 12 + rotl64 s.2.2.2 18
def allTo (s : S4) : Nat → BitVec 64
 | 0 => sumF s
 | 1 => mergeF (sumF s) s.1
 | 2 => mergeF (mergeF (sumF s) s.1) s.2.1
 | 3 => mergeF (mergeF (mergeF (sumF s) s.1) s.2.1) s.2.2.1
 | _ => mergeF (mergeF (mergeF (mergeF (sumF s) s.1) s.2.1) s.2.2.1) s.2.2.2
def allF (s : S4) : BitVec 64 := allTo s 4
def g8 (h : BitVec 64) (l : Bytes) : BitVec 64 := rotl64 (h ^^^ roundF 0#64 (le (l.take 8))) 27 * 11400714785074694791#64 + 9650029242287828579#64
theorem g8_def (h : BitVec 64) (l : Bytes) : rotl64 (h ^^^ roundF 0#64 (le (List.take 8 l))) 27 * 11400714785074694791#64 + 9650029242287828579#64 = g8 h l := rfl
def g4 (h : BitVec 64) (l : Bytes) : BitVec 64 := rotl64 (h ^^^ le (l.take 4) * 11400714785074694791#64) 23 * 14029467366897019727#64 + 1609587929392839161#64
theorem g4_def (h : BitVec 64) (l : Bytes) : rotl64 (h ^^^ le (List.take 4 l) * 11400714785074694791#64) 23 * 14029467366897019727#64 + 1609587929392839161#64 = g4 h l := rfl
def g1 (h : BitVec 64) (b : BitVec 8) : BitVec 64 := rotl64 (h ^^^ b.setWidth 64 * 2870177450012600261#64) 11 * 11400714785074694791#64
theorem g1_def (h : BitVec 64) (b : BitVec 8) : rotl64 (h ^^^ BitVec.setWidth 64 b * 2870177450012600261#64) 11 * 11400714785074694791#64 = g1 h b := rfl
def smallF (h : BitVec 64) (l : Bytes) : BitVec 64 := if 4 ≤ l.length then (l.drop 4).foldl g1 (g4 h l) else l.foldl g1 h
def restF (h : BitVec 64) (l : Bytes) : BitVec 64 := smallF (foldF g8 8 h l).1 (foldF g8 8 h l).2
theorem g8_take (h : BitVec 64) (l : Bytes) : g8 h (l.take 8) = g8 h l := by unfold g8; rw [List.take_take, show min 8 8 = 8 from rfl]
theorem restF_big {h : BitVec 64} {l : Bytes} (hl : 8 ≤ l.length) : restF h l = restF (g8 h l) (l.drop 8) := by unfold restF; rw [foldF_step (by omega) hl, g8_take]
theorem restF_small {h : BitVec 64} {l : Bytes} (hl : l.length < 8) : restF h l = smallF h l := by unfold restF; rw [foldF_short hl]
theorem restF_four {h : BitVec 64} {l : Bytes} (hl : l.length < 8) (h4 : 4 ≤ l.length) : restF h l = restF (g4 h l) (l.drop 4) := by
 rw [restF_small hl, restF_small (by rw [List.length_drop]; omega)]
 unfold smallF
 rw [if_pos h4, if_neg (by rw [List.length_drop]; omega)]
theorem restF_one {h : BitVec 64} {b : BitVec 8} {r : Bytes} (hl : (b :: r).length < 4) : restF h (b :: r) = restF (g1 h b) r := by
 have h2 : r.length < 4 := by simp at hl; omega
 rw [restF_small (by omega), restF_small (by omega)]
 unfold smallF
 rw [if_neg (by omega), if_neg (by omega)]; rfl
theorem restF_nil (h : BitVec 64) : restF h [] = h := by rw [restF_small (by simp)]; rfl
def avalF (h : BitVec 64) : BitVec 64 :=
 ((h ^^^ h / 8589934592#64) * 14029467366897019727#64 ^^^ (h ^^^ h / 8589934592#64) * 14029467366897019727#64 / 536870912#64) * 1609587929392839161#64 ^^^
  ((h ^^^ h / 8589934592#64) * 14029467366897019727#64 ^^^ (h ^^^ h / 8589934592#64) * 14029467366897019727#64 / 536870912#64) * 1609587929392839161#64 / 4294967296#64
theorem avalF_def (h : BitVec 64) : ((h ^^^ h / 8589934592#64) * 14029467366897019727#64 ^^^ (h ^^^ h / 8589934592#64) * 14029467366897019727#64 / 536870912#64) * 1609587929392839161#64 ^^^
 ((h ^^^ h / 8589934592#64) * 14029467366897019727#64 ^^^ (h ^^^ h / 8589934592#64) * 14029467366897019727#64 / 536870912#64) * 1609587929392839161#64 / 4294967296#64 = avalF h := rfl
def headF (sd : BitVec 64) (s : S4) (lo : BitVec 64) : BitVec 64 := if 32 ≤ W64 lo then allF s else sd + 2870177450012600261#64
def endF (sd : BitVec 64) (s : S4) (l : Bytes) (lo : BitVec 64) : BitVec 64 := avalF (restF (headF sd s lo + lo) l)
def oneF (sd : BitVec 64) (l : Bytes) : BitVec 64 := endF sd (foldF stepG 32 (firstF sd) l).1 (foldF stepG 32 (firstF sd) l).2 (BitVec.ofNat 64 l.length)
theorem cons_of {l : Bytes} {n : Nat} (h : l.length = n + 1) : ∃ b r, l = b :: r ∧ r.length = n := by
 cases l with
 | nil => simp at h
 | cons b r => exact ⟨b, r, rfl, by simpa using h⟩
theorem le_bound (l : Bytes) : ∀ k : Nat, l.length ≤ k → (le l).toNat < 256 ^ k := by
 induction l with
 | nil => intro k _; exact Nat.pow_pos (by omega)
 | cons b r ih =>
  intro k hk
  obtain ⟨k, rfl⟩ : ∃ j, k = j + 1 := ⟨k - 1, by simp at hk; omega⟩
  have h1 := ih k (by simpa using hk)
  have h2 := b.isLt
  have h3 : (le (b :: r)).toNat ≤ b.toNat + (le r).toNat * 256 := by
   show (b.setWidth 64 + le r * 256#64).toNat ≤ _
   rw [BitVec.toNat_add, BitVec.toNat_mul, BitVec.toNat_setWidth]
   refine Nat.le_trans (Nat.mod_le _ _) ?_
   have h4 := Nat.mod_le b.toNat (2 ^ 64)
   have h5 := Nat.mod_le ((le r).toNat * 256) (2 ^ 64)
   have h6 : (256#64).toNat = 256 := rfl
   rw [h6]
   omega
  rw [Nat.pow_succ]
  omega
theorem le4_back (l : Bytes) : BitVec.setWidth 64 (BitVec.setWidth 32 (le (List.take 4 l))) = le (List.take 4 l) := by
 have h := le_bound (l.take 4) 4 (by rw [List.length_take]; omega)
 apply BitVec.eq_of_toNat_eq
 rw [BitVec.toNat_setWidth, BitVec.toNat_setWidth]
 omega
end Go.Proofs.YtidlpihoafnobaaGreatDoor.StX64
namespace Go.Proofs.YtidlpihoafnobaaGreatDoor.StSip
set_option maxRecDepth 100000
abbrev S4 := BitVec 64 × BitVec 64 × BitVec 64 × BitVec 64
def r0 (s : S4) : S4 := (s.1 + s.2.1, s.2.1, s.2.2.1, s.2.2.2)
def r1 (s : S4) : S4 := (s.1, rotl64 s.2.1 13 ^^^ s.1, s.2.2.1, s.2.2.2)
def r2 (s : S4) : S4 := (rotl64 s.1 32, s.2.1, s.2.2.1, s.2.2.2)
def r3 (s : S4) : S4 := (s.1, s.2.1, s.2.2.1 + s.2.2.2, s.2.2.2)
def r4 (s : S4) : S4 := (s.1, s.2.1, s.2.2.1, rotl64 s.2.2.2 16 ^^^ s.2.2.1)
def r5 (s : S4) : S4 := (s.1 + s.2.2.2, s.2.1, s.2.2.1, s.2.2.2)
def r6 (s : S4) : S4 := (s.1, s.2.1, s.2.2.1, rotl64 s.2.2.2 21 ^^^ s.1)
def r7 (s : S4) : S4 := (s.1, s.2.1, s.2.2.1 + s.2.1, s.2.2.2)
def r8 (s : S4) : S4 := (s.1, rotl64 s.2.1 17 ^^^ s.2.2.1, s.2.2.1, s.2.2.2)
def r9 (s : S4) : S4 := (s.1, s.2.1, rotl64 s.2.2.1 32, s.2.2.2)
def roundF (s : S4) : S4 := r9 (r8 (r7 (r6 (r5 (r4 (r3 (r2 (r1 (r0 s)))))))))
def roundsF : Nat → S4 → S4
 | 0, s => s
 | n + 1, s => roundF (roundsF n s)
def wordF (n : Nat) (s : S4) (m : BitVec 64) : S4 :=
 ((roundsF n (s.1, s.2.1, s.2.2.1, s.2.2.2 ^^^ m)).1 ^^^ m, (roundsF n (s.1, s.2.1, s.2.2.1, s.2.2.2 ^^^ m)).2.1, (roundsF n (s.1, s.2.1, s.2.2.1, s.2.2.2 ^^^ m)).2.2.1, (roundsF n (s.1, s.2.1, s.2.2.1, s.2.2.2 ^^^ m)).2.2.2)
def cOf (kd : Int) : Nat := if kd = 6 then 2 else if kd = 8 then 2 else if kd = 7 then 1 else 0
def dOf (kd : Int) : Nat := if kd = 6 then 4 else if kd = 8 then 4 else if kd = 7 then 3 else 0
def stepG (n : Nat) (s : S4) (l : Bytes) : S4 := wordF n s (le (l.take 8))
def firstF (kd : Int) (hi lo : BitVec 64) : S4 :=
 (lo ^^^ 8317987319222330741#64, if kd = 8 then (hi ^^^ 7237128888997146477#64) ^^^ 238#64 else hi ^^^ 7237128888997146477#64, lo ^^^ 7816392313619706465#64, hi ^^^ 8387220255154660723#64)
def allF (s : S4) : BitVec 64 := s.1 ^^^ s.2.1 ^^^ s.2.2.1 ^^^ s.2.2.2
def x1F (c : BitVec 64) (s : S4) : S4 := (s.1, s.2.1 ^^^ c, s.2.2.1, s.2.2.2)
def x2F (c : BitVec 64) (s : S4) : S4 := (s.1, s.2.1, s.2.2.1 ^^^ c, s.2.2.2)
def midF (kd : Int) (s : S4) (l : Bytes) (lo : BitVec 64) : S4 := wordF (cOf kd) s (le (l.take 8) ||| lo * 72057594037927936#64)
def endHi (kd : Int) (s : S4) (l : Bytes) (lo : BitVec 64) : BitVec 64 :=
 if kd = 8 then allF (roundsF (dOf kd) (x1F 221#64 (roundsF (dOf kd) (x2F 238#64 (midF kd s l lo))))) else 0#64
def endLo (kd : Int) (s : S4) (l : Bytes) (lo : BitVec 64) : BitVec 64 :=
 if kd = 8 then allF (roundsF (dOf kd) (x2F 238#64 (midF kd s l lo))) else allF (roundsF (dOf kd) (x2F 255#64 (midF kd s l lo)))
theorem endHi_8 (s : S4) (l : Bytes) (lo : BitVec 64) : endHi 8 s l lo = allF (roundsF (dOf 8) (x1F 221#64 (roundsF (dOf 8) (x2F 238#64 (midF 8 s l lo))))) := rfl
theorem endLo_8 (s : S4) (l : Bytes) (lo : BitVec 64) : endLo 8 s l lo = allF (roundsF (dOf 8) (x2F 238#64 (midF 8 s l lo))) := rfl
theorem endHi_n {kd : Int} (h : ¬ kd = 8) (s : S4) (l : Bytes) (lo : BitVec 64) : endHi kd s l lo = 0#64 := by unfold endHi; rw [if_neg h]
theorem endLo_n {kd : Int} (h : ¬ kd = 8) (s : S4) (l : Bytes) (lo : BitVec 64) : endLo kd s l lo = allF (roundsF (dOf kd) (x2F 255#64 (midF kd s l lo))) := by unfold endLo; rw [if_neg h]
def IsK (kd : Int) : Prop := kd = 6 ∨ kd = 7 ∨ kd = 8
theorem cOf_pos {kd : Int} (h : IsK kd) : ((cOf kd : Nat) : Int) ≠ 0 ∧ (((cOf kd : Nat) : Int) == 0) = false ∧ 1 ≤ cOf kd := by rcases h with rfl | rfl | rfl <;> simp [cOf]
theorem cOf_zero {kd : Int} (h : ¬ IsK kd) : cOf kd = 0 := by unfold IsK at h; unfold cOf; rw [if_neg (fun e => h (.inl e)), if_neg (fun e => h (.inr (.inr e))), if_neg (fun e => h (.inr (.inl e)))]
instance (kd : Int) : Decidable (IsK kd) := inferInstanceAs (Decidable (kd = 6 ∨ kd = 7 ∨ kd = 8))
def oneHi (kd : Int) (hi lo : BitVec 64) (l : Bytes) : BitVec 64 := if IsK kd then endHi kd (foldF (stepG (cOf kd)) 8 (firstF kd hi lo) l).1 (foldF (stepG (cOf kd)) 8 (firstF kd hi lo) l).2 (BitVec.ofNat 64 l.length) else 0#64
def oneLo (kd : Int) (hi lo : BitVec 64) (l : Bytes) : BitVec 64 := if IsK kd then endLo kd (foldF (stepG (cOf kd)) 8 (firstF kd hi lo) l).1 (foldF (stepG (cOf kd)) 8 (firstF kd hi lo) l).2 (BitVec.ofNat 64 l.length) else 0#64
theorem le_bound (l : Bytes) : ∀ k : Nat, l.length ≤ k → (le l).toNat < 256 ^ k := by
 induction l with
 | nil => intro k _; exact Nat.pow_pos (by omega)
 | cons b r ih =>
  intro k hk
  obtain ⟨k, rfl⟩ : ∃ j, k = j + 1 := ⟨k - 1, by simp at hk; omega⟩
  have h1 := ih k (by simpa using hk)
  have h2 := b.isLt
  have h3 : (le (b :: r)).toNat ≤ b.toNat + (le r).toNat * 256 := by
   show (b.setWidth 64 + le r * 256#64).toNat ≤ _
   rw [BitVec.toNat_add, BitVec.toNat_mul, BitVec.toNat_setWidth]
   refine Nat.le_trans (Nat.mod_le _ _) ?_
   have h4 := Nat.mod_le b.toNat (2 ^ 64)
   have h5 := Nat.mod_le ((le r).toNat * 256) (2 ^ 64)
   have h6 : (256#64).toNat = 256 := rfl
   rw [h6]
   omega
  rw [Nat.pow_succ]
  omega
theorem mod_one (a : Nat) : a * 72057594037927936 % 18446744073709551616 = 72057594037927936 * (a % 256) := by omega
theorem mod_two (a : Nat) : a % 256 * 72057594037927936 % 18446744073709551616 = 72057594037927936 * (a % 256) := by
 have h := Nat.mod_lt a (show 256 > 0 by omega)
 generalize a % 256 = b at h
 omega
theorem mod_three (a x : Nat) (h : x < 72057594037927936) : 72057594037927936 * (a % 256) + x = (x + 72057594037927936 * (a % 256)) % 18446744073709551616 := by
 have h := Nat.mod_lt a (show 256 > 0 by omega)
 generalize a % 256 = b at h
 omega
theorem or_add (l : Bytes) (lo : BitVec 64) (hl : l.length < 8) : le (l.take 8) ||| lo * 72057594037927936#64 = le (l.take 8) + lo % 256#64 * 72057594037927936#64 := by
 have hb : (le (l.take 8)).toNat < 72057594037927936 := Nat.lt_of_lt_of_eq (le_bound (l.take 8) 7 (by rw [List.length_take]; omega)) (by decide)
 generalize le (l.take 8) = x at hb
 have h1 := lo.isLt
 apply BitVec.eq_of_toNat_eq
 rw [BitVec.toNat_or, BitVec.toNat_add, BitVec.toNat_mul, BitVec.toNat_mul, BitVec.toNat_umod]
 rw [show (256#64).toNat = 256 from rfl, show (72057594037927936#64).toNat = 72057594037927936 from rfl]
 have e0 : (2 : Nat) ^ 56 = 72057594037927936 := by decide
 have e3 : (2 : Nat) ^ 64 = 18446744073709551616 := by decide
 have e1 : lo.toNat * 72057594037927936 % 2 ^ 64 = 2 ^ 56 * (lo.toNat % 256) := by rw [e0, e3]; exact mod_one _
 have e2 : lo.toNat % 256 * 72057594037927936 % 2 ^ 64 = 2 ^ 56 * (lo.toNat % 256) := by rw [e0, e3]; exact mod_two _
 rw [e1, e2, Nat.or_comm, ← Nat.two_pow_add_eq_or_of_lt (show x.toNat < 2 ^ 56 by rw [e0]; exact hb), e0, e3]
 exact mod_three _ _ hb
end Go.Proofs.YtidlpihoafnobaaGreatDoor.StSip
namespace Go.Proofs.YtidlpihoafnobaaGreatDoor.StM86
set_option maxRecDepth 100000
abbrev S4 := BitVec 32 × BitVec 32 × BitVec 32 × BitVec 32
def num4 (l : Bytes) (i : Nat) : BitVec 32 := (le ((l.drop i).take 4)).setWidth 32
theorem num4_def (l : Bytes) (i : Nat) : BitVec.setWidth 32 (le (List.take 4 (List.drop i l))) = num4 l i := rfl
theorem num4_zero (l : Bytes) : BitVec.setWidth 32 (le (List.take 4 l)) = num4 l 0 := by unfold num4; rw [List.drop_zero]
theorem num4_none {l : Bytes} {i : Nat} (h : l.length ≤ i) : num4 l i = 0#32 := by unfold num4; rw [List.drop_eq_nil_of_le h]; rfl
def w0 (k : BitVec 32) : BitVec 32 := rotl32 (k * 597399067#32) 15 * 2869860233#32
def w1 (k : BitVec 32) : BitVec 32 := rotl32 (k * 2869860233#32) 16 * 951274213#32
def w2 (k : BitVec 32) : BitVec 32 := rotl32 (k * 951274213#32) 17 * 2716044179#32
def w3 (k : BitVec 32) : BitVec 32 := rotl32 (k * 2716044179#32) 18 * 597399067#32
theorem w0_def (k : BitVec 32) : rotl32 (k * 597399067#32) 15 * 2869860233#32 = w0 k := rfl
theorem w1_def (k : BitVec 32) : rotl32 (k * 2869860233#32) 16 * 951274213#32 = w1 k := rfl
theorem w2_def (k : BitVec 32) : rotl32 (k * 951274213#32) 17 * 2716044179#32 = w2 k := rfl
theorem w3_def (k : BitVec 32) : rotl32 (k * 2716044179#32) 18 * 597399067#32 = w3 k := rfl
theorem w0_zero : w0 0#32 = 0#32 := by decide
theorem w1_zero : w1 0#32 = 0#32 := by decide
theorem w2_zero : w2 0#32 = 0#32 := by decide
theorem w3_zero : w3 0#32 = 0#32 := by decide
def mix0 (s : S4) (l : Bytes) : BitVec 32 := s.1 ^^^ w0 (num4 l 0)
def mix1 (s : S4) (l : Bytes) : BitVec 32 := s.2.1 ^^^ w1 (num4 l 4)
def mix2 (s : S4) (l : Bytes) : BitVec 32 := s.2.2.1 ^^^ w2 (num4 l 8)
def mix3 (s : S4) (l : Bytes) : BitVec 32 := s.2.2.2 ^^^ w3 (num4 l 12)
theorem mix0_none {s : S4} {l : Bytes} (h : l.length ≤ 0) : mix0 s l = s.1 := by unfold mix0; rw [num4_none h, w0_zero, BitVec.xor_zero]
theorem mix1_none {s : S4} {l : Bytes} (h : l.length ≤ 4) : mix1 s l = s.2.1 := by unfold mix1; rw [num4_none h, w1_zero, BitVec.xor_zero]
theorem mix2_none {s : S4} {l : Bytes} (h : l.length ≤ 8) : mix2 s l = s.2.2.1 := by unfold mix2; rw [num4_none h, w2_zero, BitVec.xor_zero]
theorem mix3_none {s : S4} {l : Bytes} (h : l.length ≤ 12) : mix3 s l = s.2.2.2 := by unfold mix3; rw [num4_none h, w3_zero, BitVec.xor_zero]
def turn0 (x y : BitVec 32) : BitVec 32 := (rotl32 x 19 + y) * 5#32 + 1444728091#32
def turn1 (x y : BitVec 32) : BitVec 32 := (rotl32 x 17 + y) * 5#32 + 197830471#32
def turn2 (x y : BitVec 32) : BitVec 32 := (rotl32 x 15 + y) * 5#32 + 2530024501#32
def turn3 (x y : BitVec 32) : BitVec 32 := (rotl32 x 13 + y) * 5#32 + 850148119#32
theorem turn0_def (x y : BitVec 32) : (rotl32 x 19 + y) * 5#32 + 1444728091#32 = turn0 x y := rfl
theorem turn1_def (x y : BitVec 32) : (rotl32 x 17 + y) * 5#32 + 197830471#32 = turn1 x y := rfl
theorem turn2_def (x y : BitVec 32) : (rotl32 x 15 + y) * 5#32 + 2530024501#32 = turn2 x y := rfl
theorem turn3_def (x y : BitVec 32) : (rotl32 x 13 + y) * 5#32 + 850148119#32 = turn3 x y := rfl
def one0 (s : S4) (l : Bytes) : S4 := (turn0 (mix0 s l) s.2.1, s.2.1, s.2.2.1, s.2.2.2)
def one1 (s : S4) (l : Bytes) : S4 := (s.1, turn1 (mix1 s l) s.2.2.1, s.2.2.1, s.2.2.2)
def one2 (s : S4) (l : Bytes) : S4 := (s.1, s.2.1, turn2 (mix2 s l) s.2.2.2, s.2.2.2)
def one3 (s : S4) (l : Bytes) : S4 := (s.1, s.2.1, s.2.2.1, turn3 (mix3 s l) s.1)
def stepTo (s : S4) (l : Bytes) : Nat → S4
 | 0 => s
 | 1 => one0 s l
 | 2 => one1 (one0 s l) l
 | 3 => one2 (one1 (one0 s l) l) l
 | _ => one3 (one2 (one1 (one0 s l) l) l) l
def stepG (s : S4) (l : Bytes) : S4 := stepTo s l 4
theorem stepTo1 (s : S4) (l : Bytes) : one0 (stepTo s l 0) l = stepTo s l 1 := rfl
theorem stepTo2 (s : S4) (l : Bytes) : one1 (stepTo s l 1) l = stepTo s l 2 := rfl
theorem stepTo3 (s : S4) (l : Bytes) : one2 (stepTo s l 2) l = stepTo s l 3 := rfl
theorem stepTo4 (s : S4) (l : Bytes) : one3 (stepTo s l 3) l = stepTo s l 4 := rfl
def firstF (sd : BitVec 32) : S4 := (sd, sd, sd, sd)
def numsTo (l : Bytes) : Nat → S4
 | 0 => (0#32, 0#32, 0#32, 0#32)
 | 1 => (num4 l 0, 0#32, 0#32, 0#32)
 | 2 => (num4 l 0, num4 l 4, 0#32, 0#32)
 | 3 => (num4 l 0, num4 l 4, num4 l 8, 0#32)
 | _ => (num4 l 0, num4 l 4, num4 l 8, num4 l 12)
def mixTo (s : S4) (l : Bytes) : Nat → S4
 | 0 => s
 | 1 => (mix0 s l, s.2.1, s.2.2.1, s.2.2.2)
 | 2 => (mix0 s l, mix1 s l, s.2.2.1, s.2.2.2)
 | 3 => (mix0 s l, mix1 s l, mix2 s l, s.2.2.2)
 | _ => (mix0 s l, mix1 s l, mix2 s l, mix3 s l)
def mapTo (f : BitVec 32 → BitVec 32) (s : S4) : Nat → S4
 | 0 => s
 | 1 => (f s.1, s.2.1, s.2.2.1, s.2.2.2)
 | 2 => (f s.1, f s.2.1, s.2.2.1, s.2.2.2)
 | 3 => (f s.1, f s.2.1, f s.2.2.1, s.2.2.2)
 | _ => (f s.1, f s.2.1, f s.2.2.1, f s.2.2.2)
def sumF (s : S4) : BitVec 32 := s.1 + s.2.1 + s.2.2.1 + s.2.2.2
def sumTo (s : S4) : Nat → BitVec 32
 | 0 => s.1
 | 1 => s.1 + s.2.1
 | 2 => s.1 + s.2.1 + s.2.2.1
 | _ => sumF s
def spreadTo (s : S4) : Nat → S4
 | 0 => (sumF s, s.2.1, s.2.2.1, s.2.2.2)
 | 1 => (sumF s, s.2.1 + sumF s, s.2.2.1, s.2.2.2)
 | 2 => (sumF s, s.2.1 + sumF s, s.2.2.1 + sumF s, s.2.2.2)
 | _ => (sumF s, s.2.1 + sumF s, s.2.2.1 + sumF s, s.2.2.2 + sumF s)
def spreadF (s : S4) : S4 := spreadTo s 3
def endS (s : S4) (l : Bytes) (lo : BitVec 64) : S4 := spreadF (mapTo fmix32 (spreadF (mapTo (fun x => x ^^^ lo.setWidth 32) (mixTo s l 4) 4)) 4)
def joinF (a b : BitVec 32) : BitVec 64 := a.setWidth 64 * 4294967296#64 + b.setWidth 64
def lastHi (s : S4) : BitVec 64 := joinF s.2.2.2 s.2.2.1
def lastLo (s : S4) : BitVec 64 := joinF s.2.1 s.1
def endHi (s : S4) (l : Bytes) (lo : BitVec 64) : BitVec 64 := lastHi (endS s l lo)
def endLo (s : S4) (l : Bytes) (lo : BitVec 64) : BitVec 64 := lastLo (endS s l lo)
def oneHi (sd : BitVec 32) (l : Bytes) : BitVec 64 := endHi (foldF stepG 16 (firstF sd) l).1 (foldF stepG 16 (firstF sd) l).2 (BitVec.ofNat 64 l.length)
def oneLo (sd : BitVec 32) (l : Bytes) : BitVec 64 := endLo (foldF stepG 16 (firstF sd) l).1 (foldF stepG 16 (firstF sd) l).2 (BitVec.ofNat 64 l.length)
theorem joinF_def (a b : BitVec 32) : a.setWidth 64 * 4294967296#64 + b.setWidth 64 = joinF a b := rfl
theorem join_or (a b : BitVec 32) : a.setWidth 64 * 4294967296#64 ||| b.setWidth 64 = joinF a b := by
 have h1 : a.setWidth 64 * 4294967296#64 = a.setWidth 64 <<< 32 := by rw [BitVec.shiftLeft_eq_mul_twoPow]; rfl
 unfold joinF
 rw [h1]
 symm
 apply BitVec.add_eq_or_of_and_eq_zero
 apply BitVec.eq_of_getLsbD_eq
 intro i hi
 rw [BitVec.getLsbD_and, BitVec.getLsbD_shiftLeft, BitVec.getLsbD_setWidth, BitVec.getLsbD_setWidth]
 by_cases h : i < 32
 · simp [h]
 · rw [BitVec.getLsbD_of_ge b i (by omega)]; simp
end Go.Proofs.YtidlpihoafnobaaGreatDoor.StM86
