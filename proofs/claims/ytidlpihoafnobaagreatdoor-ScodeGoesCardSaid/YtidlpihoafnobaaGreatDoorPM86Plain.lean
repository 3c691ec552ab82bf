/- LePlain Mix64Plain M64Plain SipPlain M86Plain -/
import Derived.Test.YtidlpihoafnobaaGreatDoorPWriteAM64
set_option linter.unusedVariables false
set_option linter.unusedSimpArgs false
namespace Go.Proofs.YtidlpihoafnobaaGreatDoor
set_option maxRecDepth 100000
theorem le_zero_or (y : BitVec 64) (b : BitVec 8) : b.setWidth 64 + y * 256#64 = y <<< 8 ||| b.setWidth 64 := by
 have h1 : y * 256#64 = y <<< 8 := by rw [BitVec.shiftLeft_eq_mul_twoPow]; rfl
 rw [h1, BitVec.add_comm]
 apply BitVec.add_eq_or_of_and_eq_zero
 apply BitVec.eq_of_getLsbD_eq
 intro i hi
 rw [BitVec.getLsbD_and, BitVec.getLsbD_shiftLeft, BitVec.getLsbD_setWidth]
 by_cases h : i < 8
 · simp [h]
 · rw [BitVec.getLsbD_of_ge b i (by omega)]; simp
theorem le_step (l : Bytes) (p m : Nat) : le ((l.drop p).take (m + 1)) = (l.getD p 0).setWidth 64 + le ((l.drop (p + 1)).take m) * 256#64 := by
 by_cases h : p < l.length
 · rw [List.drop_eq_getElem_cons h, List.take_succ_cons]
   show _ + _ = _
   rw [List.getD_eq_getElem?_getD, List.getElem?_eq_getElem h]; rfl
 · rw [List.drop_of_length_le (by omega), List.drop_of_length_le (by omega), List.getD_eq_getElem?_getD, List.getElem?_eq_none (by omega)]
   simp [le]
theorem le_or (l : Bytes) (p m : Nat) : le ((l.drop p).take (m + 1)) = le ((l.drop (p + 1)).take m) <<< 8 ||| (l.getD p 0).setWidth 64 := by
 rw [le_step]; exact le_zero_or _ _
theorem mul_shl (x : BitVec 64) (c : BitVec 64) (k : Nat) (h : c = BitVec.twoPow 64 k) : x * c = x <<< k := by subst h; rw [BitVec.shiftLeft_eq_mul_twoPow]
theorem le_tail (l : Bytes) : le (l.take 8) =
 ((((((((l.getD 7 0).setWidth 64 * 72057594037927936#64 ||| (l.getD 6 0).setWidth 64 * 281474976710656#64) ||| (l.getD 5 0).setWidth 64 * 1099511627776#64) ||| (l.getD 4 0).setWidth 64 * 4294967296#64) ||| (l.getD 3 0).setWidth 64 * 16777216#64) ||| (l.getD 2 0).setWidth 64 * 65536#64) ||| (l.getD 1 0).setWidth 64 * 256#64) ||| (l.getD 0 0).setWidth 64) := by
 have h := le_or l 0 7
 rw [List.drop_zero] at h
 rw [h, le_or l (0 + 1) 6, le_or l (0 + 1 + 1) 5, le_or l (0 + 1 + 1 + 1) 4, le_or l (0 + 1 + 1 + 1 + 1) 3, le_or l (0 + 1 + 1 + 1 + 1 + 1) 2, le_or l (0 + 1 + 1 + 1 + 1 + 1 + 1) 1, le_or l (0 + 1 + 1 + 1 + 1 + 1 + 1 + 1) 0, List.take_zero]
 rw [mul_shl _ 72057594037927936#64 56 rfl, mul_shl _ 281474976710656#64 48 rfl, mul_shl _ 1099511627776#64 40 rfl, mul_shl _ 4294967296#64 32 rfl, mul_shl _ 16777216#64 24 rfl, mul_shl _ 65536#64 16 rfl, mul_shl _ 256#64 8 rfl]
 simp only [le, BitVec.shiftLeft_or_distrib, ← BitVec.shiftLeft_add, Nat.zero_add, Nat.reduceAdd, BitVec.zero_shiftLeft, BitVec.zero_or]
end Go.Proofs.YtidlpihoafnobaaGreatDoor
namespace Go.Proofs.YtidlpihoafnobaaGreatDoor
set_option maxRecDepth 100000
def fmix64 (h : BitVec 64) : BitVec 64 :=
 ((h ^^^ h / 8589934592#64) * 18397679294719823053#64 ^^^ (h ^^^ h / 8589934592#64) * 18397679294719823053#64 / 8589934592#64) * 14181476777654086739#64 ^^^
  ((h ^^^ h / 8589934592#64) * 18397679294719823053#64 ^^^ (h ^^^ h / 8589934592#64) * 18397679294719823053#64 / 8589934592#64) * 14181476777654086739#64 / 8589934592#64
theorem fmix64_def (h : BitVec 64) : ((h ^^^ h / 8589934592#64) * 18397679294719823053#64 ^^^ (h ^^^ h / 8589934592#64) * 18397679294719823053#64 / 8589934592#64) * 14181476777654086739#64 ^^^
 ((h ^^^ h / 8589934592#64) * 18397679294719823053#64 ^^^ (h ^^^ h / 8589934592#64) * 18397679294719823053#64 / 8589934592#64) * 14181476777654086739#64 / 8589934592#64 = fmix64 h := rfl
theorem shr33 (x : BitVec 64) : x >>> 33 = x / 8589934592#64 := (div_shr64 x _ 33 (by rfl)).symm
end Go.Proofs.YtidlpihoafnobaaGreatDoor
namespace Go.Proofs.YtidlpihoafnobaaGreatDoor.StM64
set_option maxRecDepth 100000
abbrev S2 := BitVec 64 × BitVec 64
def num8 (l : Bytes) (i : Nat) : BitVec 64 := le ((l.drop i).take 8)
theorem num8_def (l : Bytes) (i : Nat) : le (List.take 8 (List.drop i l)) = num8 l i := rfl
theorem num8_zero (l : Bytes) : le (List.take 8 l) = num8 l 0 := by unfold num8; rw [List.drop_zero]
def wordA (k : BitVec 64) : BitVec 64 := rotl64 (k * 9782798678568883157#64) 31 * 5545529020109919103#64
theorem wordA_def (k : BitVec 64) : rotl64 (k * 9782798678568883157#64) 31 * 5545529020109919103#64 = wordA k := rfl
def wordB (k : BitVec 64) : BitVec 64 := rotl64 (k * 5545529020109919103#64) 33 * 9782798678568883157#64
theorem wordB_def (k : BitVec 64) : rotl64 (k * 5545529020109919103#64) 33 * 9782798678568883157#64 = wordB k := rfl
def mixA (s : S2) (l : Bytes) : BitVec 64 := s.1 ^^^ wordA (num8 l 0)
def mixB (s : S2) (l : Bytes) : BitVec 64 := s.2 ^^^ wordB (num8 l 8)
def turnA (x y : BitVec 64) : BitVec 64 := (rotl64 x 27 + y) * 5#64 + 1390208809#64
def turnB (x y : BitVec 64) : BitVec 64 := (rotl64 x 31 + y) * 5#64 + 944331445#64
theorem turnA_def (x y : BitVec 64) : (rotl64 x 27 + y) * 5#64 + 1390208809#64 = turnA x y := rfl
theorem turnB_def (x y : BitVec 64) : (rotl64 x 31 + y) * 5#64 + 944331445#64 = turnB x y := rfl
def stepG (s : S2) (l : Bytes) : S2 := (turnA (mixA s l) s.2, turnB (mixB s l) (turnA (mixA s l) s.2))
def firstF (sd : BitVec 32) : S2 := (sd.setWidth 64, sd.setWidth 64)
def lastHi (a b : BitVec 64) : BitVec 64 := fmix64 (b + (a + b)) + (fmix64 (a + b) + fmix64 (b + (a + b)))
def lastLo (a b : BitVec 64) : BitVec 64 := fmix64 (a + b) + fmix64 (b + (a + b))
def endHi (s : S2) (l : Bytes) (lo : BitVec 64) : BitVec 64 := lastHi (mixA s l ^^^ lo) (mixB s l ^^^ lo)
def endLo (s : S2) (l : Bytes) (lo : BitVec 64) : BitVec 64 := lastLo (mixA s l ^^^ lo) (mixB s l ^^^ lo)
def oneHi (sd : BitVec 32) (l : Bytes) : BitVec 64 := endHi (foldF stepG 16 (firstF sd) l).1 (foldF stepG 16 (firstF sd) l).2 (BitVec.ofNat 64 l.length)
def oneLo (sd : BitVec 32) (l : Bytes) : BitVec 64 := endLo (foldF stepG 16 (firstF sd) l).1 (foldF stepG 16 (firstF sd) l).2 (BitVec.ofNat 64 l.length)
theorem mixB_short {s : S2} {l : Bytes} (h : l.length ≤ 8) : mixB s l = s.2 := by
 unfold mixB num8
 rw [List.drop_eq_nil_of_le h]
 have e : wordB (le (List.take 8 ([] : Bytes))) = 0#64 := by decide
 rw [e, BitVec.xor_zero]
theorem num8_take (l : Bytes) (i : Nat) (h : i + 8 ≤ 16) : num8 (l.take 16) i = num8 l i := by
 unfold num8
 rw [List.drop_take, List.take_take, show min 8 (16 - i) = 8 by omega]
theorem stepG_take (s : S2) (l : Bytes) : stepG s (l.take 16) = stepG s l := by
 unfold stepG mixA mixB
 simp only [num8_take l 0 (by omega), num8_take l 8 (by omega)]
end Go.Proofs.YtidlpihoafnobaaGreatDoor.StM64
namespace Go.Proofs.YtidlpihoafnobaaGreatDoor.StSip
set_option maxRecDepth 100000
abbrev S4 := BitVec 64 × BitVec 64 × BitVec 64 × BitVec 64
def r0 (s : S4) : S4 := (s.1 + s.2.1, s.2.1, s.2.2.1, s.2.2.2)
def r1 (s : S4) : S4 := (s.1, rotl64 s.2.1 13 ^^^ s.1, s.2.2.1, s.2.2.2)
def r2 (s : S4) : S4 := (rotl64 s.1 32, s.2.1, s.2.2.1, s.2.2.2)
def r3 (s : S4) : S4 := (s.1, s.2.1, s.2.2.1 + s.2.2.2, s.2.2.2)
def r4 (s : S4) : S4 := (s.1, s.2.1, s.2.2.1, rotl64 s.2.2.2 16 ^^^ s.2.2.1)
def r5 (s : S4) : S4 := (s.1 + s.2.2.2, s.2.1, s.2.2.1, s.2.2.2)
def r6 (s : S4) : S4 := (s.1, s.2.1, s.2.2.1, rotl64 s.2.2.2 21 ^^^ s.1)
def r7 (s : S4) : S4 := (s.1, s.2.1, s.2.2.1 + s.2.1, s.2.2.2)
def r8 (s : S4) : S4 := (s.1, rotl64 s.2.1 17 ^^^ s.2.2.1, s.2.2.1, s.2.2.2)
def r9 (s : S4) : S4 := (s.1, s.2.1, rotl64 s.2.2.1 32, s.2.2.2)
def roundF (s : S4) : S4 := r9 (r8 (r7 (r6 (r5 (r4 (r3 (r2 (r1 (r0 s)))))))))
def roundsF : Nat → S4 → S4
 | 0, s => s
 | n + 1, s => roundF (roundsF n s)
def wordF (n : Nat) (s : S4) (m : BitVec 64) : S4 :=
 ((roundsF n (s.1, s.2.1, s.2.2.1, s.2.2.2 ^^^ m)).1 ^^^ m, (roundsF n (s.1, s.2.1, s.2.2.1, s.2.2.2 ^^^ m)).2.1, (roundsF n (s.1, s.2.1, s.2.2.1, s.2.2.2 ^^^ m)).2.2.1, (roundsF n (s.1, s.2.1, s.2.2.1, s.2.2.2 ^^^ m)).2.2.2)
def cOf (kd : Int) : Nat := if kd = 6 then 2 else if kd = 8 then 2 else if kd = 7 then 1 else 0
def dOf (kd : Int) : Nat := if kd = 6 then 4 else if kd = 8 then 4 else if kd = 7 then 3 else 0
def stepG (n : Nat) (s : S4) (l : Bytes) : S4 := wordF n s (le (l.take 8))
def firstF (kd : Int) (hi lo : BitVec 64) : S4 :=
 (lo ^^^ 8317987319222330741#64, if kd = 8 then (hi ^^^ 7237128888997146477#64) ^^^ 238#64 else hi ^^^ 7237128888997146477#64, lo ^^^ 7816392313619706465#64, hi ^^^ 8387220255154660723#64)
def allF (s : S4) : BitVec 64 := s.1 ^^^ s.2.1 ^^^ s.2.2.1 ^^^ s.2.2.2
def x1F (c : BitVec 64) (s : S4) : S4 := (s.1, s.2.1 ^^^ c, s.2.2.1, s.2.2.2)
def x2F (c : BitVec 64) (s : S4) : S4 := (s.1, s.2.1, s.2.2.1 ^^^ c, s.2.2.2)
def midF (kd : Int) (s : S4) (l : Bytes) (lo : BitVec 64) : S4 := wordF (cOf kd) s (le (l.take 8) ||| lo * 72057594037927936#64)
def endHi (kd : Int) (s : S4) (l : Bytes) (lo : BitVec 64) : BitVec 64 :=
 if kd = 8 then allF (roundsF (dOf kd) (x1F 221#64 (roundsF (dOf kd) (x2F 238#64 (midF kd s l lo))))) else 0#64
def endLo (kd : Int) (s : S4) (l : Bytes) (lo : BitVec 64) : BitVec 64 :=
 if kd = 8 then allF (roundsF (dOf kd) (x2F 238#64 (midF kd s l lo))) else allF (roundsF (dOf kd) (x2F 255#64 (midF kd s l lo)))
theorem endHi_8 (s : S4) (l : Bytes) (lo : BitVec 64) : endHi 8 s l lo = allF (roundsF (dOf 8) (x1F 221#64 (roundsF (dOf 8) (x2F 238#64 (midF 8 s l lo))))) := rfl
theorem endLo_8 (s : S4) (l : Bytes) (lo : BitVec 64) : endLo 8 s l lo = allF (roundsF (dOf 8) (x2F 238#64 (midF 8 s l lo))) := rfl
theorem endHi_n {kd : Int} (h : ¬ kd = 8) (s : S4) (l : Bytes) (lo : BitVec 64) : endHi kd s l lo = 0#64 := by unfold endHi; rw [if_neg h]
theorem endLo_n {kd : Int} (h : ¬ kd = 8) (s : S4) (l : Bytes) (lo : BitVec 64) : endLo kd s l lo = allF (roundsF (dOf kd) (x2F 255#64 (midF kd s l lo))) := by unfold endLo; rw [if_neg h]
def IsK (kd : Int) : Prop := kd = 6 ∨ kd = 7 ∨ kd = 8
theorem cOf_pos {kd : Int} (h : IsK kd) : ((cOf kd : Nat) : Int) ≠ 0 ∧ (((cOf kd : Nat) : Int) == 0) = false ∧ 1 ≤ cOf kd := by rcases h with rfl | rfl | rfl <;> simp [cOf]
theorem cOf_zero {kd : Int} (h : ¬ IsK kd) : cOf kd = 0 := by unfold IsK at h; unfold cOf; rw [if_neg (fun e => h (.inl e)), if_neg (fun e => h (.inr (.inr e))), if_neg (fun e => h (.inr (.inl e)))]
instance (kd : Int) : Decidable (IsK kd) := inferInstanceAs (Decidable (kd = 6 ∨ kd = 7 ∨ kd = 8))
def oneHi (kd : Int) (hi lo : BitVec 64) (l : Bytes) : BitVec 64 := if IsK kd then endHi kd (foldF (stepG (cOf kd)) 8 (firstF kd hi lo) l).1 (foldF (stepG (cOf kd)) 8 (firstF kd hi lo) l).2 (BitVec.ofNat 64 l.length) else 0#64
def oneLo (kd : Int) (hi lo : BitVec 64) (l : Bytes) : BitVec 64 := if IsK kd then endLo kd (foldF (stepG (cOf kd)) 8 (firstF kd hi lo) l).1 (foldF (stepG (cOf kd)) 8 (firstF kd hi lo) l).2 (BitVec.ofNat 64 l.length) else 0#64
theorem le_bound (l : Bytes) : ∀ k : Nat, l.length ≤ k → (le l).toNat < 256 ^ k := by
 induction l with
 | nil => intro k _; exact Nat.pow_pos (by omega)
 | cons b r ih =>
  intro k hk
  obtain ⟨k, rfl⟩ : ∃ j, k = j + 1 := ⟨k - 1, by simp at hk; omega⟩
  have h1 := ih k (by simpa using hk)
  have h2 := b.isLt
  have h3 : (le (b :: r)).toNat ≤ b.toNat + (le r).toNat * 256 := by
   show (b.setWidth 64 + le r * 256#64).toNat ≤ _
   rw [BitVec.toNat_add, BitVec.toNat_mul, BitVec.toNat_setWidth]
   refine Nat.le_trans (Nat.mod_le _ _) ?_
   have h4 := Nat.mod_le b.toNat (2 ^ 64)
   have h5 := Nat.mod_le ((le r).toNat * 256) (2 ^ 64)
   have h6 : (256#64).toNat = 256 := rfl
   rw [h6]
   omega
  rw [Nat.pow_succ]
  omega
theorem mod_one (a : Nat) : a * 72057594037927936 % 18446744073709551616 = 72057594037927936 * (a % 256) := by omega
theorem mod_two (a : Nat) : a % 256 * 72057594037927936 % 18446744073709551616 = 72057594037927936 * (a % 256) := by
 have h := Nat.mod_lt a (show 256 > 0 by omega)
 generalize a % 256 = b at h
 omega
theorem mod_three (a x : Nat) (h : x < 72057594037927936) : 72057594037927936 * (a % 256) + x = (x + 72057594037927936 * (a % 256)) % 18446744073709551616 := by
 have h := Nat.mod_lt a (show 256 > 0 by omega)
 generalize a % 256 = b at h
 omega
theorem or_add (l : Bytes) (lo : BitVec 64) (hl : l.length < 8) : le (l.take 8) ||| lo * 72057594037927936#64 = le (l.take 8) + lo % 256#64 * 72057594037927936#64 := by
 have hb : (le (l.take 8)).toNat < 72057594037927936 := Nat.lt_of_lt_of_eq (le_bound (l.take 8) 7 (by rw [List.length_take]; omega)) (by decide)
 generalize le (l.take 8) = x at hb
 have h1 := lo.isLt
 apply BitVec.eq_of_toNat_eq
 rw [BitVec.toNat_or, BitVec.toNat_add, BitVec.toNat_mul, BitVec.toNat_mul, BitVec.toNat_umod]
 rw [show (256#64).toNat = 256 from rfl, show (72057594037927936#64).toNat = 72057594037927936 from rfl]
 have e0 : (2 : Nat) ^ 56 = 72057594037927936 := by decide
 have e3 : (2 : Nat) ^ 64 = 18446744073709551616 := by decide
 have e1 : lo.toNat * 72057594037927936 % 2 ^ 64 = 2 ^ 56 * (lo.toNat % 256) := by rw [e0, e3]; exact mod_one _
 have e2 : lo.toNat % 256 * 72057594037927936 % 2 ^ 64 = 2 ^ 56 * (lo.toNat % 256) := by rw [e0, e3]; exact mod_two _
 rw [e1, e2, Nat.or_comm, ← Nat.two_pow_add_eq_or_of_lt (show x.toNat < 2 ^ 56 by rw [e0]; exact hb), e0, e3]
 exact mod_three _ _ hb
end Go.Proofs.YtidlpihoafnobaaGreatDoor.StSip
namespace Go.Proofs.YtidlpihoafnobaaGreatDoor.StM86
set_option maxRecDepth 100000
abbrev S4 := BitVec 32 × BitVec 32 × BitVec 32 × BitVec 32
def num4 (l : Bytes) (i : Nat) : BitVec 32 := (le ((l.drop i).take 4)).setWidth 32
theorem num4_def (l : Bytes) (i : Nat) : BitVec.setWidth 32 (le (List.take 4 (List.drop i l))) = num4 l i := rfl
theorem num4_zero (l : Bytes) : BitVec.setWidth 32 (le (List.take 4 l)) = num4 l 0 := by unfold num4; rw [List.drop_zero]
theorem num4_none {l : Bytes} {i : Nat} (h : l.length ≤ i) : num4 l i = 0#32 := by unfold num4; rw [List.drop_eq_nil_of_le h]; rfl
def w0 (k : BitVec 32) : BitVec 32 := rotl32 (k * 597399067#32) 15 * 2869860233#32
def w1 (k : BitVec 32) : BitVec 32 := rotl32 (k * 2869860233#32) 16 * 951274213#32
def w2 (k : BitVec 32) : BitVec 32 := rotl32 (k * 951274213#32) 17 * 2716044179#32
def w3 (k : BitVec 32) : BitVec 32 := rotl32 (k * 2716044179#32) 18 * 597399067#32
theorem w0_def (k : BitVec 32) : rotl32 (k * 597399067#32) 15 * 2869860233#32 = w0 k := rfl
theorem w1_def (k : BitVec 32) : rotl32 (k * 2869860233#32) 16 * 951274213#32 = w1 k := rfl
theorem w2_def (k : BitVec 32) : rotl32 (k * 951274213#32) 17 * 2716044179#32 = w2 k := rfl
theorem w3_def (k : BitVec 32) : rotl32 (k * 2716044179#32) 18 * 597399067#32 = w3 k := rfl
theorem w0_zero : w0 0#32 = 0#32 := by decide
theorem w1_zero : w1 0#32 = 0#32 := by decide
theorem w2_zero : w2 0#32 = 0#32 := by decide
theorem w3_zero : w3 0#32 = 0#32 := by decide
def mix0 (s : S4) (l : Bytes) : BitVec 32 := s.1 ^^^ w0 (num4 l 0)
def mix1 (s : S4) (l : Bytes) : BitVec 32 := s.2.1 ^^^ w1 (num4 l 4)
def mix2 (s : S4) (l : Bytes) : BitVec 32 := s.2.2.1 ^^^ w2 (num4 l 8)
def mix3 (s : S4) (l : Bytes) : BitVec 32 := s.2.2.2 ^^^ w3 (num4 l 12)
theorem mix0_none {s : S4} {l : Bytes} (h : l.length ≤ 0) : mix0 s l = s.1 := by unfold mix0; rw [num4_none h, w0_zero, BitVec.xor_zero]
theorem mix1_none {s : S4} {l : Bytes} (h : l.length ≤ 4) : mix1 s l = s.2.1 := by unfold mix1; rw [num4_none h, w1_zero, BitVec.xor_zero]
theorem mix2_none {s : S4} {l : Bytes} (h : l.length ≤ 8) : mix2 s l = s.2.2.1 := by unfold mix2; rw [num4_none h, w2_zero, BitVec.xor_zero]
theorem mix3_none {s : S4} {l : Bytes} (h : l.length ≤ 12) : mix3 s l = s.2.2.2 := by unfold mix3; rw [num4_none h, w3_zero, BitVec.xor_zero]
def turn0 (x y : BitVec 32) : BitVec 32 := (rotl32 x 19 + y) * 5#32 + 1444728091#32
def turn1 (x y : BitVec 32) : BitVec 32 := (rotl32 x 17 + y) * 5#32 + 197830471#32
def turn2 (x y : BitVec 32) : BitVec 32 := (rotl32 x 15 + y) * 5#32 + 2530024501#32
def turn3 (x y : BitVec 32) : BitVec 32 := (rotl32 x 13 + y) * 5#32 + 850148119#32
theorem turn0_def (x y : BitVec 32) : (rotl32 x 19 + y) * 5#32 + 1444728091#32 = turn0 x y := rfl
theorem turn1_def (x y : BitVec 32) : (rotl32 x 17 + y) * 5#32 + 197830471#32 = turn1 x y := rfl
theorem turn2_def (x y : BitVec 32) : (rotl32 x 15 + y) * 5#32 + 2530024501#32 = turn2 x y := rfl
theorem turn3_def (x y : BitVec 32) : (rotl32 x 13 + y) * 5#32 + 850148119#32 = turn3 x y := rfl
def one0 (s : S4) (l : Bytes) : S4 := (turn0 (mix0 s l) s.2.1, s.2.1, s.2.2.1, s.2.2.2)
def one1 (s : S4) (l : Bytes) : S4 := (s.1, turn1 (mix1 s l) s.2.2.1, s.2.2.1, s.2.2.2)
def one2 (s : S4) (l : Bytes) : S4 := (s.1, s.2.1, turn2 (mix2 s l) s.2.2.2, s.2.2.2)
def one3 (s : S4) (l : Bytes) : S4 := (s.1, s.2.1, s.2.2.1, turn3 (mix3 s l) s.1)
def stepTo (s : S4) (l : Bytes) : Nat → S4
 | 0 => s
 | 1 => one0 s l
 | 2 => one1 (one0 s l) l
 | 3 => one2 (one1 (one0 s l) l) l
 | _ => one3 (one2 (one1 (one0 s l) l) l) l
def stepG (s : S4) (l : Bytes) : S4 := stepTo s l 4
theorem stepTo1 (s : S4) (l : Bytes) : one0 (stepTo s l 0) l = stepTo s l 1 := rfl
theorem stepTo2 (s : S4) (l : Bytes) : one1 (stepTo s l 1) l = stepTo s l 2 := rfl
theorem stepTo3 (s : S4) (l : Bytes) : one2 (stepTo s l 2) l = stepTo s l 3 := rfl
theorem stepTo4 (s : S4) (l : Bytes) : one3 (stepTo s l 3) l = stepTo s l 4 := rfl
def firstF (sd : BitVec 32) : S4 := (sd, sd, sd, sd)
def numsTo (l : Bytes) : Nat → S4
 | 0 => (0#32, 0#32, 0#32, 0#32)
 | 1 => (num4 l 0, 0#32, 0#32, 0#32)
 | 2 => (num4 l 0, num4 l 4, 0#32, 0#32)
 | 3 => (num4 l 0, num4 l 4, num4 l 8, 0#32)
 | _ => (num4 l 0, num4 l 4, num4 l 8, num4 l 12)
def mixTo (s : S4) (l : Bytes) : Nat → S4
 | 0 => s
 | 1 => (mix0 s l, s.2.1, s.2.2.1, s.2.2.2)
 | 2 => (mix0 s l, mix1 s l, s.2.2.1, s.2.2.2)
 | 3 => (mix0 s l, mix1 s l, mix2 s l, s.2.2.2)
 | _ => (mix0 s l, mix1 s l, mix2 s l, mix3 s l)
def mapTo (f : BitVec 32 → BitVec 32) (s : S4) : Nat → S4
 | 0 => s
 | 1 => (f s.1, s.2.1, s.2.2.1, s.2.2.2)
 | 2 => (f s.1, f s.2.1, s.2.2.1, s.2.2.2)
 | 3 => (f s.1, f s.2.1, f s.2.2.1, s.2.2.2)
 | _ => (f s.1, f s.2.1, f s.2.2.1, f s.2.2.2)
def sumF (s : S4) : BitVec 32 := s.1 + s.2.1 + s.2.2.1 + s.2.2.2
def sumTo (s : S4) : Nat → BitVec 32
 | 0 => s.1
 | 1 => s.1 + s.2.1
 | 2 => s.1 + s.2.1 + s.2.2.1
 | _ => sumF s
def spreadTo (s : S4) : Nat → S4
 | 0 => (sumF s, s.2.1, s.2.2.1, s.2.2.2)
 | 1 => (sumF s, s.2.1 + sumF s, s.2.2.1, s.2.2.2)
 | 2 => (sumF s, s.2.1 + sumF s, s.2.2.1 + sumF s, s.2.2.2)
 | _ => (sumF s, s.2.1 + sumF s, s.2.2.1 + sumF s, s.2.2.2 + sumF s)
def spreadF (s : S4) : S4 := spreadTo s 3
def endS (s : S4) (l : Bytes) (lo : BitVec 64) : S4 := spreadF (mapTo fmix32 (spreadF (mapTo (fun x => x ^^^ lo.setWidth 32) (mixTo s l 4) 4)) 4)
def joinF (a b : BitVec 32) : BitVec 64 := a.setWidth 64 * 4294967296#64 + b.setWidth 64
def lastHi (s : S4) : BitVec 64 := joinF s.2.2.2 s.2.2.1
def lastLo (s : S4) : BitVec 64 := joinF s.2.1 s.1
def endHi (s : S4) (l : Bytes) (lo : BitVec 64) : BitVec 64 := lastHi (endS s l lo)
def endLo (s : S4) (l : Bytes) (lo : BitVec 64) : BitVec 64 := lastLo (endS s l lo)
def oneHi (sd : BitVec 32) (l : Bytes) : BitVec 64 := endHi (foldF stepG 16 (firstF sd) l).1 (foldF stepG 16 (firstF sd) l).2 (BitVec.ofNat 64 l.length)
def oneLo (sd : BitVec 32) (l : Bytes) : BitVec 64 := endLo (foldF stepG 16 (firstF sd) l).1 (foldF stepG 16 (firstF sd) l).2 (BitVec.ofNat 64 l.length)
theorem joinF_def (a b : BitVec 32) : a.setWidth 64 * 4294967296#64 + b.setWidth 64 = joinF a b := rfl
theorem join_or (a b : BitVec 32) : a.setWidth 64 * 4294967296#64 ||| b.setWidth 64 = joinF a b := by
 have h1 : a.setWidth 64 * 4294967296#64 = a.setWidth 64 <<< 32 := by rw [BitVec.shiftLeft_eq_mul_twoPow]; rfl
 unfold joinF
 rw [h1]
 symm
 apply BitVec.add_eq_or_of_and_eq_zero
 apply BitVec.eq_of_getLsbD_eq
 intro i hi
 rw [BitVec.getLsbD_and, BitVec.getLsbD_shiftLeft, BitVec.getLsbD_setWidth, BitVec.getLsbD_setWidth]
 by_cases h : i < 32
 · simp [h]
 · rw [BitVec.getLsbD_of_ge b i (by omega)]; simp
theorem num4_take (l : Bytes) (i : Nat) (h : i + 4 ≤ 16) : num4 (l.take 16) i = num4 l i := by
 unfold num4
 rw [List.drop_take, List.take_take, show min 4 (16 - i) = 4 by omega]
theorem one_take (s : S4) (l : Bytes) : one0 s (l.take 16) = one0 s l ∧ one1 s (l.take 16) = one1 s l ∧ one2 s (l.take 16) = one2 s l ∧ one3 s (l.take 16) = one3 s l := by
 unfold one0 one1 one2 one3 mix0 mix1 mix2 mix3
 rw [num4_take l 0 (by omega), num4_take l 4 (by omega), num4_take l 8 (by omega), num4_take l 12 (by omega)]
 exact ⟨rfl, rfl, rfl, rfl⟩
theorem stepG_take (s : S4) (l : Bytes) : stepG s (l.take 16) = stepTo s l 4 := by
 unfold stepG stepTo
 rw [(one_take _ l).1, (one_take _ l).2.1, (one_take _ l).2.2.1, (one_take _ l).2.2.2]
end Go.Proofs.YtidlpihoafnobaaGreatDoor.StM86
