/- SipHash: what its steps and its end compute. No program in sight. -/
import Derived.Test.YtcbbllfgelnpjaaMixPlain
import Derived.Test.YtcbbllfgelnpjaaFold
import Derived.Test.YtcbbllfgelnpjaaLePlain
namespace Go.Proofs.Ytcbbllfgelnpjaa.StSip
set_option linter.unusedVariables false
set_option linter.unusedSimpArgs false

abbrev S4 := BitVec 64 × BitVec 64 × BitVec 64 × BitVec 64
/-- One round: its four numbers one behind the other. -/
def r0 (s : S4) : S4 := (s.1 + s.2.1, s.2.1, s.2.2.1, s.2.2.2)
def r1 (s : S4) : S4 := (s.1, rotl64 s.2.1 13 ^^^ s.1, s.2.2.1, s.2.2.2)
def r2 (s : S4) : S4 := (rotl64 s.1 32, s.2.1, s.2.2.1, s.2.2.2)
def r3 (s : S4) : S4 := (s.1, s.2.1, s.2.2.1 + s.2.2.2, s.2.2.2)
def r4 (s : S4) : S4 := (s.1, s.2.1, s.2.2.1, rotl64 s.2.2.2 16 ^^^ s.2.2.1)
def r5 (s : S4) : S4 := (s.1 + s.2.2.2, s.2.1, s.2.2.1, s.2.2.2)
def r6 (s : S4) : S4 := (s.1, s.2.1, s.2.2.1, rotl64 s.2.2.2 21 ^^^ s.1)
def r7 (s : S4) : S4 := (s.1, s.2.1, s.2.2.1 + s.2.1, s.2.2.2)
def r8 (s : S4) : S4 := (s.1, rotl64 s.2.1 17 ^^^ s.2.2.1, s.2.2.1, s.2.2.2)
def r9 (s : S4) : S4 := (s.1, s.2.1, rotl64 s.2.2.1 32, s.2.2.2)
def roundF (s : S4) : S4 := r9 (r8 (r7 (r6 (r5 (r4 (r3 (r2 (r1 (r0 s)))))))))
/-- So many rounds. -/
def roundsF : Nat → S4 → S4
  | 0, s => s
  | n + 1, s => roundF (roundsF n s)
def wordF (n : Nat) (s : S4) (m : BitVec 64) : S4 :=
  ((roundsF n (s.1, s.2.1, s.2.2.1, s.2.2.2 ^^^ m)).1 ^^^ m, (roundsF n (s.1, s.2.1, s.2.2.1, s.2.2.2 ^^^ m)).2.1, (roundsF n (s.1, s.2.1, s.2.2.1, s.2.2.2 ^^^ m)).2.2.1, (roundsF n (s.1, s.2.1, s.2.2.1, s.2.2.2 ^^^ m)).2.2.2)
/-- A kind's rounds: for each block, and at the end. -/
def cOf (kd : Int) : Nat := if kd = 6 then 2 else if kd = 8 then 2 else if kd = 7 then 1 else 0
def dOf (kd : Int) : Nat := if kd = 6 then 4 else if kd = 8 then 4 else if kd = 7 then 3 else 0
def stepG (n : Nat) (s : S4) (l : Bytes) : S4 := wordF n s (le (l.take 8))
def firstF (kd : Int) (hi lo : BitVec 64) : S4 :=
  (lo ^^^ 8317987319222330741#64, if kd = 8 then (hi ^^^ 7237128888997146477#64) ^^^ 238#64 else hi ^^^ 7237128888997146477#64, lo ^^^ 7816392313619706465#64, hi ^^^ 8387220255154660723#64)
def allF (s : S4) : BitVec 64 := s.1 ^^^ s.2.1 ^^^ s.2.2.1 ^^^ s.2.2.2
def x1F (c : BitVec 64) (s : S4) : S4 := (s.1, s.2.1 ^^^ c, s.2.2.1, s.2.2.2)
def x2F (c : BitVec 64) (s : S4) : S4 := (s.1, s.2.1, s.2.2.1 ^^^ c, s.2.2.2)
/-- The lanes behind the last word. -/
def midF (kd : Int) (s : S4) (l : Bytes) (lo : BitVec 64) : S4 := wordF (cOf kd) s (le (l.take 8) ||| lo * 72057594037927936#64)
def endHi (kd : Int) (s : S4) (l : Bytes) (lo : BitVec 64) : BitVec 64 :=
  if kd = 8 then allF (roundsF (dOf kd) (x1F 221#64 (roundsF (dOf kd) (x2F 238#64 (midF kd s l lo))))) else 0#64
def endLo (kd : Int) (s : S4) (l : Bytes) (lo : BitVec 64) : BitVec 64 :=
  if kd = 8 then allF (roundsF (dOf kd) (x2F 238#64 (midF kd s l lo))) else allF (roundsF (dOf kd) (x2F 255#64 (midF kd s l lo)))
theorem endHi_8 (s : S4) (l : Bytes) (lo : BitVec 64) : endHi 8 s l lo = allF (roundsF (dOf 8) (x1F 221#64 (roundsF (dOf 8) (x2F 238#64 (midF 8 s l lo))))) := rfl
theorem endLo_8 (s : S4) (l : Bytes) (lo : BitVec 64) : endLo 8 s l lo = allF (roundsF (dOf 8) (x2F 238#64 (midF 8 s l lo))) := rfl
theorem endHi_n {kd : Int} (h : ¬ kd = 8) (s : S4) (l : Bytes) (lo : BitVec 64) : endHi kd s l lo = 0#64 := by unfold endHi; rw [if_neg h]
theorem endLo_n {kd : Int} (h : ¬ kd = 8) (s : S4) (l : Bytes) (lo : BitVec 64) : endLo kd s l lo = allF (roundsF (dOf kd) (x2F 255#64 (midF kd s l lo))) := by unfold endLo; rw [if_neg h]
/-- Is there such a kind? -/
def IsK (kd : Int) : Prop := kd = 6 ∨ kd = 7 ∨ kd = 8
def isK (kd : Int) : Bool := decide (6 ≤ kd ∧ kd ≤ 8)
theorem cOf_pos {kd : Int} (h : IsK kd) : ((cOf kd : Nat) : Int) ≠ 0 ∧ (((cOf kd : Nat) : Int) == 0) = false ∧ 1 ≤ cOf kd := by rcases h with rfl | rfl | rfl <;> simp [cOf]
theorem cOf_ne {kd : Int} (h : IsK kd) : ¬ cOf kd = 0 := by rcases h with rfl | rfl | rfl <;> simp [cOf]
theorem cOf_zero {kd : Int} (h : ¬ IsK kd) : cOf kd = 0 := by unfold IsK at h; unfold cOf; rw [if_neg (fun e => h (.inl e)), if_neg (fun e => h (.inr (.inr e))), if_neg (fun e => h (.inr (.inl e)))]
instance (kd : Int) : Decidable (IsK kd) := inferInstanceAs (Decidable (kd = 6 ∨ kd = 7 ∨ kd = 8))
def oneHi (kd : Int) (hi lo : BitVec 64) (l : Bytes) : BitVec 64 := if IsK kd then endHi kd (foldF (stepG (cOf kd)) 8 (firstF kd hi lo) l).1 (foldF (stepG (cOf kd)) 8 (firstF kd hi lo) l).2 (BitVec.ofNat 64 l.length) else 0#64
def oneLo (kd : Int) (hi lo : BitVec 64) (l : Bytes) : BitVec 64 := if IsK kd then endLo kd (foldF (stepG (cOf kd)) 8 (firstF kd hi lo) l).1 (foldF (stepG (cOf kd)) 8 (firstF kd hi lo) l).2 (BitVec.ofNat 64 l.length) else 0#64
theorem le_bound (l : Bytes) : ∀ k : Nat, l.length ≤ k → (le l).toNat < 256 ^ k := by
  induction l with
  | nil => intro k _; exact Nat.pow_pos (by omega)
  | cons b r ih =>
    intro k hk
    obtain ⟨k, rfl⟩ : ∃ j, k = j + 1 := ⟨k - 1, by simp at hk; omega⟩
    have h1 := ih k (by simpa using hk)
    have h2 := b.isLt
    have h3 : (le (b :: r)).toNat ≤ b.toNat + (le r).toNat * 256 := by
      show (b.setWidth 64 + le r * 256#64).toNat ≤ _
      rw [BitVec.toNat_add, BitVec.toNat_mul, BitVec.toNat_setWidth]
      refine Nat.le_trans (Nat.mod_le _ _) ?_
      have h4 := Nat.mod_le b.toNat (2 ^ 64)
      have h5 := Nat.mod_le ((le r).toNat * 256) (2 ^ 64)
      have h6 : (256#64).toNat = 256 := rfl
      rw [h6]
      omega
    rw [Nat.pow_succ]
    omega
theorem mod_one (a : Nat) : a * 72057594037927936 % 18446744073709551616 = 72057594037927936 * (a % 256) := by omega
theorem mod_two (a : Nat) : a % 256 * 72057594037927936 % 18446744073709551616 = 72057594037927936 * (a % 256) := by
  have h := Nat.mod_lt a (show 256 > 0 by omega)
  generalize a % 256 = b at h
  omega
theorem mod_three (a x : Nat) (h : x < 72057594037927936) : 72057594037927936 * (a % 256) + x = (x + 72057594037927936 * (a % 256)) % 18446744073709551616 := by
  have h := Nat.mod_lt a (show 256 > 0 by omega)
  generalize a % 256 = b at h
  omega
/-- The last word: what is left, and how many bytes there were. -/
theorem or_add (l : Bytes) (lo : BitVec 64) (hl : l.length < 8) : le (l.take 8) ||| lo * 72057594037927936#64 = le (l.take 8) + lo % 256#64 * 72057594037927936#64 := by
  have hb : (le (l.take 8)).toNat < 72057594037927936 := Nat.lt_of_lt_of_eq (le_bound (l.take 8) 7 (by rw [List.length_take]; omega)) (by decide)
  generalize le (l.take 8) = x at hb
  have h1 := lo.isLt
  apply BitVec.eq_of_toNat_eq
  rw [BitVec.toNat_or, BitVec.toNat_add, BitVec.toNat_mul, BitVec.toNat_mul, BitVec.toNat_umod]
  rw [show (256#64).toNat = 256 from rfl, show (72057594037927936#64).toNat = 72057594037927936 from rfl]
  have e0 : (2 : Nat) ^ 56 = 72057594037927936 := by decide
  have e3 : (2 : Nat) ^ 64 = 18446744073709551616 := by decide
  have e1 : lo.toNat * 72057594037927936 % 2 ^ 64 = 2 ^ 56 * (lo.toNat % 256) := by rw [e0, e3]; exact mod_one _
  have e2 : lo.toNat % 256 * 72057594037927936 % 2 ^ 64 = 2 ^ 56 * (lo.toNat % 256) := by rw [e0, e3]; exact mod_two _
  rw [e1, e2, Nat.or_comm, ← Nat.two_pow_add_eq_or_of_lt (show x.toNat < 2 ^ 56 by rw [e0]; exact hb), e0, e3]
  exact mod_three _ _ hb
end Go.Proofs.Ytcbbllfgelnpjaa.StSip
