/- Sums of bytes: what they are, and that one byte turned turns them. No program in sight. -/
import Derived.Test.YteicdilbmaboiaaDoorMixPlain
import Derived.Test.YteicdilbmaboiaaDoorPut
namespace Go.Proofs.YteicdilbmaboiaaDoor
set_option linter.unusedVariables false
set_option linter.unusedSimpArgs false

def sumStep (h : BitVec 32) (x : BitVec 8) : BitVec 32 := fmix32 (h ^^^ x.setWidth 32) + 1#32
theorem sumStep_def (h : BitVec 32) (x : BitVec 8) : fmix32 (h ^^^ BitVec.setWidth 32 x) + 1#32 = sumStep h x := rfl
/-- The sum of bytes. -/
def sumF (l : Bytes) : BitVec 32 := l.foldl sumStep (BitVec.ofNat 32 l.length)
/-- Bytes with their sum. -/
def sealF (l : Bytes) : Bytes := l ++ leb ((sumF l).setWidth 64) 4
theorem sealF_length (l : Bytes) : (sealF l).length = l.length + 4 := by unfold sealF; rw [List.length_append, leb_length]
/-- Is the last of them the sum of the others? -/
def sealedB (l : Bytes) : Bool := sumF (l.take (l.length - 4)) == (le ((l.drop (l.length - 4)).take 4)).setWidth 32

theorem leb_consS (x : BitVec 64) (k : Nat) : leb x (k + 1) = x.setWidth 8 :: leb (x >>> 8) k := by
  unfold leb
  rw [List.range_succ_eq_map, List.map_cons, List.map_map]
  congr 1
  apply List.map_congr_left
  intro i _
  simp only [Function.comp_def, ← BitVec.shiftRight_add]
  congr 2; omega
theorem le_ltS : ∀ (l : Bytes), l.length ≤ 4 → (le l).toNat < 256 ^ l.length
  | [], _ => by simp [le]
  | b :: r, h => by
    have ih := le_ltS r (by simp at h; omega)
    have hb := b.isLt
    have hp : 256 ^ (b :: r).length = 256 * 256 ^ r.length := by rw [List.length_cons, Nat.pow_succ, Nat.mul_comm]
    have hr : 256 ^ r.length ≤ 256 ^ 3 := Nat.pow_le_pow_right (by decide) (by simp at h; omega)
    rw [le, BitVec.toNat_add, BitVec.toNat_mul, BitVec.toNat_setWidth, hp]
    have e : (256#64).toNat = 256 := rfl
    rw [e]
    omega
theorem leb_le : ∀ (l : Bytes), l.length ≤ 4 → leb (le l) l.length = l
  | [], _ => by simp [leb]
  | b :: r, h => by
    have hlt := le_ltS r (by simp at h; omega)
    have hr : 256 ^ r.length ≤ 256 ^ 3 := Nat.pow_le_pow_right (by decide) (by simp at h; omega)
    have hb := b.isLt
    have e : (256#64).toNat = 256 := rfl
    have hn : (le (b :: r)).toNat = b.toNat + (le r).toNat * 256 := by
      rw [le, BitVec.toNat_add, BitVec.toNat_mul, BitVec.toNat_setWidth, e]
      omega
    have h1 : (le (b :: r)).setWidth 8 = b := by
      apply BitVec.eq_of_toNat_eq
      rw [BitVec.toNat_setWidth, hn]
      omega
    have h2 : le (b :: r) >>> 8 = le r := by
      apply BitVec.eq_of_toNat_eq
      rw [BitVec.toNat_ushiftRight, hn, Nat.shiftRight_eq_div_pow]
      omega
    rw [List.length_cons, leb_consS, h1, h2, leb_le r (by simp at h; omega)]
theorem le_leb4S (x : BitVec 32) : (le (leb (x.setWidth 64) 4)).setWidth 32 = x := by
  have h : ∀ k : Nat, ∀ (x : BitVec 64), k ≤ 8 → (le (leb x k)).toNat = x.toNat % 2 ^ (8 * k) := by
    intro k
    induction k with
    | zero => intro x _; simp [leb, le, Nat.mod_one]
    | succ k ih =>
      intro x hk
      rw [leb_consS, le, BitVec.toNat_add, BitVec.toNat_mul, ih (x >>> 8) (by omega), BitVec.toNat_ushiftRight, Nat.shiftRight_eq_div_pow, BitVec.toNat_setWidth, BitVec.toNat_setWidth]
      have h1 : 2 ^ (8 * (k + 1)) = 2 ^ 8 * 2 ^ (8 * k) := by rw [← Nat.pow_add]; congr 1; omega
      have h2 : x.toNat % 2 ^ (8 * (k + 1)) < 2 ^ 64 := Nat.lt_of_le_of_lt (Nat.mod_le _ _) x.isLt
      rw [h1, Nat.mod_mul] at h2 ⊢
      have e : (256#64).toNat = 2 ^ 8 := rfl
      rw [e]
      omega
  apply BitVec.eq_of_toNat_eq
  rw [BitVec.toNat_setWidth, h 4 _ (by omega), BitVec.toNat_setWidth]
  have := x.isLt
  omega
theorem leb4_iff (s : BitVec 32) (d : Bytes) (hd : d.length = 4) : leb (s.setWidth 64) 4 = d ↔ s = (le d).setWidth 32 := by
  constructor
  · intro h; rw [← h, le_leb4S]
  · intro h
    have h1 := leb_le d (by omega)
    rw [hd] at h1
    have h2 : BitVec.setWidth 64 (BitVec.setWidth 32 (le d)) = le d := by
      have h := le_ltS d (by omega)
      rw [hd] at h
      apply BitVec.eq_of_toNat_eq
      rw [BitVec.toNat_setWidth, BitVec.toNat_setWidth]
      omega
    rw [h, h2, h1]
/-- What is read of the last four bytes, and what they would be. -/
theorem sealed_iff (l : Bytes) (hl : 4 ≤ l.length) : sealF (l.take (l.length - 4)) = l ↔ sealedB l = true := by
  have hd : (l.drop (l.length - 4)).length = 4 := by rw [List.length_drop]; omega
  have ht : (l.drop (l.length - 4)).take 4 = l.drop (l.length - 4) := List.take_of_length_le (by omega)
  unfold sealF sealedB
  rw [ht, beq_iff_eq, ← leb4_iff _ _ hd]
  constructor
  · intro h
    have h2 := h.trans (List.take_append_drop (l.length - 4) l).symm
    exact List.append_cancel_left h2
  · intro h
    rw [h, List.take_append_drop]
theorem sealed_eq (l : Bytes) (hl : 4 ≤ l.length) : (sealF (l.take (l.length - 4)) == l) = sealedB l := by
  rw [Bool.eq_iff_iff, beq_iff_eq, sealed_iff l hl]
theorem seal_take (l : Bytes) : (sealF l).take ((sealF l).length - 4) = l := by
  rw [sealF_length, show l.length + 4 - 4 = l.length by omega]
  unfold sealF
  rw [List.take_left]
theorem seal_sealed (l : Bytes) : sealedB (sealF l) = true := by
  rw [← sealed_iff _ (by rw [sealF_length]; omega), seal_take]

/-! ### Each turn can be turned back -/
theorem div_shr32S (x c : BitVec 32) (k : Nat) (h : c.toNat = 2 ^ k) : x / c = x >>> k := by
  apply BitVec.eq_of_toNat_eq
  rw [BitVec.toNat_udiv, BitVec.toNat_ushiftRight, h, Nat.shiftRight_eq_div_pow]
theorem shr_big (x : BitVec 32) (k : Nat) (h : 32 ≤ k) : x >>> k = 0#32 := by
  apply BitVec.eq_of_toNat_eq
  rw [BitVec.toNat_ushiftRight, Nat.shiftRight_eq_div_pow]
  exact Nat.div_eq_of_lt (Nat.lt_of_lt_of_le x.isLt (Nat.pow_le_pow_right (by omega) h))
theorem back16 (x : BitVec 32) : (x ^^^ x / 65536#32) ^^^ (x ^^^ x / 65536#32) >>> 16 = x := by
  rw [div_shr32S x _ 16 rfl, BitVec.ushiftRight_xor_distrib, ← BitVec.shiftRight_add, shr_big x (16 + 16) (by omega), BitVec.xor_zero, BitVec.xor_assoc, BitVec.xor_self, BitVec.xor_zero]
theorem back13 (x : BitVec 32) : ((x ^^^ x / 8192#32) ^^^ (x ^^^ x / 8192#32) >>> 13) ^^^ (x ^^^ x / 8192#32) >>> 26 = x := by
  rw [div_shr32S x _ 13 rfl, BitVec.ushiftRight_xor_distrib, BitVec.ushiftRight_xor_distrib, ← BitVec.shiftRight_add, ← BitVec.shiftRight_add, shr_big x (13 + 26) (by omega), BitVec.xor_zero, show 13 + 13 = 26 from rfl]
  rw [BitVec.xor_assoc x, ← BitVec.xor_assoc (x >>> 13), BitVec.xor_self, BitVec.zero_xor, BitVec.xor_assoc, BitVec.xor_self, BitVec.xor_zero]
theorem fold16_inj {x y : BitVec 32} (h : x ^^^ x / 65536#32 = y ^^^ y / 65536#32) : x = y := by rw [← back16 x, ← back16 y, h]
theorem fold13_inj {x y : BitVec 32} (h : x ^^^ x / 8192#32 = y ^^^ y / 8192#32) : x = y := by rw [← back13 x, ← back13 y, h]
theorem mul_inj (c d : BitVec 32) (hc : c * d = 1#32) {x y : BitVec 32} (h : x * c = y * c) : x = y := by
  have h2 := congrArg (· * d) h
  simp only [BitVec.mul_assoc, hc, BitVec.mul_one] at h2
  exact h2
theorem fmix32_inj {x y : BitVec 32} (h : fmix32 x = fmix32 y) : x = y := by
  unfold fmix32 at h
  exact fold16_inj (mul_inj 2246822507#32 2781581891#32 (by decide) (fold13_inj (mul_inj 3266489909#32 2127672349#32 (by decide) (fold16_inj h))))
theorem add_one_inj {x y : BitVec 32} (h : x + 1#32 = y + 1#32) : x = y := by
  have h2 := congrArg (· - 1#32) h
  simpa [BitVec.add_sub_cancel] using h2
theorem sumStep_inj {g h : BitVec 32} {x : BitVec 8} (e : sumStep g x = sumStep h x) : g = h := by
  unfold sumStep at e
  have e2 := fmix32_inj (add_one_inj e)
  have e3 := congrArg (· ^^^ BitVec.setWidth 32 x) e2
  simpa [BitVec.xor_assoc] using e3
theorem sumStep_byte {h : BitVec 32} {x y : BitVec 8} (e : sumStep h x = sumStep h y) : x = y := by
  unfold sumStep at e
  have e2 := fmix32_inj (add_one_inj e)
  have e3 := congrArg (h ^^^ ·) e2
  simp only [← BitVec.xor_assoc, BitVec.xor_self, BitVec.zero_xor] at e3
  have e4 := congrArg BitVec.toNat e3
  simp only [BitVec.toNat_setWidth] at e4
  apply BitVec.eq_of_toNat_eq
  have := x.isLt; have := y.isLt
  omega
theorem sums_inj (l : Bytes) : ∀ {g h : BitVec 32}, l.foldl sumStep g = l.foldl sumStep h → g = h := by
  induction l with
  | nil => intro g h e; exact e
  | cons b r ih => intro g h e; exact sumStep_inj (ih e)
/-- One byte turned turns the sum. -/
theorem sum_set (l : Bytes) (i : Nat) (hi : i < l.length) (y : BitVec 8) (h : sumF (l.set i y) = sumF l) : y = l[i] := by
  unfold sumF at h
  rw [List.length_set] at h
  have e1 : l = l.take i ++ l[i] :: l.drop (i + 1) := by rw [List.getElem_cons_drop, List.take_append_drop]
  have e2 : l.set i y = l.take i ++ y :: l.drop (i + 1) := by rw [List.set_eq_take_append_cons_drop, if_pos hi]
  generalize BitVec.ofNat 32 l.length = s at h
  rw [e2] at h
  conv at h => rhs; rw [e1]
  rw [List.foldl_append, List.foldl_append, List.foldl_cons, List.foldl_cons] at h
  exact sumStep_byte (sums_inj _ h)
/-- What was sealed, with one byte turned, is not sealed. -/
theorem sealed_set (l : Bytes) (i : Nat) (hi : i < (sealF l).length) (y : BitVec 8) (hy : y ≠ (sealF l)[i]) : sealedB ((sealF l).set i y) = false := by
  rw [Bool.eq_false_iff]
  intro h
  rw [← sealed_iff _ (by rw [List.length_set, sealF_length]; omega)] at h
  rw [List.length_set, List.take_set, seal_take] at h
  by_cases h1 : i < l.length
  · have h2 : (sealF l).set i y = l.set i y ++ leb ((sumF l).setWidth 64) 4 := by unfold sealF; rw [List.set_append_left _ _ h1]
    rw [h2] at h
    have h3 := List.append_cancel_left (show l.set i y ++ leb ((sumF (l.set i y)).setWidth 64) 4 = l.set i y ++ leb ((sumF l).setWidth 64) 4 from h)
    have h4 := (leb4_iff _ _ (leb_length _ 4)).1 h3
    rw [le_leb4S] at h4
    have h5 := sum_set l i h1 y h4
    apply hy
    rw [h5]
    exact (List.getElem_append_left (bs := leb ((sumF l).setWidth 64) 4) h1).symm
  · rw [List.set_eq_of_length_le (by omega)] at h
    have h2 : ((sealF l).set i y)[i]'(by rw [List.length_set]; exact hi) = y := by rw [List.getElem_set_self]
    apply hy
    rw [← h2]
    simp only [← h]
theorem xor_ne (a x : BitVec 8) (hx : x ≠ 0#8) : a ^^^ x ≠ a := by
  intro h
  apply hx
  have h2 := congrArg (a ^^^ ·) h
  simpa [← BitVec.xor_assoc] using h2
end Go.Proofs.YteicdilbmaboiaaDoor
