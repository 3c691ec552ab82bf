/- Bytes folded block by block. No program in sight. -/
import Derived.Test.YtcbbllfgelnpjaaBytes
namespace Go.Proofs.Ytcbbllfgelnpjaa
set_option linter.unusedVariables false
set_option linter.unusedSimpArgs false

section
variable {σ : Type}
def foldN (F : σ → Bytes → σ) (size : Nat) : Nat → σ → Bytes → σ × Bytes
  | 0, s, l => (s, l)
  | k + 1, s, l => if size ≤ l.length then foldN F size k (F s (l.take size)) (l.drop size) else (s, l)
/-- the state behind all whole blocks, and what is left -/
def foldF (F : σ → Bytes → σ) (size : Nat) (s : σ) (l : Bytes) : σ × Bytes := foldN F size l.length s l
variable {F : σ → Bytes → σ} {size : Nat}
theorem foldN_fuel (h1 : 1 ≤ size) : ∀ (k m : Nat) (s : σ) (l : Bytes), l.length ≤ k → l.length ≤ m → foldN F size k s l = foldN F size m s l := by
  intro k
  induction k with
  | zero =>
    intro m s l hk hm
    obtain rfl : l = [] := List.eq_nil_of_length_eq_zero (by omega)
    cases m with
    | zero => rfl
    | succ m => rw [foldN, foldN, if_neg (by simp; omega)]
  | succ k ih =>
    intro m s l hk hm
    cases m with
    | zero =>
      obtain rfl : l = [] := List.eq_nil_of_length_eq_zero (by omega)
      rw [foldN, foldN, if_neg (by simp; omega)]
    | succ m =>
      rw [foldN, foldN]
      by_cases h : size ≤ l.length
      · rw [if_pos h, if_pos h]
        exact ih m _ _ (by rw [List.length_drop]; omega) (by rw [List.length_drop]; omega)
      · rw [if_neg h, if_neg h]
theorem foldF_short {s : σ} {l : Bytes} (h : l.length < size) : foldF F size s l = (s, l) := by
  unfold foldF
  cases hl : l.length with
  | zero => rfl
  | succ k => rw [foldN, if_neg (by omega)]
theorem foldF_step (h1 : 1 ≤ size) {s : σ} {l : Bytes} (h : size ≤ l.length) : foldF F size s l = foldF F size (F s (l.take size)) (l.drop size) := by
  unfold foldF
  cases hl : l.length with
  | zero => omega
  | succ k =>
    rw [foldN, if_pos (by omega)]
    exact foldN_fuel h1 _ _ _ _ (by rw [List.length_drop]; omega) (Nat.le_refl _)
theorem foldF_ind (h1 : 1 ≤ size) (C : σ → Bytes → Prop) (hs : ∀ s l, l.length < size → C s l) (hstep : ∀ s l, size ≤ l.length → C (F s (l.take size)) (l.drop size) → C s l) : ∀ (s : σ) (l : Bytes), C s l := by
  have key : ∀ (k : Nat) (s : σ) (l : Bytes), l.length ≤ k → C s l := by
    intro k
    induction k with
    | zero => intro s l hl; exact hs s l (by omega)
    | succ k ih =>
      intro s l hl
      by_cases h : size ≤ l.length
      · exact hstep s l h (ih _ _ (by rw [List.length_drop]; omega))
      · exact hs s l (by omega)
  intro s l
  exact key l.length s l (Nat.le_refl _)
theorem foldF_append (h1 : 1 ≤ size) (b : Bytes) (s : σ) (a : Bytes) : foldF F size s (a ++ b) = foldF F size (foldF F size s a).1 ((foldF F size s a).2 ++ b) := by
  refine foldF_ind h1 (F := F) (fun s a => foldF F size s (a ++ b) = foldF F size (foldF F size s a).1 ((foldF F size s a).2 ++ b)) ?_ ?_ s a
  · intro s l hl; rw [foldF_short hl]
  · intro s l hl ih
    have e : foldF F size s (l ++ b) = foldF F size (F s (l.take size)) (l.drop size ++ b) := by
      rw [foldF_step h1 (l := l ++ b) (by rw [List.length_append]; omega), List.take_append_of_le_length hl, List.drop_append_of_le_length hl]
    rw [e, foldF_step h1 hl]
    exact ih
theorem foldF_lt (h1 : 1 ≤ size) (s : σ) (l : Bytes) : (foldF F size s l).2.length < size := by
  refine foldF_ind h1 (F := F) (fun s l => (foldF F size s l).2.length < size) ?_ ?_ s l
  · intro s l hl; rw [foldF_short hl]; exact hl
  · intro s l hl ih; rw [foldF_step h1 hl]; exact ih
theorem foldF_mod (h1 : 1 ≤ size) (s : σ) (l : Bytes) : (foldF F size s l).2.length = l.length % size := by
  refine foldF_ind h1 (F := F) (fun s l => (foldF F size s l).2.length = l.length % size) ?_ ?_ s l
  · intro s l hl; rw [foldF_short hl, Nat.mod_eq_of_lt hl]
  · intro s l hl ih; rw [foldF_step h1 hl, ih, List.length_drop, Nat.mod_eq_sub_mod hl]
theorem foldF_congr (h1 : 1 ≤ size) {G : σ → Bytes → σ} (hFG : ∀ s l, l.length = size → F s l = G s l) (s : σ) (l : Bytes) : foldF F size s l = foldF G size s l := by
  refine foldF_ind h1 (F := F) (fun s l => foldF F size s l = foldF G size s l) ?_ ?_ s l
  · intro s l hl; rw [foldF_short hl, foldF_short hl]
  · intro s l hl ih
    rw [foldF_step h1 hl, ih, foldF_step h1 hl, hFG _ _ (by rw [List.length_take]; omega)]
end
end Go.Proofs.Ytcbbllfgelnpjaa
