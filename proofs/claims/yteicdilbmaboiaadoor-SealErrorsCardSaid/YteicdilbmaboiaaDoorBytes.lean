/- What a slice of bytes reads as, and what of memory a call leaves as it was. No program in sight. -/
import Derived.Test.YteicdilbmaboiaaDoorWords
import Derived.Laws.CopyOwn
namespace Go.Proofs.YteicdilbmaboiaaDoor
set_option linter.unusedVariables false
set_option linter.unusedSimpArgs false
open Go.RowKit

/-! ### Outside the blocks F the world w' is as w was -/
structure Fr (F : Nat → Prop) (w w' : World) : Prop where
  os : w'.os = w.os
  tape : w'.tape = w.tape
  output : w'.output = w.output
  size : w.heap.size ≤ w'.heap.size
  block : ∀ k, k < w.heap.size → ¬ F k → w'.heap[k]? = w.heap[k]?
def No : Nat → Prop := fun _ => False
theorem Fr.refl (F : Nat → Prop) (w : World) : Fr F w w := ⟨rfl, rfl, rfl, Nat.le_refl _, fun _ _ _ => rfl⟩
theorem Fr.of_eq {F : Nat → Prop} {w w' : World} (h : w = w') : Fr F w w' := by subst h; exact Fr.refl _ _
theorem Fr.trans {F G : Nat → Prop} {a b c : World} (h : Fr F a b) (k : Fr G b c) (hG : ∀ x, G x → F x ∨ a.heap.size ≤ x) : Fr F a c :=
  ⟨k.os.trans h.os, k.tape.trans h.tape, k.output.trans h.output, Nat.le_trans h.size k.size, fun i hi hF =>
    (k.block i (Nat.lt_of_lt_of_le hi h.size) (fun g => (hG i g).elim hF (fun e => by omega))).trans (h.block i hi hF)⟩
theorem Fr.no {F : Nat → Prop} {a b c : World} (h : Fr F a b) (k : Fr No b c) : Fr F a c := h.trans k fun _ g => g.elim
theorem Fr.mono {F G : Nat → Prop} {a b : World} (h : Fr F a b) (hG : ∀ x, x < a.heap.size → F x → G x) : Fr G a b :=
  ⟨h.os, h.tape, h.output, h.size, fun i hi g => h.block i hi fun f => g (hG i hi f)⟩
theorem Fr.drew {F : Nat → Prop} {a w : World} (h : Fr F a w) : Fr F a w.drew := ⟨h.os, h.tape, h.output, h.size, h.block⟩
theorem Fr.drewN {F : Nat → Prop} {a w : World} (h : Fr F a w) (n : Nat) : Fr F a (w.drewN n) := ⟨h.os, h.tape, h.output, h.size, h.block⟩
theorem Fr.alloc {F : Nat → Prop} {a w : World} (h : Fr F a w) (o : Obj) : Fr F a (w.alloc o) :=
  h.trans (G := No) ⟨rfl, rfl, rfl, by simp, fun k hk _ => Below.heap_alloc _ _ _ (by omega)⟩ fun _ g => g.elim
theorem Fr.setCell {F : Nat → Prop} {a w : World} (h : Fr F a w) {p : Addr} (hp : F p.block ∨ a.heap.size ≤ p.block) (u : Value) : Fr F a (w.setCell p u) :=
  h.trans (G := fun x => x = p.block) ⟨rfl, rfl, rfl, by simp, fun k _ hk => Below.heap_setCell _ _ _ _ hk⟩ fun x e => by subst e; exact hp
theorem Fr.grown {F : Nat → Prop} {a w w' : World} {row : Option Nat} (h : Fr F a w) (hg : w.grownBy w' row) (hr : ∀ k, row = some k → F k ∨ a.heap.size ≤ k) : Fr F a w' :=
  h.trans (G := fun x => row = some x) ⟨hg.os, hg.tape, hg.output, hg.size, fun k hk hne => hg.block k hk fun e => hne e.symm⟩ fun x e => hr x e
theorem Fr.below {F : Nat → Prop} {B : Nat} {w w' : World} (h : Fr F w w') (hB : B ≤ w.heap.size) (hF : ∀ x, F x → B ≤ x) : Below B w w' :=
  ⟨h.os, h.tape, h.output, h.size, fun k hk => h.block k (by omega) fun f => by have := hF k f; omega⟩
theorem Fr.cell {F : Nat → Prop} {w w' : World} (h : Fr F w w') {p : Addr} {v : Value} (hp : ¬ F p.block) (hc : w.cell? p = some v) : w'.cell? p = some v :=
  (World.cell?_of_block (w := w) (h.block p.block (World.block_lt_of_cell? w p hc) hp)).trans hc
theorem Fr.frozen {F : Nat → Prop} {w w' : World} (h : Fr F w w') {p : Addr} (hp : ¬ F p.block) (hl : p.block < w.heap.size) : w'.frozen? p = w.frozen? p :=
  World.frozen?_of_block (w := w) (h.block p.block hl hp)
theorem Fr.lt {F : Nat → Prop} {w w' : World} (h : Fr F w w') {k : Nat} (hk : k < w.heap.size) : k < w'.heap.size := Nat.lt_of_lt_of_le hk h.size
theorem Fr.heap {F : Nat → Prop} {w w' : World} (h : Fr F w w') {k : Nat} {o : Obj} (hk : ¬ F k) (ho : w.heap[k]? = some o) : w'.heap[k]? = some o := by
  have hl : k < w.heap.size := by
    rcases Nat.lt_or_ge k w.heap.size with h | h
    · exact h
    · rw [Array.getElem?_eq_none h] at ho; cases ho
  exact (h.block k hl hk).trans ho

/-! ### Bytes -/
abbrev Bytes := List (BitVec 8)
/-- The slice value '.slice a n c' reads as the bytes l. -/
def IsBytes (w : World) (a : Option Addr) (n c : Nat) (l : Bytes) : Prop :=
  l.length = n ∧ n ≤ c ∧ c ≤ 9223372036854775807 ∧ (a = none → c = 0) ∧ ∀ i, i < n → ∃ b off, a = some ⟨b, off, none⟩ ∧ w.cell? ⟨b, off + i, none⟩ = some (.int .u8 (B8 (l.getD i 0)))
/-- None of its cells lies in the blocks F. -/
def Apart (F : Nat → Prop) (a : Option Addr) (n : Nat) : Prop := ∀ x, 0 < n → a = some x → ¬ F x.block
theorem Apart.no (a : Option Addr) (n : Nat) : Apart No a n := fun _ _ _ h => h
theorem IsBytes.nil (w : World) : IsBytes w none 0 0 [] := ⟨rfl, Nat.le_refl _, by omega, fun _ => rfl, fun i hi => absurd hi (Nat.not_lt_zero _)⟩
theorem IsBytes.fr {F : Nat → Prop} {w w' : World} {a : Option Addr} {n c : Nat} {l : Bytes} (h : IsBytes w a n c l) (k : Fr F w w') (ha : Apart F a n) : IsBytes w' a n c l :=
  ⟨h.1, h.2.1, h.2.2.1, h.2.2.2.1, fun i hi => by
    obtain ⟨b, off, e, hc⟩ := h.2.2.2.2 i hi
    exact ⟨b, off, e, k.cell (p := ⟨b, off + i, none⟩) (by have := ha _ (by omega) e; exact this) hc⟩⟩
theorem IsBytes.no {w w' : World} {a : Option Addr} {n c : Nat} {l : Bytes} (h : IsBytes w a n c l) (k : Fr No w w') : IsBytes w' a n c l := h.fr k (Apart.no a n)
/-- Its cells lie in blocks that are there. -/
theorem IsBytes.old {w : World} {a : Option Addr} {n c : Nat} {l : Bytes} (h : IsBytes w a n c l) {F : Nat → Prop} (hF : ∀ x, F x → w.heap.size ≤ x) : Apart F a n := fun x hn e f => by
  obtain ⟨b, off, e', hc⟩ := h.2.2.2.2 0 hn
  rw [e] at e'
  cases e'
  have := World.block_lt_of_cell? w _ hc
  have := hF _ f
  simp at *
  omega
/-- Where there is a byte: the address is written out, and the cells are known. -/
theorem IsBytes.known {w : World} {a : Option Addr} {n c : Nat} {l : Bytes} (h : IsBytes w a n c l) (hn : 0 < n) :
    ∃ b off, a = some ⟨b, off, none⟩ ∧ ∀ i, i < n → w.cell? ⟨b, off + i, none⟩ = some (.int .u8 (B8 (l.getD i 0))) := by
  obtain ⟨b, off, e, _⟩ := h.2.2.2.2 0 hn
  refine ⟨b, off, e, fun i hi => ?_⟩
  obtain ⟨b', off', e', hc⟩ := h.2.2.2.2 i hi
  rw [e] at e'
  cases e'
  exact hc

/-! ### A slice of a slice -/
def subAddr (a : Option Addr) (l m s : Nat) : Option Addr := if m = l then a else a.map (·.add (l * s))
@[go_sem ↓] theorem sliced_sub (a : Option Addr) (l h m s : Nat) : sliced a l h m s = .slice (subAddr a l m s) (h - l) (m - l) := rfl
theorem subAddr_block {a : Option Addr} {l m s : Nat} {x : Addr} (h : subAddr a l m s = some x) : ∃ y, a = some y ∧ y.block = x.block := by
  unfold subAddr at h
  split at h
  · exact ⟨x, h, rfl⟩
  · cases a with
    | none => cases h
    | some y =>
      simp at h
      subst h
      refine ⟨y, rfl, ?_⟩
      unfold Addr.add
      split <;> rfl
theorem Apart.sub {F : Nat → Prop} {a : Option Addr} {n n' : Nat} (h : Apart F a n) (hn : n' ≤ n) (l m s : Nat) : Apart F (subAddr a l m s) n' := fun x h0 hx => by
  obtain ⟨y, e, hb⟩ := subAddr_block hx
  rw [← hb]; exact h y (by omega) e
theorem subAddr_zero (a : Option Addr) (m s : Nat) : subAddr a 0 m s = a := by
  unfold subAddr
  split
  · rfl
  · cases a <;> simp [Addr.add]
theorem IsBytes.cut {w : World} {a : Option Addr} {n c : Nat} {l : Bytes} (h : IsBytes w a n c l) (lo hi m : Nat) {n' c' : Nat} (h1 : lo ≤ hi) (h2 : hi ≤ n) (h3 : hi ≤ m) (h4 : m ≤ c) (hn : n' = hi - lo) (hc : c' = m - lo) :
    IsBytes w (subAddr a lo m 1) n' c' ((l.drop lo).take (hi - lo)) := by
  subst hn; subst hc
  refine ⟨by rw [List.length_take, List.length_drop, h.1]; omega, by omega, by have := h.2.2.1; omega, fun e => ?_, fun i hi' => ?_⟩
  · unfold subAddr at e
    split at e
    · omega
    · cases a with
      | none => have := h.2.2.2.1 rfl; omega
      | some y => simp at e
  · obtain ⟨b, off, e, hcell⟩ := h.2.2.2.2 (lo + i) (by omega)
    subst e
    refine ⟨b, off + lo, ?_, ?_⟩
    · unfold subAddr
      rw [if_neg (by omega)]
      simp [Addr.add_lit]
    · rw [Nat.add_assoc, hcell]
      congr 3
      rw [List.getD_eq_getElem?_getD, List.getD_eq_getElem?_getD, List.getElem?_take, if_pos (by omega), List.getElem?_drop]
theorem IsBytes.cut_to_end {w : World} {a : Option Addr} {n c : Nat} {l : Bytes} (h : IsBytes w a n c l) (lo : Nat) {n' c' : Nat} (h1 : lo ≤ n) (hn : n' = n - lo) (hc : c' = c - lo) :
    IsBytes w (subAddr a lo c 1) n' c' (l.drop lo) := by
  have := h.cut lo n c (n' := n') (c' := c') h1 (Nat.le_refl _) h.2.1 (Nat.le_refl _) hn hc
  rwa [List.take_of_length_le (by rw [List.length_drop, h.1]; omega)] at this
theorem IsBytes.head {w : World} {a : Option Addr} {n c : Nat} {l : Bytes} (h : IsBytes w a n c l) (hi m : Nat) {n' c' : Nat} (h2 : hi ≤ n) (h3 : hi ≤ m) (h4 : m ≤ c) (hn : n' = hi) (hc : c' = m) :
    IsBytes w (subAddr a 0 m 1) n' c' (l.take hi) := by
  have := h.cut 0 hi m (n' := n') (c' := c') (Nat.zero_le _) h2 h3 h4 (by omega) (by omega)
  simpa using this

/-! ### The number of bytes, the lowest first -/
def le : Bytes → BitVec 64
  | [] => 0#64
  | b :: r => b.setWidth 64 + le r * 256#64
end Go.Proofs.YteicdilbmaboiaaDoor
