/- Words Bytes Row4 -/
import Derived.BigQuiet
import Derived.Laws.CopyOwn
import Derived.Lib.Hide
import Derived.WalkKit
import Derived.WalkLawsBesides
import Derived.WalkSpells
set_option linter.unusedVariables false
set_option linter.unusedSimpArgs false
namespace Go.Proofs.YtidlpihoafnobaaGreatDoor
set_option maxRecDepth 100000
open Go.RowKit
def W64 (x : BitVec 64) : Int := (x.toNat : Int)
def W32 (x : BitVec 32) : Int := (x.toNat : Int)
def B8 (x : BitVec 8) : Int := (x.toNat : Int)
def O64 (n : Int) : BitVec 64 := BitVec.ofInt 64 n
def O32 (n : Int) : BitVec 32 := BitVec.ofInt 32 n
def O8 (n : Int) : BitVec 8 := BitVec.ofInt 8 n
theorem wrapu64_raw (n : Int) : IntKind.u64.wrap n = n % 18446744073709551616 := by simp [IntKind.wrap, IntKind.bits, IntKind.signed]
theorem wrapu32_raw (n : Int) : IntKind.u32.wrap n = n % 4294967296 := by simp [IntKind.wrap, IntKind.bits, IntKind.signed]
theorem wrapu8_raw (n : Int) : IntKind.u8.wrap n = n % 256 := by simp [IntKind.wrap, IntKind.bits, IntKind.signed]
@[go_sem] theorem wrapu64 (n : Int) : IntKind.u64.wrap n = W64 (O64 n) := by
 rw [wrapu64_raw, W64, O64, BitVec.toNat_ofInt]; omega
@[go_sem] theorem wrapu32 (n : Int) : IntKind.u32.wrap n = W32 (O32 n) := by
 rw [wrapu32_raw, W32, O32, BitVec.toNat_ofInt]; omega
@[go_sem] theorem wrapu8 (n : Int) : IntKind.u8.wrap n = B8 (O8 n) := by
 rw [wrapu8_raw, B8, O8, BitVec.toNat_ofInt]; omega
theorem W64_lt (x : BitVec 64) : 0 ≤ W64 x ∧ W64 x < 18446744073709551616 := by unfold W64; have := x.isLt; omega
theorem W32_lt (x : BitVec 32) : 0 ≤ W32 x ∧ W32 x < 4294967296 := by unfold W32; have := x.isLt; omega
theorem B8_lt (x : BitVec 8) : 0 ≤ B8 x ∧ B8 x < 256 := by unfold B8; have := x.isLt; omega
@[go_sem] theorem W64_nn (x : BitVec 64) : 0 ≤ W64 x := (W64_lt x).1
@[go_sem] theorem W32_nn (x : BitVec 32) : 0 ≤ W32 x := (W32_lt x).1
@[go_sem] theorem B8_nn (x : BitVec 8) : 0 ≤ B8 x := (B8_lt x).1
theorem ofInt_sub' (w : Nat) (a b : Int) : BitVec.ofInt w (a - b) = BitVec.ofInt w a - BitVec.ofInt w b := by
 rw [Int.sub_eq_add_neg, BitVec.ofInt_add, BitVec.ofInt_neg, BitVec.sub_eq_add_neg]
@[go_sem] theorem O64_add (a b : Int) : O64 (a + b) = O64 a + O64 b := BitVec.ofInt_add a b
@[go_sem] theorem O64_mul (a b : Int) : O64 (a * b) = O64 a * O64 b := BitVec.ofInt_mul a b
@[go_sem] theorem O64_sub (a b : Int) : O64 (a - b) = O64 a - O64 b := ofInt_sub' _ _ _
@[go_sem] theorem O64_W64 (x : BitVec 64) : O64 (W64 x) = x := by simp [O64, W64]
@[go_sem] theorem O64_W32 (x : BitVec 32) : O64 (W32 x) = x.setWidth 64 := by
 simp only [O64, W32]; apply BitVec.eq_of_toNat_eq; simp
@[go_sem] theorem O64_B8 (x : BitVec 8) : O64 (B8 x) = x.setWidth 64 := by
 simp only [O64, B8]; apply BitVec.eq_of_toNat_eq; simp
@[go_sem] theorem O64_nat (n : Nat) : O64 (n : Int) = BitVec.ofNat 64 n := by simp [O64]
@[go_sem] theorem O64_lit (n : Nat) : O64 (no_index (OfNat.ofNat n)) = BitVec.ofNat 64 n := by
 show BitVec.ofInt 64 ((n : Nat) : Int) = _; rw [BitVec.ofInt_natCast]
@[go_sem] theorem O32_add (a b : Int) : O32 (a + b) = O32 a + O32 b := BitVec.ofInt_add a b
@[go_sem] theorem O32_mul (a b : Int) : O32 (a * b) = O32 a * O32 b := BitVec.ofInt_mul a b
@[go_sem] theorem O32_sub (a b : Int) : O32 (a - b) = O32 a - O32 b := ofInt_sub' _ _ _
@[go_sem] theorem O32_W32 (x : BitVec 32) : O32 (W32 x) = x := by simp [O32, W32]
@[go_sem] theorem O32_W64 (x : BitVec 64) : O32 (W64 x) = x.setWidth 32 := by
 simp only [O32, W64]; apply BitVec.eq_of_toNat_eq; simp
@[go_sem] theorem O32_B8 (x : BitVec 8) : O32 (B8 x) = x.setWidth 32 := by
 simp only [O32, B8]; apply BitVec.eq_of_toNat_eq; simp
@[go_sem] theorem O32_nat (n : Nat) : O32 (n : Int) = BitVec.ofNat 32 n := by simp [O32]
@[go_sem] theorem O32_lit (n : Nat) : O32 (no_index (OfNat.ofNat n)) = BitVec.ofNat 32 n := by
 show BitVec.ofInt 32 ((n : Nat) : Int) = _; rw [BitVec.ofInt_natCast]
@[go_sem] theorem O8_W64 (x : BitVec 64) : O8 (W64 x) = x.setWidth 8 := by
 simp only [O8, W64]; apply BitVec.eq_of_toNat_eq; simp
@[go_sem] theorem O8_W32 (x : BitVec 32) : O8 (W32 x) = x.setWidth 8 := by
 simp only [O8, W32]; apply BitVec.eq_of_toNat_eq; simp
@[go_sem] theorem O8_B8 (x : BitVec 8) : O8 (B8 x) = x := by simp [O8, B8]
@[go_sem] theorem O8_add (a b : Int) : O8 (a + b) = O8 a + O8 b := BitVec.ofInt_add a b
@[go_sem] theorem O8_sub (a b : Int) : O8 (a - b) = O8 a - O8 b := ofInt_sub' _ _ _
@[go_sem] theorem O8_lit (n : Nat) : O8 (no_index (OfNat.ofNat n)) = BitVec.ofNat 8 n := by
 show BitVec.ofInt 8 ((n : Nat) : Int) = _; rw [BitVec.ofInt_natCast]
@[go_sem] theorem O8_nat (n : Nat) : O8 (n : Int) = BitVec.ofNat 8 n := by simp [O8]
theorem W64_divn (x : BitVec 64) (n : Nat) (h : n < 18446744073709551616) : W64 x / (n : Int) = W64 (x / BitVec.ofNat 64 n) := by
 have e : (BitVec.ofNat 64 n).toNat = n := by rw [BitVec.toNat_ofNat]; exact Nat.mod_eq_of_lt h
 simp only [W64, BitVec.toNat_udiv, e]; rfl
theorem W64_modn (x : BitVec 64) (n : Nat) (h : n < 18446744073709551616) : W64 x % (n : Int) = W64 (x % BitVec.ofNat 64 n) := by
 have e : (BitVec.ofNat 64 n).toNat = n := by rw [BitVec.toNat_ofNat]; exact Nat.mod_eq_of_lt h
 simp only [W64, BitVec.toNat_umod, e]; rfl
theorem W32_divn (x : BitVec 32) (n : Nat) (h : n < 4294967296) : W32 x / (n : Int) = W32 (x / BitVec.ofNat 32 n) := by
 have e : (BitVec.ofNat 32 n).toNat = n := by rw [BitVec.toNat_ofNat]; exact Nat.mod_eq_of_lt h
 simp only [W32, BitVec.toNat_udiv, e]; rfl
theorem W32_modn (x : BitVec 32) (n : Nat) (h : n < 4294967296) : W32 x % (n : Int) = W32 (x % BitVec.ofNat 32 n) := by
 have e : (BitVec.ofNat 32 n).toNat = n := by rw [BitVec.toNat_ofNat]; exact Nat.mod_eq_of_lt h
 simp only [W32, BitVec.toNat_umod, e]; rfl
@[go_sem] theorem W64_div (x : BitVec 64) (n : Nat) (h : n < 18446744073709551616) : W64 x / no_index (OfNat.ofNat n : Int) = W64 (x / BitVec.ofNat 64 n) := W64_divn x n h
@[go_sem] theorem W32_div (x : BitVec 32) (n : Nat) (h : n < 4294967296) : W32 x / no_index (OfNat.ofNat n : Int) = W32 (x / BitVec.ofNat 32 n) := W32_divn x n h
@[go_sem] theorem W64_mod (x : BitVec 64) (n : Nat) (h : n < 18446744073709551616) : W64 x % no_index (OfNat.ofNat n : Int) = W64 (x % BitVec.ofNat 64 n) := W64_modn x n h
@[go_sem] theorem W32_mod (x : BitVec 32) (n : Nat) (h : n < 4294967296) : W32 x % no_index (OfNat.ofNat n : Int) = W32 (x % BitVec.ofNat 32 n) := W32_modn x n h
@[go_sem] theorem W64_tdiv (x : BitVec 64) (n : Nat) (h : n < 18446744073709551616) : (W64 x).tdiv (no_index (OfNat.ofNat n : Int)) = W64 (x / BitVec.ofNat 64 n) := by
 rw [Int.tdiv_eq_ediv_of_nonneg (W64_nn x)]; exact W64_divn x n h
@[go_sem] theorem W32_tdiv (x : BitVec 32) (n : Nat) (h : n < 4294967296) : (W32 x).tdiv (no_index (OfNat.ofNat n : Int)) = W32 (x / BitVec.ofNat 32 n) := by
 rw [Int.tdiv_eq_ediv_of_nonneg (W32_nn x)]; exact W32_divn x n h
@[go_sem] theorem W64_tmod (x : BitVec 64) (n : Nat) (h : n < 18446744073709551616) : (W64 x).tmod (no_index (OfNat.ofNat n : Int)) = W64 (x % BitVec.ofNat 64 n) := by
 rw [Int.tmod_eq_emod_of_nonneg (W64_nn x)]; exact W64_modn x n h
@[go_sem] theorem W32_tmod (x : BitVec 32) (n : Nat) (h : n < 4294967296) : (W32 x).tmod (no_index (OfNat.ofNat n : Int)) = W32 (x % BitVec.ofNat 32 n) := by
 rw [Int.tmod_eq_emod_of_nonneg (W32_nn x)]; exact W32_modn x n h
@[go_sem] theorem bits_xor64 (a b : Int) : bits .xor .u64 a b = W64 (O64 a ^^^ O64 b) := by
 show IntKind.u64.wrap ((BitVec.ofInt 64 a ^^^ BitVec.ofInt 64 b).toNat : Int) = _
 rw [wrapu64, O64_nat, BitVec.ofNat_toNat, BitVec.setWidth_eq]; rfl
@[go_sem] theorem bits_and64 (a b : Int) : bits .and .u64 a b = W64 (O64 a &&& O64 b) := by
 show IntKind.u64.wrap ((BitVec.ofInt 64 a &&& BitVec.ofInt 64 b).toNat : Int) = _
 rw [wrapu64, O64_nat, BitVec.ofNat_toNat, BitVec.setWidth_eq]; rfl
@[go_sem] theorem bits_or64 (a b : Int) : bits .or .u64 a b = W64 (O64 a ||| O64 b) := by
 show IntKind.u64.wrap ((BitVec.ofInt 64 a ||| BitVec.ofInt 64 b).toNat : Int) = _
 rw [wrapu64, O64_nat, BitVec.ofNat_toNat, BitVec.setWidth_eq]; rfl
@[go_sem] theorem bits_xor32 (a b : Int) : bits .xor .u32 a b = W32 (O32 a ^^^ O32 b) := by
 show IntKind.u32.wrap ((BitVec.ofInt 32 a ^^^ BitVec.ofInt 32 b).toNat : Int) = _
 rw [wrapu32, O32_nat, BitVec.ofNat_toNat, BitVec.setWidth_eq]; rfl
@[go_sem] theorem bits_and32 (a b : Int) : bits .and .u32 a b = W32 (O32 a &&& O32 b) := by
 show IntKind.u32.wrap ((BitVec.ofInt 32 a &&& BitVec.ofInt 32 b).toNat : Int) = _
 rw [wrapu32, O32_nat, BitVec.ofNat_toNat, BitVec.setWidth_eq]; rfl
@[go_sem] theorem bits_or32 (a b : Int) : bits .or .u32 a b = W32 (O32 a ||| O32 b) := by
 show IntKind.u32.wrap ((BitVec.ofInt 32 a ||| BitVec.ofInt 32 b).toNat : Int) = _
 rw [wrapu32, O32_nat, BitVec.ofNat_toNat, BitVec.setWidth_eq]; rfl
@[go_sem] theorem W64_inj (x y : BitVec 64) : (W64 x = W64 y) = (x = y) := by
 apply propext; constructor
 · intro h; apply BitVec.eq_of_toNat_eq; unfold W64 at h; omega
 · rintro rfl; rfl
@[go_sem] theorem W32_inj (x y : BitVec 32) : (W32 x = W32 y) = (x = y) := by
 apply propext; constructor
 · intro h; apply BitVec.eq_of_toNat_eq; unfold W32 at h; omega
 · rintro rfl; rfl
@[go_sem] theorem B8_inj (x y : BitVec 8) : (B8 x = B8 y) = (x = y) := by
 apply propext; constructor
 · intro h; apply BitVec.eq_of_toNat_eq; unfold B8 at h; omega
 · rintro rfl; rfl
@[go_sem] theorem W64_beq (x y : BitVec 64) : (W64 x == W64 y) = (x == y) := by
 rw [Bool.eq_iff_iff]; simp only [beq_iff_eq, W64_inj]
@[go_sem] theorem W32_beq (x y : BitVec 32) : (W32 x == W32 y) = (x == y) := by
 rw [Bool.eq_iff_iff]; simp only [beq_iff_eq, W32_inj]
theorem W64_of_nat (n : Nat) (h : n < 18446744073709551616) : W64 (BitVec.ofNat 64 n) = (n : Int) := by
 unfold W64; rw [BitVec.toNat_ofNat]; congr 1; exact Nat.mod_eq_of_lt h
theorem W32_of_nat (n : Nat) (h : n < 4294967296) : W32 (BitVec.ofNat 32 n) = (n : Int) := by
 unfold W32; rw [BitVec.toNat_ofNat]; congr 1; exact Nat.mod_eq_of_lt h
@[go_sem] theorem W64_beq_lit (x : BitVec 64) (n : Nat) (h : n < 18446744073709551616) : (W64 x == no_index (OfNat.ofNat n : Int)) = (x == BitVec.ofNat 64 n) := by
 have e : (OfNat.ofNat n : Int) = W64 (BitVec.ofNat 64 n) := (W64_of_nat _ h).symm
 rw [e, W64_beq]
@[go_sem] theorem W32_beq_lit (x : BitVec 32) (n : Nat) (h : n < 4294967296) : (W32 x == no_index (OfNat.ofNat n : Int)) = (x == BitVec.ofNat 32 n) := by
 have e : (OfNat.ofNat n : Int) = W32 (BitVec.ofNat 32 n) := (W32_of_nat _ h).symm
 rw [e, W32_beq]
@[go_sem] theorem W64_eq_lit (x : BitVec 64) (n : Nat) (h : n < 18446744073709551616) : (W64 x = no_index (OfNat.ofNat n : Int)) = (x = BitVec.ofNat 64 n) := by
 have e : (OfNat.ofNat n : Int) = W64 (BitVec.ofNat 64 n) := (W64_of_nat _ h).symm
 rw [e, W64_inj]
@[go_sem] theorem W32_eq_lit (x : BitVec 32) (n : Nat) (h : n < 4294967296) : (W32 x = no_index (OfNat.ofNat n : Int)) = (x = BitVec.ofNat 32 n) := by
 have e : (OfNat.ofNat n : Int) = W32 (BitVec.ofNat 32 n) := (W32_of_nat _ h).symm
 rw [e, W32_inj]
end Go.Proofs.YtidlpihoafnobaaGreatDoor
namespace Go.Proofs.YtidlpihoafnobaaGreatDoor
set_option maxRecDepth 100000
open Go.RowKit
structure Fr (F : Nat → Prop) (w w' : World) : Prop where
 os : w'.os = w.os
 tape : w'.tape = w.tape
 output : w'.output = w.output
 size : w.heap.size ≤ w'.heap.size
 block : ∀ k, k < w.heap.size → ¬ F k → w'.heap[k]? = w.heap[k]?
def No : Nat → Prop := fun _ => False
theorem Fr.refl (F : Nat → Prop) (w : World) : Fr F w w := ⟨rfl, rfl, rfl, Nat.le_refl _, fun _ _ _ => rfl⟩
theorem Fr.trans {F G : Nat → Prop} {a b c : World} (h : Fr F a b) (k : Fr G b c) (hG : ∀ x, G x → F x ∨ a.heap.size ≤ x) : Fr F a c :=
 ⟨k.os.trans h.os, k.tape.trans h.tape, k.output.trans h.output, Nat.le_trans h.size k.size, fun i hi hF =>
  (k.block i (Nat.lt_of_lt_of_le hi h.size) (fun g => (hG i g).elim hF (fun e => by omega))).trans (h.block i hi hF)⟩
theorem Fr.no {F : Nat → Prop} {a b c : World} (h : Fr F a b) (k : Fr No b c) : Fr F a c := h.trans k fun _ g => g.elim
theorem Fr.mono {F G : Nat → Prop} {a b : World} (h : Fr F a b) (hG : ∀ x, x < a.heap.size → F x → G x) : Fr G a b :=
 ⟨h.os, h.tape, h.output, h.size, fun i hi g => h.block i hi fun f => g (hG i hi f)⟩
theorem Fr.drew {F : Nat → Prop} {a w : World} (h : Fr F a w) : Fr F a w.drew := ⟨h.os, h.tape, h.output, h.size, h.block⟩
theorem Fr.drewN {F : Nat → Prop} {a w : World} (h : Fr F a w) (n : Nat) : Fr F a (w.drewN n) := ⟨h.os, h.tape, h.output, h.size, h.block⟩
theorem Fr.alloc {F : Nat → Prop} {a w : World} (h : Fr F a w) (o : Obj) : Fr F a (w.alloc o) :=
 h.trans (G := No) ⟨rfl, rfl, rfl, by simp, fun k hk _ => Below.heap_alloc _ _ _ (by omega)⟩ fun _ g => g.elim
theorem Fr.setCell {F : Nat → Prop} {a w : World} (h : Fr F a w) {p : Addr} (hp : F p.block ∨ a.heap.size ≤ p.block) (u : Value) : Fr F a (w.setCell p u) :=
 h.trans (G := fun x => x = p.block) ⟨rfl, rfl, rfl, by simp, fun k _ hk => Below.heap_setCell _ _ _ _ hk⟩ fun x e => by subst e; exact hp
theorem Fr.below {F : Nat → Prop} {B : Nat} {w w' : World} (h : Fr F w w') (hB : B ≤ w.heap.size) (hF : ∀ x, F x → B ≤ x) : Below B w w' :=
 ⟨h.os, h.tape, h.output, h.size, fun k hk => h.block k (by omega) fun f => by have := hF k f; omega⟩
theorem Fr.cell {F : Nat → Prop} {w w' : World} (h : Fr F w w') {p : Addr} {v : Value} (hp : ¬ F p.block) (hc : w.cell? p = some v) : w'.cell? p = some v :=
 (World.cell?_of_block (w := w) (h.block p.block (World.block_lt_of_cell? w p hc) hp)).trans hc
theorem Fr.frozen {F : Nat → Prop} {w w' : World} (h : Fr F w w') {p : Addr} (hp : ¬ F p.block) (hl : p.block < w.heap.size) : w'.frozen? p = w.frozen? p :=
 World.frozen?_of_block (w := w) (h.block p.block hl hp)
theorem Fr.lt {F : Nat → Prop} {w w' : World} (h : Fr F w w') {k : Nat} (hk : k < w.heap.size) : k < w'.heap.size := Nat.lt_of_lt_of_le hk h.size
theorem Fr.heap {F : Nat → Prop} {w w' : World} (h : Fr F w w') {k : Nat} {o : Obj} (hk : ¬ F k) (ho : w.heap[k]? = some o) : w'.heap[k]? = some o := by
 have hl : k < w.heap.size := by
  rcases Nat.lt_or_ge k w.heap.size with h | h
  · exact h
  · rw [Array.getElem?_eq_none h] at ho; cases ho
 exact (h.block k hl hk).trans ho
abbrev Bytes := List (BitVec 8)
def IsBytes (w : World) (a : Option Addr) (n c : Nat) (l : Bytes) : Prop :=
 l.length = n ∧ n ≤ c ∧ c ≤ 9223372036854775807 ∧ (a = none → c = 0) ∧ ∀ i, i < n → ∃ b off, a = some ⟨b, off, none⟩ ∧ w.cell? ⟨b, off + i, none⟩ = some (.int .u8 (B8 (l.getD i 0)))
def Apart (F : Nat → Prop) (a : Option Addr) (n : Nat) : Prop := ∀ x, 0 < n → a = some x → ¬ F x.block
theorem Apart.no (a : Option Addr) (n : Nat) : Apart No a n := fun _ _ _ h => h
theorem IsBytes.nil (w : World) : IsBytes w none 0 0 [] := ⟨rfl, Nat.le_refl _, by omega, fun _ => rfl, fun i hi => absurd hi (Nat.not_lt_zero _)⟩
theorem IsBytes.fr {F : Nat → Prop} {w w' : World} {a : Option Addr} {n c : Nat} {l : Bytes} (h : IsBytes w a n c l) (k : Fr F w w') (ha : Apart F a n) : IsBytes w' a n c l :=
 ⟨h.1, h.2.1, h.2.2.1, h.2.2.2.1, fun i hi => by
  obtain ⟨b, off, e, hc⟩ := h.2.2.2.2 i hi
  exact ⟨b, off, e, k.cell (p := ⟨b, off + i, none⟩) (by have := ha _ (by omega) e; exact this) hc⟩⟩
theorem IsBytes.no {w w' : World} {a : Option Addr} {n c : Nat} {l : Bytes} (h : IsBytes w a n c l) (k : Fr No w w') : IsBytes w' a n c l := h.fr k (Apart.no a n)
theorem IsBytes.old {w : World} {a : Option Addr} {n c : Nat} {l : Bytes} (h : IsBytes w a n c l) {F : Nat → Prop} (hF : ∀ x, F x → w.heap.size ≤ x) : Apart F a n := fun x hn e f => by
 obtain ⟨b, off, e', hc⟩ := h.2.2.2.2 0 hn
 rw [e] at e'
 cases e'
 have := World.block_lt_of_cell? w _ hc
 have := hF _ f
 simp at *
 omega
theorem IsBytes.known {w : World} {a : Option Addr} {n c : Nat} {l : Bytes} (h : IsBytes w a n c l) (hn : 0 < n) :
 ∃ b off, a = some ⟨b, off, none⟩ ∧ ∀ i, i < n → w.cell? ⟨b, off + i, none⟩ = some (.int .u8 (B8 (l.getD i 0))) := by
 obtain ⟨b, off, e, _⟩ := h.2.2.2.2 0 hn
 refine ⟨b, off, e, fun i hi => ?_⟩
 obtain ⟨b', off', e', hc⟩ := h.2.2.2.2 i hi
 rw [e] at e'
 cases e'
 exact hc
def subAddr (a : Option Addr) (l m s : Nat) : Option Addr := if m = l then a else a.map (·.add (l * s))
@[go_sem ↓] theorem sliced_sub (a : Option Addr) (l h m s : Nat) : sliced a l h m s = .slice (subAddr a l m s) (h - l) (m - l) := rfl
theorem subAddr_block {a : Option Addr} {l m s : Nat} {x : Addr} (h : subAddr a l m s = some x) : ∃ y, a = some y ∧ y.block = x.block := by
 unfold subAddr at h
 split at h
 · exact ⟨x, h, rfl⟩
 · cases a with
   | none => cases h
   | some y =>
    simp at h
    subst h
    refine ⟨y, rfl, ?_⟩
    unfold Addr.add
    split <;> rfl
theorem Apart.sub {F : Nat → Prop} {a : Option Addr} {n n' : Nat} (h : Apart F a n) (hn : n' ≤ n) (l m s : Nat) : Apart F (subAddr a l m s) n' := fun x h0 hx => by
 obtain ⟨y, e, hb⟩ := subAddr_block hx
 rw [← hb]; exact h y (by omega) e
theorem subAddr_zero (a : Option Addr) (m s : Nat) : subAddr a 0 m s = a := by
 unfold subAddr
 split
 · rfl
 · cases a <;> simp [Addr.add]
theorem IsBytes.cut {w : World} {a : Option Addr} {n c : Nat} {l : Bytes} (h : IsBytes w a n c l) (lo hi m : Nat) {n' c' : Nat} (h1 : lo ≤ hi) (h2 : hi ≤ n) (h3 : hi ≤ m) (h4 : m ≤ c) (hn : n' = hi - lo) (hc : c' = m - lo) :
 IsBytes w (subAddr a lo m 1) n' c' ((l.drop lo).take (hi - lo)) := by
 subst hn; subst hc
 refine ⟨by rw [List.length_take, List.length_drop, h.1]; omega, by omega, by have := h.2.2.1; omega, fun e => ?_, fun i hi' => ?_⟩
 · unfold subAddr at e
   split at e
   · omega
   · cases a with
     | none => have := h.2.2.2.1 rfl; omega
     | some y => simp at e
 · obtain ⟨b, off, e, hcell⟩ := h.2.2.2.2 (lo + i) (by omega)
   subst e
   refine ⟨b, off + lo, ?_, ?_⟩
   · unfold subAddr
     rw [if_neg (by omega)]
     simp [Addr.add_lit]
   · rw [Nat.add_assoc, hcell]
     congr 3
     rw [List.getD_eq_getElem?_getD, List.getD_eq_getElem?_getD, List.getElem?_take, if_pos (by omega), List.getElem?_drop]
theorem IsBytes.cut_to_end {w : World} {a : Option Addr} {n c : Nat} {l : Bytes} (h : IsBytes w a n c l) (lo : Nat) {n' c' : Nat} (h1 : lo ≤ n) (hn : n' = n - lo) (hc : c' = c - lo) :
 IsBytes w (subAddr a lo c 1) n' c' (l.drop lo) := by
 have := h.cut lo n c (n' := n') (c' := c') h1 (Nat.le_refl _) h.2.1 (Nat.le_refl _) hn hc
 rwa [List.take_of_length_le (by rw [List.length_drop, h.1]; omega)] at this
theorem IsBytes.head {w : World} {a : Option Addr} {n c : Nat} {l : Bytes} (h : IsBytes w a n c l) (hi m : Nat) {n' c' : Nat} (h2 : hi ≤ n) (h3 : hi ≤ m) (h4 : m ≤ c) (hn : n' = hi) (hc : c' = m) :
 IsBytes w (subAddr a 0 m 1) n' c' (l.take hi) := by
 have := h.cut 0 hi m (n' := n') (c' := c') (Nat.zero_le _) h2 h3 h4 (by omega) (by omega)
 simpa using this
def le : Bytes → BitVec 64
 | [] => 0#64
 | b :: r => b.setWidth 64 + le r * 256#64
end Go.Proofs.YtidlpihoafnobaaGreatDoor
namespace Go.Proofs.YtidlpihoafnobaaGreatDoor
set_option maxRecDepth 100000
open Go.RowKit
def Row4 (w : World) (b : Nat) (T : TypeId) (v0 v1 v2 v3 : Value) : Prop := w.heap[b]? = some (.cells #[v0, v1, v2, v3] T (0, 0))
section
variable {w w' : World} {b : Nat} {T : TypeId} {v0 v1 v2 v3 : Value}
theorem Row4.c0 (h : Row4 w b T v0 v1 v2 v3) : w.cell? ⟨b, 0, none⟩ = some v0 := by rw [cell_of_row w b 0 _ _ _ h]; rfl
theorem Row4.c1 (h : Row4 w b T v0 v1 v2 v3) : w.cell? ⟨b, 1, none⟩ = some v1 := by rw [cell_of_row w b 1 _ _ _ h]; rfl
theorem Row4.c2 (h : Row4 w b T v0 v1 v2 v3) : w.cell? ⟨b, 2, none⟩ = some v2 := by rw [cell_of_row w b 2 _ _ _ h]; rfl
theorem Row4.c3 (h : Row4 w b T v0 v1 v2 v3) : w.cell? ⟨b, 3, none⟩ = some v3 := by rw [cell_of_row w b 3 _ _ _ h]; rfl
theorem Row4.fz (h : Row4 w b T v0 v1 v2 v3) (k : Nat) : w.frozen? ⟨b, k, none⟩ = false := frozen_of_row w b k _ _ h
theorem Row4.lt (h : Row4 w b T v0 v1 v2 v3) : b < w.heap.size := (Array.getElem?_eq_some_iff.1 h).1
theorem Row4.fr {F : Nat → Prop} (h : Row4 w b T v0 v1 v2 v3) (k : Fr F w w') (hF : ¬ F b) : Row4 w' b T v0 v1 v2 v3 := k.heap hF h
theorem Row4.no (h : Row4 w b T v0 v1 v2 v3) (k : Fr No w w') : Row4 w' b T v0 v1 v2 v3 := k.heap (fun h => h) h
theorem Row4.put0 (h : Row4 w b T v0 v1 v2 v3) (x : Value) : Row4 (w.setCell ⟨b, 0, none⟩ x) b T x v1 v2 v3 := by unfold Row4; rw [heap_setCell_same w b 0 _ _ x h]; rfl
theorem Row4.put1 (h : Row4 w b T v0 v1 v2 v3) (x : Value) : Row4 (w.setCell ⟨b, 1, none⟩ x) b T v0 x v2 v3 := by unfold Row4; rw [heap_setCell_same w b 1 _ _ x h]; rfl
theorem Row4.put2 (h : Row4 w b T v0 v1 v2 v3) (x : Value) : Row4 (w.setCell ⟨b, 2, none⟩ x) b T v0 v1 x v3 := by unfold Row4; rw [heap_setCell_same w b 2 _ _ x h]; rfl
theorem Row4.put3 (h : Row4 w b T v0 v1 v2 v3) (x : Value) : Row4 (w.setCell ⟨b, 3, none⟩ x) b T v0 v1 v2 x := by unfold Row4; rw [heap_setCell_same w b 3 _ _ x h]; rfl
theorem row_put4 (h : Row4 w b T v0 v1 v2 v3) (x0 x1 x2 x3 : Value) : Row4 ((((w.setCell ⟨b, 0, none⟩ x0).setCell ⟨b, 1, none⟩ x1).setCell ⟨b, 2, none⟩ x2).setCell ⟨b, 3, none⟩ x3) b T x0 x1 x2 x3 :=
 (((h.put0 x0).put1 x1).put2 x2).put3 x3
theorem fr_put4 (w : World) (b : Nat) (x0 x1 x2 x3 : Value) : Fr (fun x => x = b) w ((((w.setCell ⟨b, 0, none⟩ x0).setCell ⟨b, 1, none⟩ x1).setCell ⟨b, 2, none⟩ x2).setCell ⟨b, 3, none⟩ x3) :=
 ((((Fr.refl (fun x => x = b) w).setCell (p := ⟨b, 0, none⟩) (.inl rfl) _).setCell (p := ⟨b, 1, none⟩) (.inl rfl) _).setCell (p := ⟨b, 2, none⟩) (.inl rfl) _).setCell (p := ⟨b, 3, none⟩) (.inl rfl) _
theorem row4_new (w : World) (T : TypeId) (v0 v1 v2 v3 : Value) : Row4 (w.alloc (.cells #[v0, v1, v2, v3] T)) w.heap.size T v0 v1 v2 v3 := heap_alloc_new w _
end
end Go.Proofs.YtidlpihoafnobaaGreatDoor
