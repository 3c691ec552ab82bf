/- Words Bytes RotPlain Mem RowKit -/
import Derived.ArgAppend
import Derived.Below
import Derived.BigQuiet
import Derived.ChangeOld
import Derived.Laws.AppendOwnNone
import Derived.Laws.CopyOwn
import Derived.Lib.Hide
import Derived.Maps.AppendAt
import Derived.OpenShut
import Derived.ProofKit
import Derived.ShutString
import Derived.SizedLaws
import Derived.Test.YtidlpihoafnobaaGreatDoorProg
import Derived.Test.YtidlpihoafnobaaGreatDoorRows
import Derived.WalkKit
import Derived.WalkLawsBesides
import Derived.WalkSpells
set_option linter.unusedVariables false
set_option linter.unusedSimpArgs false
namespace Go.Proofs.YtidlpihoafnobaaGreatDoor
set_option maxRecDepth 100000
open Go.RowKit
def W64 (x : BitVec 64) : Int := (x.toNat : Int)
def W32 (x : BitVec 32) : Int := (x.toNat : Int)
def B8 (x : BitVec 8) : Int := (x.toNat : Int)
def O64 (n : Int) : BitVec 64 := BitVec.ofInt 64 n
def O32 (n : Int) : BitVec 32 := BitVec.ofInt 32 n
def O8 (n : Int) : BitVec 8 := BitVec.ofInt 8 n
theorem wrapu64_raw (n : Int) : IntKind.u64.wrap n = n % 18446744073709551616 := by simp [IntKind.wrap, IntKind.bits, IntKind.signed]
theorem wrapu32_raw (n : Int) : IntKind.u32.wrap n = n % 4294967296 := by simp [IntKind.wrap, IntKind.bits, IntKind.signed]
theorem wrapu8_raw (n : Int) : IntKind.u8.wrap n = n % 256 := by simp [IntKind.wrap, IntKind.bits, IntKind.signed]
@[go_sem] theorem wrapu64 (n : Int) : IntKind.u64.wrap n = W64 (O64 n) := by
 rw [wrapu64_raw, W64, O64, BitVec.toNat_ofInt]; omega
@[go_sem] theorem wrapu32 (n : Int) : IntKind.u32.wrap n = W32 (O32 n) := by
 rw [wrapu32_raw, W32, O32, BitVec.toNat_ofInt]; omega
@[go_sem] theorem wrapu8 (n : Int) : IntKind.u8.wrap n = B8 (O8 n) := by
 rw [wrapu8_raw, B8, O8, BitVec.toNat_ofInt]; omega
theorem W64_lt (x : BitVec 64) : 0 ≤ W64 x ∧ W64 x < 18446744073709551616 := by unfold W64; have := x.isLt; omega
theorem W32_lt (x : BitVec 32) : 0 ≤ W32 x ∧ W32 x < 4294967296 := by unfold W32; have := x.isLt; omega
theorem B8_lt (x : BitVec 8) : 0 ≤ B8 x ∧ B8 x < 256 := by unfold B8; have := x.isLt; omega
@[go_sem] theorem W64_nn (x : BitVec 64) : 0 ≤ W64 x := (W64_lt x).1
@[go_sem] theorem W32_nn (x : BitVec 32) : 0 ≤ W32 x := (W32_lt x).1
@[go_sem] theorem B8_nn (x : BitVec 8) : 0 ≤ B8 x := (B8_lt x).1
theorem ofInt_sub' (w : Nat) (a b : Int) : BitVec.ofInt w (a - b) = BitVec.ofInt w a - BitVec.ofInt w b := by
 rw [Int.sub_eq_add_neg, BitVec.ofInt_add, BitVec.ofInt_neg, BitVec.sub_eq_add_neg]
@[go_sem] theorem O64_add (a b : Int) : O64 (a + b) = O64 a + O64 b := BitVec.ofInt_add a b
@[go_sem] theorem O64_mul (a b : Int) : O64 (a * b) = O64 a * O64 b := BitVec.ofInt_mul a b
@[go_sem] theorem O64_sub (a b : Int) : O64 (a - b) = O64 a - O64 b := ofInt_sub' _ _ _
@[go_sem] theorem O64_W64 (x : BitVec 64) : O64 (W64 x) = x := by simp [O64, W64]
@[go_sem] theorem O64_W32 (x : BitVec 32) : O64 (W32 x) = x.setWidth 64 := by
 simp only [O64, W32]; apply BitVec.eq_of_toNat_eq; simp
@[go_sem] theorem O64_B8 (x : BitVec 8) : O64 (B8 x) = x.setWidth 64 := by
 simp only [O64, B8]; apply BitVec.eq_of_toNat_eq; simp
@[go_sem] theorem O64_nat (n : Nat) : O64 (n : Int) = BitVec.ofNat 64 n := by simp [O64]
@[go_sem] theorem O64_lit (n : Nat) : O64 (no_index (OfNat.ofNat n)) = BitVec.ofNat 64 n := by
 show BitVec.ofInt 64 ((n : Nat) : Int) = _; rw [BitVec.ofInt_natCast]
@[go_sem] theorem O32_add (a b : Int) : O32 (a + b) = O32 a + O32 b := BitVec.ofInt_add a b
@[go_sem] theorem O32_mul (a b : Int) : O32 (a * b) = O32 a * O32 b := BitVec.ofInt_mul a b
@[go_sem] theorem O32_sub (a b : Int) : O32 (a - b) = O32 a - O32 b := ofInt_sub' _ _ _
@[go_sem] theorem O32_W32 (x : BitVec 32) : O32 (W32 x) = x := by simp [O32, W32]
@[go_sem] theorem O32_W64 (x : BitVec 64) : O32 (W64 x) = x.setWidth 32 := by
 simp only [O32, W64]; apply BitVec.eq_of_toNat_eq; simp
@[go_sem] theorem O32_B8 (x : BitVec 8) : O32 (B8 x) = x.setWidth 32 := by
 simp only [O32, B8]; apply BitVec.eq_of_toNat_eq; simp
@[go_sem] theorem O32_nat (n : Nat) : O32 (n : Int) = BitVec.ofNat 32 n := by simp [O32]
@[go_sem] theorem O32_lit (n : Nat) : O32 (no_index (OfNat.ofNat n)) = BitVec.ofNat 32 n := by
 show BitVec.ofInt 32 ((n : Nat) : Int) = _; rw [BitVec.ofInt_natCast]
@[go_sem] theorem O8_W64 (x : BitVec 64) : O8 (W64 x) = x.setWidth 8 := by
 simp only [O8, W64]; apply BitVec.eq_of_toNat_eq; simp
@[go_sem] theorem O8_W32 (x : BitVec 32) : O8 (W32 x) = x.setWidth 8 := by
 simp only [O8, W32]; apply BitVec.eq_of_toNat_eq; simp
@[go_sem] theorem O8_B8 (x : BitVec 8) : O8 (B8 x) = x := by simp [O8, B8]
@[go_sem] theorem O8_add (a b : Int) : O8 (a + b) = O8 a + O8 b := BitVec.ofInt_add a b
@[go_sem] theorem O8_sub (a b : Int) : O8 (a - b) = O8 a - O8 b := ofInt_sub' _ _ _
@[go_sem] theorem O8_lit (n : Nat) : O8 (no_index (OfNat.ofNat n)) = BitVec.ofNat 8 n := by
 show BitVec.ofInt 8 ((n : Nat) : Int) = _; rw [BitVec.ofInt_natCast]
@[go_sem] theorem O8_nat (n : Nat) : O8 (n : Int) = BitVec.ofNat 8 n := by simp [O8]
theorem W64_divn (x : BitVec 64) (n : Nat) (h : n < 18446744073709551616) : W64 x / (n : Int) = W64 (x / BitVec.ofNat 64 n) := by
 have e : (BitVec.ofNat 64 n).toNat = n := by rw [BitVec.toNat_ofNat]; exact Nat.mod_eq_of_lt h
 simp only [W64, BitVec.toNat_udiv, e]; rfl
theorem W64_modn (x : BitVec 64) (n : Nat) (h : n < 18446744073709551616) : W64 x % (n : Int) = W64 (x % BitVec.ofNat 64 n) := by
 have e : (BitVec.ofNat 64 n).toNat = n := by rw [BitVec.toNat_ofNat]; exact Nat.mod_eq_of_lt h
 simp only [W64, BitVec.toNat_umod, e]; rfl
theorem W32_divn (x : BitVec 32) (n : Nat) (h : n < 4294967296) : W32 x / (n : Int) = W32 (x / BitVec.ofNat 32 n) := by
 have e : (BitVec.ofNat 32 n).toNat = n := by rw [BitVec.toNat_ofNat]; exact Nat.mod_eq_of_lt h
 simp only [W32, BitVec.toNat_udiv, e]; rfl
theorem W32_modn (x : BitVec 32) (n : Nat) (h : n < 4294967296) : W32 x % (n : Int) = W32 (x % BitVec.ofNat 32 n) := by
 have e : (BitVec.ofNat 32 n).toNat = n := by rw [BitVec.toNat_ofNat]; exact Nat.mod_eq_of_lt h
 simp only [W32, BitVec.toNat_umod, e]; rfl
@[go_sem] theorem W64_div (x : BitVec 64) (n : Nat) (h : n < 18446744073709551616) : W64 x / no_index (OfNat.ofNat n : Int) = W64 (x / BitVec.ofNat 64 n) := W64_divn x n h
@[go_sem] theorem W32_div (x : BitVec 32) (n : Nat) (h : n < 4294967296) : W32 x / no_index (OfNat.ofNat n : Int) = W32 (x / BitVec.ofNat 32 n) := W32_divn x n h
@[go_sem] theorem W64_mod (x : BitVec 64) (n : Nat) (h : n < 18446744073709551616) : W64 x % no_index (OfNat.ofNat n : Int) = W64 (x % BitVec.ofNat 64 n) := W64_modn x n h
@[go_sem] theorem W32_mod (x : BitVec 32) (n : Nat) (h : n < 4294967296) : W32 x % no_index (OfNat.ofNat n : Int) = W32 (x % BitVec.ofNat 32 n) := W32_modn x n h
@[go_sem] theorem W64_tdiv (x : BitVec 64) (n : Nat) (h : n < 18446744073709551616) : (W64 x).tdiv (no_index (OfNat.ofNat n : Int)) = W64 (x / BitVec.ofNat 64 n) := by
 rw [Int.tdiv_eq_ediv_of_nonneg (W64_nn x)]; exact W64_divn x n h
@[go_sem] theorem W32_tdiv (x : BitVec 32) (n : Nat) (h : n < 4294967296) : (W32 x).tdiv (no_index (OfNat.ofNat n : Int)) = W32 (x / BitVec.ofNat 32 n) := by
 rw [Int.tdiv_eq_ediv_of_nonneg (W32_nn x)]; exact W32_divn x n h
@[go_sem] theorem W64_tmod (x : BitVec 64) (n : Nat) (h : n < 18446744073709551616) : (W64 x).tmod (no_index (OfNat.ofNat n : Int)) = W64 (x % BitVec.ofNat 64 n) := by
 rw [Int.tmod_eq_emod_of_nonneg (W64_nn x)]; exact W64_modn x n h
@[go_sem] theorem W32_tmod (x : BitVec 32) (n : Nat) (h : n < 4294967296) : (W32 x).tmod (no_index (OfNat.ofNat n : Int)) = W32 (x % BitVec.ofNat 32 n) := by
 rw [Int.tmod_eq_emod_of_nonneg (W32_nn x)]; exact W32_modn x n h
@[go_sem] theorem bits_xor64 (a b : Int) : bits .xor .u64 a b = W64 (O64 a ^^^ O64 b) := by
 show IntKind.u64.wrap ((BitVec.ofInt 64 a ^^^ BitVec.ofInt 64 b).toNat : Int) = _
 rw [wrapu64, O64_nat, BitVec.ofNat_toNat, BitVec.setWidth_eq]; rfl
@[go_sem] theorem bits_and64 (a b : Int) : bits .and .u64 a b = W64 (O64 a &&& O64 b) := by
 show IntKind.u64.wrap ((BitVec.ofInt 64 a &&& BitVec.ofInt 64 b).toNat : Int) = _
 rw [wrapu64, O64_nat, BitVec.ofNat_toNat, BitVec.setWidth_eq]; rfl
@[go_sem] theorem bits_or64 (a b : Int) : bits .or .u64 a b = W64 (O64 a ||| O64 b) := by
 show IntKind.u64.wrap ((BitVec.ofInt 64 a ||| BitVec.ofInt 64 b).toNat : Int) = _
 rw [wrapu64, O64_nat, BitVec.ofNat_toNat, BitVec.setWidth_eq]; rfl
@[go_sem] theorem bits_xor32 (a b : Int) : bits .xor .u32 a b = W32 (O32 a ^^^ O32 b) := by
 show IntKind.u32.wrap ((BitVec.ofInt 32 a ^^^ BitVec.ofInt 32 b).toNat : Int) = _
 rw [wrapu32, O32_nat, BitVec.ofNat_toNat, BitVec.setWidth_eq]; rfl
@[go_sem] theorem bits_and32 (a b : Int) : bits .and .u32 a b = W32 (O32 a &&& O32 b) := by
 show IntKind.u32.wrap ((BitVec.ofInt 32 a &&& BitVec.ofInt 32 b).toNat : Int) = _
 rw [wrapu32, O32_nat, BitVec.ofNat_toNat, BitVec.setWidth_eq]; rfl
@[go_sem] theorem bits_or32 (a b : Int) : bits .or .u32 a b = W32 (O32 a ||| O32 b) := by
 show IntKind.u32.wrap ((BitVec.ofInt 32 a ||| BitVec.ofInt 32 b).toNat : Int) = _
 rw [wrapu32, O32_nat, BitVec.ofNat_toNat, BitVec.setWidth_eq]; rfl
@[go_sem] theorem W64_inj (x y : BitVec 64) : (W64 x = W64 y) = (x = y) := by
 apply propext; constructor
 · intro h; apply BitVec.eq_of_toNat_eq; unfold W64 at h; omega
 · rintro rfl; rfl
@[go_sem] theorem W32_inj (x y : BitVec 32) : (W32 x = W32 y) = (x = y) := by
 apply propext; constructor
 · intro h; apply BitVec.eq_of_toNat_eq; unfold W32 at h; omega
 · rintro rfl; rfl
@[go_sem] theorem B8_inj (x y : BitVec 8) : (B8 x = B8 y) = (x = y) := by
 apply propext; constructor
 · intro h; apply BitVec.eq_of_toNat_eq; unfold B8 at h; omega
 · rintro rfl; rfl
@[go_sem] theorem W64_beq (x y : BitVec 64) : (W64 x == W64 y) = (x == y) := by
 rw [Bool.eq_iff_iff]; simp only [beq_iff_eq, W64_inj]
@[go_sem] theorem W32_beq (x y : BitVec 32) : (W32 x == W32 y) = (x == y) := by
 rw [Bool.eq_iff_iff]; simp only [beq_iff_eq, W32_inj]
theorem W64_of_nat (n : Nat) (h : n < 18446744073709551616) : W64 (BitVec.ofNat 64 n) = (n : Int) := by
 unfold W64; rw [BitVec.toNat_ofNat]; congr 1; exact Nat.mod_eq_of_lt h
theorem W32_of_nat (n : Nat) (h : n < 4294967296) : W32 (BitVec.ofNat 32 n) = (n : Int) := by
 unfold W32; rw [BitVec.toNat_ofNat]; congr 1; exact Nat.mod_eq_of_lt h
@[go_sem] theorem W64_beq_lit (x : BitVec 64) (n : Nat) (h : n < 18446744073709551616) : (W64 x == no_index (OfNat.ofNat n : Int)) = (x == BitVec.ofNat 64 n) := by
 have e : (OfNat.ofNat n : Int) = W64 (BitVec.ofNat 64 n) := (W64_of_nat _ h).symm
 rw [e, W64_beq]
@[go_sem] theorem W32_beq_lit (x : BitVec 32) (n : Nat) (h : n < 4294967296) : (W32 x == no_index (OfNat.ofNat n : Int)) = (x == BitVec.ofNat 32 n) := by
 have e : (OfNat.ofNat n : Int) = W32 (BitVec.ofNat 32 n) := (W32_of_nat _ h).symm
 rw [e, W32_beq]
@[go_sem] theorem W64_eq_lit (x : BitVec 64) (n : Nat) (h : n < 18446744073709551616) : (W64 x = no_index (OfNat.ofNat n : Int)) = (x = BitVec.ofNat 64 n) := by
 have e : (OfNat.ofNat n : Int) = W64 (BitVec.ofNat 64 n) := (W64_of_nat _ h).symm
 rw [e, W64_inj]
@[go_sem] theorem W32_eq_lit (x : BitVec 32) (n : Nat) (h : n < 4294967296) : (W32 x = no_index (OfNat.ofNat n : Int)) = (x = BitVec.ofNat 32 n) := by
 have e : (OfNat.ofNat n : Int) = W32 (BitVec.ofNat 32 n) := (W32_of_nat _ h).symm
 rw [e, W32_inj]
end Go.Proofs.YtidlpihoafnobaaGreatDoor
namespace Go.Proofs.YtidlpihoafnobaaGreatDoor
set_option maxRecDepth 100000
open Go.RowKit
structure Fr (F : Nat → Prop) (w w' : World) : Prop where
 os : w'.os = w.os
 tape : w'.tape = w.tape
 output : w'.output = w.output
 size : w.heap.size ≤ w'.heap.size
 block : ∀ k, k < w.heap.size → ¬ F k → w'.heap[k]? = w.heap[k]?
def No : Nat → Prop := fun _ => False
theorem Fr.refl (F : Nat → Prop) (w : World) : Fr F w w := ⟨rfl, rfl, rfl, Nat.le_refl _, fun _ _ _ => rfl⟩
theorem Fr.trans {F G : Nat → Prop} {a b c : World} (h : Fr F a b) (k : Fr G b c) (hG : ∀ x, G x → F x ∨ a.heap.size ≤ x) : Fr F a c :=
 ⟨k.os.trans h.os, k.tape.trans h.tape, k.output.trans h.output, Nat.le_trans h.size k.size, fun i hi hF =>
  (k.block i (Nat.lt_of_lt_of_le hi h.size) (fun g => (hG i g).elim hF (fun e => by omega))).trans (h.block i hi hF)⟩
theorem Fr.no {F : Nat → Prop} {a b c : World} (h : Fr F a b) (k : Fr No b c) : Fr F a c := h.trans k fun _ g => g.elim
theorem Fr.mono {F G : Nat → Prop} {a b : World} (h : Fr F a b) (hG : ∀ x, x < a.heap.size → F x → G x) : Fr G a b :=
 ⟨h.os, h.tape, h.output, h.size, fun i hi g => h.block i hi fun f => g (hG i hi f)⟩
theorem Fr.drew {F : Nat → Prop} {a w : World} (h : Fr F a w) : Fr F a w.drew := ⟨h.os, h.tape, h.output, h.size, h.block⟩
theorem Fr.alloc {F : Nat → Prop} {a w : World} (h : Fr F a w) (o : Obj) : Fr F a (w.alloc o) :=
 h.trans (G := No) ⟨rfl, rfl, rfl, by simp, fun k hk _ => Below.heap_alloc _ _ _ (by omega)⟩ fun _ g => g.elim
theorem Fr.setCell {F : Nat → Prop} {a w : World} (h : Fr F a w) {p : Addr} (hp : F p.block ∨ a.heap.size ≤ p.block) (u : Value) : Fr F a (w.setCell p u) :=
 h.trans (G := fun x => x = p.block) ⟨rfl, rfl, rfl, by simp, fun k _ hk => Below.heap_setCell _ _ _ _ hk⟩ fun x e => by subst e; exact hp
theorem Fr.below {F : Nat → Prop} {B : Nat} {w w' : World} (h : Fr F w w') (hB : B ≤ w.heap.size) (hF : ∀ x, F x → B ≤ x) : Below B w w' :=
 ⟨h.os, h.tape, h.output, h.size, fun k hk => h.block k (by omega) fun f => by have := hF k f; omega⟩
theorem Fr.cell {F : Nat → Prop} {w w' : World} (h : Fr F w w') {p : Addr} {v : Value} (hp : ¬ F p.block) (hc : w.cell? p = some v) : w'.cell? p = some v :=
 (World.cell?_of_block (w := w) (h.block p.block (World.block_lt_of_cell? w p hc) hp)).trans hc
theorem Fr.frozen {F : Nat → Prop} {w w' : World} (h : Fr F w w') {p : Addr} (hp : ¬ F p.block) (hl : p.block < w.heap.size) : w'.frozen? p = w.frozen? p :=
 World.frozen?_of_block (w := w) (h.block p.block hl hp)
theorem Fr.lt {F : Nat → Prop} {w w' : World} (h : Fr F w w') {k : Nat} (hk : k < w.heap.size) : k < w'.heap.size := Nat.lt_of_lt_of_le hk h.size
theorem Fr.heap {F : Nat → Prop} {w w' : World} (h : Fr F w w') {k : Nat} {o : Obj} (hk : ¬ F k) (ho : w.heap[k]? = some o) : w'.heap[k]? = some o := by
 have hl : k < w.heap.size := by
  rcases Nat.lt_or_ge k w.heap.size with h | h
  · exact h
  · rw [Array.getElem?_eq_none h] at ho; cases ho
 exact (h.block k hl hk).trans ho
abbrev Bytes := List (BitVec 8)
def IsBytes (w : World) (a : Option Addr) (n c : Nat) (l : Bytes) : Prop :=
 l.length = n ∧ n ≤ c ∧ c ≤ 9223372036854775807 ∧ (a = none → c = 0) ∧ ∀ i, i < n → ∃ b off, a = some ⟨b, off, none⟩ ∧ w.cell? ⟨b, off + i, none⟩ = some (.int .u8 (B8 (l.getD i 0)))
def Apart (F : Nat → Prop) (a : Option Addr) (n : Nat) : Prop := ∀ x, 0 < n → a = some x → ¬ F x.block
theorem Apart.no (a : Option Addr) (n : Nat) : Apart No a n := fun _ _ _ h => h
theorem IsBytes.nil (w : World) : IsBytes w none 0 0 [] := ⟨rfl, Nat.le_refl _, by omega, fun _ => rfl, fun i hi => absurd hi (Nat.not_lt_zero _)⟩
theorem IsBytes.fr {F : Nat → Prop} {w w' : World} {a : Option Addr} {n c : Nat} {l : Bytes} (h : IsBytes w a n c l) (k : Fr F w w') (ha : Apart F a n) : IsBytes w' a n c l :=
 ⟨h.1, h.2.1, h.2.2.1, h.2.2.2.1, fun i hi => by
  obtain ⟨b, off, e, hc⟩ := h.2.2.2.2 i hi
  exact ⟨b, off, e, k.cell (p := ⟨b, off + i, none⟩) (by have := ha _ (by omega) e; exact this) hc⟩⟩
theorem IsBytes.no {w w' : World} {a : Option Addr} {n c : Nat} {l : Bytes} (h : IsBytes w a n c l) (k : Fr No w w') : IsBytes w' a n c l := h.fr k (Apart.no a n)
theorem IsBytes.old {w : World} {a : Option Addr} {n c : Nat} {l : Bytes} (h : IsBytes w a n c l) {F : Nat → Prop} (hF : ∀ x, F x → w.heap.size ≤ x) : Apart F a n := fun x hn e f => by
 obtain ⟨b, off, e', hc⟩ := h.2.2.2.2 0 hn
 rw [e] at e'
 cases e'
 have := World.block_lt_of_cell? w _ hc
 have := hF _ f
 simp at *
 omega
theorem IsBytes.known {w : World} {a : Option Addr} {n c : Nat} {l : Bytes} (h : IsBytes w a n c l) (hn : 0 < n) :
 ∃ b off, a = some ⟨b, off, none⟩ ∧ ∀ i, i < n → w.cell? ⟨b, off + i, none⟩ = some (.int .u8 (B8 (l.getD i 0))) := by
 obtain ⟨b, off, e, _⟩ := h.2.2.2.2 0 hn
 refine ⟨b, off, e, fun i hi => ?_⟩
 obtain ⟨b', off', e', hc⟩ := h.2.2.2.2 i hi
 rw [e] at e'
 cases e'
 exact hc
def subAddr (a : Option Addr) (l m s : Nat) : Option Addr := if m = l then a else a.map (·.add (l * s))
@[go_sem ↓] theorem sliced_sub (a : Option Addr) (l h m s : Nat) : sliced a l h m s = .slice (subAddr a l m s) (h - l) (m - l) := rfl
theorem subAddr_block {a : Option Addr} {l m s : Nat} {x : Addr} (h : subAddr a l m s = some x) : ∃ y, a = some y ∧ y.block = x.block := by
 unfold subAddr at h
 split at h
 · exact ⟨x, h, rfl⟩
 · cases a with
   | none => cases h
   | some y =>
    simp at h
    subst h
    refine ⟨y, rfl, ?_⟩
    unfold Addr.add
    split <;> rfl
theorem Apart.sub {F : Nat → Prop} {a : Option Addr} {n n' : Nat} (h : Apart F a n) (hn : n' ≤ n) (l m s : Nat) : Apart F (subAddr a l m s) n' := fun x h0 hx => by
 obtain ⟨y, e, hb⟩ := subAddr_block hx
 rw [← hb]; exact h y (by omega) e
theorem subAddr_zero (a : Option Addr) (m s : Nat) : subAddr a 0 m s = a := by
 unfold subAddr
 split
 · rfl
 · cases a <;> simp [Addr.add]
theorem IsBytes.cut {w : World} {a : Option Addr} {n c : Nat} {l : Bytes} (h : IsBytes w a n c l) (lo hi m : Nat) {n' c' : Nat} (h1 : lo ≤ hi) (h2 : hi ≤ n) (h3 : hi ≤ m) (h4 : m ≤ c) (hn : n' = hi - lo) (hc : c' = m - lo) :
 IsBytes w (subAddr a lo m 1) n' c' ((l.drop lo).take (hi - lo)) := by
 subst hn; subst hc
 refine ⟨by rw [List.length_take, List.length_drop, h.1]; omega, by omega, by have := h.2.2.1; omega, fun e => ?_, fun i hi' => ?_⟩
 · unfold subAddr at e
   split at e
   · omega
   · cases a with
     | none => have := h.2.2.2.1 rfl; omega
     | some y => simp at e
 · obtain ⟨b, off, e, hcell⟩ := h.2.2.2.2 (lo + i) (by omega)
   subst e
   refine ⟨b, off + lo, ?_, ?_⟩
   · unfold subAddr
     rw [if_neg (by omega)]
     simp [Addr.add_lit]
   · rw [Nat.add_assoc, hcell]
     congr 3
     rw [List.getD_eq_getElem?_getD, List.getD_eq_getElem?_getD, List.getElem?_take, if_pos (by omega), List.getElem?_drop]
theorem IsBytes.cut_to_end {w : World} {a : Option Addr} {n c : Nat} {l : Bytes} (h : IsBytes w a n c l) (lo : Nat) {n' c' : Nat} (h1 : lo ≤ n) (hn : n' = n - lo) (hc : c' = c - lo) :
 IsBytes w (subAddr a lo c 1) n' c' (l.drop lo) := by
 have := h.cut lo n c (n' := n') (c' := c') h1 (Nat.le_refl _) h.2.1 (Nat.le_refl _) hn hc
 rwa [List.take_of_length_le (by rw [List.length_drop, h.1]; omega)] at this
theorem IsBytes.head {w : World} {a : Option Addr} {n c : Nat} {l : Bytes} (h : IsBytes w a n c l) (hi m : Nat) {n' c' : Nat} (h2 : hi ≤ n) (h3 : hi ≤ m) (h4 : m ≤ c) (hn : n' = hi) (hc : c' = m) :
 IsBytes w (subAddr a 0 m 1) n' c' (l.take hi) := by
 have := h.cut 0 hi m (n' := n') (c' := c') (Nat.zero_le _) h2 h3 h4 (by omega) (by omega)
 simpa using this
def le : Bytes → BitVec 64
 | [] => 0#64
 | b :: r => b.setWidth 64 + le r * 256#64
end Go.Proofs.YtidlpihoafnobaaGreatDoor
namespace Go.Proofs.YtidlpihoafnobaaGreatDoor
set_option maxRecDepth 100000
def rotl32 (x : BitVec 32) (n : Int) : BitVec 32 := x.rotateLeft (n % 32).toNat
def rotl64 (x : BitVec 64) (n : Int) : BitVec 64 := x.rotateLeft (n % 64).toNat
theorem and31 (n : Int) : (W64 (O64 (n.tmod 32) &&& 31#64)).toNat = (n % 32).toNat := by
 have h : (O64 (n.tmod 32) &&& 31#64).toNat = (BitVec.ofInt 64 (n.tmod 32)).toNat % 32 := by
  rw [BitVec.toNat_and]; exact Nat.and_two_pow_sub_one_eq_mod _ 5
 unfold W64; rw [h, BitVec.toNat_ofInt, Int.tmod_def]; omega
theorem and63 (n : Int) : (W64 (O64 (n.tmod 64) &&& 63#64)).toNat = (n % 64).toNat := by
 have h : (O64 (n.tmod 64) &&& 63#64).toNat = (BitVec.ofInt 64 (n.tmod 64)).toNat % 64 := by
  rw [BitVec.toNat_and]; exact Nat.and_two_pow_sub_one_eq_mod _ 6
 unfold W64; rw [h, BitVec.toNat_ofInt, Int.tmod_def]; omega
theorem pow32 (x : BitVec 32) (s : Nat) : x * O32 (2 ^ s) = x <<< s := by
 rw [BitVec.shiftLeft_eq_mul_twoPow]; congr 1
 apply BitVec.eq_of_toNat_eq
 have : ((2 : Int) ^ s) = ((2 ^ s : Nat) : Int) := by simp
 rw [O32, this, BitVec.ofInt_natCast, BitVec.toNat_ofNat, BitVec.toNat_twoPow]
theorem pow64 (x : BitVec 64) (s : Nat) : x * O64 (2 ^ s) = x <<< s := by
 rw [BitVec.shiftLeft_eq_mul_twoPow]; congr 1
 apply BitVec.eq_of_toNat_eq
 have : ((2 : Int) ^ s) = ((2 ^ s : Nat) : Int) := by simp
 rw [O64, this, BitVec.ofInt_natCast, BitVec.toNat_ofNat, BitVec.toNat_twoPow]
theorem shr32 (x : BitVec 32) (s : Nat) : O32 (W32 x / 2 ^ s) = x >>> s := by
 have : W32 x / 2 ^ s = ((x.toNat / 2 ^ s : Nat) : Int) := by unfold W32; simp
 rw [this, O32_nat]; apply BitVec.eq_of_toNat_eq
 rw [BitVec.toNat_ofNat, BitVec.toNat_ushiftRight, Nat.shiftRight_eq_div_pow]
 exact Nat.mod_eq_of_lt (Nat.lt_of_le_of_lt (Nat.div_le_self _ _) x.isLt)
theorem shr64 (x : BitVec 64) (s : Nat) : O64 (W64 x / 2 ^ s) = x >>> s := by
 have : W64 x / 2 ^ s = ((x.toNat / 2 ^ s : Nat) : Int) := by unfold W64; simp
 rw [this, O64_nat]; apply BitVec.eq_of_toNat_eq
 rw [BitVec.toNat_ofNat, BitVec.toNat_ushiftRight, Nat.shiftRight_eq_div_pow]
 exact Nat.mod_eq_of_lt (Nat.lt_of_le_of_lt (Nat.div_le_self _ _) x.isLt)
theorem rot32_prog (x : BitVec 32) (n : Int) :
 (x * O32 (2 ^ min (W64 (O64 (n.tmod 32) &&& 31#64)).toNat 32) ||| O32 (W32 x / 2 ^ min (W64 (32#64 - (O64 (n.tmod 32) &&& 31#64))).toNat 32)) = rotl32 x n := by
 have h1 := and31 n
 have h2 : (W64 (32#64 - (O64 (n.tmod 32) &&& 31#64))).toNat = 32 - (n % 32).toNat := by
  have h3 : (O64 (n.tmod 32) &&& 31#64).toNat = (n % 32).toNat := by rw [← h1]; rfl
  show ((32#64 - (O64 (n.tmod 32) &&& 31#64)).toNat : Int).toNat = _
  rw [BitVec.toNat_sub, h3]; simp; omega
 rw [h1, h2, Nat.min_eq_left (by omega), Nat.min_eq_left (by omega), pow32, shr32]
 unfold rotl32 BitVec.rotateLeft BitVec.rotateLeftAux
 rw [Nat.mod_eq_of_lt (by omega : (n % 32).toNat < 32)]
theorem rot64_prog (x : BitVec 64) (n : Int) :
 (x * O64 (2 ^ min (W64 (O64 (n.tmod 64) &&& 63#64)).toNat 64) ||| O64 (W64 x / 2 ^ min (W64 (64#64 - (O64 (n.tmod 64) &&& 63#64))).toNat 64)) = rotl64 x n := by
 have h1 := and63 n
 have h2 : (W64 (64#64 - (O64 (n.tmod 64) &&& 63#64))).toNat = 64 - (n % 64).toNat := by
  have h3 : (O64 (n.tmod 64) &&& 63#64).toNat = (n % 64).toNat := by rw [← h1]; rfl
  show ((64#64 - (O64 (n.tmod 64) &&& 63#64)).toNat : Int).toNat = _
  rw [BitVec.toNat_sub, h3]; simp; omega
 rw [h1, h2, Nat.min_eq_left (by omega), Nat.min_eq_left (by omega), pow64, shr64]
 unfold rotl64 BitVec.rotateLeft BitVec.rotateLeftAux
 rw [Nat.mod_eq_of_lt (by omega : (n % 64).toNat < 64)]
theorem double32 (x : BitVec 32) : x * 2#32 + x / 2147483648#32 = x <<< 1 ||| x >>> 31 := by
 have h1 : x * 2#32 = x <<< 1 := by rw [BitVec.shiftLeft_eq_mul_twoPow]; rfl
 have h2 : x / 2147483648#32 = x >>> 31 := by
  apply BitVec.eq_of_toNat_eq
  rw [BitVec.toNat_udiv, BitVec.toNat_ushiftRight, Nat.shiftRight_eq_div_pow]; rfl
 rw [h1, h2]
 apply BitVec.add_eq_or_of_and_eq_zero
 apply BitVec.eq_of_getLsbD_eq
 intro i hi
 rw [BitVec.getLsbD_and, BitVec.getLsbD_shiftLeft, BitVec.getLsbD_ushiftRight]
 by_cases h0 : i = 0
 · subst h0; simp
 · rw [BitVec.getLsbD_of_ge x (31 + i) (by omega)]; simp
theorem double64 (x : BitVec 64) : x * 2#64 + x / 9223372036854775808#64 = x <<< 1 ||| x >>> 63 := by
 have h1 : x * 2#64 = x <<< 1 := by rw [BitVec.shiftLeft_eq_mul_twoPow]; rfl
 have h2 : x / 9223372036854775808#64 = x >>> 63 := by
  apply BitVec.eq_of_toNat_eq
  rw [BitVec.toNat_udiv, BitVec.toNat_ushiftRight, Nat.shiftRight_eq_div_pow]; rfl
 rw [h1, h2]
 apply BitVec.add_eq_or_of_and_eq_zero
 apply BitVec.eq_of_getLsbD_eq
 intro i hi
 rw [BitVec.getLsbD_and, BitVec.getLsbD_shiftLeft, BitVec.getLsbD_ushiftRight]
 by_cases h0 : i = 0
 · subst h0; simp
 · rw [BitVec.getLsbD_of_ge x (63 + i) (by omega)]; simp
theorem step32 (x : BitVec 32) (k : Nat) (hk : k + 1 < 32) : x.rotateLeft k * 2#32 + x.rotateLeft k / 2147483648#32 = x.rotateLeft (k + 1) := by
 rw [double32]
 apply BitVec.eq_of_getLsbD_eq
 intro i hi
 simp only [BitVec.getLsbD_or, BitVec.getLsbD_shiftLeft, BitVec.getLsbD_ushiftRight, BitVec.getLsbD_rotateLeft]
 rw [Nat.mod_eq_of_lt (by omega : k < 32), Nat.mod_eq_of_lt (by omega : k + 1 < 32)]
 by_cases h0 : i = 0
 · subst h0
   have e : 32 - (k + 1) + 0 = 31 + 0 - k := by omega
   rw [e, show decide (31 + 0 < k) = false from decide_eq_false (by omega), show decide (0 < k + 1) = true from decide_eq_true (by omega)]; rfl
 · by_cases h1 : i < k + 1
   · simp [h0, h1, hi, show i - 1 < k by omega, show ¬ 31 + i < 32 by omega, show 32 - k + (i - 1) = 32 - (k + 1) + i by omega, show ¬ 31 + i < k by omega]
   · simp [h0, h1, hi, show ¬ i - 1 < k by omega, show ¬ 31 + i < 32 by omega, show i - 1 - k = i - (k + 1) by omega, show ¬ 31 + i < k by omega, show i - 1 < 32 by omega]
theorem step64 (x : BitVec 64) (k : Nat) (hk : k + 1 < 64) : x.rotateLeft k * 2#64 + x.rotateLeft k / 9223372036854775808#64 = x.rotateLeft (k + 1) := by
 rw [double64]
 apply BitVec.eq_of_getLsbD_eq
 intro i hi
 simp only [BitVec.getLsbD_or, BitVec.getLsbD_shiftLeft, BitVec.getLsbD_ushiftRight, BitVec.getLsbD_rotateLeft]
 rw [Nat.mod_eq_of_lt (by omega : k < 64), Nat.mod_eq_of_lt (by omega : k + 1 < 64)]
 by_cases h0 : i = 0
 · subst h0
   have e : 64 - (k + 1) + 0 = 63 + 0 - k := by omega
   rw [e, show decide (63 + 0 < k) = false from decide_eq_false (by omega), show decide (0 < k + 1) = true from decide_eq_true (by omega)]; rfl
 · by_cases h1 : i < k + 1
   · simp [h0, h1, hi, show i - 1 < k by omega, show ¬ 63 + i < 64 by omega, show 64 - k + (i - 1) = 64 - (k + 1) + i by omega, show ¬ 63 + i < k by omega]
   · simp [h0, h1, hi, show ¬ i - 1 < k by omega, show ¬ 63 + i < 64 by omega, show i - 1 - k = i - (k + 1) by omega, show ¬ 63 + i < k by omega, show i - 1 < 64 by omega]
theorem rotl32_zero (x : BitVec 32) : x.rotateLeft 0 = x := by
 apply BitVec.eq_of_getLsbD_eq
 intro i hi
 rw [BitVec.getLsbD_rotateLeft]; simp [hi]
theorem rotl64_zero (x : BitVec 64) : x.rotateLeft 0 = x := by
 apply BitVec.eq_of_getLsbD_eq
 intro i hi
 rw [BitVec.getLsbD_rotateLeft]; simp [hi]
end Go.Proofs.YtidlpihoafnobaaGreatDoor
namespace Go.Proofs.YtidlpihoafnobaaGreatDoor
set_option maxRecDepth 100000
open Go.RowKit
def cellB (b : BitVec 8) : Value := .int .u8 (B8 b)
def Owns (w : World) (base : Nat) (v : Value) (l : Bytes) : Prop := w.ownsRow base 5 1 v l.length (l.map cellB)
theorem Owns.nil (w : World) (base : Nat) : Owns w base (.slice none 0 0) [] := World.ownsRow_nil w base _ 1
theorem info_u8 : (Tryz.prog.info? 5).map (fun i => (i.zero, i.size, i.bytes)) = some (some (.int .u8 0), 1, 1) := by kernel_rfl
theorem getD_cell {l : Bytes} {j : Nat} {u : Value} (h : (l.map cellB)[j]? = some u) : j < l.length ∧ u = .int .u8 (B8 (l.getD j 0)) := by
 rw [List.getElem?_map] at h
 cases hl : l[j]? with
 | none => rw [hl] at h; cases h
 | some x =>
  rw [hl] at h
  simp only [Option.map_some, Option.some.injEq] at h
  refine ⟨(List.getElem?_eq_some_iff.1 hl).1, ?_⟩
  rw [← h, List.getD_eq_getElem?_getD, hl]; rfl
theorem Owns.bytes {w : World} {base : Nat} {v : Value} {l : Bytes} (h : Owns w base v l) :
 ∃ a c, v = .slice a l.length c ∧ IsBytes w a l.length c l ∧ (∀ x, a = some x → base ≤ x.block ∧ x.block < w.heap.size) := by
 rcases h.2 with ⟨rfl, hn⟩ | ⟨g, cap, cur, rfl, hb, hg, hnc, hcm, hcs, ht⟩
 · obtain rfl : l = [] := List.eq_nil_of_length_eq_zero hn
   exact ⟨none, 0, rfl, IsBytes.nil w, fun x hx => by cases hx⟩
 · have hlt : g < w.heap.size := (Array.getElem?_eq_some_iff.1 hg).1
   refine ⟨_, _, rfl, ⟨rfl, hnc, by unfold maxLen at hcm; omega, (fun e => by cases e), fun i hi => ⟨g, 0, rfl, ?_⟩⟩, (fun x hx => by cases hx; exact ⟨hb, hlt⟩)⟩
   rw [cell_of_row w g (0 + i) cur _ _ hg, Nat.zero_add]
   have h1 : cur.toList[i]? = (l.map cellB)[i]? := by
    rw [← ht, Nat.mul_one, List.getElem?_take, if_pos hi]
   rw [← Array.getElem?_toList, h1, List.getElem?_map, List.getD_eq_getElem?_getD, List.getElem?_eq_getElem hi]; rfl
theorem Owns.clear {w : World} {base : Nat} {a : Option Addr} {n c : Nat} {l : Bytes} (h : Owns w base (.slice a n c) l) : Owns w base (.slice (subAddr a 0 c 1) 0 c) [] := by
 rw [subAddr_zero]
 rcases h.2 with ⟨e, hn⟩ | ⟨g, cap, cur, e, hb, hg, hnc, hcm, hcs, ht⟩
 · cases e; exact Owns.nil w base
 · cases e
   exact ⟨rfl, .inr ⟨g, c, cur, rfl, hb, hg, Nat.zero_le _, hcm, hcs, by simp⟩⟩
theorem Owns.alloc {w : World} {base : Nat} {v : Value} {l : Bytes} (h : Owns w base v l) (o : Obj) : Owns (w.alloc o) base v l := World.ownsRow.alloc h o
theorem Owns.mono {w : World} {base base' : Nat} {v : Value} {l : Bytes} (h : Owns w base v l) (hb : base' ≤ base) : Owns w base' v l := by
 refine ⟨h.1, ?_⟩
 rcases h.2 with hn | ⟨g, cap, cur, e, hg, r⟩
 · exact .inl hn
 · exact .inr ⟨g, cap, cur, e, Nat.le_trans hb hg, r⟩
theorem Owns.lt {w : World} {base : Nat} {v : Value} {l : Bytes} (h : Owns w base v l) : ∀ k, v.ownBlock = some k → base ≤ k ∧ k < w.heap.size := World.ownsRow.lt h
theorem Owns.fr {F : Nat → Prop} {w w' : World} {base : Nat} {v : Value} {l : Bytes} (h : Owns w base v l) (k : Fr F w w') (hF : ∀ x, v.ownBlock = some x → ¬ F x) : Owns w' base v l := by
 refine ⟨h.1, ?_⟩
 rcases h.2 with hn | ⟨g, cap, cur, rfl, hb, hg, r⟩
 · exact .inl hn
 · exact .inr ⟨g, cap, cur, rfl, hb, k.heap (hF g rfl) hg, r⟩
theorem Owns.no {w w' : World} {base : Nat} {v : Value} {l : Bytes} (h : Owns w base v l) (k : Fr No w w') : Owns w' base v l := h.fr k fun _ _ f => f
theorem Fr.append {F : Nat → Prop} {w0 w w' : World} {base : Nat} {v : Value} {l : Bytes} (h : Fr F w0 w) (k : Fr (fun x => v.ownBlock = some x) w w') (ho : Owns w base v l) (hb : w0.heap.size ≤ base) : Fr F w0 w' :=
 h.trans k fun x e => .inr (Nat.le_trans hb (ho.lt x e).1)
theorem IsBytes.one (w : World) (x : BitVec 8) (fr : Nat × Nat) : IsBytes (w.alloc (.cells #[.int .u8 (B8 x)] 5 fr)) (some ⟨w.heap.size, 0, none⟩) 1 1 [x] :=
 ⟨rfl, Nat.le_refl _, by omega, (fun e => by cases e), fun i hi => ⟨w.heap.size, 0, rfl, by
  obtain rfl : i = 0 := by omega
  rw [cell_of_row _ w.heap.size (0 + 0) _ _ _ (heap_alloc_new w _)]; rfl⟩⟩
def NewOr (w : World) (v v' : Value) : Prop := v'.ownBlock = v.ownBlock ∨ v'.ownBlock = some w.heap.size
theorem run_append_bytes {w : World} (ty : TypeId) {base : Nat} {v : Value} {l : Bytes} (hown : Owns w base v l) {ad : Option Addr} {m c : Nat} {l2 : Bytes} (hb : IsBytes w ad m c l2)
 (hsum : l.length + m ≤ 140737488355328) (hbase : base ≤ w.heap.size) :
 ∃ v' w', (Builtin.append_ #[22, 22] ty #[v, .slice ad m c]).run Tryz.prog w = .ok v' w' ∧ Owns w' base v' (l ++ l2) ∧ Fr (fun k => v.ownBlock = some k) w w' ∧ NewOr w v v' := by
 obtain ⟨i, hi, hz0, hz1, hz2⟩ := info_parts info_u8
 cases ad with
 | none =>
  have hc : c = 0 := hb.2.2.2.1 rfl
  have hm : m = 0 := by have := hb.2.1; omega
  subst hc; subst hm
  obtain rfl : l2 = [] := List.eq_nil_of_length_eq_zero hb.1
  have hrun := run_append_owned_none (P := Tryz.prog) (w := w) base 22 ty 5 i 1 Tryz.underlying22 hi v l.length (l.map cellB) hown
  exact ⟨v, w, hrun, by rw [List.append_nil]; exact hown, Fr.refl _ _, .inl rfl⟩
 | some ad =>
  obtain ⟨v', w', hrun, hown', hg, _, hat⟩ := run_append_own_at (P := Tryz.prog) w base 22 ty 5 i (.int .u8 0) 1 1 Tryz.underlying22 hi hz0 hz1 hz2 (by rfl) (by decide) v l.length (l.map cellB) hown ad m c (l2.map cellB)
   (by rw [List.length_map, hb.1, Nat.mul_one]) (fun j u hj => by
    obtain ⟨hl, rfl⟩ := getD_cell hj
    obtain ⟨b, off, e, hc⟩ := hb.2.2.2.2 j (by rw [← hb.1]; exact hl)
    cases e
    rw [Addr.add_lit]; exact hc) (fun u hu => by
    obtain ⟨y, _, rfl⟩ := List.mem_map.1 hu
    rfl) (by unfold maxLen; omega) (by omega) hbase
  refine ⟨v', w', hrun, ?_, ⟨hg.os, hg.tape, hg.output, hg.size, fun k hk hne => hg.block k hk fun e => hne e.symm⟩, hat⟩
  unfold Owns
  rw [List.length_append, List.map_append, hb.1]
  exact hown'
section
variable {w : World} {ops : Array Oper} {rest : List Oper} {a : Act} {Q : Exit → Act → World → Prop}
theorem wp_append_bytes {K : Act → World → Prop} (dst : Option Tmp) (ty : TypeId) (pos : String) (aft : Array Edge) (s x : Operand)
 (base : Nat) (v : Value) (l : Bytes) (hs : a.eval s = v) (hown : Owns w base v l) (ad : Option Addr) (m c : Nat) (l2 : Bytes) (hx : a.eval x = .slice ad m c) (hb : IsBytes w ad m c l2)
 (hsum : l.length + m ≤ 140737488355328) (hbase : base ≤ w.heap.size)
 (h : ∀ v' w', Owns w' base v' (l ++ l2) → Fr (fun k => v.ownBlock = some k) w w' → NewOr w v v' → K (a.put dst v') w') :
 Oper.wp Tryz.prog ⟨dst, .call ⟨.builtin .append, #[s, x], #[22, 22]⟩, ty, pos, aft, none⟩ a w K Q := by
 obtain ⟨v', w', hr, h2, h3, h4⟩ := run_append_bytes ty hown hb hsum hbase
 unfold Oper.wp execOp
 simp only [resolve, invoke, builtin, Sem.run_bind, Sem.run_pure, Result.andThen_ok, List.map_toArray, List.map_cons, List.map_nil, hs, hx, hr]
 exact h v' w' h2 h3 h4
theorem wpList_append_bytes (dst : Option Tmp) (ty : TypeId) (pos : String) (aft : Array Edge) (s x : Operand)
 (base : Nat) (v : Value) (l : Bytes) (hs : a.eval s = v) (hown : Owns w base v l) (ad : Option Addr) (m c : Nat) (l2 : Bytes) (hx : a.eval x = .slice ad m c) (hb : IsBytes w ad m c l2)
 (hsum : l.length + m ≤ 140737488355328) (hbase : base ≤ w.heap.size)
 (h : ∀ v' w', Owns w' base v' (l ++ l2) → Fr (fun k => v.ownBlock = some k) w w' → NewOr w v v' → wpList Tryz.prog ops Q rest (a.put dst v') w') :
 wpList Tryz.prog ops Q (⟨dst, .call ⟨.builtin .append, #[s, x], #[22, 22]⟩, ty, pos, aft, none⟩ :: rest) a w :=
 wpList_plain rfl fun K hK => wp_append_bytes dst ty pos aft s x base v l hs hown ad m c l2 hx hb hsum hbase fun v' w' h1 h2 h3 => hK _ _ (h v' w' h1 h2 h3)
theorem wpList_append_full (dst : Option Tmp) (ty : TypeId) (pos : String) (aft : Array Edge) (s x : Operand)
 (ao : Option Addr) (n : Nat) (l : Bytes) (hs : a.eval s = .slice ao n n) (hl : IsBytes w ao n n l) (ad : Option Addr) (m c : Nat) (l2 : Bytes) (hx : a.eval x = .slice ad m c) (hb : IsBytes w ad m c l2)
 (hm : 0 < m) (hsum : n + m ≤ 140737488355328)
 (h : ∀ v' w', Owns w' w.heap.size v' (l ++ l2) → Fr No w w' → wpList Tryz.prog ops Q rest (a.put dst v') w') :
 wpList Tryz.prog ops Q (⟨dst, .call ⟨.builtin .append, #[s, x], #[22, 22]⟩, ty, pos, aft, none⟩ :: rest) a w := by
 obtain ⟨i, hi, hz0, hz1, hz2⟩ := info_parts info_u8
 obtain ⟨b, off, rfl, hc⟩ := hb.known hm
 refine wpList_append_grows w (by rfl) s x 22 (by rfl) 5 i (.int .u8 0) 1 1 Tryz.underlying22 hi hz0 hz1 hz2 (by rfl) (by decide) ao n n (l.map cellB) hs (fun e => ⟨hl.2.2.2.1 e, hl.2.2.2.1 e⟩)
  (by rw [List.length_map, hl.1, Nat.mul_one]) ?_ ⟨b, off, none⟩ m c (l2.map cellB) hx (by rw [List.length_map, hb.1, Nat.mul_one]) ?_ ?_ (by omega) (by unfold maxLen; omega) (by omega) ?_
 · rintro ad rfl j u hj
   obtain ⟨hjl, rfl⟩ := getD_cell hj
   obtain ⟨b', off', e, hc'⟩ := hl.2.2.2.2 j (by rw [← hl.1]; exact hjl)
   cases e
   rw [Addr.add_lit]; exact hc'
 · intro j u hj
   obtain ⟨hjl, rfl⟩ := getD_cell hj
   rw [Addr.add_lit]; exact hc j (by rw [← hb.1]; exact hjl)
 · intro u hu
   obtain ⟨y, _, rfl⟩ := List.mem_map.1 hu
   rfl
 · intro v' w' hown' hg
   refine h v' w' ?_ ⟨hg.os, hg.tape, hg.output, hg.size, fun k hk hne => hg.block k hk (by simp)⟩
   unfold Owns
   rw [List.length_append, List.map_append, hl.1, hb.1]
   exact hown'
end
def str (l : Bytes) : ByteArray := ⟨(l.map UInt8.ofBitVec).toArray⟩
theorem str_toList (l : Bytes) : (str l).toList = l.map UInt8.ofBitVec := by
 rw [ByteArray.toList_eq]; simp [str]
@[go_sem ↓] theorem str_beq (l l' : Bytes) : ((str l).toList == (str l').toList) = (l == l') := by
 rw [Bool.eq_iff_iff]
 simp only [beq_iff_eq, str_toList]
 exact List.map_inj_right (fun x y e => by simpa using congrArg UInt8.toBitVec e)
@[go_sem ↓] theorem str_size (l : Bytes) : (str l).size = l.length := by simp [str, ByteArray.size]
@[go_sem] theorem str_append (l l' : Bytes) : str l ++ str l' = str (l ++ l') := by
 apply ByteArray.ext; simp [str, ByteArray.data_append]
theorem run_string_of {w : World} {a : Option Addr} {n c : Nat} {l : Bytes} (h : IsBytes w a n c l) :
 (convert 22 9 (.slice a n c)).run Tryz.prog w = .ok (.string (str l)) w := by
 cases a with
 | none =>
  have hc : c = 0 := h.2.2.2.1 rfl
  have hm : n = 0 := by have := h.2.1; omega
  subst hm
  obtain rfl : l = [] := List.eq_nil_of_length_eq_zero h.1
  exact run_convert_bytes_nil w _ _ Tryz.underlying22 Tryz.underlying5 _ _ _ Tryz.underlying9
 | some ad =>
  have hl := run_loadCells_list (P := Tryz.prog) w ad ((l.map B8).map (Value.int .u8)) (fun j v hj => by
   have hj' : (l.map cellB)[j]? = some v := by rw [← hj, List.map_map]; rfl
   obtain ⟨hjl, rfl⟩ := getD_cell hj'
   obtain ⟨b, off, e, hc⟩ := h.2.2.2.2 j (by rw [← h.1]; exact hjl)
   cases e
   rw [Addr.add_lit]; exact hc)
  rw [List.length_map, List.length_map, h.1] at hl
  rw [run_convert_bytes_string w _ _ _ (some ad) n c Tryz.underlying22 Tryz.underlying5 Tryz.underlying9, run_bytesToString w ad n c _ hl, foldl_push_bytes]
  congr 2
  apply ByteArray.ext
  simp only [str, List.map_map, ByteArray.data_empty, Array.empty_append]
  congr 1
  apply List.map_congr_left
  intro b _
  simp only [Function.comp_def, B8, Int.toNat_natCast]
  apply UInt8.toNat_inj.1
  simp
section
variable {w : World} {ops : Array Oper} {rest : List Oper} {a : Act} {Q : Exit → Act → World → Prop}
theorem wpList_string (dst : Option Tmp) (ty : TypeId) (pos : String) (aft : Array Edge) (x : Operand)
 (ad : Option Addr) (n c : Nat) (l : Bytes) (hx : a.eval x = .slice ad n c) (hb : IsBytes w ad n c l)
 (h : wpList Tryz.prog ops Q rest (a.put dst (.string (str l))) w) :
 wpList Tryz.prog ops Q (⟨dst, .convert 22 9 x, ty, pos, aft, none⟩ :: rest) a w := by
 refine wpList_plain rfl fun K hK => ?_
 unfold Oper.wp
 simp [execOp, hx, run_string_of hb, Result.andThen]
 exact hK _ _ h
end
end Go.Proofs.YtidlpihoafnobaaGreatDoor
namespace Go.Proofs.YtidlpihoafnobaaGreatDoor
set_option maxRecDepth 100000
open Go.RowKit
theorem own_knob : ownKnob Tryz.prog.godebug = none := by kernel_rfl
theorem laid_out : laidOutB Tryz.prog = true := by kernel_rfl
theorem cells_u8 : Tryz.prog.cellsOf 5 = 1 := by kernel_rfl
theorem isBytes_of_ints {w : World} {x : Addr} {n c : Nat} {zs : List Int} (hl : n ≤ c) (hm : c ≤ maxLen) (hz : zs.length = c)
 (hcell : ∀ i, i < zs.length → w.cell? (x.add i) = some (.int .u8 (zs.getD i 0))) (hwz : ∀ n ∈ zs, (Lit.int .u8 n).wf = true) :
 IsBytes w (some x) n c ((zs.take n).map O8) := by
 refine ⟨by rw [List.length_map, List.length_take]; omega, hl, by unfold maxLen at hm; omega, (fun e => by cases e), fun i hi => ?_⟩
 obtain ⟨b, off, spot⟩ := x
 have hc := hcell i (by omega)
 have h0 := hcell 0 (by omega)
 have hspot : spot = none := by simpa [Addr.add] using World.cell?_spot h0
 subst hspot
 refine ⟨b, off, rfl, ?_⟩
 rw [Addr.add_lit] at hc
 rw [hc]
 have hi' : i < zs.length := by omega
 have e1 : zs.getD i 0 = zs[i] := by rw [List.getD_eq_getElem?_getD, List.getElem?_eq_getElem hi']; rfl
 have e2 : ((zs.take n).map O8).getD i 0 = O8 zs[i] := by
  rw [List.getD_eq_getElem?_getD, List.getElem?_map, List.getElem?_take, if_pos hi, List.getElem?_eq_getElem hi']; rfl
 have hw := hwz zs[i] (List.getElem_mem hi')
 have hb : 0 ≤ zs[i] ∧ zs[i] ≤ 255 := by
  have hmin : IntKind.u8.min = 0 := rfl
  have hmax : IntKind.u8.max = 255 := rfl
  simp only [Lit.wf, Bool.and_eq_true, decide_eq_true_eq] at hw
  omega
 rw [e1, e2, ← wrapu8, wrapu8_raw]
 congr 2
 omega
end Go.Proofs.YtidlpihoafnobaaGreatDoor
