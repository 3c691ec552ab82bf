/- load.Put32, load.Put64; the reference's Bytes, Both, Same. -/
import Derived.Test.YtcbbllfgelnpjaaGives
import Derived.Test.YtcbbllfgelnpjaaMem
import Derived.Test.YtcbbllfgelnpjaaRot
import Derived.Test.YtcbbllfgelnpjaaLePlain
namespace Go.Proofs.Ytcbbllfgelnpjaa
set_option linter.unusedVariables false
set_option linter.unusedSimpArgs false
open Go.RowKit

/-- so many of a word's bytes, the lowest first -/
def leb (x : BitVec 64) (k : Nat) : Bytes := (List.range k).map fun i => (x >>> (8 * i)).setWidth 8
theorem leb_succ (x : BitVec 64) (k : Nat) : leb x (k + 1) = leb x k ++ [(x >>> (8 * k)).setWidth 8] := by simp [leb, List.range_succ]
theorem leb_one (x : BitVec 64) : leb x 1 = [BitVec.setWidth 8 x] := by simp [leb]
theorem leb_length (x : BitVec 64) (k : Nat) : (leb x k).length = k := by simp [leb]
theorem shr8 (x : BitVec 64) (k : Nat) : (x >>> (8 * k)) / 256#64 = x >>> (8 * (k + 1)) := by
  apply BitVec.eq_of_toNat_eq
  rw [BitVec.toNat_udiv, BitVec.toNat_ushiftRight, BitVec.toNat_ushiftRight, Nat.shiftRight_eq_div_pow, Nat.shiftRight_eq_div_pow, Nat.mul_add, Nat.pow_add, Nat.div_div_eq_div_mul]; rfl
theorem mod8 (x : BitVec 64) : BitVec.setWidth 8 (x % 256#64) = BitVec.setWidth 8 x := by
  apply BitVec.eq_of_toNat_eq
  rw [BitVec.toNat_setWidth, BitVec.toNat_setWidth, BitVec.toNat_umod]
  exact Nat.mod_mod _ _

set_option maxHeartbeats 400000 in
theorem refBoth_any (a : Option Addr) (n c : Nat) (l : Bytes) (a2 : Option Addr) (n2 c2 : Nat) (l2 : Bytes) (w : World) (h : IsBytes w a n c l) (h2 : IsBytes w a2 n2 c2 l2) (hr : n + n2 ≤ 140737488355328) :
    Calls Try.prog 21 #[.slice a n c, .slice a2 n2 c2] w (GivesBytes (l ++ l2) w) := by
  have hl := Lib.hid h.1
  go_enter Try.func21, Try.ntmps21
  go_wp2_with (first | (refine wpList_append_bytes _ _ _ _ (.tmp 6) (.tmp 7) w.heap.size _ [] rfl (Owns.nil _ _) _ _ _ l rfl h (by simp; omega) (Nat.le_refl _) ?_; intro v1 w1 hown1 hfr1 _; have hf1 : Fr No w w1 := (Fr.refl No w).append hfr1 (Owns.nil w w.heap.size) (Nat.le_refl _)) | (refine wpList_append_bytes _ _ _ _ (.tmp 9) (.tmp 10) w.heap.size _ ([] ++ l) rfl hown1 _ _ _ l2 rfl (h2.no hf1) (by rw [List.nil_append, hl.out]; omega) hf1.size ?_; intro v2 w2 hown2 hfr2 _))
  go_ret
  exact ⟨_, rfl, hown2, hf1.append hfr2 hown1 (Nat.le_refl _)⟩
theorem refSame_any (a : Option Addr) (n c : Nat) (l : Bytes) (a2 : Option Addr) (n2 c2 : Nat) (l2 : Bytes) (w : World) (h : IsBytes w a n c l) (h2 : IsBytes w a2 n2 c2 l2) :
    Calls Try.prog 18 #[.slice a n c, .slice a2 n2 c2] w (Gives (.bool (l == l2)) w) := by
  go_enter Try.func18, Try.ntmps18
  go_wp2_with (first | refine wpList_string _ _ _ _ (.tmp 5) _ _ _ l rfl h ?_ | refine wpList_string _ _ _ _ (.tmp 7) _ _ _ l2 rfl h2 ?_)
  go_ret
  exact ⟨rfl, rfl⟩
end Go.Proofs.Ytcbbllfgelnpjaa
