/- load.Put32, load.Put64; the reference's Bytes, Both, Same. -/
import Derived.Test.YteicdilbmaboiaaDoorGives
import Derived.Test.YteicdilbmaboiaaDoorMem
import Derived.Test.YteicdilbmaboiaaDoorRot
import Derived.Test.YteicdilbmaboiaaDoorLePlain
namespace Go.Proofs.YteicdilbmaboiaaDoor
set_option maxRecDepth 100000
set_option linter.unusedVariables false
set_option linter.unusedSimpArgs false
open Go.RowKit

/-- so many of a word's bytes, the lowest first -/
def leb (x : BitVec 64) (k : Nat) : Bytes := (List.range k).map fun i => (x >>> (8 * i)).setWidth 8
theorem leb_succ (x : BitVec 64) (k : Nat) : leb x (k + 1) = leb x k ++ [(x >>> (8 * k)).setWidth 8] := by simp [leb, List.range_succ]
theorem leb_one (x : BitVec 64) : leb x 1 = [BitVec.setWidth 8 x] := by simp [leb]
theorem leb_length (x : BitVec 64) (k : Nat) : (leb x k).length = k := by simp [leb]
theorem shr8 (x : BitVec 64) (k : Nat) : (x >>> (8 * k)) / 256#64 = x >>> (8 * (k + 1)) := by
  apply BitVec.eq_of_toNat_eq
  rw [BitVec.toNat_udiv, BitVec.toNat_ushiftRight, BitVec.toNat_ushiftRight, Nat.shiftRight_eq_div_pow, Nat.shiftRight_eq_div_pow, Nat.mul_add, Nat.pow_add, Nat.div_div_eq_div_mul]; rfl
theorem mod8 (x : BitVec 64) : BitVec.setWidth 8 (x % 256#64) = BitVec.setWidth 8 x := by
  apply BitVec.eq_of_toNat_eq
  rw [BitVec.toNat_setWidth, BitVec.toNat_setWidth, BitVec.toNat_umod]
  exact Nat.mod_mod _ _

def PutAt (a : Option Addr) (n : Nat) (l : Bytes) (x : BitVec 64) (w : World) (k : Nat) (v : Value) (wr : World) : Prop :=
  (k = 0 ∧ v = .slice (subAddr a 0 n 1) n n ∧ wr = w) ∨ (0 < k ∧ Owns wr w.heap.size v (l ++ leb x k) ∧ Fr No w wr)
set_option maxHeartbeats 1000000 in
theorem put_any (a : Option Addr) (n c : Nat) (l : Bytes) (x : BitVec 64) (m : Nat) (w : World) (h : IsBytes w a n c l) (hm0 : 0 < m) (hm : m ≤ 8) (hr : n + 8 ≤ 140737488355328) :
    Calls Tryd.prog 33 #[.slice a n c, .int .u64 (W64 x), .int .i64 m] w (GivesBytes (l ++ leb x m) w) := by
  have hn : n ≤ c := h.2.1
  have hc : c ≤ 9223372036854775807 := h.2.2.1
  have hcut := Lib.hid (h.head n n (n' := n) (c' := n) (Nat.le_refl _) (Nat.le_refl _) hn rfl rfl)
  have hlen := Lib.hid h.1
  clear h
  go_enter Tryd.func33, Tryd.ntmps33
  go_wp2
  go_loopw [0, 1, 14] (fun v y i wr => ∃ k : Nat, k ≤ m ∧ i = .int .i64 k ∧ y = .int .u64 (W64 (x >>> (8 * k))) ∧ PutAt a n l x w k v wr) (fun _ _ i _ => m - (intOf i).toNat)
  case atStart => exact ⟨0, by omega, rfl, by simp, .inl ⟨rfl, by first | rfl | simp, rfl⟩⟩
  case round =>
    obtain ⟨k, hk, rfl, rfl, hput⟩ := hrel
    by_cases hlt : k < m
    · rcases hput with ⟨rfl, rfl, rfl⟩ | ⟨hk0, hown, hfr⟩
      · have hb0 := hcut.out
        rw [List.take_of_length_le (by rw [hlen.out]; omega)] at hb0
        have hb1 := hb0.no ((Fr.refl No wr).alloc (.cells #[.int .u8 (B8 (BitVec.setWidth 8 x))] 5))
        clear hcut
        go_wp2_with (refine wpList_append_full _ _ _ _ _ _ _ n l rfl hb1 _ 1 1 [BitVec.setWidth 8 x] rfl (by first | exact IsBytes.one _ _ _ | (simp; exact IsBytes.one _ _ _)) (by omega) (by omega) ?_; intro v' w1 hown' hfr')
        go_roundw
        case rel => exact ⟨1, by omega, by go_num, by rw [← shr8]; rfl, .inr ⟨by omega, by rw [leb_one]; exact hown'.mono (by simp), ((Fr.refl No wr).alloc _).no hfr'⟩⟩
        case measure => simp [intOf]; omega
      · have hfl : l.length = n := hlen.out
        go_wp2_with (refine wpList_append_bytes _ _ _ _ _ _ w.heap.size _ (l ++ leb x k) rfl (hown.alloc _) _ _ _ [BitVec.setWidth 8 (x >>> (8 * k))] rfl (IsBytes.one _ _ _) (by rw [List.length_append, leb_length]; omega) (by have := hfr.size; simp; omega) ?_; intro v' w1 hown' hfr' _)
        go_roundw
        case rel => exact ⟨k + 1, by omega, by go_num, by rw [← shr8], .inr ⟨by omega, by rw [leb_succ, ← List.append_assoc]; exact hown', (hfr.alloc _).append hfr' (hown.alloc _) (Nat.le_refl _)⟩⟩
        case measure => simp [intOf]; omega
    · obtain rfl : k = m := by omega
      rcases hput with ⟨rfl, _⟩ | ⟨hk0, hown, hfr⟩
      · omega
      · go_wp2
        go_ret
        exact ⟨_, rfl, hown, hfr⟩
theorem Put32_any (a : Option Addr) (n c : Nat) (l : Bytes) (x : BitVec 32) (w : World) (h : IsBytes w a n c l) (hr : n + 8 ≤ 140737488355328) :
    Calls Tryd.prog 23 #[.slice a n c, .int .u32 (W32 x)] w (GivesBytes (l ++ leb (x.setWidth 64) 4) w) := by
  go_enter Tryd.func23, Tryd.ntmps23
  go_wp2_with (go_at_call 33; refine (put_any a n c l (x.setWidth 64) 4 w h (by omega) (by omega) hr).mono ?_; rintro e w' ⟨v, rfl, hown, hfr⟩)
  go_ret
  exact ⟨v, rfl, hown, hfr⟩
set_option maxHeartbeats 400000 in
theorem refBytes_any (x : BitVec 64) (m : Nat) (w : World) (hm : m ≤ 8) :
    Calls Tryd.prog 25 #[.int .u64 (W64 x), .int .i64 m] w (GivesBytes (leb x m) w) := by
  go_enter Tryd.func25, Tryd.ntmps25
  go_wp2
  go_loopw [0, 5, 6] (fun y v i wr => ∃ k : Nat, k ≤ m ∧ i = .int .i64 k ∧ y = .int .u64 (W64 (x >>> (8 * k))) ∧ Owns wr w.heap.size v (leb x k) ∧ Fr No w wr) (fun _ _ i _ => m - (intOf i).toNat)
  case atStart => exact ⟨0, by omega, rfl, by simp, Owns.nil _ _, Fr.refl _ _⟩
  case round =>
    obtain ⟨k, hk, rfl, rfl, hown, hfr⟩ := hrel
    by_cases hlt : k < m
    · go_wp2_with (refine wpList_append_bytes _ _ _ _ _ _ w.heap.size _ (leb x k) rfl (hown.alloc _) _ _ _ [BitVec.setWidth 8 (x >>> (8 * k) % 256#64)] rfl (IsBytes.one _ _ _) (by rw [leb_length]; omega) (by have := hfr.size; simp; omega) ?_; intro v' w1 hown' hfr' _)
      go_roundw
      case rel => exact ⟨k + 1, by omega, by go_num, by rw [← shr8], by rw [leb_succ, ← mod8]; exact hown', (hfr.alloc _).append hfr' (hown.alloc _) (Nat.le_refl _)⟩
      case measure => simp [intOf]; omega
    · obtain rfl : k = m := by omega
      go_wp2
      go_ret
      exact ⟨_, rfl, hown, hfr⟩
set_option maxHeartbeats 400000 in
theorem refBoth_any (a : Option Addr) (n c : Nat) (l : Bytes) (a2 : Option Addr) (n2 c2 : Nat) (l2 : Bytes) (w : World) (h : IsBytes w a n c l) (h2 : IsBytes w a2 n2 c2 l2) (hr : n + n2 ≤ 140737488355328) :
    Calls Tryd.prog 24 #[.slice a n c, .slice a2 n2 c2] w (GivesBytes (l ++ l2) w) := by
  have hl := Lib.hid h.1
  go_enter Tryd.func24, Tryd.ntmps24
  go_wp2_with (first | (refine wpList_append_bytes _ _ _ _ (.tmp 6) (.tmp 7) w.heap.size _ [] rfl (Owns.nil _ _) _ _ _ l rfl h (by simp; omega) (Nat.le_refl _) ?_; intro v1 w1 hown1 hfr1 _; have hf1 : Fr No w w1 := (Fr.refl No w).append hfr1 (Owns.nil w w.heap.size) (Nat.le_refl _)) | (refine wpList_append_bytes _ _ _ _ (.tmp 9) (.tmp 10) w.heap.size _ ([] ++ l) rfl hown1 _ _ _ l2 rfl (h2.no hf1) (by rw [List.nil_append, hl.out]; omega) hf1.size ?_; intro v2 w2 hown2 hfr2 _))
  go_ret
  exact ⟨_, rfl, hown2, hf1.append hfr2 hown1 (Nat.le_refl _)⟩
theorem refSame_any (a : Option Addr) (n c : Nat) (l : Bytes) (a2 : Option Addr) (n2 c2 : Nat) (l2 : Bytes) (w : World) (h : IsBytes w a n c l) (h2 : IsBytes w a2 n2 c2 l2) :
    Calls Tryd.prog 11 #[.slice a n c, .slice a2 n2 c2] w (Gives (.bool (l == l2)) w) := by
  go_enter Tryd.func11, Tryd.ntmps11
  go_wp2_with (first | refine wpList_string _ _ _ _ (.tmp 5) _ _ _ l rfl h ?_ | refine wpList_string _ _ _ _ (.tmp 7) _ _ _ l2 rfl h2 ?_)
  go_ret
  exact ⟨rfl, rfl⟩
end Go.Proofs.YteicdilbmaboiaaDoor
