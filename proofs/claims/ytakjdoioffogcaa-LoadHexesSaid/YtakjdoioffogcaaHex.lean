/- load.Hex and the reference's: the 16 digits. -/
import Derived.Test.YtakjdoioffogcaaHexPlain
import Derived.Test.YtakjdoioffogcaaMem
import Derived.Test.YtakjdoioffogcaaRot
namespace Go.Proofs.Ytakjdoioffogcaa
set_option linter.unusedVariables false
set_option linter.unusedSimpArgs false
open Go.RowKit

theorem digit_at (w : World) (k : Nat) (hk : k < 16) : (Instr.index 9 (.string { data := #[48, 49, 50, 51, 52, 53, 54, 55, 56, 57, 97, 98, 99, 100, 101, 102] }) (.int .u64 (W64 (BitVec.ofNat 64 k)))).run Try.prog w = .ok (.int .u8 (B8 (hexd (BitVec.ofNat 64 k)))) w :=
  match k, hk with
  | 0, _ => by kernel_rfl | 1, _ => by kernel_rfl | 2, _ => by kernel_rfl | 3, _ => by kernel_rfl | 4, _ => by kernel_rfl | 5, _ => by kernel_rfl | 6, _ => by kernel_rfl | 7, _ => by kernel_rfl
  | 8, _ => by kernel_rfl | 9, _ => by kernel_rfl | 10, _ => by kernel_rfl | 11, _ => by kernel_rfl | 12, _ => by kernel_rfl | 13, _ => by kernel_rfl | 14, _ => by kernel_rfl | 15, _ => by kernel_rfl
  | k + 16, h => absurd h (by omega)
@[go_sem ↓] theorem run_digit (w : World) (y : BitVec 64) : (Instr.index 9 (.string { data := #[48, 49, 50, 51, 52, 53, 54, 55, 56, 57, 97, 98, 99, 100, 101, 102] }) (.int .u64 (W64 (y &&& 15#64)))).run Try.prog w = .ok (.int .u8 (B8 (hexd (y &&& 15#64)))) w := by
  have e : y &&& 15#64 = BitVec.ofNat 64 (y.toNat % 16) := by
    apply BitVec.eq_of_toNat_eq
    rw [BitVec.toNat_and]
    have : y.toNat &&& (15#64).toNat = y.toNat % 16 := Nat.and_two_pow_sub_one_eq_mod _ 4
    rw [this, BitVec.toNat_ofNat]; omega
  rw [e]; exact digit_at w _ (Nat.mod_lt _ (by omega))
attribute [local go_sem] shr64
set_option maxHeartbeats 1000000 in
theorem Hex_any (x : BitVec 64) (w : World) :
    Calls Try.prog 21 #[.int .u64 (W64 x)] w (fun e w' => e = .returned (.string (str (hexl x))) ∧ Fr No w w') := by
  have hmk : ∀ w : World, (Instr.makeSlice 22 (.int .i64 0) (.int .i64 16)).run Try.prog w = .ok (.slice (some ⟨w.heap.size, 0, none⟩) 0 16) (w.alloc (.cells #[.int .u8 0, .int .u8 0, .int .u8 0, .int .u8 0, .int .u8 0, .int .u8 0, .int .u8 0, .int .u8 0, .int .u8 0, .int .u8 0, .int .u8 0, .int .u8 0, .int .u8 0, .int .u8 0, .int .u8 0, .int .u8 0] 5)) := fun _ => by kernel_rfl
  have own0 : Owns (w.alloc (.cells #[.int .u8 0, .int .u8 0, .int .u8 0, .int .u8 0, .int .u8 0, .int .u8 0, .int .u8 0, .int .u8 0, .int .u8 0, .int .u8 0, .int .u8 0, .int .u8 0, .int .u8 0, .int .u8 0, .int .u8 0, .int .u8 0] 5)) w.heap.size (.slice (some ⟨w.heap.size, 0, none⟩) 0 16) [] :=
    World.ownsRow_made w _ 16 (Nat.le_refl _) (by unfold maxLen; omega) rfl
  go_enter Try.func21, Try.ntmps21
  go_wp2
  go_loopw [3, 6] (fun v i wr => ∃ k : Nat, k ≤ 16 ∧ i = .int .i64 k ∧ Owns wr w.heap.size v (hexTo x k) ∧ Fr No w wr) (fun _ i _ => 16 - (intOf i).toNat)
  case atStart => exact ⟨0, by omega, rfl, own0, (Fr.refl _ _).alloc _⟩
  case round =>
    obtain ⟨k, hk, rfl, hown, hfr⟩ := hrel
    clear hmk own0
    by_cases hlt : k < 16
    · go_wp2_with (refine wpList_append_bytes _ _ _ _ _ _ w.heap.size _ (hexTo x k) rfl (hown.alloc _) _ _ _ [hexd (x >>> (60 - 4 * k) &&& 15#64)] rfl (IsBytes.one _ _ _) (by rw [hexTo_length]; omega) (by have := hfr.size; simp; omega) ?_; intro v' w1 hown' hfr')
      have hf := (hfr.alloc (.cells #[.int .u8 (B8 (hexd (x >>> (60 - 4 * k) &&& 15#64)))] 5)).append hfr' (hown.alloc _) (Nat.le_refl _)
      go_roundw
      case rel => exact ⟨k + 1, by omega, by go_num, by rw [hexTo_succ]; exact hown', hf⟩
      case measure => simp [intOf]; omega
    · obtain rfl : k = 16 := by omega
      obtain ⟨a, c, rfl, hb, _⟩ := hown.bytes
      go_wp2_with (refine wpList_string _ _ _ _ _ _ _ _ (hexTo x 16) rfl hb ?_)
      go_ret
      exact ⟨rfl, hfr⟩
set_option maxHeartbeats 1000000 in
theorem refHex_any (x : BitVec 64) (w : World) :
    Calls Try.prog 23 #[.int .u64 (W64 x)] w (fun e w' => e = .returned (.string (str (hexl x))) ∧ Fr No w w') := by
  go_enter Try.func23, Try.ntmps23
  go_wp2
  go_loopw [0, 3, 4] (fun y s i wr => ∃ k : Nat, k ≤ 16 ∧ i = .int .i64 k ∧ y = .int .u64 (W64 (x >>> (4 * k))) ∧ s = .string (str (hexAt x (16 - k))) ∧ Fr No w wr) (fun _ _ i _ => 16 - (intOf i).toNat)
  case atStart => exact ⟨0, by omega, rfl, by simp, by rw [hexAt, List.drop_of_length_le (by rw [hexl, hexTo_length]; omega)]; rfl, Fr.refl _ _⟩
  case round =>
    obtain ⟨k, hk, rfl, rfl, rfl, hfr⟩ := hrel
    by_cases hlt : k < 16
    · have hst := Lib.hid (hexAt_step x k hlt)
      have hlen : (hexAt x (16 - k)).length ≤ 16 := by rw [hexAt, List.length_drop, hexl, hexTo_length]; omega
      generalize hexAt x (16 - k) = t at hst hlen ⊢
      go_wp2_with (refine wpList_string _ _ _ _ _ _ _ _ [_] rfl (IsBytes.one _ _ _) ?_)
      · have h1 : B8 (BitVec.setWidth 8 (x >>> (4 * k) % 16#64)) < 10 := by assumption
        go_roundw
        case rel => exact ⟨k + 1, by omega, by go_num, by rw [shr_div16]; rfl, by rw [← hst.out, hexd, if_pos ((low_lt _).1 h1)]; rfl, hfr.alloc _⟩
        case measure => simp [intOf]; omega
      · have h1 : 10 ≤ B8 (BitVec.setWidth 8 (x >>> (4 * k) % 16#64)) := by assumption
        go_roundw
        case rel => exact ⟨k + 1, by omega, by go_num, by rw [shr_div16]; rfl, by rw [← hst.out, hexd, if_neg (fun h => absurd ((low_lt _).2 h) (by omega))]; rfl, hfr.alloc _⟩
        case measure => simp [intOf]; omega
    · obtain rfl : k = 16 := by omega
      go_wp2
      go_ret
      exact ⟨rfl, hfr⟩
end Go.Proofs.Ytakjdoioffogcaa
