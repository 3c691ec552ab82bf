/- load.Unhex and the reference's: the word of 16 digits. -/
import Derived.Test.YtakjdoioffogcaaHex
import Derived.Test.YtakjdoioffogcaaLoad
namespace Go.Proofs.Ytakjdoioffogcaa
set_option linter.unusedVariables false
set_option linter.unusedSimpArgs false
open Go.RowKit

def unhexRes (l : Bytes) : Value := match unhexl l with
  | some n => .tuple #[.int .u64 (W64 n), .bool true]
  | none => .tuple #[.int .u64 0, .bool false]
/-- a byte of a string -/
theorem run_index_str {l : Bytes} (k : Nat) (hk : k < l.length) (w : World) : (Instr.index 9 (.string (str l)) (.int .i64 k)).run Try.prog w = .ok (cellB (l.getD k 0)) w := by
  have hs : k < (str l).size := by rw [str_size]; exact hk
  have hb : (str l)[k]'hs = UInt8.ofBitVec l[k] := by simp [str, ByteArray.getElem_eq_getElem_data]
  rw [run_index_string (P := Try.prog) w 9 (str l) .i64 k Try.underlying9]
  simp [hs, hb, hk, cellB, B8]
set_option maxHeartbeats 2000000 in
theorem Unhex_any (l : Bytes) (w : World) (hl : l.length ≤ 9223372036854775807) :
    Calls Try.prog 20 #[.string (str l)] w (Gives (unhexRes l) w) := by
  by_cases h16 : l.length = 16
  · have hun0 : Hid (unhexFrom (l.drop 0) 0#64 = unhexl l) := by rw [unhexl, if_pos h16]; rfl
    have hres : ∀ o, unhexl l = o → Hid (unhexRes l = match o with
      | some n => .tuple #[.int .u64 (W64 n), .bool true]
      | none => .tuple #[.int .u64 0, .bool false]) := fun o ho => by rw [unhexRes, ho]; rfl
    have HL := Lib.hid h16
    generalize unhexRes l = res at hres ⊢
    have hres2 := Lib.hid hres
    clear hres
    go_enter Try.func20, Try.ntmps20
    go_wp2
    go_loop [4, 12] (fun n i => ∃ (k : Nat) (x : BitVec 64), k ≤ 16 ∧ i = .int .i64 k ∧ n = .int .u64 (W64 x) ∧ Hid (unhexFrom (l.drop k) x = unhexl l)) (fun _ i => 16 - (intOf i).toNat)
    case atStart => exact ⟨0, 0#64, by omega, rfl, rfl, hun0⟩
    case round =>
      obtain ⟨k, x, hk, rfl, rfl, hun⟩ := hrel
      clear hun0
      by_cases hlt : k < 16
      · have hidx : ∀ w, (Instr.index 9 (.string (str l)) (.int .i64 k)).run Try.prog w = .ok (.int .u8 (B8 (l.getD k 0))) w := run_index_str k (by omega)
        have hkl : k < l.length := by omega
        have hstep := Lib.hid (fun d => unhex_step l k x d hkl)
        have hstop := Lib.hid (unhex_stop l k x hkl)
        clear hkl
        generalize l.getD k 0 = c at hidx hstep hstop
        by_cases h09 : 48 ≤ B8 c ∧ B8 c ≤ 57
        · obtain ⟨ha, hb⟩ := h09
          have hd := Lib.hid (hstep.out _ (dig_09 c ha hb))
          clear hstep hstop
          go_wp2
          go_round
          case rel => exact ⟨k + 1, _, by omega, by go_num, rfl, by show unhexFrom _ _ = unhexl l; rw [← hun.out, hd.out]⟩
          case measure => simp [intOf]; omega
        · by_cases haf : 97 ≤ B8 c ∧ B8 c ≤ 102
          · obtain ⟨ha, hb⟩ := haf
            have hd := Lib.hid (hstep.out _ (dig_af c ha hb))
            clear hstep hstop h09
            go_wp2
            go_round
            case rel => exact ⟨k + 1, _, by omega, by go_num, rfl, by show unhexFrom _ _ = unhexl l; rw [← hun.out, hd.out, ← sub_add8]⟩
            case measure => simp [intOf]; omega
          · have hd := Lib.hid (hstop.out (dig_no c h09 haf))
            clear hstep hstop
            rcases (show B8 c < 48 ∨ (57 < B8 c ∧ B8 c < 97) ∨ 102 < B8 c by omega) with h1 | ⟨h1, h2⟩ | h1
            all_goals
              clear h09 haf
              go_wp2
              go_ret2
              exact ⟨by rw [(hres2.out none (by rw [← hun.out, hd.out])).out]; rfl, rfl⟩
      · obtain rfl : k = 16 := by omega
        have hd := Lib.hid (unhex_end l 16 x (by omega))
        go_wp2
        go_ret2
        exact ⟨by rw [(hres2.out (some x) (by rw [← hun.out, hd.out])).out]; rfl, rfl⟩
  · have hlen : ((l.length : Int) != 16) = true := by simp; omega
    have hres : Hid (unhexRes l = .tuple #[.int .u64 0, .bool false]) := by rw [unhexRes, unhexl, if_neg h16]; rfl
    rw [hres.out]
    clear hres
    go_enter Try.func20, Try.ntmps20
    go_wp2
    go_ret2
    exact ⟨rfl, rfl⟩
set_option maxHeartbeats 2000000 in
theorem refUnhex_any (l : Bytes) (w : World) (hl : l.length ≤ 9223372036854775807) :
    Calls Try.prog 22 #[.string (str l)] w (Gives (unhexRes l) w) := by
  by_cases h16 : l.length = 16
  · have hun0 : Hid (unhexFrom (l.drop 0) 0#64 = unhexl l) := by rw [unhexl, if_pos h16]; rfl
    have hres : ∀ o, unhexl l = o → Hid (unhexRes l = match o with
      | some n => .tuple #[.int .u64 (W64 n), .bool true]
      | none => .tuple #[.int .u64 0, .bool false]) := fun o ho => by rw [unhexRes, ho]; rfl
    have HL := Lib.hid h16
    generalize unhexRes l = res at hres ⊢
    have hres2 := Lib.hid hres
    clear hres
    go_enter Try.func22, Try.ntmps22
    go_wp2
    go_loop [4, 5] (fun n i => ∃ (k : Nat) (x : BitVec 64), k ≤ 16 ∧ i = .int .i64 k ∧ n = .int .u64 (W64 x) ∧ Hid (unhexFrom (l.drop k) x = unhexl l)) (fun _ i => 16 - (intOf i).toNat)
    case atStart => exact ⟨0, 0#64, by omega, rfl, rfl, hun0⟩
    case round =>
      obtain ⟨k, x, hk, rfl, rfl, hun⟩ := hrel
      clear hun0
      by_cases hlt : k < 16
      · have hidx : ∀ w, (Instr.index 9 (.string (str l)) (.int .i64 k)).run Try.prog w = .ok (.int .u8 (B8 (l.getD k 0))) w := run_index_str k (by omega)
        have hkl : k < l.length := by omega
        have hstep := Lib.hid (fun d => unhex_step l k x d hkl)
        have hstop := Lib.hid (unhex_stop l k x hkl)
        clear hkl
        generalize l.getD k 0 = c at hidx hstep hstop
        by_cases h09 : 48 ≤ B8 c ∧ B8 c ≤ 57
        · obtain ⟨ha, hb⟩ := h09
          have hd := Lib.hid (hstep.out _ (dig_09 c ha hb))
          clear hstep hstop
          have e1 := Lib.hid (wide_sub c 48 (by omega) ha)
          have e2 := Lib.hid (sub_small c 48 57 (by omega) ha hb (by omega))
          have e3 : (BitVec.setWidth 64 c - 48#64 == 99#64) = false := by rw [e1.out]; exact not99 _ e2.out
          go_wp2
          go_round
          case rel => exact ⟨k + 1, _, by omega, by go_num, rfl, by show unhexFrom _ _ = unhexl l; rw [← hun.out, hd.out, ← add_small _ _ e2.out, ← e1.out]⟩
          case measure => simp [intOf]; omega
        · by_cases haf : 97 ≤ B8 c ∧ B8 c ≤ 102
          · obtain ⟨ha, hb⟩ := haf
            have hd := Lib.hid (hstep.out _ (dig_af c ha hb))
            clear hstep hstop h09
            have e1 := Lib.hid (wide_sub c 87 (by omega) (by omega))
            have e2 := Lib.hid (sub_small c 87 102 (by omega) (by omega) hb (by omega))
            have e3 : (BitVec.setWidth 64 c - 87#64 == 99#64) = false := by rw [e1.out]; exact not99 _ e2.out
            go_wp2
            go_round
            case rel => exact ⟨k + 1, _, by omega, by go_num, rfl, by show unhexFrom _ _ = unhexl l; rw [← hun.out, hd.out, ← add_small _ _ e2.out, ← e1.out]⟩
            case measure => simp [intOf]; omega
          · have hd := Lib.hid (hstop.out (dig_no c h09 haf))
            clear hstep hstop
            rcases (show B8 c < 48 ∨ (57 < B8 c ∧ B8 c < 97) ∨ 102 < B8 c by omega) with h1 | ⟨h1, h2⟩ | h1
            all_goals
              clear h09 haf
              go_wp2
              go_ret2
              exact ⟨by rw [(hres2.out none (by rw [← hun.out, hd.out])).out]; rfl, rfl⟩
      · obtain rfl : k = 16 := by omega
        have hd := Lib.hid (unhex_end l 16 x (by omega))
        go_wp2
        go_ret2
        exact ⟨by rw [(hres2.out (some x) (by rw [← hun.out, hd.out])).out]; rfl, rfl⟩
  · have hlen : ((l.length : Int) != 16) = true := by simp; omega
    have hres : Hid (unhexRes l = .tuple #[.int .u64 0, .bool false]) := by rw [unhexRes, unhexl, if_neg h16]; rfl
    rw [hres.out]
    clear hres
    go_enter Try.func22, Try.ntmps22
    go_wp2
    go_ret2
    exact ⟨rfl, rfl⟩
end Go.Proofs.Ytakjdoioffogcaa
