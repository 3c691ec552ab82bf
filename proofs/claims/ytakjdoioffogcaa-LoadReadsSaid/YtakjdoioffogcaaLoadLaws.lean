/- The laws of layer 2: each returns true, and nothing that was there has turned. -/
import Derived.Test.YtakjdoioffogcaaLoad
import Derived.Test.YtakjdoioffogcaaUnhex
import Derived.Test.YtakjdoioffogcaaLoadLawPlain
namespace Go.Proofs.Ytakjdoioffogcaa
set_option linter.unusedVariables false
set_option linter.unusedSimpArgs false
open Go.RowKit

/-- It returns true; what was there is as it was. -/
def Yes (w : World) (e : Ending) (w' : World) : Prop := e = .returned (.bool true) ∧ Fr No w w'
theorem hex10 : hexl 10#64 = [48#8, 48#8, 48#8, 48#8, 48#8, 48#8, 48#8, 48#8, 48#8, 48#8, 48#8, 48#8, 48#8, 48#8, 48#8, 97#8] := by decide

set_option maxHeartbeats 400000 in
theorem awake_yes (w : World) : Calls Try.prog 7 #[] w (Yes w) := by
  have hb : ∀ w : World, IsBytes (w.alloc (.cells #[.int .u8 1, .int .u8 2] 5)) (some ⟨w.heap.size, 0, none⟩) 2 2 [1#8, 2#8] := by
    intro w
    refine ⟨rfl, Nat.le_refl _, by omega, (fun e => by cases e), fun i hi => ⟨w.heap.size, 0, rfl, ?_⟩⟩
    rw [cell_of_row _ w.heap.size (0 + i) _ _ _ (heap_alloc_new w _)]
    match i, hi with
    | 0, _ => rfl
    | 1, _ => rfl
  go_enter Try.func7, Try.ntmps7
  go_wp2_with (first | (go_at_call 11; refine (Tail_any _ _ _ [1#8, 2#8] _ (hb w)).mono ?_; rintro e w' ⟨rfl, rfl⟩) | (go_at_call 15; refine (Rot32_any 1#32 (-1) _).mono ?_; rintro e w' ⟨rfl, rfl⟩) | (go_at_call 21; refine (Hex_any 10#64 _).mono ?_; rintro e w2 ⟨rfl, hfr2⟩))
  go_ret
  exact ⟨ret_bool (by rw [hex10, str_toList]; decide), ((Fr.refl _ _).alloc _).no hfr2⟩

set_option maxHeartbeats 1000000 in
theorem LoadReads_yes (a : Option Addr) (n c : Nat) (l : Bytes) (at_ : Int) (w : World) (h : IsBytes w a n c l) (hr : c ≤ 140737488351232) (h1 : -9223372036854775808 ≤ at_) (h2 : at_ ≤ 9223372036854775807) :
    Calls Try.prog 3 #[.slice a n c, .int .i64 at_] w (Yes w) := by
  have hn : n ≤ 9223372036854775807 := by have := h.2.1; have := h.2.2.1; omega
  by_cases h8 : 0 ≤ at_ ∧ at_ + 8 ≤ n
  · have t4 : thereB n at_ 4 = true := decide_eq_true ⟨h8.1, by omega⟩
    have t8 : thereB n at_ 8 = true := decide_eq_true h8
    obtain ⟨ha, hb⟩ := h8
    have HW := Lib.hid (setW_le4 l at_.toNat)
    go_enter Try.func3, Try.ntmps3
    go_wp2_with (first | (go_at_call 7; refine (awake_yes _).mono ?_; rintro e w1 ⟨rfl, hfr⟩; have hb1 := h.no hfr) | (go_at_call 8; refine (Le32_yes _ _ _ l _ _ hb1 ha (by omega)).mono ?_; rintro e w' ⟨rfl, rfl⟩) | (go_at_call 9; refine (Le64_yes _ _ _ l _ _ hb1 ha (by omega)).mono ?_; rintro e w' ⟨rfl, rfl⟩) | (go_at_call 10; refine (refThere_any _ _ _ _ _ _ hn h2 (by omega)).mono ?_; rintro e w' ⟨rfl, rfl⟩) | (go_at_call 11; refine (Tail_any _ _ _ l _ hb1).mono ?_; rintro e w' ⟨rfl, rfl⟩) | (go_at_call 12; refine (refNum_any _ _ _ l _ _ _ hb1 (by omega) (by omega) (by omega) (by omega)).mono ?_; rintro e w' ⟨rfl, rfl⟩; simp only [Int.toNat_zero, List.drop_zero, show (8 : Int).toNat = 8 from rfl, show (4 : Int).toNat = 4 from rfl]))
    go_ret
    exact ⟨ret_bool (by simp [HW.out]), hfr⟩
  · have t8 : thereB n at_ 8 = false := decide_eq_false h8
    by_cases h4 : 0 ≤ at_ ∧ at_ + 4 ≤ n
    · have t4 : thereB n at_ 4 = true := decide_eq_true h4
      obtain ⟨ha, hb⟩ := h4
      have h9 : (n : Int) < at_ + 8 := by omega
      clear h8
      have HW := Lib.hid (setW_le4 l at_.toNat)
      go_enter Try.func3, Try.ntmps3
      go_wp2_with (first | (go_at_call 7; refine (awake_yes _).mono ?_; rintro e w1 ⟨rfl, hfr⟩; have hb1 := h.no hfr) | (go_at_call 8; refine (Le32_yes _ _ _ l _ _ hb1 ha (by omega)).mono ?_; rintro e w' ⟨rfl, rfl⟩) | (go_at_call 9; refine (Le64_no _ _ _ _ _ hn h2 (by omega)).mono ?_; rintro e w' ⟨rfl, rfl⟩) | (go_at_call 10; refine (refThere_any _ _ _ _ _ _ hn h2 (by omega)).mono ?_; rintro e w' ⟨rfl, rfl⟩) | (go_at_call 11; refine (Tail_any _ _ _ l _ hb1).mono ?_; rintro e w' ⟨rfl, rfl⟩) | (go_at_call 12; refine (refNum_any _ _ _ l _ _ _ hb1 (by omega) (by omega) (by omega) (by omega)).mono ?_; rintro e w' ⟨rfl, rfl⟩; simp only [Int.toNat_zero, List.drop_zero, show (8 : Int).toNat = 8 from rfl, show (4 : Int).toNat = 4 from rfl]))
      go_ret
      exact ⟨ret_bool (by simp [HW.out]), hfr⟩
    · have t4 : thereB n at_ 4 = false := decide_eq_false h4
      have h5 : at_ < 0 ∨ (n : Int) < at_ + 4 := by omega
      clear h4 h8
      go_enter Try.func3, Try.ntmps3
      go_wp2_with (first | (go_at_call 7; refine (awake_yes _).mono ?_; rintro e w1 ⟨rfl, hfr⟩; have hb1 := h.no hfr) | (go_at_call 8; refine (Le32_no _ _ _ _ _ hn h2 (by omega)).mono ?_; rintro e w' ⟨rfl, rfl⟩) | (go_at_call 9; refine (Le64_no _ _ _ _ _ hn h2 (by omega)).mono ?_; rintro e w' ⟨rfl, rfl⟩) | (go_at_call 10; refine (refThere_any _ _ _ _ _ _ hn h2 (by omega)).mono ?_; rintro e w' ⟨rfl, rfl⟩) | (go_at_call 11; refine (Tail_any _ _ _ l _ hb1).mono ?_; rintro e w' ⟨rfl, rfl⟩) | (go_at_call 12; refine (refNum_any _ _ _ l _ _ _ hb1 (by omega) (by omega) (by omega) (by omega)).mono ?_; rintro e w' ⟨rfl, rfl⟩; simp only [Int.toNat_zero, List.drop_zero, show (8 : Int).toNat = 8 from rfl, show (4 : Int).toNat = 4 from rfl]))
      go_ret
      exact ⟨rfl, hfr⟩

set_option maxHeartbeats 1000000 in
theorem LoadTurns_yes (x : BitVec 64) (y : BitVec 32) (n : Int) (w : World) (h1 : -9223372036854775808 ≤ n) (h2 : n ≤ 9223372036854775807) :
    Calls Try.prog 4 #[.int .u64 (W64 x), .int .u32 (W32 y), .int .i64 n] w (Yes w) := by
  have h5 := Int.emod_nonneg n (show (64 : Int) ≠ 0 by omega)
  have h6 := Int.emod_lt_of_pos n (show (0 : Int) < 64 by omega)
  have HB := Lib.hid (rotl64_back x n)
  have HS := Lib.hid (swap_back x)
  go_enter Try.func4, Try.ntmps4
  go_wp2_with (first | (go_at_call 7; refine (awake_yes _).mono ?_; rintro e w1 ⟨rfl, hfr⟩) | (go_at_call 13; refine (Rot64_any _ _ _).mono ?_; rintro e w' ⟨rfl, rfl⟩) | (go_at_call 15; refine (Rot32_any _ _ _).mono ?_; rintro e w' ⟨rfl, rfl⟩) | (go_at_call 14; refine (refRot64_any _ _ _ h1 h2).mono ?_; rintro e w' ⟨rfl, rfl⟩) | (go_at_call 16; refine (refRot32_any _ _ _ h1 h2).mono ?_; rintro e w' ⟨rfl, rfl⟩) | (go_at_call 17; refine (refLeft_any _ _ _ h1 h2 (by omega) (by omega)).mono ?_; rintro e w' ⟨rfl, rfl⟩) | (go_at_call 18; refine (Swap64_any _ _).mono ?_; rintro e w' ⟨rfl, rfl⟩) | (go_at_call 19; refine (refSwap_any _ _).mono ?_; rintro e w' ⟨rfl, rfl⟩))
  go_ret
  exact ⟨ret_bool (by simp [HB.out, HS.out]), hfr⟩

set_option maxHeartbeats 1000000 in
theorem LoadHexes_yes (x : BitVec 64) (l : Bytes) (w : World) (hl : l.length ≤ 9223372036854775807) :
    Calls Try.prog 5 #[.int .u64 (W64 x), .string (str l)] w (Yes w) := by
  have e0 : unhexRes (hexl x) = .tuple #[.int .u64 (W64 x), .bool true] := by rw [unhexRes, unhex_hexl]
  have U0 : ∀ w, Calls Try.prog 20 #[.string (str (hexl x))] w (Gives (.tuple #[.int .u64 (W64 x), .bool true]) w) := fun w => by
    rw [← e0]; exact Unhex_any _ w (by rw [hexl, hexTo_length]; omega)
  have H0 := Lib.hid U0
  clear U0 e0
  have e1 : ∃ (z : Int) (b : Bool), unhexRes l = .tuple #[.int .u64 z, .bool b] := by
    unfold unhexRes; split <;> exact ⟨_, _, rfl⟩
  obtain ⟨z, b, e1⟩ := e1
  have U1 : ∀ w, Calls Try.prog 20 #[.string (str l)] w (Gives (.tuple #[.int .u64 z, .bool b]) w) := fun w => by rw [← e1]; exact Unhex_any _ w hl
  have U2 : ∀ w, Calls Try.prog 22 #[.string (str l)] w (Gives (.tuple #[.int .u64 z, .bool b]) w) := fun w => by rw [← e1]; exact refUnhex_any _ w hl
  have H1 := Lib.hid U1
  have H2 := Lib.hid U2
  clear U1 U2 e1
  go_enter Try.func5, Try.ntmps5
  go_wp2_with fail
  refine (awake_yes _).mono ?_
  rintro e w1 ⟨rfl, hfr1⟩
  go_wp2_with fail
  refine (Hex_any x _).mono ?_
  rintro e w2 ⟨rfl, hfr2⟩
  go_wp2_with fail
  refine (H0.out _).mono ?_
  rintro e w' ⟨rfl, rfl⟩
  go_wp2_with fail
  refine (H1.out _).mono ?_
  rintro e w' ⟨rfl, rfl⟩
  go_wp2_with fail
  refine (H2.out _).mono ?_
  rintro e w' ⟨rfl, rfl⟩
  go_wp2_with fail
  refine (Hex_any x _).mono ?_
  rintro e w3 ⟨rfl, hfr3⟩
  go_wp2_with fail
  refine (refHex_any x _).mono ?_
  rintro e w4 ⟨rfl, hfr4⟩
  go_wp2_with fail
  go_ret
  exact ⟨ret_bool (by simp), ((hfr1.no hfr2).no hfr3).no hfr4⟩

set_option maxHeartbeats 2000000 in
theorem LoadPuts_yes (a : Option Addr) (n c : Nat) (l : Bytes) (x : BitVec 64) (y : BitVec 32) (w : World) (h : IsBytes w a n c l) (hr0 : c ≤ 140737488351232) :
    Calls Try.prog 6 #[.slice a n c, .int .u64 (W64 x), .int .u32 (W32 y)] w (Yes w) := by
  have hr : n + 16 ≤ 140737488355328 := by have := h.2.1; omega
  have hn : n ≤ 9223372036854775807 := by omega
  have hlen := Lib.hid h.1
  go_enter Try.func6, Try.ntmps6
  go_wp2_with fail
  refine (awake_yes _).mono ?_
  rintro e w1 ⟨rfl, hfr1⟩
  have h1 := h.no hfr1
  go_wp2_with (refine wpList_string _ _ _ _ _ _ _ _ l rfl h1 ?_)
  refine (Put64_any _ _ _ l x _ h1 (by omega)).mono ?_
  rintro e w2 ⟨vp, rfl, hp, hfr2⟩
  obtain ⟨ap, cp, rfl, hp2, _⟩ := hp.bytes
  rw [List.length_append, leb_length, hlen.out] at hp2 ⊢
  have h2 := h1.no hfr2
  clear hp
  go_wp2_with fail
  refine (Put32_any _ _ _ l y _ h2 (by omega)).mono ?_
  rintro e w3 ⟨vq, rfl, hq, hfr3⟩
  obtain ⟨aq, cq, rfl, hq3, _⟩ := hq.bytes
  rw [List.length_append, leb_length, hlen.out] at hq3 ⊢
  have h3 := h2.no hfr3
  have hp3 := hp2.no hfr3
  have hnp : n + 8 ≤ cp := hp2.2.1
  have hnq : n + 4 ≤ cq := hq3.2.1
  have hcp : cp ≤ 9223372036854775807 := hp2.2.2.1
  have hcq : cq ≤ 9223372036854775807 := hq3.2.2.1
  clear hq
  have e64 : (le (((l ++ leb x 8).drop n).take 8)) = x := by
    rw [← hlen.out, List.drop_left, List.take_of_length_le (by rw [leb_length]; omega), le_leb8]
  have e32 : (le (((l ++ leb (y.setWidth 64) 4).drop n).take 4)).setWidth 32 = y := by
    rw [← hlen.out, List.drop_left, List.take_of_length_le (by rw [leb_length]; omega), le_leb4]
  have E64 := Lib.hid e64
  have E32 := Lib.hid e32
  clear e64 e32
  go_wp2_with fail
  refine (Le64_yes _ _ _ _ _ _ hp3 (by omega) (by omega)).mono ?_
  rintro e w' ⟨rfl, rfl⟩
  rw [Int.toNat_natCast, E64.out]
  go_wp2_with fail
  refine (Le32_yes _ _ _ _ _ _ hq3 (by omega) (by omega)).mono ?_
  rintro e w' ⟨rfl, rfl⟩
  rw [Int.toNat_natCast, E32.out]
  go_wp2_with fail
  refine (refBytes_any x 8 _ (by omega)).mono ?_
  rintro e w4 ⟨v4, rfl, h4, hfr4⟩
  obtain ⟨a4, c4, rfl, hb4, _⟩ := h4.bytes
  rw [leb_length] at hb4 ⊢
  clear h4
  go_wp2_with fail
  refine (refBoth_any _ _ _ l _ _ _ _ _ (h3.no hfr4) hb4 (by omega)).mono ?_
  rintro e w5 ⟨v5, rfl, h5, hfr5⟩
  obtain ⟨a5, c5, rfl, hb5, _⟩ := h5.bytes
  rw [List.length_append, leb_length, hlen.out] at hb5 ⊢
  clear h5
  have hf5 := hfr4.no hfr5
  go_wp2_with fail
  refine (refSame_any _ _ _ _ _ _ _ _ _ (hp3.no hf5) hb5).mono ?_
  rintro e w' ⟨rfl, rfl⟩
  have s5 : ((l ++ leb x 8) == (l ++ leb x 8)) = true := by simp
  rw [s5]
  clear s5
  go_wp2_with fail
  refine (refBytes_any (y.setWidth 64) 4 _ (by omega)).mono ?_
  rintro e w6 ⟨v6, rfl, h6, hfr6⟩
  obtain ⟨a6, c6, rfl, hb6, _⟩ := h6.bytes
  rw [leb_length] at hb6 ⊢
  clear h6
  have hf6 := hf5.no hfr6
  go_wp2_with fail
  refine (refBoth_any _ _ _ l _ _ _ _ _ (h3.no hf6) hb6 (by omega)).mono ?_
  rintro e w7 ⟨v7, rfl, h7, hfr7⟩
  obtain ⟨a7, c7, rfl, hb7, _⟩ := h7.bytes
  rw [List.length_append, leb_length, hlen.out] at hb7 ⊢
  clear h7
  have hf7 := hf6.no hfr7
  go_wp2_with fail
  refine (refSame_any _ _ _ _ _ _ _ _ _ (hq3.no hf7) hb7).mono ?_
  rintro e w' ⟨rfl, rfl⟩
  have s7 : ((l ++ leb (y.setWidth 64) 4) == (l ++ leb (y.setWidth 64) 4)) = true := by simp
  rw [s7]
  clear s7
  have hcv := run_string_of (h3.no hf7)
  go_wp2_with fail
  refine (Put64_any _ _ _ [] x _ (IsBytes.nil _) (by omega)).mono ?_
  rintro e w8 ⟨v8, rfl, h8, hfr8⟩
  obtain ⟨a8, c8, rfl, hb8, _⟩ := h8.bytes
  rw [List.nil_append] at hb8 ⊢
  rw [leb_length] at hb8 ⊢
  clear h8
  go_wp2_with fail
  refine (Tail_any _ _ _ _ _ hb8).mono ?_
  rintro e w' ⟨rfl, rfl⟩
  rw [List.take_of_length_le (by rw [leb_length]; omega), le_leb8]
  go_wp2_with fail
  go_ret
  exact ⟨ret_bool (by simp), ((((hfr1.no hfr2).no hfr3).no hf7).no hfr8)⟩
end Go.Proofs.Ytakjdoioffogcaa
