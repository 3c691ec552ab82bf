/- Load SealPlain Seal As SealErr -/
import Derived.LaidEql
import Derived.RowKitTokens
import Derived.Stop.Asserts
import Derived.Test.YtidlpihoafnobaaGreatDoorProg
import Derived.WalkKit
import Derived.Test.YtidlpihoafnobaaGreatDoorPSetG64
set_option linter.unusedVariables false
set_option linter.unusedSimpArgs false
namespace Go.Proofs.YtidlpihoafnobaaGreatDoor
set_option maxRecDepth 100000
open Go.RowKit
theorem getD_past (l : Bytes) (i : Nat) (h : l.length ≤ i) : l.getD i 0 = 0#8 := by
 rw [List.getD_eq_getElem?_getD, List.getElem?_eq_none h]; rfl
set_option maxHeartbeats 1600000 in
theorem Tail_at0 (c : Nat) (a : Option Addr) (w : World)  :
 Calls Tryz.prog 106 #[.slice a 0 c] w (Gives (.int .u64 (W64 (0#64))) w) := by
 go_enter Tryz.func106, Tryz.ntmps106
 go_wp2
 go_ret
 exact ⟨rfl, rfl⟩
set_option maxHeartbeats 1600000 in
theorem Tail_at1 (c : Nat) (b off : Nat) (x0 : BitVec 8) (w : World) (c0 : w.cell? ⟨b, off, none⟩ = some (.int .u8 (B8 x0))) :
 Calls Tryz.prog 106 #[.slice (some ⟨b, off, none⟩) 1 c] w (Gives (.int .u64 (W64 (x0.setWidth 64))) w) := by
 go_enter Tryz.func106, Tryz.ntmps106
 go_wp2
 go_ret
 exact ⟨rfl, rfl⟩
set_option maxHeartbeats 1600000 in
theorem Tail_at2 (c : Nat) (b off : Nat) (x0 x1 : BitVec 8) (w : World) (c0 : w.cell? ⟨b, off, none⟩ = some (.int .u8 (B8 x0))) (c1 : w.cell? ⟨b, off + 1, none⟩ = some (.int .u8 (B8 x1))) :
 Calls Tryz.prog 106 #[.slice (some ⟨b, off, none⟩) 2 c] w (Gives (.int .u64 (W64 (x1.setWidth 64 * 256#64 ||| x0.setWidth 64))) w) := by
 go_enter Tryz.func106, Tryz.ntmps106
 go_wp2
 go_ret
 exact ⟨rfl, rfl⟩
set_option maxHeartbeats 1600000 in
theorem Tail_at3 (c : Nat) (b off : Nat) (x0 x1 x2 : BitVec 8) (w : World) (c0 : w.cell? ⟨b, off, none⟩ = some (.int .u8 (B8 x0))) (c1 : w.cell? ⟨b, off + 1, none⟩ = some (.int .u8 (B8 x1))) (c2 : w.cell? ⟨b, off + 2, none⟩ = some (.int .u8 (B8 x2))) :
 Calls Tryz.prog 106 #[.slice (some ⟨b, off, none⟩) 3 c] w (Gives (.int .u64 (W64 (x2.setWidth 64 * 65536#64 ||| x1.setWidth 64 * 256#64 ||| x0.setWidth 64))) w) := by
 go_enter Tryz.func106, Tryz.ntmps106
 go_wp2
 go_ret
 exact ⟨rfl, rfl⟩
set_option maxHeartbeats 1600000 in
theorem Tail_at4 (c : Nat) (b off : Nat) (x0 x1 x2 x3 : BitVec 8) (w : World) (c0 : w.cell? ⟨b, off, none⟩ = some (.int .u8 (B8 x0))) (c1 : w.cell? ⟨b, off + 1, none⟩ = some (.int .u8 (B8 x1))) (c2 : w.cell? ⟨b, off + 2, none⟩ = some (.int .u8 (B8 x2))) (c3 : w.cell? ⟨b, off + 3, none⟩ = some (.int .u8 (B8 x3))) :
 Calls Tryz.prog 106 #[.slice (some ⟨b, off, none⟩) 4 c] w (Gives (.int .u64 (W64 (x3.setWidth 64 * 16777216#64 ||| x2.setWidth 64 * 65536#64 ||| x1.setWidth 64 * 256#64 ||| x0.setWidth 64))) w) := by
 go_enter Tryz.func106, Tryz.ntmps106
 go_wp2
 go_ret
 exact ⟨rfl, rfl⟩
set_option maxHeartbeats 1600000 in
theorem Tail_at5 (c : Nat) (b off : Nat) (x0 x1 x2 x3 x4 : BitVec 8) (w : World) (c0 : w.cell? ⟨b, off, none⟩ = some (.int .u8 (B8 x0))) (c1 : w.cell? ⟨b, off + 1, none⟩ = some (.int .u8 (B8 x1))) (c2 : w.cell? ⟨b, off + 2, none⟩ = some (.int .u8 (B8 x2))) (c3 : w.cell? ⟨b, off + 3, none⟩ = some (.int .u8 (B8 x3))) (c4 : w.cell? ⟨b, off + 4, none⟩ = some (.int .u8 (B8 x4))) :
 Calls Tryz.prog 106 #[.slice (some ⟨b, off, none⟩) 5 c] w (Gives (.int .u64 (W64 (x4.setWidth 64 * 4294967296#64 ||| x3.setWidth 64 * 16777216#64 ||| x2.setWidth 64 * 65536#64 ||| x1.setWidth 64 * 256#64 ||| x0.setWidth 64))) w) := by
 go_enter Tryz.func106, Tryz.ntmps106
 go_wp2
 go_ret
 exact ⟨rfl, rfl⟩
set_option maxHeartbeats 1600000 in
theorem Tail_at6 (c : Nat) (b off : Nat) (x0 x1 x2 x3 x4 x5 : BitVec 8) (w : World) (c0 : w.cell? ⟨b, off, none⟩ = some (.int .u8 (B8 x0))) (c1 : w.cell? ⟨b, off + 1, none⟩ = some (.int .u8 (B8 x1))) (c2 : w.cell? ⟨b, off + 2, none⟩ = some (.int .u8 (B8 x2))) (c3 : w.cell? ⟨b, off + 3, none⟩ = some (.int .u8 (B8 x3))) (c4 : w.cell? ⟨b, off + 4, none⟩ = some (.int .u8 (B8 x4))) (c5 : w.cell? ⟨b, off + 5, none⟩ = some (.int .u8 (B8 x5))) :
 Calls Tryz.prog 106 #[.slice (some ⟨b, off, none⟩) 6 c] w (Gives (.int .u64 (W64 (x5.setWidth 64 * 1099511627776#64 ||| x4.setWidth 64 * 4294967296#64 ||| x3.setWidth 64 * 16777216#64 ||| x2.setWidth 64 * 65536#64 ||| x1.setWidth 64 * 256#64 ||| x0.setWidth 64))) w) := by
 go_enter Tryz.func106, Tryz.ntmps106
 go_wp2
 go_ret
 exact ⟨rfl, rfl⟩
set_option maxHeartbeats 1600000 in
theorem Tail_at7 (c : Nat) (b off : Nat) (x0 x1 x2 x3 x4 x5 x6 : BitVec 8) (w : World) (c0 : w.cell? ⟨b, off, none⟩ = some (.int .u8 (B8 x0))) (c1 : w.cell? ⟨b, off + 1, none⟩ = some (.int .u8 (B8 x1))) (c2 : w.cell? ⟨b, off + 2, none⟩ = some (.int .u8 (B8 x2))) (c3 : w.cell? ⟨b, off + 3, none⟩ = some (.int .u8 (B8 x3))) (c4 : w.cell? ⟨b, off + 4, none⟩ = some (.int .u8 (B8 x4))) (c5 : w.cell? ⟨b, off + 5, none⟩ = some (.int .u8 (B8 x5))) (c6 : w.cell? ⟨b, off + 6, none⟩ = some (.int .u8 (B8 x6))) :
 Calls Tryz.prog 106 #[.slice (some ⟨b, off, none⟩) 7 c] w (Gives (.int .u64 (W64 (x6.setWidth 64 * 281474976710656#64 ||| x5.setWidth 64 * 1099511627776#64 ||| x4.setWidth 64 * 4294967296#64 ||| x3.setWidth 64 * 16777216#64 ||| x2.setWidth 64 * 65536#64 ||| x1.setWidth 64 * 256#64 ||| x0.setWidth 64))) w) := by
 go_enter Tryz.func106, Tryz.ntmps106
 go_wp2
 go_ret
 exact ⟨rfl, rfl⟩
set_option maxHeartbeats 1600000 in
theorem Tail_at8 (n : Nat) (c : Nat) (b off : Nat) (x0 x1 x2 x3 x4 x5 x6 x7 : BitVec 8) (w : World) (h8 : 8 ≤ n) (hn : n ≤ 9223372036854775807) (c0 : w.cell? ⟨b, off, none⟩ = some (.int .u8 (B8 x0))) (c1 : w.cell? ⟨b, off + 1, none⟩ = some (.int .u8 (B8 x1))) (c2 : w.cell? ⟨b, off + 2, none⟩ = some (.int .u8 (B8 x2))) (c3 : w.cell? ⟨b, off + 3, none⟩ = some (.int .u8 (B8 x3))) (c4 : w.cell? ⟨b, off + 4, none⟩ = some (.int .u8 (B8 x4))) (c5 : w.cell? ⟨b, off + 5, none⟩ = some (.int .u8 (B8 x5))) (c6 : w.cell? ⟨b, off + 6, none⟩ = some (.int .u8 (B8 x6))) (c7 : w.cell? ⟨b, off + 7, none⟩ = some (.int .u8 (B8 x7))) :
 Calls Tryz.prog 106 #[.slice (some ⟨b, off, none⟩) n c] w (Gives (.int .u64 (W64 (x7.setWidth 64 * 72057594037927936#64 ||| x6.setWidth 64 * 281474976710656#64 ||| x5.setWidth 64 * 1099511627776#64 ||| x4.setWidth 64 * 4294967296#64 ||| x3.setWidth 64 * 16777216#64 ||| x2.setWidth 64 * 65536#64 ||| x1.setWidth 64 * 256#64 ||| x0.setWidth 64))) w) := by
 rcases (show n = 8 ∨ (8 : Int) < (n : Int) by omega) with rfl | h9
 all_goals
  go_enter Tryz.func106, Tryz.ntmps106
  go_wp2
  go_ret
  exact ⟨rfl, rfl⟩
theorem Tail_any (a : Option Addr) (n c : Nat) (l : Bytes) (w : World) (h : IsBytes w a n c l) :
 Calls Tryz.prog 106 #[.slice a n c] w (Gives (.int .u64 (W64 (le (l.take 8)))) w) := by
 have hn : n ≤ 9223372036854775807 := by have := h.2.1; have := h.2.2.1; omega
 have hlen : l.length = n := h.1
 rw [le_tail]
 by_cases h0 : n = 0
 · subst h0
   simp only [getD_past l 0 (by omega), getD_past l 1 (by omega), getD_past l 2 (by omega), getD_past l 3 (by omega), getD_past l 4 (by omega), getD_past l 5 (by omega), getD_past l 6 (by omega), getD_past l 7 (by omega)]
   exact Tail_at0 c a w
 · obtain ⟨b, off, rfl, hc⟩ := h.known (by omega)
   by_cases h1 : n = 1
   · subst h1
     simp only [getD_past l 1 (by omega), getD_past l 2 (by omega), getD_past l 3 (by omega), getD_past l 4 (by omega), getD_past l 5 (by omega), getD_past l 6 (by omega), getD_past l 7 (by omega), BitVec.setWidth_zero, BitVec.zero_mul, BitVec.zero_or]
     exact Tail_at1 c b off _ w (hc 0 (by omega))
   by_cases h2 : n = 2
   · subst h2
     simp only [getD_past l 2 (by omega), getD_past l 3 (by omega), getD_past l 4 (by omega), getD_past l 5 (by omega), getD_past l 6 (by omega), getD_past l 7 (by omega), BitVec.setWidth_zero, BitVec.zero_mul, BitVec.zero_or]
     exact Tail_at2 c b off _ _ w (hc 0 (by omega)) (hc 1 (by omega))
   by_cases h3 : n = 3
   · subst h3
     simp only [getD_past l 3 (by omega), getD_past l 4 (by omega), getD_past l 5 (by omega), getD_past l 6 (by omega), getD_past l 7 (by omega), BitVec.setWidth_zero, BitVec.zero_mul, BitVec.zero_or]
     exact Tail_at3 c b off _ _ _ w (hc 0 (by omega)) (hc 1 (by omega)) (hc 2 (by omega))
   by_cases h4 : n = 4
   · subst h4
     simp only [getD_past l 4 (by omega), getD_past l 5 (by omega), getD_past l 6 (by omega), getD_past l 7 (by omega), BitVec.setWidth_zero, BitVec.zero_mul, BitVec.zero_or]
     exact Tail_at4 c b off _ _ _ _ w (hc 0 (by omega)) (hc 1 (by omega)) (hc 2 (by omega)) (hc 3 (by omega))
   by_cases h5 : n = 5
   · subst h5
     simp only [getD_past l 5 (by omega), getD_past l 6 (by omega), getD_past l 7 (by omega), BitVec.setWidth_zero, BitVec.zero_mul, BitVec.zero_or]
     exact Tail_at5 c b off _ _ _ _ _ w (hc 0 (by omega)) (hc 1 (by omega)) (hc 2 (by omega)) (hc 3 (by omega)) (hc 4 (by omega))
   by_cases h6 : n = 6
   · subst h6
     simp only [getD_past l 6 (by omega), getD_past l 7 (by omega), BitVec.setWidth_zero, BitVec.zero_mul, BitVec.zero_or]
     exact Tail_at6 c b off _ _ _ _ _ _ w (hc 0 (by omega)) (hc 1 (by omega)) (hc 2 (by omega)) (hc 3 (by omega)) (hc 4 (by omega)) (hc 5 (by omega))
   by_cases h7 : n = 7
   · subst h7
     simp only [getD_past l 7 (by omega), BitVec.setWidth_zero, BitVec.zero_mul, BitVec.zero_or]
     exact Tail_at7 c b off _ _ _ _ _ _ _ w (hc 0 (by omega)) (hc 1 (by omega)) (hc 2 (by omega)) (hc 3 (by omega)) (hc 4 (by omega)) (hc 5 (by omega)) (hc 6 (by omega))
   exact Tail_at8 n c b off _ _ _ _ _ _ _ _ w (by omega) hn (hc 0 (by omega)) (hc 1 (by omega)) (hc 2 (by omega)) (hc 3 (by omega)) (hc 4 (by omega)) (hc 5 (by omega)) (hc 6 (by omega)) (hc 7 (by omega))
set_option maxHeartbeats 400000 in
theorem Le32_yes (a : Option Addr) (n c : Nat) (l : Bytes) (at_ : Int) (w : World) (h : IsBytes w a n c l) (h0 : 0 ≤ at_) (h1 : at_ + 4 ≤ n) :
 Calls Tryz.prog 52 #[.slice a n c, .int .i64 at_] w (Gives (.tuple #[.int .u32 (W32 ((le ((l.drop at_.toNat).take 4)).setWidth 32)), .bool true]) w) := by
 have hn : n ≤ 9223372036854775807 := by have := h.2.1; have := h.2.2.1; omega
 have hc := h.2.1
 obtain ⟨k, rfl⟩ := Int.eq_ofNat_of_zero_le h0
 rw [Int.toNat_natCast]
 have hcut := Lib.hid (h.cut k (k + 4) c (n' := 4) (c' := c - k) (by omega) (by omega) (by omega) (by omega) (by omega) rfl)
 clear h
 go_enter Tryz.func52, Tryz.ntmps52
 go_wp2_with (go_at_call 106; refine (Tail_any _ _ _ ((l.drop k).take 4) _ ?_).mono ?_; (have h := hcut.out; simpa using h); rintro e w' ⟨rfl, rfl⟩)
 go_ret2
 exact ⟨ret_w32b (by rw [List.take_of_length_le (by rw [List.length_take]; omega)]) rfl, rfl⟩
theorem Le32_no (a : Option Addr) (n c : Nat) (at_ : Int) (w : World) (hn : n ≤ 9223372036854775807) (h2 : at_ ≤ 9223372036854775807) (h1 : at_ < 0 ∨ (n : Int) < at_ + 4) :
 Calls Tryz.prog 52 #[.slice a n c, .int .i64 at_] w (Gives (.tuple #[.int .u32 0, .bool false]) w) := by
 by_cases h0 : at_ < 0
 · clear h1
   go_enter Tryz.func52, Tryz.ntmps52
   go_wp2
   go_ret2
   exact ⟨rfl, rfl⟩
 · have h3 : (n : Int) - 4 < at_ := by omega
   have h4 : 0 ≤ at_ := by omega
   clear h1 h0
   go_enter Tryz.func52, Tryz.ntmps52
   go_wp2
   go_ret2
   exact ⟨rfl, rfl⟩
set_option maxHeartbeats 400000 in
theorem Le64_yes (a : Option Addr) (n c : Nat) (l : Bytes) (at_ : Int) (w : World) (h : IsBytes w a n c l) (h0 : 0 ≤ at_) (h1 : at_ + 8 ≤ n) :
 Calls Tryz.prog 54 #[.slice a n c, .int .i64 at_] w (Gives (.tuple #[.int .u64 (W64 (le ((l.drop at_.toNat).take 8))), .bool true]) w) := by
 have hn : n ≤ 9223372036854775807 := by have := h.2.1; have := h.2.2.1; omega
 have hc := h.2.1
 obtain ⟨k, rfl⟩ := Int.eq_ofNat_of_zero_le h0
 rw [Int.toNat_natCast]
 have hcut := Lib.hid (h.cut k (k + 8) c (n' := 8) (c' := c - k) (by omega) (by omega) (by omega) (by omega) (by omega) rfl)
 clear h
 go_enter Tryz.func54, Tryz.ntmps54
 go_wp2_with (go_at_call 106; refine (Tail_any _ _ _ ((l.drop k).take 8) _ ?_).mono ?_; (have h := hcut.out; simpa using h); rintro e w' ⟨rfl, rfl⟩)
 go_ret2
 exact ⟨ret_w64b (by rw [List.take_of_length_le (by rw [List.length_take]; omega)]) rfl, rfl⟩
theorem Le64_no (a : Option Addr) (n c : Nat) (at_ : Int) (w : World) (hn : n ≤ 9223372036854775807) (h2 : at_ ≤ 9223372036854775807) (h1 : at_ < 0 ∨ (n : Int) < at_ + 8) :
 Calls Tryz.prog 54 #[.slice a n c, .int .i64 at_] w (Gives (.tuple #[.int .u64 0, .bool false]) w) := by
 by_cases h0 : at_ < 0
 · clear h1
   go_enter Tryz.func54, Tryz.ntmps54
   go_wp2
   go_ret2
   exact ⟨rfl, rfl⟩
 · have h3 : (n : Int) - 8 < at_ := by omega
   have h4 : 0 ≤ at_ := by omega
   clear h1 h0
   go_enter Tryz.func54, Tryz.ntmps54
   go_wp2
   go_ret2
   exact ⟨rfl, rfl⟩
set_option maxHeartbeats 800000 in
theorem refNum_any (a : Option Addr) (n c : Nat) (l : Bytes) (at_ m : Int) (w : World) (h : IsBytes w a n c l) (h0 : 0 ≤ at_) (h1 : at_ + m ≤ 9223372036854775807) (h2 : 0 ≤ m) (h3 : m ≤ 64) :
 Calls Tryz.prog 28 #[.slice a n c, .int .i64 at_, .int .i64 m] w (Gives (.int .u64 (W64 (le ((l.drop at_.toNat).take m.toNat)))) w) := by
 have hn : n ≤ 9223372036854775807 := by have := h.2.1; have := h.2.2.1; omega
 obtain ⟨p, rfl⟩ := Int.eq_ofNat_of_zero_le h0
 obtain ⟨k, rfl⟩ := Int.eq_ofNat_of_zero_le h2
 rw [Int.toNat_natCast, Int.toNat_natCast]
 have hcell : ∀ i, i < n → ∃ b off, a = some ⟨b, off, none⟩ ∧ w.cell? ⟨b, off + i, none⟩ = some (.int .u8 (B8 (l.getD i 0))) := h.2.2.2.2
 have hlen := Lib.hid h.1
 clear h
 go_enter Tryz.func28, Tryz.ntmps28
 go_wp2
 go_loop [7, 8] (fun x i => ∃ j : Nat, j ≤ k ∧ i = .int .i64 ((j : Int) - 1) ∧ x = .int .u64 (W64 (le ((l.drop (p + j)).take (k - j))))) (fun _ i => (intOf i + 1).toNat)
 case atStart => exact ⟨k, Nat.le_refl _, rfl, by rw [Nat.sub_self]; rfl⟩
 case round =>
  obtain ⟨j, hj, rfl, rfl⟩ := hrel
  by_cases hz : j = 0
  · subst hz
    have hneg : ((0 : Nat) : Int) - 1 = -1 := by omega
    rw [hneg]
    go_wp2
    go_ret
    exact ⟨ret_w64 (by simp), rfl⟩
  · obtain ⟨i, rfl⟩ : ∃ i, j = i + 1 := ⟨j - 1, by omega⟩
    have e1 : ((i + 1 : Nat) : Int) - 1 = (i : Int) := by omega
    rw [e1]
    have hs : Hid (le ((l.drop (p + i)).take (k - i)) = (l.getD (p + i) 0).setWidth 64 + le ((l.drop (p + (i + 1))).take (k - (i + 1))) * 256#64) := by
     have := le_step l (p + i) (k - (i + 1))
     rw [show k - (i + 1) + 1 = k - i by omega, show p + i + 1 = p + (i + 1) by omega] at this
     exact this
    generalize le ((l.drop (p + (i + 1))).take (k - (i + 1))) = y at hs ⊢
    by_cases hlt : p + i < n
    · obtain ⟨b, off, rfl, hc⟩ := hcell (p + i) hlt
      generalize l.getD (p + i) 0 = z at hs hc
      clear hcell
      go_wp2
      go_round
      case rel => exact ⟨i, by omega, rfl, by rw [hs.out, BitVec.add_comm]⟩
      case measure => simp [intOf]
    · have hz : l.getD (p + i) 0 = 0#8 := getD_past l _ (by rw [hlen.out]; omega)
      rw [hz] at hs
      clear hcell hz
      go_wp2
      go_round
      case rel => exact ⟨i, by omega, rfl, by rw [hs.out]; simp⟩
      case measure => simp [intOf]
end Go.Proofs.YtidlpihoafnobaaGreatDoor
namespace Go.Proofs.YtidlpihoafnobaaGreatDoor
set_option maxRecDepth 100000
def sumStep (h : BitVec 32) (x : BitVec 8) : BitVec 32 := fmix32 (h ^^^ x.setWidth 32) + 1#32
theorem sumStep_def (h : BitVec 32) (x : BitVec 8) : fmix32 (h ^^^ BitVec.setWidth 32 x) + 1#32 = sumStep h x := rfl
def sumF (l : Bytes) : BitVec 32 := l.foldl sumStep (BitVec.ofNat 32 l.length)
def sealF (l : Bytes) : Bytes := l ++ leb ((sumF l).setWidth 64) 4
theorem sealF_length (l : Bytes) : (sealF l).length = l.length + 4 := by unfold sealF; rw [List.length_append, leb_length]
def sealedB (l : Bytes) : Bool := sumF (l.take (l.length - 4)) == (le ((l.drop (l.length - 4)).take 4)).setWidth 32
theorem leb_consS (x : BitVec 64) (k : Nat) : leb x (k + 1) = x.setWidth 8 :: leb (x >>> 8) k := by
 unfold leb
 rw [List.range_succ_eq_map, List.map_cons, List.map_map]
 congr 1
 apply List.map_congr_left
 intro i _
 simp only [Function.comp_def, ← BitVec.shiftRight_add]
 congr 2; omega
theorem le_ltS : ∀ (l : Bytes), l.length ≤ 4 → (le l).toNat < 256 ^ l.length
 | [], _ => by simp [le]
 | b :: r, h => by
  have ih := le_ltS r (by simp at h; omega)
  have hb := b.isLt
  have hp : 256 ^ (b :: r).length = 256 * 256 ^ r.length := by rw [List.length_cons, Nat.pow_succ, Nat.mul_comm]
  have hr : 256 ^ r.length ≤ 256 ^ 3 := Nat.pow_le_pow_right (by decide) (by simp at h; omega)
  rw [le, BitVec.toNat_add, BitVec.toNat_mul, BitVec.toNat_setWidth, hp]
  have e : (256#64).toNat = 256 := rfl
  rw [e]
  omega
theorem leb_le : ∀ (l : Bytes), l.length ≤ 4 → leb (le l) l.length = l
 | [], _ => by simp [leb]
 | b :: r, h => by
  have hlt := le_ltS r (by simp at h; omega)
  have hr : 256 ^ r.length ≤ 256 ^ 3 := Nat.pow_le_pow_right (by decide) (by simp at h; omega)
  have hb := b.isLt
  have e : (256#64).toNat = 256 := rfl
  have hn : (le (b :: r)).toNat = b.toNat + (le r).toNat * 256 := by
   rw [le, BitVec.toNat_add, BitVec.toNat_mul, BitVec.toNat_setWidth, e]
   omega
  have h1 : (le (b :: r)).setWidth 8 = b := by
   apply BitVec.eq_of_toNat_eq
   rw [BitVec.toNat_setWidth, hn]
   omega
  have h2 : le (b :: r) >>> 8 = le r := by
   apply BitVec.eq_of_toNat_eq
   rw [BitVec.toNat_ushiftRight, hn, Nat.shiftRight_eq_div_pow]
   omega
  rw [List.length_cons, leb_consS, h1, h2, leb_le r (by simp at h; omega)]
theorem le_leb4S (x : BitVec 32) : (le (leb (x.setWidth 64) 4)).setWidth 32 = x := by
 have h : ∀ k : Nat, ∀ (x : BitVec 64), k ≤ 8 → (le (leb x k)).toNat = x.toNat % 2 ^ (8 * k) := by
  intro k
  induction k with
  | zero => intro x _; simp [leb, le, Nat.mod_one]
  | succ k ih =>
   intro x hk
   rw [leb_consS, le, BitVec.toNat_add, BitVec.toNat_mul, ih (x >>> 8) (by omega), BitVec.toNat_ushiftRight, Nat.shiftRight_eq_div_pow, BitVec.toNat_setWidth, BitVec.toNat_setWidth]
   have h1 : 2 ^ (8 * (k + 1)) = 2 ^ 8 * 2 ^ (8 * k) := by rw [← Nat.pow_add]; congr 1; omega
   have h2 : x.toNat % 2 ^ (8 * (k + 1)) < 2 ^ 64 := Nat.lt_of_le_of_lt (Nat.mod_le _ _) x.isLt
   rw [h1, Nat.mod_mul] at h2 ⊢
   have e : (256#64).toNat = 2 ^ 8 := rfl
   rw [e]
   omega
 apply BitVec.eq_of_toNat_eq
 rw [BitVec.toNat_setWidth, h 4 _ (by omega), BitVec.toNat_setWidth]
 have := x.isLt
 omega
theorem leb4_iff (s : BitVec 32) (d : Bytes) (hd : d.length = 4) : leb (s.setWidth 64) 4 = d ↔ s = (le d).setWidth 32 := by
 constructor
 · intro h; rw [← h, le_leb4S]
 · intro h
   have h1 := leb_le d (by omega)
   rw [hd] at h1
   have h2 : BitVec.setWidth 64 (BitVec.setWidth 32 (le d)) = le d := by
    have h := le_ltS d (by omega)
    rw [hd] at h
    apply BitVec.eq_of_toNat_eq
    rw [BitVec.toNat_setWidth, BitVec.toNat_setWidth]
    omega
   rw [h, h2, h1]
theorem sealed_iff (l : Bytes) (hl : 4 ≤ l.length) : sealF (l.take (l.length - 4)) = l ↔ sealedB l = true := by
 have hd : (l.drop (l.length - 4)).length = 4 := by rw [List.length_drop]; omega
 have ht : (l.drop (l.length - 4)).take 4 = l.drop (l.length - 4) := List.take_of_length_le (by omega)
 unfold sealF sealedB
 rw [ht, beq_iff_eq, ← leb4_iff _ _ hd]
 constructor
 · intro h
   have h2 := h.trans (List.take_append_drop (l.length - 4) l).symm
   exact List.append_cancel_left h2
 · intro h
   rw [h, List.take_append_drop]
theorem seal_take (l : Bytes) : (sealF l).take ((sealF l).length - 4) = l := by
 rw [sealF_length, show l.length + 4 - 4 = l.length by omega]
 unfold sealF
 rw [List.take_left]
theorem seal_sealed (l : Bytes) : sealedB (sealF l) = true := by
 rw [← sealed_iff _ (by rw [sealF_length]; omega), seal_take]
end Go.Proofs.YtidlpihoafnobaaGreatDoor
namespace Go.Proofs.YtidlpihoafnobaaGreatDoor
set_option maxRecDepth 100000
open Go.RowKit
def openF (l : Bytes) : Bytes × Int := if l.length < 4 then ([], 3) else if sealedB l then (l.take (l.length - 4), 0) else ([], 14)
theorem openF_short {l : Bytes} (h : l.length < 4) : openF l = ([], 3) := by unfold openF; rw [if_pos h]
theorem openF_yes {l : Bytes} (h : ¬ l.length < 4) (k : sealedB l = true) : openF l = (l.take (l.length - 4), 0) := by unfold openF; rw [if_neg h, if_pos k]
theorem openF_no {l : Bytes} (h : ¬ l.length < 4) (k : sealedB l = false) : openF l = ([], 14) := by unfold openF; rw [if_neg h, if_neg (by simp [k])]
set_option maxHeartbeats 1000000 in
theorem Sum_any (a : Option Addr) (n c : Nat) (l : Bytes) (w : World) (h : IsBytes w a n c l) : Calls Tryz.prog 53 #[.slice a n c] w (Gives (.int .u32 (W32 (sumF l))) w) := by
 have hlen := Lib.hid h.1
 unfold sumF
 rw [hlen.out]
 generalize hr : l.foldl sumStep (BitVec.ofNat 32 n) = r
 have HR := Lib.hid hr
 clear hr
 have hc : n ≤ c := h.2.1
 have hc2 : c ≤ 9223372036854775807 := h.2.2.1
 go_enter Tryz.func53, Tryz.ntmps53
 go_wp2
 go_loop [3, 11] (fun u i => ∃ (k : Nat) (g : BitVec 32), k ≤ n ∧ i = .int .i64 k ∧ u = .int .u32 (W32 g) ∧ Hid ((l.drop k).foldl sumStep g = r)) (fun _ i => n - (intOf i).toNat)
 case atStart => exact ⟨0, _, by omega, rfl, rfl, HR⟩
 case round =>
  obtain ⟨k, g, hk, rfl, rfl, hg⟩ := hrel
  by_cases hkn : k < n
  · have i4 : (k : Int) < (n : Int) := by omega
    have hkl : k < l.length := by rw [hlen.out]; exact hkn
    obtain ⟨b, off, hbo, hcell⟩ := h.known (by omega)
    have hc0 := hcell k hkn
    have hd := Lib.hid (List.drop_eq_getElem_cons hkl)
    rw [hbo]
    clear hcell hbo
    go_wp2_with fail
    refine (Fmix32_any _ _).mono ?_
    rintro e w' ⟨rfl, rfl⟩
    go_wp2_with fail
    refine ⟨⟨k + 1, sumStep g (l[k]'hkl), by omega, rfl, ?_, ?_⟩, by simp [intOf]; omega⟩
    · rw [sumStep_def]
    · show _ = _
      rw [← hg.out, hd.out, List.foldl_cons]
  · have hkm2 : k = n := by omega
    have i4 : ¬ (k : Int) < (n : Int) := by omega
    have hh : g = r := by have := hg.out; rw [List.drop_eq_nil_of_le (by rw [hlen.out]; omega)] at this; exact this
    rw [hh]
    clear hh hg
    go_wp2_with fail
    go_ret
    exact ⟨rfl, rfl⟩
theorem Seal_any (a : Option Addr) (n c : Nat) (l : Bytes) (w : World) (h : IsBytes w a n c l) (hr : n + 8 ≤ 140737488355328) : Calls Tryz.prog 32 #[.slice a n c] w (GivesBytes (sealF l) w) := by
 go_enter Tryz.func32, Tryz.ntmps32
 go_wp2_with fail
 refine (Sum_any _ _ _ l _ h).mono ?_
 rintro e w' ⟨rfl, rfl⟩
 go_wp2_with fail
 refine (Put32_any _ _ _ l (sumF l) _ h hr).mono ?_
 rintro e w' ⟨v, rfl, ho, hf⟩
 go_wp2_with fail
 go_ret
 exact ⟨v, rfl, ho, hf⟩
def GivesOpen (l : Bytes) (w : World) (e : Ending) (w' : World) : Prop := ∃ v, e = .returned (.tuple #[v, .int .i64 (openF l).2]) ∧ Owns w' w.heap.size v (openF l).1 ∧ Fr No w w'
set_option maxHeartbeats 1000000 in
theorem Open_any (a : Option Addr) (n c : Nat) (l : Bytes) (w : World) (h : IsBytes w a n c l) (hr : n ≤ 140737488355328) : Calls Tryz.prog 23 #[.slice a n c] w (GivesOpen l w) := by
 have hlen := Lib.hid h.1
 have hc : n ≤ c := h.2.1
 have hc2 : c ≤ 9223372036854775807 := h.2.2.1
 by_cases h4 : n < 4
 · have HO := Lib.hid (openF_short (l := l) (by rw [hlen.out]; exact h4))
   go_enter Tryz.func23, Tryz.ntmps23
   go_wp2_with fail
   refine (Le32_no _ _ _ _ _ (by omega) (by omega) (by omega)).mono ?_
   rintro e w' ⟨rfl, rfl⟩
   go_wp2_with fail
   go_ret2
   exact ⟨_, by rw [HO.out] <;> rfl, by rw [HO.out]; exact Owns.nil _ _, Fr.refl _ _⟩
 · obtain ⟨p, rfl⟩ : ∃ p, n = p + 4 := ⟨n - 4, by omega⟩
   have e0 : ((p + 4 : Nat) : Int) - 4 = (p : Int) := by omega
   have hcut := h.head p c (n' := p) (c' := c) (by omega) (by omega) (Nat.le_refl _) rfl rfl
   have HT : Hid (l.take (l.length - 4) = l.take p) := by show _ = _; rw [hlen.out]; rfl
   have i1 : (p : Int) ≤ (c : Int) := by omega
   cases hs : sealedB l with
   | true =>
    have HO := Lib.hid (openF_yes (l := l) (by rw [hlen.out]; omega) hs)
    have HE : Hid (sumF (l.take p) = BitVec.setWidth 32 (le ((l.drop p).take 4))) := by
     show _ = _
     unfold sealedB at hs
     rw [beq_iff_eq, HT.out, hlen.out] at hs
     exact hs
    clear hs
    go_enter Tryz.func23, Tryz.ntmps23
    go_wp2_with fail
    try rw [e0]
    refine (Le32_yes _ _ _ l p _ h (by omega) (by omega)).mono ?_
    rintro e w' ⟨rfl, rfl⟩
    rw [Int.toNat_natCast]
    go_wp2_with fail
    refine (Sum_any _ _ _ (l.take p) _ hcut).mono ?_
    rw [HE.out]
    rintro e w' ⟨rfl, rfl⟩
    generalize BitVec.setWidth 32 (le ((l.drop p).take 4)) = y
    go_wp2_with (refine wpList_append_bytes _ _ _ _ _ _ w.heap.size _ [] rfl (Owns.nil _ _) _ _ _ (l.take p) rfl hcut (by simp; omega) (Nat.le_refl _) ?_; intro v1 w1 hown1 hfr1 _)
    go_ret2
    exact ⟨_, by rw [HO.out] <;> rfl, by rw [HO.out, HT.out]; exact hown1, (Fr.refl No w).append hfr1 (Owns.nil w w.heap.size) (Nat.le_refl _)⟩
   | false =>
    have HO := Lib.hid (openF_no (l := l) (by rw [hlen.out]; omega) hs)
    have HE : Hid ((sumF (l.take p) == BitVec.setWidth 32 (le ((l.drop p).take 4))) = false) := by
     show _ = _
     unfold sealedB at hs
     rw [HT.out, hlen.out] at hs
     exact hs
    clear hs
    go_enter Tryz.func23, Tryz.ntmps23
    go_wp2_with fail
    try rw [e0]
    refine (Le32_yes _ _ _ l p _ h (by omega) (by omega)).mono ?_
    rintro e w' ⟨rfl, rfl⟩
    rw [Int.toNat_natCast]
    go_wp2_with fail
    refine (Sum_any _ _ _ (l.take p) _ hcut).mono ?_
    rintro e w' ⟨rfl, rfl⟩
    have hne := HE.out
    generalize BitVec.setWidth 32 (le ((l.drop p).take 4)) = y at hne ⊢
    generalize sumF (l.take p) = z at hne ⊢
    have hne2 : (z != y) = true := by simp [bne, hne]
    go_wp2_with fail
    go_ret2
    exact ⟨_, by rw [HO.out] <;> rfl, by rw [HO.out]; exact Owns.nil _ _, Fr.refl _ _⟩
end Go.Proofs.YtidlpihoafnobaaGreatDoor
namespace Go.Proofs.YtidlpihoafnobaaGreatDoor
set_option maxRecDepth 100000
open Go.RowKit Go.Extern.Stop Go.Stop Go.Extern
theorem as_nil (t : Value) (w : World) : Calls Tryz.prog 20 #[.nilIface, t] w fun e w' => e = .returned (.bool false) ∧ w = w' := by
 go_enter Tryz.func20, Tryz.ntmps20
 go_wp2
 go_ret
 exact ⟨rfl, rfl⟩
def ErrT (w : World) : Prop := w.cell? ⟨0, 0, none⟩ = some (.iface 167 (.agg #[.pointer (some ⟨1, 51, none⟩)]))
theorem ErrT.lt {w : World} (h : ErrT w) : 0 < w.heap.size := by
 rcases Nat.lt_or_ge 0 w.heap.size with h0 | h0
 · exact h0
 · unfold ErrT at h; simp [World.cell?, Array.getElem?_eq_none h0] at h
theorem ErrT.fr {F : Nat → Prop} {w w' : World} (h : ErrT w) (k : Fr F w w') (hF : ¬ F 0) : ErrT w' := k.cell hF h
theorem ErrT.no {w w' : World} (h : ErrT w) (k : Fr No w w') : ErrT w' := k.cell (fun h => h) h
end Go.Proofs.YtidlpihoafnobaaGreatDoor
namespace Go.Proofs.YtidlpihoafnobaaGreatDoor
set_option maxRecDepth 100000
open Go.RowKit
def Placed (w : World) (b : Nat) (e at_ : Int) : Prop := w.heap[b]? = some (.cells #[.iface 110 (.int .i64 e), .int .i64 at_] 244 (0, 0))
section
variable {w w' : World} {b : Nat} {e at_ : Int}
theorem Placed.c0 (h : Placed w b e at_) : w.cell? ⟨b, 0, none⟩ = some (.iface 110 (.int .i64 e)) := by rw [cell_of_row w b 0 _ _ _ h]; rfl
theorem Placed.c1 (h : Placed w b e at_) : w.cell? ⟨b, 1, none⟩ = some (.int .i64 at_) := by rw [cell_of_row w b 1 _ _ _ h]; rfl
theorem Placed.no (h : Placed w b e at_) (k : Fr No w w') : Placed w' b e at_ := k.heap (fun h => h) h
theorem Placed.fr {F : Nat → Prop} (h : Placed w b e at_) (k : Fr F w w') (hF : ¬ F b) : Placed w' b e at_ := k.heap hF h
theorem Placed.lt (h : Placed w b e at_) : b < w.heap.size := (Array.getElem?_eq_some_iff.1 h).1
end
theorem Row1.fz {w : World} {b : Nat} {T : TypeId} {v : Value} (h : Row1 w b T v) : w.frozen? ⟨b, 0, none⟩ = false := frozen_of_row w b 0 _ _ h
theorem Row1.lt {w : World} {b : Nat} {T : TypeId} {v : Value} (h : Row1 w b T v) : b < w.heap.size := (Array.getElem?_eq_some_iff.1 h).1
theorem Row1.put {w : World} {b : Nat} {T : TypeId} {v : Value} (h : Row1 w b T v) (x : Value) : Row1 (w.setCell ⟨b, 0, none⟩ x) b T x := by unfold Row1; rw [heap_setCell_same w b 0 _ _ x h]; rfl
def GivesErr (e at_ : Int) (w : World) (ev : Ending) (w' : World) : Prop := ∃ b, ev = .returned (.iface 242 (.pointer (some ⟨b, 0, none⟩))) ∧ Placed w' b e at_ ∧ w.heap.size ≤ b ∧ Fr No w w'
theorem Wrap_any (e at_ : Int) (he : e ≠ 0) (w : World) : Calls Tryz.prog 103 #[.int .i64 e, .int .i64 at_] w (GivesErr e at_ w) := by
 go_enter Tryz.func103, Tryz.ntmps103
 go_wp2
 go_ret
 exact ⟨w.heap.size, rfl, heap_alloc_new w _, Nat.le_refl _, (Fr.refl No w).alloc _⟩
theorem Wrap_ok (at_ : Int) (w : World) : Calls Tryz.prog 103 #[.int .i64 0, .int .i64 at_] w (Gives .nilIface w) := by
 go_enter Tryz.func103, Tryz.ntmps103
 go_wp2
 go_ret
 exact ⟨rfl, rfl⟩
end Go.Proofs.YtidlpihoafnobaaGreatDoor
