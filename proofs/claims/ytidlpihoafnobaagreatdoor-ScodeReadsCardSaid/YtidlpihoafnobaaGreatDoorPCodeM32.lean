/- Load FoldM32 RestM32 LiveM32 Row4 CodeM32 -/
import Derived.Test.YtidlpihoafnobaaGreatDoorPStrTell
import Derived.Test.YtidlpihoafnobaaGreatDoorPLiveG64
set_option linter.unusedVariables false
set_option linter.unusedSimpArgs false
namespace Go.Proofs.YtidlpihoafnobaaGreatDoor
set_option maxRecDepth 100000
open Go.RowKit
theorem getD_past (l : Bytes) (i : Nat) (h : l.length ≤ i) : l.getD i 0 = 0#8 := by
 rw [List.getD_eq_getElem?_getD, List.getElem?_eq_none h]; rfl
set_option maxHeartbeats 1600000 in
theorem Tail_at0 (c : Nat) (a : Option Addr) (w : World)  :
 Calls Tryz.prog 106 #[.slice a 0 c] w (Gives (.int .u64 (W64 (0#64))) w) := by
 go_enter Tryz.func106, Tryz.ntmps106
 go_wp2
 go_ret
 exact ⟨rfl, rfl⟩
set_option maxHeartbeats 1600000 in
theorem Tail_at1 (c : Nat) (b off : Nat) (x0 : BitVec 8) (w : World) (c0 : w.cell? ⟨b, off, none⟩ = some (.int .u8 (B8 x0))) :
 Calls Tryz.prog 106 #[.slice (some ⟨b, off, none⟩) 1 c] w (Gives (.int .u64 (W64 (x0.setWidth 64))) w) := by
 go_enter Tryz.func106, Tryz.ntmps106
 go_wp2
 go_ret
 exact ⟨rfl, rfl⟩
set_option maxHeartbeats 1600000 in
theorem Tail_at2 (c : Nat) (b off : Nat) (x0 x1 : BitVec 8) (w : World) (c0 : w.cell? ⟨b, off, none⟩ = some (.int .u8 (B8 x0))) (c1 : w.cell? ⟨b, off + 1, none⟩ = some (.int .u8 (B8 x1))) :
 Calls Tryz.prog 106 #[.slice (some ⟨b, off, none⟩) 2 c] w (Gives (.int .u64 (W64 (x1.setWidth 64 * 256#64 ||| x0.setWidth 64))) w) := by
 go_enter Tryz.func106, Tryz.ntmps106
 go_wp2
 go_ret
 exact ⟨rfl, rfl⟩
set_option maxHeartbeats 1600000 in
theorem Tail_at3 (c : Nat) (b off : Nat) (x0 x1 x2 : BitVec 8) (w : World) (c0 : w.cell? ⟨b, off, none⟩ = some (.int .u8 (B8 x0))) (c1 : w.cell? ⟨b, off + 1, none⟩ = some (.int .u8 (B8 x1))) (c2 : w.cell? ⟨b, off + 2, none⟩ = some (.int .u8 (B8 x2))) :
 Calls Tryz.prog 106 #[.slice (some ⟨b, off, none⟩) 3 c] w (Gives (.int .u64 (W64 (x2.setWidth 64 * 65536#64 ||| x1.setWidth 64 * 256#64 ||| x0.setWidth 64))) w) := by
 go_enter Tryz.func106, Tryz.ntmps106
 go_wp2
 go_ret
 exact ⟨rfl, rfl⟩
set_option maxHeartbeats 1600000 in
theorem Tail_at4 (c : Nat) (b off : Nat) (x0 x1 x2 x3 : BitVec 8) (w : World) (c0 : w.cell? ⟨b, off, none⟩ = some (.int .u8 (B8 x0))) (c1 : w.cell? ⟨b, off + 1, none⟩ = some (.int .u8 (B8 x1))) (c2 : w.cell? ⟨b, off + 2, none⟩ = some (.int .u8 (B8 x2))) (c3 : w.cell? ⟨b, off + 3, none⟩ = some (.int .u8 (B8 x3))) :
 Calls Tryz.prog 106 #[.slice (some ⟨b, off, none⟩) 4 c] w (Gives (.int .u64 (W64 (x3.setWidth 64 * 16777216#64 ||| x2.setWidth 64 * 65536#64 ||| x1.setWidth 64 * 256#64 ||| x0.setWidth 64))) w) := by
 go_enter Tryz.func106, Tryz.ntmps106
 go_wp2
 go_ret
 exact ⟨rfl, rfl⟩
set_option maxHeartbeats 1600000 in
theorem Tail_at5 (c : Nat) (b off : Nat) (x0 x1 x2 x3 x4 : BitVec 8) (w : World) (c0 : w.cell? ⟨b, off, none⟩ = some (.int .u8 (B8 x0))) (c1 : w.cell? ⟨b, off + 1, none⟩ = some (.int .u8 (B8 x1))) (c2 : w.cell? ⟨b, off + 2, none⟩ = some (.int .u8 (B8 x2))) (c3 : w.cell? ⟨b, off + 3, none⟩ = some (.int .u8 (B8 x3))) (c4 : w.cell? ⟨b, off + 4, none⟩ = some (.int .u8 (B8 x4))) :
 Calls Tryz.prog 106 #[.slice (some ⟨b, off, none⟩) 5 c] w (Gives (.int .u64 (W64 (x4.setWidth 64 * 4294967296#64 ||| x3.setWidth 64 * 16777216#64 ||| x2.setWidth 64 * 65536#64 ||| x1.setWidth 64 * 256#64 ||| x0.setWidth 64))) w) := by
 go_enter Tryz.func106, Tryz.ntmps106
 go_wp2
 go_ret
 exact ⟨rfl, rfl⟩
set_option maxHeartbeats 1600000 in
theorem Tail_at6 (c : Nat) (b off : Nat) (x0 x1 x2 x3 x4 x5 : BitVec 8) (w : World) (c0 : w.cell? ⟨b, off, none⟩ = some (.int .u8 (B8 x0))) (c1 : w.cell? ⟨b, off + 1, none⟩ = some (.int .u8 (B8 x1))) (c2 : w.cell? ⟨b, off + 2, none⟩ = some (.int .u8 (B8 x2))) (c3 : w.cell? ⟨b, off + 3, none⟩ = some (.int .u8 (B8 x3))) (c4 : w.cell? ⟨b, off + 4, none⟩ = some (.int .u8 (B8 x4))) (c5 : w.cell? ⟨b, off + 5, none⟩ = some (.int .u8 (B8 x5))) :
 Calls Tryz.prog 106 #[.slice (some ⟨b, off, none⟩) 6 c] w (Gives (.int .u64 (W64 (x5.setWidth 64 * 1099511627776#64 ||| x4.setWidth 64 * 4294967296#64 ||| x3.setWidth 64 * 16777216#64 ||| x2.setWidth 64 * 65536#64 ||| x1.setWidth 64 * 256#64 ||| x0.setWidth 64))) w) := by
 go_enter Tryz.func106, Tryz.ntmps106
 go_wp2
 go_ret
 exact ⟨rfl, rfl⟩
set_option maxHeartbeats 1600000 in
theorem Tail_at7 (c : Nat) (b off : Nat) (x0 x1 x2 x3 x4 x5 x6 : BitVec 8) (w : World) (c0 : w.cell? ⟨b, off, none⟩ = some (.int .u8 (B8 x0))) (c1 : w.cell? ⟨b, off + 1, none⟩ = some (.int .u8 (B8 x1))) (c2 : w.cell? ⟨b, off + 2, none⟩ = some (.int .u8 (B8 x2))) (c3 : w.cell? ⟨b, off + 3, none⟩ = some (.int .u8 (B8 x3))) (c4 : w.cell? ⟨b, off + 4, none⟩ = some (.int .u8 (B8 x4))) (c5 : w.cell? ⟨b, off + 5, none⟩ = some (.int .u8 (B8 x5))) (c6 : w.cell? ⟨b, off + 6, none⟩ = some (.int .u8 (B8 x6))) :
 Calls Tryz.prog 106 #[.slice (some ⟨b, off, none⟩) 7 c] w (Gives (.int .u64 (W64 (x6.setWidth 64 * 281474976710656#64 ||| x5.setWidth 64 * 1099511627776#64 ||| x4.setWidth 64 * 4294967296#64 ||| x3.setWidth 64 * 16777216#64 ||| x2.setWidth 64 * 65536#64 ||| x1.setWidth 64 * 256#64 ||| x0.setWidth 64))) w) := by
 go_enter Tryz.func106, Tryz.ntmps106
 go_wp2
 go_ret
 exact ⟨rfl, rfl⟩
set_option maxHeartbeats 1600000 in
theorem Tail_at8 (n : Nat) (c : Nat) (b off : Nat) (x0 x1 x2 x3 x4 x5 x6 x7 : BitVec 8) (w : World) (h8 : 8 ≤ n) (hn : n ≤ 9223372036854775807) (c0 : w.cell? ⟨b, off, none⟩ = some (.int .u8 (B8 x0))) (c1 : w.cell? ⟨b, off + 1, none⟩ = some (.int .u8 (B8 x1))) (c2 : w.cell? ⟨b, off + 2, none⟩ = some (.int .u8 (B8 x2))) (c3 : w.cell? ⟨b, off + 3, none⟩ = some (.int .u8 (B8 x3))) (c4 : w.cell? ⟨b, off + 4, none⟩ = some (.int .u8 (B8 x4))) (c5 : w.cell? ⟨b, off + 5, none⟩ = some (.int .u8 (B8 x5))) (c6 : w.cell? ⟨b, off + 6, none⟩ = some (.int .u8 (B8 x6))) (c7 : w.cell? ⟨b, off + 7, none⟩ = some (.int .u8 (B8 x7))) :
 Calls Tryz.prog 106 #[.slice (some ⟨b, off, none⟩) n c] w (Gives (.int .u64 (W64 (x7.setWidth 64 * 72057594037927936#64 ||| x6.setWidth 64 * 281474976710656#64 ||| x5.setWidth 64 * 1099511627776#64 ||| x4.setWidth 64 * 4294967296#64 ||| x3.setWidth 64 * 16777216#64 ||| x2.setWidth 64 * 65536#64 ||| x1.setWidth 64 * 256#64 ||| x0.setWidth 64))) w) := by
 rcases (show n = 8 ∨ (8 : Int) < (n : Int) by omega) with rfl | h9
 all_goals
  go_enter Tryz.func106, Tryz.ntmps106
  go_wp2
  go_ret
  exact ⟨rfl, rfl⟩
theorem Tail_any (a : Option Addr) (n c : Nat) (l : Bytes) (w : World) (h : IsBytes w a n c l) :
 Calls Tryz.prog 106 #[.slice a n c] w (Gives (.int .u64 (W64 (le (l.take 8)))) w) := by
 have hn : n ≤ 9223372036854775807 := by have := h.2.1; have := h.2.2.1; omega
 have hlen : l.length = n := h.1
 rw [le_tail]
 by_cases h0 : n = 0
 · subst h0
   simp only [getD_past l 0 (by omega), getD_past l 1 (by omega), getD_past l 2 (by omega), getD_past l 3 (by omega), getD_past l 4 (by omega), getD_past l 5 (by omega), getD_past l 6 (by omega), getD_past l 7 (by omega)]
   exact Tail_at0 c a w
 · obtain ⟨b, off, rfl, hc⟩ := h.known (by omega)
   by_cases h1 : n = 1
   · subst h1
     simp only [getD_past l 1 (by omega), getD_past l 2 (by omega), getD_past l 3 (by omega), getD_past l 4 (by omega), getD_past l 5 (by omega), getD_past l 6 (by omega), getD_past l 7 (by omega), BitVec.setWidth_zero, BitVec.zero_mul, BitVec.zero_or]
     exact Tail_at1 c b off _ w (hc 0 (by omega))
   by_cases h2 : n = 2
   · subst h2
     simp only [getD_past l 2 (by omega), getD_past l 3 (by omega), getD_past l 4 (by omega), getD_past l 5 (by omega), getD_past l 6 (by omega), getD_past l 7 (by omega), BitVec.setWidth_zero, BitVec.zero_mul, BitVec.zero_or]
     exact Tail_at2 c b off _ _ w (hc 0 (by omega)) (hc 1 (by omega))
   by_cases h3 : n = 3
   · subst h3
     simp only [getD_past l 3 (by omega), getD_past l 4 (by omega), getD_past l 5 (by omega), getD_past l 6 (by omega), getD_past l 7 (by omega), BitVec.setWidth_zero, BitVec.zero_mul, BitVec.zero_or]
     exact Tail_at3 c b off _ _ _ w (hc 0 (by omega)) (hc 1 (by omega)) (hc 2 (by omega))
   by_cases h4 : n = 4
   · subst h4
     simp only [getD_past l 4 (by omega), getD_past l 5 (by omega), getD_past l 6 (by omega), getD_past l 7 (by omega), BitVec.setWidth_zero, BitVec.zero_mul, BitVec.zero_or]
     exact Tail_at4 c b off _ _ _ _ w (hc 0 (by omega)) (hc 1 (by omega)) (hc 2 (by omega)) (hc 3 (by omega))
   by_cases h5 : n = 5
   · subst h5
     simp only [getD_past l 5 (by omega), getD_past l 6 (by omega), getD_past l 7 (by omega), BitVec.setWidth_zero, BitVec.zero_mul, BitVec.zero_or]
     exact Tail_at5 c b off _ _ _ _ _ w (hc 0 (by omega)) (hc 1 (by omega)) (hc 2 (by omega)) (hc 3 (by omega)) (hc 4 (by omega))
   by_cases h6 : n = 6
   · subst h6
     simp only [getD_past l 6 (by omega), getD_past l 7 (by omega), BitVec.setWidth_zero, BitVec.zero_mul, BitVec.zero_or]
     exact Tail_at6 c b off _ _ _ _ _ _ w (hc 0 (by omega)) (hc 1 (by omega)) (hc 2 (by omega)) (hc 3 (by omega)) (hc 4 (by omega)) (hc 5 (by omega))
   by_cases h7 : n = 7
   · subst h7
     simp only [getD_past l 7 (by omega), BitVec.setWidth_zero, BitVec.zero_mul, BitVec.zero_or]
     exact Tail_at7 c b off _ _ _ _ _ _ _ w (hc 0 (by omega)) (hc 1 (by omega)) (hc 2 (by omega)) (hc 3 (by omega)) (hc 4 (by omega)) (hc 5 (by omega)) (hc 6 (by omega))
   exact Tail_at8 n c b off _ _ _ _ _ _ _ _ w (by omega) hn (hc 0 (by omega)) (hc 1 (by omega)) (hc 2 (by omega)) (hc 3 (by omega)) (hc 4 (by omega)) (hc 5 (by omega)) (hc 6 (by omega)) (hc 7 (by omega))
set_option maxHeartbeats 400000 in
theorem Le32_yes (a : Option Addr) (n c : Nat) (l : Bytes) (at_ : Int) (w : World) (h : IsBytes w a n c l) (h0 : 0 ≤ at_) (h1 : at_ + 4 ≤ n) :
 Calls Tryz.prog 52 #[.slice a n c, .int .i64 at_] w (Gives (.tuple #[.int .u32 (W32 ((le ((l.drop at_.toNat).take 4)).setWidth 32)), .bool true]) w) := by
 have hn : n ≤ 9223372036854775807 := by have := h.2.1; have := h.2.2.1; omega
 have hc := h.2.1
 obtain ⟨k, rfl⟩ := Int.eq_ofNat_of_zero_le h0
 rw [Int.toNat_natCast]
 have hcut := Lib.hid (h.cut k (k + 4) c (n' := 4) (c' := c - k) (by omega) (by omega) (by omega) (by omega) (by omega) rfl)
 clear h
 go_enter Tryz.func52, Tryz.ntmps52
 go_wp2_with (go_at_call 106; refine (Tail_any _ _ _ ((l.drop k).take 4) _ ?_).mono ?_; (have h := hcut.out; simpa using h); rintro e w' ⟨rfl, rfl⟩)
 go_ret2
 exact ⟨ret_w32b (by rw [List.take_of_length_le (by rw [List.length_take]; omega)]) rfl, rfl⟩
theorem Le32_no (a : Option Addr) (n c : Nat) (at_ : Int) (w : World) (hn : n ≤ 9223372036854775807) (h2 : at_ ≤ 9223372036854775807) (h1 : at_ < 0 ∨ (n : Int) < at_ + 4) :
 Calls Tryz.prog 52 #[.slice a n c, .int .i64 at_] w (Gives (.tuple #[.int .u32 0, .bool false]) w) := by
 by_cases h0 : at_ < 0
 · clear h1
   go_enter Tryz.func52, Tryz.ntmps52
   go_wp2
   go_ret2
   exact ⟨rfl, rfl⟩
 · have h3 : (n : Int) - 4 < at_ := by omega
   have h4 : 0 ≤ at_ := by omega
   clear h1 h0
   go_enter Tryz.func52, Tryz.ntmps52
   go_wp2
   go_ret2
   exact ⟨rfl, rfl⟩
set_option maxHeartbeats 400000 in
theorem Le64_yes (a : Option Addr) (n c : Nat) (l : Bytes) (at_ : Int) (w : World) (h : IsBytes w a n c l) (h0 : 0 ≤ at_) (h1 : at_ + 8 ≤ n) :
 Calls Tryz.prog 54 #[.slice a n c, .int .i64 at_] w (Gives (.tuple #[.int .u64 (W64 (le ((l.drop at_.toNat).take 8))), .bool true]) w) := by
 have hn : n ≤ 9223372036854775807 := by have := h.2.1; have := h.2.2.1; omega
 have hc := h.2.1
 obtain ⟨k, rfl⟩ := Int.eq_ofNat_of_zero_le h0
 rw [Int.toNat_natCast]
 have hcut := Lib.hid (h.cut k (k + 8) c (n' := 8) (c' := c - k) (by omega) (by omega) (by omega) (by omega) (by omega) rfl)
 clear h
 go_enter Tryz.func54, Tryz.ntmps54
 go_wp2_with (go_at_call 106; refine (Tail_any _ _ _ ((l.drop k).take 8) _ ?_).mono ?_; (have h := hcut.out; simpa using h); rintro e w' ⟨rfl, rfl⟩)
 go_ret2
 exact ⟨ret_w64b (by rw [List.take_of_length_le (by rw [List.length_take]; omega)]) rfl, rfl⟩
theorem Le64_no (a : Option Addr) (n c : Nat) (at_ : Int) (w : World) (hn : n ≤ 9223372036854775807) (h2 : at_ ≤ 9223372036854775807) (h1 : at_ < 0 ∨ (n : Int) < at_ + 8) :
 Calls Tryz.prog 54 #[.slice a n c, .int .i64 at_] w (Gives (.tuple #[.int .u64 0, .bool false]) w) := by
 by_cases h0 : at_ < 0
 · clear h1
   go_enter Tryz.func54, Tryz.ntmps54
   go_wp2
   go_ret2
   exact ⟨rfl, rfl⟩
 · have h3 : (n : Int) - 8 < at_ := by omega
   have h4 : 0 ≤ at_ := by omega
   clear h1 h0
   go_enter Tryz.func54, Tryz.ntmps54
   go_wp2
   go_ret2
   exact ⟨rfl, rfl⟩
set_option maxHeartbeats 800000 in
theorem refNum_any (a : Option Addr) (n c : Nat) (l : Bytes) (at_ m : Int) (w : World) (h : IsBytes w a n c l) (h0 : 0 ≤ at_) (h1 : at_ + m ≤ 9223372036854775807) (h2 : 0 ≤ m) (h3 : m ≤ 64) :
 Calls Tryz.prog 28 #[.slice a n c, .int .i64 at_, .int .i64 m] w (Gives (.int .u64 (W64 (le ((l.drop at_.toNat).take m.toNat)))) w) := by
 have hn : n ≤ 9223372036854775807 := by have := h.2.1; have := h.2.2.1; omega
 obtain ⟨p, rfl⟩ := Int.eq_ofNat_of_zero_le h0
 obtain ⟨k, rfl⟩ := Int.eq_ofNat_of_zero_le h2
 rw [Int.toNat_natCast, Int.toNat_natCast]
 have hcell : ∀ i, i < n → ∃ b off, a = some ⟨b, off, none⟩ ∧ w.cell? ⟨b, off + i, none⟩ = some (.int .u8 (B8 (l.getD i 0))) := h.2.2.2.2
 have hlen := Lib.hid h.1
 clear h
 go_enter Tryz.func28, Tryz.ntmps28
 go_wp2
 go_loop [7, 8] (fun x i => ∃ j : Nat, j ≤ k ∧ i = .int .i64 ((j : Int) - 1) ∧ x = .int .u64 (W64 (le ((l.drop (p + j)).take (k - j))))) (fun _ i => (intOf i + 1).toNat)
 case atStart => exact ⟨k, Nat.le_refl _, rfl, by rw [Nat.sub_self]; rfl⟩
 case round =>
  obtain ⟨j, hj, rfl, rfl⟩ := hrel
  by_cases hz : j = 0
  · subst hz
    have hneg : ((0 : Nat) : Int) - 1 = -1 := by omega
    rw [hneg]
    go_wp2
    go_ret
    exact ⟨ret_w64 (by simp), rfl⟩
  · obtain ⟨i, rfl⟩ : ∃ i, j = i + 1 := ⟨j - 1, by omega⟩
    have e1 : ((i + 1 : Nat) : Int) - 1 = (i : Int) := by omega
    rw [e1]
    have hs : Hid (le ((l.drop (p + i)).take (k - i)) = (l.getD (p + i) 0).setWidth 64 + le ((l.drop (p + (i + 1))).take (k - (i + 1))) * 256#64) := by
     have := le_step l (p + i) (k - (i + 1))
     rw [show k - (i + 1) + 1 = k - i by omega, show p + i + 1 = p + (i + 1) by omega] at this
     exact this
    generalize le ((l.drop (p + (i + 1))).take (k - (i + 1))) = y at hs ⊢
    by_cases hlt : p + i < n
    · obtain ⟨b, off, rfl, hc⟩ := hcell (p + i) hlt
      generalize l.getD (p + i) 0 = z at hs hc
      clear hcell
      go_wp2
      go_round
      case rel => exact ⟨i, by omega, rfl, by rw [hs.out, BitVec.add_comm]⟩
      case measure => simp [intOf]
    · have hz : l.getD (p + i) 0 = 0#8 := getD_past l _ (by rw [hlen.out]; omega)
      rw [hz] at hs
      clear hcell hz
      go_wp2
      go_round
      case rel => exact ⟨i, by omega, rfl, by rw [hs.out]; simp⟩
      case measure => simp [intOf]
end Go.Proofs.YtidlpihoafnobaaGreatDoor
namespace Go.Proofs.YtidlpihoafnobaaGreatDoor.StM32
set_option maxRecDepth 100000
open Go.RowKit
def boxCells (s : ST) : List Value := [.int .u32 (W32 s)]
def BoxAt (w : World) (b : Nat) (s : ST) : Prop := w.heap[b]? = some (.cells (boxCells s).toArray 79 (0, 0))
theorem BoxAt.cell {w : World} {b : Nat} {s : ST} (h : BoxAt w b s) (k : Nat) {v : Value} (hk : (boxCells s)[k]? = some v) : w.cell? ⟨b, k, none⟩ = some v := by
 rw [cell_of_row w b k _ _ _ h, List.getElem?_toArray]; exact hk
theorem BoxAt.frozen {w : World} {b : Nat} {s : ST} (h : BoxAt w b s) (k : Nat) : w.frozen? ⟨b, k, none⟩ = false := frozen_of_row w b k _ _ h
theorem BoxAt.lt {w : World} {b : Nat} {s : ST} (h : BoxAt w b s) : b < w.heap.size := (Array.getElem?_eq_some_iff.1 h).1
theorem BoxAt.fr {F : Nat → Prop} {w w' : World} {b : Nat} {s : ST} (h : BoxAt w b s) (k : Fr F w w') (hF : ¬ F b) : BoxAt w' b s := k.heap hF h
def GivesFold (r : ST × Bytes) (w : World) (e : Ending) (w' : World) : Prop := ∃ v, e = .returned (.tuple #[(.int .u32 (W32 r.1)), v]) ∧ Owns w' w.heap.size v r.2 ∧ Fr No w w'
theorem own_ge {w : World} {base : Nat} {v : Value} {l : Bytes} (h : Owns w base v l) {x : Nat} (hx : v.ownBlock = some x) : base ≤ x := by
 rcases h.2 with ⟨rfl, _⟩ | ⟨g, cap, cur, rfl, hb, _⟩
 · simp [Value.ownBlock] at hx
 · simp [Value.ownBlock] at hx; omega
def FoldAt (G : ST → Bytes → ST) (size : Nat) (w0 : World) (r : ST × Bytes) (u v : Value) (wr : World) (n : Nat) : Prop :=
 ∃ a c l s, u = .int .u32 (W32 s) ∧ v = .slice a n c ∧ IsBytes w0 a n c l ∧ n ≤ 1099511627776 ∧ Fr No w0 wr ∧ foldF G size s l = r
set_option maxHeartbeats 4000000 in
theorem Fold_any (E : World → Prop) (G : ST → Bytes → ST) (sz : Int) (size : Nat) (s : ST) (q : Nat) (a : Option Addr) (n c : Nat) (l : Bytes) (w : World)
 (hkeep : ∀ w', Fr No w w' → E w') (hstep : Hid (Steps E G size q)) (h1 : -9223372036854775808 ≤ sz) (h2 : sz ≤ 9223372036854775807) (hsz : sizeOk sz = size) (h : IsBytes w a n c l) (hn : n ≤ 1099511627776) :
 Calls Tryz.prog 115 #[.int .i64 sz, (.int .u32 (W32 s)), (.func (.func 116) #[.agg #[]] #[]), .slice a n c] w (GivesFold (foldF G size s l) w) := by
 obtain ⟨r, hr⟩ : ∃ r, r = foldF G size s l := ⟨_, rfl⟩
 rw [← hr]
 have hz1 : 1 ≤ size := by have := sizeOk_bd sz; omega
 have hz2 : size ≤ 64 := by have := sizeOk_bd sz; omega
 go_enter Tryz.func115, Tryz.ntmps115
 go_wp2_with (first | (go_at_call 180; refine (sized_any _ _ h1 h2).mono ?_; rintro e w' ⟨rfl, rfl⟩; rw [hsz]) | (go_at_call 181; refine (stepped_any q _).mono ?_; rintro e w' ⟨rfl, rfl⟩))
 have hloop : FoldAt G size w r (.int .u32 (W32 s)) (.slice a n c) w n := ⟨a, c, l, s, rfl, rfl, h, hn, Fr.refl No w, hr.symm⟩
 clear h hn hr hsz
 go_loopw [1, 3] (fun u v wr => ∃ m, FoldAt G size w r u v wr m) (fun _ v _ => match v with | .slice _ m _ => m | _ => 0)
 case atStart => exact ⟨_, hloop⟩
 case round =>
  obtain ⟨m, a', c', l', s', rfl, rfl, hb0, hm', hfr', hr'⟩ := hrel
  clear hloop
  have hb' := hb0.no hfr'
  have hlen' := Lib.hid hb'.1
  have hc' : m ≤ c' := hb'.2.1
  have hc'' : c' ≤ 9223372036854775807 := hb'.2.2.1
  by_cases hlt : size ≤ m
  · have i1 : (size : Int) ≤ (m : Int) := by omega
    have i2 : (size : Int) ≤ (c' : Int) := by omega
    have hcut := Lib.hid (hb'.head size size (n' := size) (c' := size) hlt (Nat.le_refl _) (by omega) rfl rfl)
    go_wp2_with fail
    refine (Clone_any _ _ _ (l'.take size) _ hcut.out (by omega)).mono ?_
    rintro e w2 ⟨v2, rfl, ho2, hf2⟩
    obtain ⟨a2, c2, rfl, hb2, _⟩ := ho2.bytes
    have hl2 : (l'.take size).length = size := by rw [List.length_take, hlen'.out]; omega
    rw [hl2] at hb2 ⊢
    have hL2 := Lib.hid hl2
    clear hl2 ho2
    go_wp2_with fail
    refine (hstep.out _ _ _ _ _ _ (hkeep w2 (hfr'.no hf2)) hb2 hL2.out).mono ?_
    rintro e w3 ⟨rfl, hf3⟩
    have hcut2 := hb0.cut_to_end size (n' := m - size) (c' := c' - size) hlt rfl rfl
    have hfe : Fr No w w3 := (hfr'.no hf2).no hf3
    clear hb2 hcut
    go_wp2_with fail
    go_roundw
    case rel => exact ⟨m - size, _, _, _, _, rfl, rfl, hcut2, by omega, hfe, by rw [← hr']; exact (foldF_step hz1 (by rw [hlen'.out]; exact hlt)).symm⟩
    case measure => simp; omega
  · have i1 : (m : Int) < (size : Int) := by omega
    go_wp2_with fail
    refine (Clone_any _ _ _ l' _ hb' (by omega)).mono ?_
    rintro e w2 ⟨v2, rfl, ho2, hf2⟩
    go_wp2_with fail
    go_ret2
    have hsh : foldF G size s' l' = (s', l') := foldF_short (by rw [hlen'.out]; omega)
    refine ⟨v2, ?_, ?_, ?_⟩
    · rw [← hr', hsh]; rfl
    · rw [← hr', hsh]; exact ho2.mono hfr'.size
    · exact hfr'.no hf2
end Go.Proofs.YtidlpihoafnobaaGreatDoor.StM32
namespace Go.Proofs.YtidlpihoafnobaaGreatDoor.StM32
set_option maxRecDepth 100000
open Go.RowKit
theorem Long_any {w : World} {sb : Nat} {size : Int} {f s : ST} {q : Nat} {tv : Value} {lo : BitVec 64} (hst : StreamAt w sb size f s q tv lo) : Calls Tryz.prog 122 #[.pointer (some ⟨sb, 0, none⟩)] w (Gives (.int .u64 (W64 lo)) w) := by
 have clo : w.cell? ⟨sb, 5, none⟩ = some (.int .u64 (W64 lo)) := hst.cell 5 rfl
 go_enter Tryz.func122, Tryz.ntmps122
 go_wp2_with (go_at_call 185; refine (made_any hst).mono ?_; rintro e w' ⟨rfl, rfl⟩)
 go_ret
 exact ⟨rfl, rfl⟩
theorem Tail_any {w : World} {sb : Nat} {size : Int} {f s : ST} {q : Nat} {tv : Value} {lo : BitVec 64} {base : Nat} {tl : Bytes} (hst : StreamAt w sb size f s q tv lo) (ho : Owns w base tv tl) (hl : tl.length ≤ 1099511627776) : Calls Tryz.prog 121 #[.pointer (some ⟨sb, 0, none⟩)] w (GivesBytes tl w) := by
 obtain ⟨ta, tc, rfl, hb, _⟩ := ho.bytes
 have ctl : w.cell? ⟨sb, 4, none⟩ = some (.slice ta tl.length tc) := hst.cell 4 rfl
 go_enter Tryz.func121, Tryz.ntmps121
 go_wp2_with (first | (go_at_call 185; refine (made_any hst).mono ?_; rintro e w' ⟨rfl, rfl⟩) | (go_at_call 182; refine (Clone_any _ _ _ tl _ hb (by omega)).mono ?_; rintro e w2 ⟨v2, rfl, ho2, hf2⟩))
 go_ret
 exact ⟨v2, rfl, ho2, hf2⟩
theorem State_any {w : World} {sb : Nat} {size : Int} {f s : ST} {q : Nat} {tv : Value} {lo : BitVec 64} (hst : StreamAt w sb size f s q tv lo) : Calls Tryz.prog 120 #[.pointer (some ⟨sb, 0, none⟩)] w (GivesS s w) := by
 have cn0 : w.cell? ⟨sb, 2, none⟩ = some (.int .u32 (W32 s)) := hst.cell 2 rfl
 go_enter Tryz.func120, Tryz.ntmps120
 go_wp2_with (go_at_call 185; refine (made_any hst).mono ?_; rintro e w' ⟨rfl, rfl⟩)
 go_ret
 exact ⟨rfl, Fr.refl _ _⟩
@[go_sem] theorem run_store_fv (k : Nat) (x y : Array Value) (w : World) (a : Addr) (md : Mode) : (store a (.func (.func k) x y) md).run Tryz.prog w = stored Tryz.prog w a (.func (.func k) x y) md := run_store Tryz.prog w a _ md rfl
end Go.Proofs.YtidlpihoafnobaaGreatDoor.StM32
namespace Go.Proofs.YtidlpihoafnobaaGreatDoor.StM32
set_option maxRecDepth 100000
open Go.RowKit
structure Live (w0 w : World) (sb size : Nat) (f s : ST) (q : Nat) (tl : Bytes) (lo : BitVec 64) (tv : Value) : Prop where
 st : StreamAt w sb size f s q tv lo
 ow : Owns w w0.heap.size tv tl
 ge : w0.heap.size ≤ sb
 fr : Fr No w0 w
theorem own_lt {w : World} {base : Nat} {v : Value} {l : Bytes} (h : Owns w base v l) {x : Nat} (hx : v.ownBlock = some x) : x < w.heap.size := by
 obtain ⟨a, c, rfl, _, hb⟩ := h.bytes
 cases a with
 | none => simp [Value.ownBlock] at hx
 | some y => simp [Value.ownBlock] at hx; have := (hb y rfl).2; omega
section
variable {w0 w w' : World} {sb size : Nat} {f s : ST} {q : Nat} {tl : Bytes} {lo : BitVec 64} {tv : Value}
theorem Live.lt (h : Live w0 w sb size f s q tl lo tv) : ∀ x, Foot sb tv x → x < w.heap.size := fun x hx => by
 rcases hx with rfl | hx
 · exact h.st.lt
 · exact own_lt h.ow hx
theorem Live.keep {F : Nat → Prop} (h : Live w0 w sb size f s q tl lo tv) (k : Fr F w w') (hF : ∀ x, F x → ¬ Foot sb tv x) (hA : ∀ x, F x → w0.heap.size ≤ x) : Live w0 w' sb size f s q tl lo tv :=
 ⟨h.st.fr k (fun g => hF _ g (.inl rfl)), h.ow.fr k (fun x hx g => hF x g (.inr hx)), h.ge, h.fr.trans k (fun x hx => .inr (hA x hx))⟩
theorem Live.no (h : Live w0 w sb size f s q tl lo tv) (k : Fr No w w') : Live w0 w' sb size f s q tl lo tv := h.keep k (fun _ g => g.elim) (fun _ g => g.elim)
theorem Live.drew (h : Live w0 w sb size f s q tl lo tv) : Live w0 w.drew sb size f s q tl lo tv := h.no (Fr.refl No w).drew
theorem Live.con (h : Live w0 w sb size f s q tl lo tv) : Keeps w (Foot sb tv) := fun x o ho hc g => by
 rcases g with rfl | g
 · obtain ⟨cs, T, e, hT⟩ := hc
   have hst := h.st
   unfold StreamAt at hst
   rw [hst] at ho
   rw [e] at ho
   simp at ho
   rw [← ho.2] at hT
   exact absurd hT (by decide)
 · exact Keeps.own h.ow x o ho hc g
def Sep (sb : Nat) (tv : Value) (sb' : Nat) (tv' : Value) : Prop := ∀ x, Foot sb tv x → ¬ Foot sb' tv' x
theorem Sep.symm {sb sb' : Nat} {tv tv' : Value} (h : Sep sb tv sb' tv') : Sep sb' tv' sb tv := fun x h1 h2 => h x h2 h1
end
end Go.Proofs.YtidlpihoafnobaaGreatDoor.StM32
namespace Go.Proofs.YtidlpihoafnobaaGreatDoor
set_option maxRecDepth 100000
open Go.RowKit
def Row4 (w : World) (b : Nat) (T : TypeId) (v0 v1 v2 v3 : Value) : Prop := w.heap[b]? = some (.cells #[v0, v1, v2, v3] T (0, 0))
section
variable {w w' : World} {b : Nat} {T : TypeId} {v0 v1 v2 v3 : Value}
theorem Row4.c0 (h : Row4 w b T v0 v1 v2 v3) : w.cell? ⟨b, 0, none⟩ = some v0 := by rw [cell_of_row w b 0 _ _ _ h]; rfl
theorem Row4.c1 (h : Row4 w b T v0 v1 v2 v3) : w.cell? ⟨b, 1, none⟩ = some v1 := by rw [cell_of_row w b 1 _ _ _ h]; rfl
theorem Row4.c2 (h : Row4 w b T v0 v1 v2 v3) : w.cell? ⟨b, 2, none⟩ = some v2 := by rw [cell_of_row w b 2 _ _ _ h]; rfl
theorem Row4.c3 (h : Row4 w b T v0 v1 v2 v3) : w.cell? ⟨b, 3, none⟩ = some v3 := by rw [cell_of_row w b 3 _ _ _ h]; rfl
theorem Row4.fz (h : Row4 w b T v0 v1 v2 v3) (k : Nat) : w.frozen? ⟨b, k, none⟩ = false := frozen_of_row w b k _ _ h
theorem Row4.lt (h : Row4 w b T v0 v1 v2 v3) : b < w.heap.size := (Array.getElem?_eq_some_iff.1 h).1
theorem Row4.fr {F : Nat → Prop} (h : Row4 w b T v0 v1 v2 v3) (k : Fr F w w') (hF : ¬ F b) : Row4 w' b T v0 v1 v2 v3 := k.heap hF h
theorem Row4.no (h : Row4 w b T v0 v1 v2 v3) (k : Fr No w w') : Row4 w' b T v0 v1 v2 v3 := k.heap (fun h => h) h
theorem Row4.put0 (h : Row4 w b T v0 v1 v2 v3) (x : Value) : Row4 (w.setCell ⟨b, 0, none⟩ x) b T x v1 v2 v3 := by unfold Row4; rw [heap_setCell_same w b 0 _ _ x h]; rfl
theorem Row4.put1 (h : Row4 w b T v0 v1 v2 v3) (x : Value) : Row4 (w.setCell ⟨b, 1, none⟩ x) b T v0 x v2 v3 := by unfold Row4; rw [heap_setCell_same w b 1 _ _ x h]; rfl
theorem Row4.put2 (h : Row4 w b T v0 v1 v2 v3) (x : Value) : Row4 (w.setCell ⟨b, 2, none⟩ x) b T v0 v1 x v3 := by unfold Row4; rw [heap_setCell_same w b 2 _ _ x h]; rfl
theorem Row4.put3 (h : Row4 w b T v0 v1 v2 v3) (x : Value) : Row4 (w.setCell ⟨b, 3, none⟩ x) b T v0 v1 v2 x := by unfold Row4; rw [heap_setCell_same w b 3 _ _ x h]; rfl
theorem row_put4 (h : Row4 w b T v0 v1 v2 v3) (x0 x1 x2 x3 : Value) : Row4 ((((w.setCell ⟨b, 0, none⟩ x0).setCell ⟨b, 1, none⟩ x1).setCell ⟨b, 2, none⟩ x2).setCell ⟨b, 3, none⟩ x3) b T x0 x1 x2 x3 :=
 (((h.put0 x0).put1 x1).put2 x2).put3 x3
theorem fr_put4 (w : World) (b : Nat) (x0 x1 x2 x3 : Value) : Fr (fun x => x = b) w ((((w.setCell ⟨b, 0, none⟩ x0).setCell ⟨b, 1, none⟩ x1).setCell ⟨b, 2, none⟩ x2).setCell ⟨b, 3, none⟩ x3) :=
 ((((Fr.refl (fun x => x = b) w).setCell (p := ⟨b, 0, none⟩) (.inl rfl) _).setCell (p := ⟨b, 1, none⟩) (.inl rfl) _).setCell (p := ⟨b, 2, none⟩) (.inl rfl) _).setCell (p := ⟨b, 3, none⟩) (.inl rfl) _
theorem row4_new (w : World) (T : TypeId) (v0 v1 v2 v3 : Value) : Row4 (w.alloc (.cells #[v0, v1, v2, v3] T)) w.heap.size T v0 v1 v2 v3 := heap_alloc_new w _
end
end Go.Proofs.YtidlpihoafnobaaGreatDoor
namespace Go.Proofs.YtidlpihoafnobaaGreatDoor.StM32
set_option maxRecDepth 100000
open Go.RowKit
def wordF (k : BitVec 32) : BitVec 32 := rotl32 (k * 3432918353#32) 15 * 461845907#32
def stepG (s : ST) (l : Bytes) : ST := rotl32 (s ^^^ wordF ((le (l.take 4)).setWidth 32)) 13 * 5#32 + 3864292196#32
def endF (s : ST) (l : Bytes) (lo : BitVec 64) : BitVec 32 := fmix32 (s ^^^ wordF ((le (l.take 4)).setWidth 32) ^^^ lo.setWidth 32)
def firstF (sd : BitVec 32) : ST := sd
def oneF (sd : BitVec 32) (l : Bytes) : BitVec 32 := endF (foldF stepG 4 (firstF sd) l).1 (foldF stepG 4 (firstF sd) l).2 (BitVec.ofNat 64 l.length)
theorem word_any (k : BitVec 32) (w : World) : Calls Tryz.prog 183 #[.int .u32 (W32 k)] w (Gives (.int .u32 (W32 (wordF k))) w) := by
 go_enter Tryz.func183, Tryz.ntmps183
 go_wp2_with (go_at_call 184; refine (Rot32_any _ _ _).mono ?_; rintro e w' ⟨rfl, rfl⟩)
 go_ret
 exact ⟨rfl, rfl⟩
theorem refWord_any (k : BitVec 32) (w : World) : Calls Tryz.prog 62 #[.int .u32 (W32 k)] w (Gives (.int .u32 (W32 (wordF k))) w) := by
 go_enter Tryz.func62, Tryz.ntmps62
 go_wp2_with (go_at_call 68; refine (refRot32_any _ _ _ (by omega) (by omega)).mono ?_; rintro e w' ⟨rfl, rfl⟩)
 go_ret
 exact ⟨rfl, rfl⟩
set_option maxHeartbeats 400000 in
theorem step_any (s : ST) (a : Option Addr) (n c : Nat) (l : Bytes) (w : World) (hb : IsBytes w a n c l) (hl : l.length = 4) :
 Calls Tryz.prog 116 #[.agg #[], .int .u32 (W32 s), .slice a n c] w (GivesS (stepG s l) w) := by
 have e : l.take 4 = l.take 8 := by rw [List.take_of_length_le (by omega), List.take_of_length_le (by omega)]
 have HE := Lib.hid e
 have hb1 := hb.no ((Fr.refl No w).alloc (.cells #[] 186))
 clear hl hb e
 unfold stepG
 rw [HE.out]
 clear HE
 go_enter Tryz.func116, Tryz.ntmps116
 go_wp2_with fail
 refine (Go.Proofs.YtidlpihoafnobaaGreatDoor.Tail_any _ _ _ l _ hb1).mono ?_
 rintro e w' ⟨rfl, rfl⟩
 go_wp2_with fail
 refine (word_any _ _).mono ?_
 rintro e w' ⟨rfl, rfl⟩
 go_wp2_with fail
 refine (Rot32_any _ _ _).mono ?_
 rintro e w' ⟨rfl, rfl⟩
 go_wp2_with fail
 go_ret
 exact ⟨rfl, (Fr.refl No w).alloc _⟩
theorem steps_any : Hid (Steps (fun _ => True) stepG 4 0) := Lib.hid (fun w s a n c l _ hb hl => step_any s a n c l w hb hl)
theorem xor_word0 (s : BitVec 32) : s ^^^ wordF 0#32 = s := by
 have : wordF 0#32 = 0#32 := by decide
 rw [this]; simp
set_option maxHeartbeats 400000 in
theorem end_any (s : ST) (a : Option Addr) (n c : Nat) (l : Bytes) (lo : BitVec 64) (w : World) (hb : IsBytes w a n c l) (hl : l.length < 4) :
 Calls Tryz.prog 117 #[.agg #[], .int .u32 (W32 s), .slice a n c, .int .u64 (W64 lo)] w (GivesNew (.int .u32 (W32 (endF s l lo))) w) := by
 have e : l.take 4 = l.take 8 := by rw [List.take_of_length_le (by omega), List.take_of_length_le (by omega)]
 have hb1 := hb.no ((Fr.refl No w).alloc (.cells #[] 186))
 have hn := hb.1
 unfold endF
 rcases Nat.eq_zero_or_pos n with h0 | h0
 · subst h0
   obtain rfl : l = [] := List.eq_nil_of_length_eq_zero hn
   have e0 : (le (List.take 4 ([] : Bytes))).setWidth 32 = 0#32 := rfl
   rw [e0, xor_word0]
   clear hn hb1 hb hl e e0
   go_enter Tryz.func117, Tryz.ntmps117
   go_wp2_with fail
   refine (Fmix32_any _ _).mono ?_
   rintro e w' ⟨rfl, rfl⟩
   go_wp2_with fail
   go_ret
   exact ⟨rfl, (Fr.refl No w).alloc _⟩
 · have i1 : (0 : Int) < (n : Int) := by omega
   have HE := Lib.hid e
   clear hn hb hl e
   rw [HE.out]
   clear HE
   go_enter Tryz.func117, Tryz.ntmps117
   go_wp2_with fail
   refine (Go.Proofs.YtidlpihoafnobaaGreatDoor.Tail_any _ _ _ l _ hb1).mono ?_
   rintro e w' ⟨rfl, rfl⟩
   go_wp2_with fail
   refine (word_any _ _).mono ?_
   rintro e w' ⟨rfl, rfl⟩
   go_wp2_with fail
   refine (Fmix32_any _ _).mono ?_
   rintro e w' ⟨rfl, rfl⟩
   go_wp2_with fail
   go_ret
   exact ⟨rfl, (Fr.refl No w).alloc _⟩
def lanesV (s : ST) : Value := .agg #[.int .u64 (W64 (s.setWidth 64)), .int .u64 0, .int .u64 0, .int .u64 0]
set_option maxHeartbeats 400000 in
theorem refEnd_any (sv : Value) (x0 : BitVec 64) (s : ST) (v1 v2 v3 : Value) (a : Option Addr) (n c : Nat) (l : Bytes) (lo : BitVec 64) (w : World) (hs : Hid (x0.setWidth 32 = s)) (h : IsBytes w a n c l) :
 Calls Tryz.prog 34 #[sv, .agg #[.int .u64 (W64 x0), v1, v2, v3], .slice a n c, .int .u64 (W64 lo)] w (GivesNew (.int .u32 (W32 (endF s l lo))) w) := by
 have hF := (Fr.refl No w).alloc (.cells #[.int .u64 (W64 x0), v1, v2, v3] 31)
 have hR := row4_new w 31 (.int .u64 (W64 x0)) v1 v2 v3
 have h1 := h.no hF
 unfold endF
 go_enter Tryz.func34, Tryz.ntmps34
 go_wp2_with fail
 generalize w.alloc (.cells #[.int .u64 (W64 x0), v1, v2, v3] 31) = w1 at hF hR h1 ⊢
 refine rsq (by kernel_rfl) [(0, 1), (1, 1), (2, 1), (3, 1), (4, 0), (5, 1), (6, 0), (7, 1), (8, 1)] (by kernel_rfl) ?_
 have hS0 : Fr No w1 w1.drew := (Fr.refl No w1).drew
 iterate 4 refine tq _ rfl rfl (by intro w9 h9; have cc := (hR.no h9).c0; clear h9; go_simp; try with_reducible rfl) ?_; simp only [es1, es2, es3]
 refine wpSeq_next rfl rfl (fun K hK => ?_)
 go_wp2_with fail
 refine (refNum_any _ _ _ l 0 4 _ (h1.no hS0) (by omega) (by omega) (by omega) (by omega)).mono ?_
 rintro e w' ⟨rfl, rfl⟩
 refine hK.out _ _ (fun _ => hS0) ?_
 clear hK K
 refine tp _ rfl rfl ?_; simp only [es1, es2, es3]
 refine wpSeq_next rfl rfl (fun K hK => ?_)
 go_wp2_with fail
 refine (refWord_any _ _).mono ?_
 rintro e w' ⟨rfl, rfl⟩
 refine hK.out _ _ (fun _ => hS0) ?_
 clear hK K
 iterate 2 refine tp _ rfl rfl ?_; simp only [es1, es2, es3]
 refine wpSeq_done ?_
 go_wp2_with fail
 refine (refFmix32_any _ _).mono ?_
 rintro e w' ⟨rfl, rfl⟩
 go_wp2_with fail
 go_ret
 refine ⟨congrArg (fun z => Ending.returned (.int .u32 (W32 z))) ?_, hF.drew⟩
 rw [← hs.out]; simp [mod32]
end Go.Proofs.YtidlpihoafnobaaGreatDoor.StM32
