/- Load -/
import Derived.Test.YtidlpihoafnobaaGreatPPut
set_option linter.unusedVariables false
set_option linter.unusedSimpArgs false
namespace Go.Proofs.YtidlpihoafnobaaGreat
set_option maxRecDepth 100000
open Go.RowKit
theorem getD_past (l : Bytes) (i : Nat) (h : l.length ≤ i) : l.getD i 0 = 0#8 := by
 rw [List.getD_eq_getElem?_getD, List.getElem?_eq_none h]; rfl
set_option maxHeartbeats 1600000 in
theorem Tail_at0 (c : Nat) (a : Option Addr) (w : World)  :
 Calls Tryz.prog 175 #[.slice a 0 c] w (Gives (.int .u64 (W64 (0#64))) w) := by
 go_enter Tryz.func175, Tryz.ntmps175
 go_wp2
 go_ret
 exact ⟨rfl, rfl⟩
set_option maxHeartbeats 1600000 in
theorem Tail_at1 (c : Nat) (b off : Nat) (x0 : BitVec 8) (w : World) (c0 : w.cell? ⟨b, off, none⟩ = some (.int .u8 (B8 x0))) :
 Calls Tryz.prog 175 #[.slice (some ⟨b, off, none⟩) 1 c] w (Gives (.int .u64 (W64 (x0.setWidth 64))) w) := by
 go_enter Tryz.func175, Tryz.ntmps175
 go_wp2
 go_ret
 exact ⟨rfl, rfl⟩
set_option maxHeartbeats 1600000 in
theorem Tail_at2 (c : Nat) (b off : Nat) (x0 x1 : BitVec 8) (w : World) (c0 : w.cell? ⟨b, off, none⟩ = some (.int .u8 (B8 x0))) (c1 : w.cell? ⟨b, off + 1, none⟩ = some (.int .u8 (B8 x1))) :
 Calls Tryz.prog 175 #[.slice (some ⟨b, off, none⟩) 2 c] w (Gives (.int .u64 (W64 (x1.setWidth 64 * 256#64 ||| x0.setWidth 64))) w) := by
 go_enter Tryz.func175, Tryz.ntmps175
 go_wp2
 go_ret
 exact ⟨rfl, rfl⟩
set_option maxHeartbeats 1600000 in
theorem Tail_at3 (c : Nat) (b off : Nat) (x0 x1 x2 : BitVec 8) (w : World) (c0 : w.cell? ⟨b, off, none⟩ = some (.int .u8 (B8 x0))) (c1 : w.cell? ⟨b, off + 1, none⟩ = some (.int .u8 (B8 x1))) (c2 : w.cell? ⟨b, off + 2, none⟩ = some (.int .u8 (B8 x2))) :
 Calls Tryz.prog 175 #[.slice (some ⟨b, off, none⟩) 3 c] w (Gives (.int .u64 (W64 (x2.setWidth 64 * 65536#64 ||| x1.setWidth 64 * 256#64 ||| x0.setWidth 64))) w) := by
 go_enter Tryz.func175, Tryz.ntmps175
 go_wp2
 go_ret
 exact ⟨rfl, rfl⟩
set_option maxHeartbeats 1600000 in
theorem Tail_at4 (c : Nat) (b off : Nat) (x0 x1 x2 x3 : BitVec 8) (w : World) (c0 : w.cell? ⟨b, off, none⟩ = some (.int .u8 (B8 x0))) (c1 : w.cell? ⟨b, off + 1, none⟩ = some (.int .u8 (B8 x1))) (c2 : w.cell? ⟨b, off + 2, none⟩ = some (.int .u8 (B8 x2))) (c3 : w.cell? ⟨b, off + 3, none⟩ = some (.int .u8 (B8 x3))) :
 Calls Tryz.prog 175 #[.slice (some ⟨b, off, none⟩) 4 c] w (Gives (.int .u64 (W64 (x3.setWidth 64 * 16777216#64 ||| x2.setWidth 64 * 65536#64 ||| x1.setWidth 64 * 256#64 ||| x0.setWidth 64))) w) := by
 go_enter Tryz.func175, Tryz.ntmps175
 go_wp2
 go_ret
 exact ⟨rfl, rfl⟩
set_option maxHeartbeats 1600000 in
theorem Tail_at5 (c : Nat) (b off : Nat) (x0 x1 x2 x3 x4 : BitVec 8) (w : World) (c0 : w.cell? ⟨b, off, none⟩ = some (.int .u8 (B8 x0))) (c1 : w.cell? ⟨b, off + 1, none⟩ = some (.int .u8 (B8 x1))) (c2 : w.cell? ⟨b, off + 2, none⟩ = some (.int .u8 (B8 x2))) (c3 : w.cell? ⟨b, off + 3, none⟩ = some (.int .u8 (B8 x3))) (c4 : w.cell? ⟨b, off + 4, none⟩ = some (.int .u8 (B8 x4))) :
 Calls Tryz.prog 175 #[.slice (some ⟨b, off, none⟩) 5 c] w (Gives (.int .u64 (W64 (x4.setWidth 64 * 4294967296#64 ||| x3.setWidth 64 * 16777216#64 ||| x2.setWidth 64 * 65536#64 ||| x1.setWidth 64 * 256#64 ||| x0.setWidth 64))) w) := by
 go_enter Tryz.func175, Tryz.ntmps175
 go_wp2
 go_ret
 exact ⟨rfl, rfl⟩
set_option maxHeartbeats 1600000 in
theorem Tail_at6 (c : Nat) (b off : Nat) (x0 x1 x2 x3 x4 x5 : BitVec 8) (w : World) (c0 : w.cell? ⟨b, off, none⟩ = some (.int .u8 (B8 x0))) (c1 : w.cell? ⟨b, off + 1, none⟩ = some (.int .u8 (B8 x1))) (c2 : w.cell? ⟨b, off + 2, none⟩ = some (.int .u8 (B8 x2))) (c3 : w.cell? ⟨b, off + 3, none⟩ = some (.int .u8 (B8 x3))) (c4 : w.cell? ⟨b, off + 4, none⟩ = some (.int .u8 (B8 x4))) (c5 : w.cell? ⟨b, off + 5, none⟩ = some (.int .u8 (B8 x5))) :
 Calls Tryz.prog 175 #[.slice (some ⟨b, off, none⟩) 6 c] w (Gives (.int .u64 (W64 (x5.setWidth 64 * 1099511627776#64 ||| x4.setWidth 64 * 4294967296#64 ||| x3.setWidth 64 * 16777216#64 ||| x2.setWidth 64 * 65536#64 ||| x1.setWidth 64 * 256#64 ||| x0.setWidth 64))) w) := by
 go_enter Tryz.func175, Tryz.ntmps175
 go_wp2
 go_ret
 exact ⟨rfl, rfl⟩
set_option maxHeartbeats 1600000 in
theorem Tail_at7 (c : Nat) (b off : Nat) (x0 x1 x2 x3 x4 x5 x6 : BitVec 8) (w : World) (c0 : w.cell? ⟨b, off, none⟩ = some (.int .u8 (B8 x0))) (c1 : w.cell? ⟨b, off + 1, none⟩ = some (.int .u8 (B8 x1))) (c2 : w.cell? ⟨b, off + 2, none⟩ = some (.int .u8 (B8 x2))) (c3 : w.cell? ⟨b, off + 3, none⟩ = some (.int .u8 (B8 x3))) (c4 : w.cell? ⟨b, off + 4, none⟩ = some (.int .u8 (B8 x4))) (c5 : w.cell? ⟨b, off + 5, none⟩ = some (.int .u8 (B8 x5))) (c6 : w.cell? ⟨b, off + 6, none⟩ = some (.int .u8 (B8 x6))) :
 Calls Tryz.prog 175 #[.slice (some ⟨b, off, none⟩) 7 c] w (Gives (.int .u64 (W64 (x6.setWidth 64 * 281474976710656#64 ||| x5.setWidth 64 * 1099511627776#64 ||| x4.setWidth 64 * 4294967296#64 ||| x3.setWidth 64 * 16777216#64 ||| x2.setWidth 64 * 65536#64 ||| x1.setWidth 64 * 256#64 ||| x0.setWidth 64))) w) := by
 go_enter Tryz.func175, Tryz.ntmps175
 go_wp2
 go_ret
 exact ⟨rfl, rfl⟩
set_option maxHeartbeats 1600000 in
theorem Tail_at8 (n : Nat) (c : Nat) (b off : Nat) (x0 x1 x2 x3 x4 x5 x6 x7 : BitVec 8) (w : World) (h8 : 8 ≤ n) (hn : n ≤ 9223372036854775807) (c0 : w.cell? ⟨b, off, none⟩ = some (.int .u8 (B8 x0))) (c1 : w.cell? ⟨b, off + 1, none⟩ = some (.int .u8 (B8 x1))) (c2 : w.cell? ⟨b, off + 2, none⟩ = some (.int .u8 (B8 x2))) (c3 : w.cell? ⟨b, off + 3, none⟩ = some (.int .u8 (B8 x3))) (c4 : w.cell? ⟨b, off + 4, none⟩ = some (.int .u8 (B8 x4))) (c5 : w.cell? ⟨b, off + 5, none⟩ = some (.int .u8 (B8 x5))) (c6 : w.cell? ⟨b, off + 6, none⟩ = some (.int .u8 (B8 x6))) (c7 : w.cell? ⟨b, off + 7, none⟩ = some (.int .u8 (B8 x7))) :
 Calls Tryz.prog 175 #[.slice (some ⟨b, off, none⟩) n c] w (Gives (.int .u64 (W64 (x7.setWidth 64 * 72057594037927936#64 ||| x6.setWidth 64 * 281474976710656#64 ||| x5.setWidth 64 * 1099511627776#64 ||| x4.setWidth 64 * 4294967296#64 ||| x3.setWidth 64 * 16777216#64 ||| x2.setWidth 64 * 65536#64 ||| x1.setWidth 64 * 256#64 ||| x0.setWidth 64))) w) := by
 rcases (show n = 8 ∨ (8 : Int) < (n : Int) by omega) with rfl | h9
 all_goals
  go_enter Tryz.func175, Tryz.ntmps175
  go_wp2
  go_ret
  exact ⟨rfl, rfl⟩
theorem Tail_any (a : Option Addr) (n c : Nat) (l : Bytes) (w : World) (h : IsBytes w a n c l) :
 Calls Tryz.prog 175 #[.slice a n c] w (Gives (.int .u64 (W64 (le (l.take 8)))) w) := by
 have hn : n ≤ 9223372036854775807 := by have := h.2.1; have := h.2.2.1; omega
 have hlen : l.length = n := h.1
 rw [le_tail]
 by_cases h0 : n = 0
 · subst h0
   simp only [getD_past l 0 (by omega), getD_past l 1 (by omega), getD_past l 2 (by omega), getD_past l 3 (by omega), getD_past l 4 (by omega), getD_past l 5 (by omega), getD_past l 6 (by omega), getD_past l 7 (by omega)]
   exact Tail_at0 c a w
 · obtain ⟨b, off, rfl, hc⟩ := h.known (by omega)
   by_cases h1 : n = 1
   · subst h1
     simp only [getD_past l 1 (by omega), getD_past l 2 (by omega), getD_past l 3 (by omega), getD_past l 4 (by omega), getD_past l 5 (by omega), getD_past l 6 (by omega), getD_past l 7 (by omega), BitVec.setWidth_zero, BitVec.zero_mul, BitVec.zero_or]
     exact Tail_at1 c b off _ w (hc 0 (by omega))
   by_cases h2 : n = 2
   · subst h2
     simp only [getD_past l 2 (by omega), getD_past l 3 (by omega), getD_past l 4 (by omega), getD_past l 5 (by omega), getD_past l 6 (by omega), getD_past l 7 (by omega), BitVec.setWidth_zero, BitVec.zero_mul, BitVec.zero_or]
     exact Tail_at2 c b off _ _ w (hc 0 (by omega)) (hc 1 (by omega))
   by_cases h3 : n = 3
   · subst h3
     simp only [getD_past l 3 (by omega), getD_past l 4 (by omega), getD_past l 5 (by omega), getD_past l 6 (by omega), getD_past l 7 (by omega), BitVec.setWidth_zero, BitVec.zero_mul, BitVec.zero_or]
     exact Tail_at3 c b off _ _ _ w (hc 0 (by omega)) (hc 1 (by omega)) (hc 2 (by omega))
   by_cases h4 : n = 4
   · subst h4
     simp only [getD_past l 4 (by omega), getD_past l 5 (by omega), getD_past l 6 (by omega), getD_past l 7 (by omega), BitVec.setWidth_zero, BitVec.zero_mul, BitVec.zero_or]
     exact Tail_at4 c b off _ _ _ _ w (hc 0 (by omega)) (hc 1 (by omega)) (hc 2 (by omega)) (hc 3 (by omega))
   by_cases h5 : n = 5
   · subst h5
     simp only [getD_past l 5 (by omega), getD_past l 6 (by omega), getD_past l 7 (by omega), BitVec.setWidth_zero, BitVec.zero_mul, BitVec.zero_or]
     exact Tail_at5 c b off _ _ _ _ _ w (hc 0 (by omega)) (hc 1 (by omega)) (hc 2 (by omega)) (hc 3 (by omega)) (hc 4 (by omega))
   by_cases h6 : n = 6
   · subst h6
     simp only [getD_past l 6 (by omega), getD_past l 7 (by omega), BitVec.setWidth_zero, BitVec.zero_mul, BitVec.zero_or]
     exact Tail_at6 c b off _ _ _ _ _ _ w (hc 0 (by omega)) (hc 1 (by omega)) (hc 2 (by omega)) (hc 3 (by omega)) (hc 4 (by omega)) (hc 5 (by omega))
   by_cases h7 : n = 7
   · subst h7
     simp only [getD_past l 7 (by omega), BitVec.setWidth_zero, BitVec.zero_mul, BitVec.zero_or]
     exact Tail_at7 c b off _ _ _ _ _ _ _ w (hc 0 (by omega)) (hc 1 (by omega)) (hc 2 (by omega)) (hc 3 (by omega)) (hc 4 (by omega)) (hc 5 (by omega)) (hc 6 (by omega))
   exact Tail_at8 n c b off _ _ _ _ _ _ _ _ w (by omega) hn (hc 0 (by omega)) (hc 1 (by omega)) (hc 2 (by omega)) (hc 3 (by omega)) (hc 4 (by omega)) (hc 5 (by omega)) (hc 6 (by omega)) (hc 7 (by omega))
set_option maxHeartbeats 400000 in
theorem Le32_yes (a : Option Addr) (n c : Nat) (l : Bytes) (at_ : Int) (w : World) (h : IsBytes w a n c l) (h0 : 0 ≤ at_) (h1 : at_ + 4 ≤ n) :
 Calls Tryz.prog 201 #[.slice a n c, .int .i64 at_] w (Gives (.tuple #[.int .u32 (W32 ((le ((l.drop at_.toNat).take 4)).setWidth 32)), .bool true]) w) := by
 have hn : n ≤ 9223372036854775807 := by have := h.2.1; have := h.2.2.1; omega
 have hc := h.2.1
 obtain ⟨k, rfl⟩ := Int.eq_ofNat_of_zero_le h0
 rw [Int.toNat_natCast]
 have hcut := Lib.hid (h.cut k (k + 4) c (n' := 4) (c' := c - k) (by omega) (by omega) (by omega) (by omega) (by omega) rfl)
 clear h
 go_enter Tryz.func201, Tryz.ntmps201
 go_wp2_with (go_at_call 175; refine (Tail_any _ _ _ ((l.drop k).take 4) _ ?_).mono ?_; (have h := hcut.out; simpa using h); rintro e w' ⟨rfl, rfl⟩)
 go_ret2
 exact ⟨ret_w32b (by rw [List.take_of_length_le (by rw [List.length_take]; omega)]) rfl, rfl⟩
theorem Le32_no (a : Option Addr) (n c : Nat) (at_ : Int) (w : World) (hn : n ≤ 9223372036854775807) (h2 : at_ ≤ 9223372036854775807) (h1 : at_ < 0 ∨ (n : Int) < at_ + 4) :
 Calls Tryz.prog 201 #[.slice a n c, .int .i64 at_] w (Gives (.tuple #[.int .u32 0, .bool false]) w) := by
 by_cases h0 : at_ < 0
 · clear h1
   go_enter Tryz.func201, Tryz.ntmps201
   go_wp2
   go_ret2
   exact ⟨rfl, rfl⟩
 · have h3 : (n : Int) - 4 < at_ := by omega
   have h4 : 0 ≤ at_ := by omega
   clear h1 h0
   go_enter Tryz.func201, Tryz.ntmps201
   go_wp2
   go_ret2
   exact ⟨rfl, rfl⟩
set_option maxHeartbeats 400000 in
theorem Le64_yes (a : Option Addr) (n c : Nat) (l : Bytes) (at_ : Int) (w : World) (h : IsBytes w a n c l) (h0 : 0 ≤ at_) (h1 : at_ + 8 ≤ n) :
 Calls Tryz.prog 230 #[.slice a n c, .int .i64 at_] w (Gives (.tuple #[.int .u64 (W64 (le ((l.drop at_.toNat).take 8))), .bool true]) w) := by
 have hn : n ≤ 9223372036854775807 := by have := h.2.1; have := h.2.2.1; omega
 have hc := h.2.1
 obtain ⟨k, rfl⟩ := Int.eq_ofNat_of_zero_le h0
 rw [Int.toNat_natCast]
 have hcut := Lib.hid (h.cut k (k + 8) c (n' := 8) (c' := c - k) (by omega) (by omega) (by omega) (by omega) (by omega) rfl)
 clear h
 go_enter Tryz.func230, Tryz.ntmps230
 go_wp2_with (go_at_call 175; refine (Tail_any _ _ _ ((l.drop k).take 8) _ ?_).mono ?_; (have h := hcut.out; simpa using h); rintro e w' ⟨rfl, rfl⟩)
 go_ret2
 exact ⟨ret_w64b (by rw [List.take_of_length_le (by rw [List.length_take]; omega)]) rfl, rfl⟩
theorem Le64_no (a : Option Addr) (n c : Nat) (at_ : Int) (w : World) (hn : n ≤ 9223372036854775807) (h2 : at_ ≤ 9223372036854775807) (h1 : at_ < 0 ∨ (n : Int) < at_ + 8) :
 Calls Tryz.prog 230 #[.slice a n c, .int .i64 at_] w (Gives (.tuple #[.int .u64 0, .bool false]) w) := by
 by_cases h0 : at_ < 0
 · clear h1
   go_enter Tryz.func230, Tryz.ntmps230
   go_wp2
   go_ret2
   exact ⟨rfl, rfl⟩
 · have h3 : (n : Int) - 8 < at_ := by omega
   have h4 : 0 ≤ at_ := by omega
   clear h1 h0
   go_enter Tryz.func230, Tryz.ntmps230
   go_wp2
   go_ret2
   exact ⟨rfl, rfl⟩
set_option maxHeartbeats 800000 in
theorem refNum_any (a : Option Addr) (n c : Nat) (l : Bytes) (at_ m : Int) (w : World) (h : IsBytes w a n c l) (h0 : 0 ≤ at_) (h1 : at_ + m ≤ 9223372036854775807) (h2 : 0 ≤ m) (h3 : m ≤ 64) :
 Calls Tryz.prog 89 #[.slice a n c, .int .i64 at_, .int .i64 m] w (Gives (.int .u64 (W64 (le ((l.drop at_.toNat).take m.toNat)))) w) := by
 have hn : n ≤ 9223372036854775807 := by have := h.2.1; have := h.2.2.1; omega
 obtain ⟨p, rfl⟩ := Int.eq_ofNat_of_zero_le h0
 obtain ⟨k, rfl⟩ := Int.eq_ofNat_of_zero_le h2
 rw [Int.toNat_natCast, Int.toNat_natCast]
 have hcell : ∀ i, i < n → ∃ b off, a = some ⟨b, off, none⟩ ∧ w.cell? ⟨b, off + i, none⟩ = some (.int .u8 (B8 (l.getD i 0))) := h.2.2.2.2
 have hlen := Lib.hid h.1
 clear h
 go_enter Tryz.func89, Tryz.ntmps89
 go_wp2
 go_loop [7, 8] (fun x i => ∃ j : Nat, j ≤ k ∧ i = .int .i64 ((j : Int) - 1) ∧ x = .int .u64 (W64 (le ((l.drop (p + j)).take (k - j))))) (fun _ i => (intOf i + 1).toNat)
 case atStart => exact ⟨k, Nat.le_refl _, rfl, by rw [Nat.sub_self]; rfl⟩
 case round =>
  obtain ⟨j, hj, rfl, rfl⟩ := hrel
  by_cases hz : j = 0
  · subst hz
    have hneg : ((0 : Nat) : Int) - 1 = -1 := by omega
    rw [hneg]
    go_wp2
    go_ret
    exact ⟨ret_w64 (by simp), rfl⟩
  · obtain ⟨i, rfl⟩ : ∃ i, j = i + 1 := ⟨j - 1, by omega⟩
    have e1 : ((i + 1 : Nat) : Int) - 1 = (i : Int) := by omega
    rw [e1]
    have hs : Hid (le ((l.drop (p + i)).take (k - i)) = (l.getD (p + i) 0).setWidth 64 + le ((l.drop (p + (i + 1))).take (k - (i + 1))) * 256#64) := by
     have := le_step l (p + i) (k - (i + 1))
     rw [show k - (i + 1) + 1 = k - i by omega, show p + i + 1 = p + (i + 1) by omega] at this
     exact this
    generalize le ((l.drop (p + (i + 1))).take (k - (i + 1))) = y at hs ⊢
    by_cases hlt : p + i < n
    · obtain ⟨b, off, rfl, hc⟩ := hcell (p + i) hlt
      generalize l.getD (p + i) 0 = z at hs hc
      clear hcell
      go_wp2
      go_round
      case rel => exact ⟨i, by omega, rfl, by rw [hs.out, BitVec.add_comm]⟩
      case measure => simp [intOf]
    · have hz : l.getD (p + i) 0 = 0#8 := getD_past l _ (by rw [hlen.out]; omega)
      rw [hz] at hs
      clear hcell hz
      go_wp2
      go_round
      case rel => exact ⟨i, by omega, rfl, by rw [hs.out]; simp⟩
      case measure => simp [intOf]
end Go.Proofs.YtidlpihoafnobaaGreat
