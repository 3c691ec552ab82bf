/- Rot Put Seq Row2 StrTell -/
import Derived.Test.YtidlpihoafnobaaGreatDoorProg
import Derived.Test.YtidlpihoafnobaaGreatDoorPM86Plain
set_option linter.unusedVariables false
set_option linter.unusedSimpArgs false
namespace Go.Proofs.YtidlpihoafnobaaGreatDoor
set_option maxRecDepth 100000
open Go.RowKit
set_option maxHeartbeats 400000 in
theorem Rot32_any (x : BitVec 32) (n : Int) (w : World) :
 Calls Tryz.prog 184 #[.int .u32 (W32 x), .int .i64 n] w (Gives (.int .u32 (W32 (rotl32 x n))) w) := by
 go_enter Tryz.func184, Tryz.ntmps184
 go_wp2
 go_ret
 exact ⟨ret_w32 (rot32_prog x n), rfl⟩
set_option maxHeartbeats 400000 in
theorem Rot64_any (x : BitVec 64) (n : Int) (w : World) :
 Calls Tryz.prog 203 #[.int .u64 (W64 x), .int .i64 n] w (Gives (.int .u64 (W64 (rotl64 x n))) w) := by
 go_enter Tryz.func203, Tryz.ntmps203
 go_wp2
 go_ret
 exact ⟨ret_w64 (rot64_prog x n), rfl⟩
set_option maxHeartbeats 400000 in
theorem refLeft_any (n m : Int) (w : World) (h1 : -9223372036854775808 ≤ n) (h2 : n ≤ 9223372036854775807) (h3 : 1 ≤ m) (h4 : m ≤ 64) :
 Calls Tryz.prog 111 #[.int .i64 n, .int .i64 m] w (Gives (.int .i64 (n % m)) w) := by
 have hm : -m < n.tmod m ∧ n.tmod m < m := ⟨Int.lt_tmod_of_pos n (by omega), Int.tmod_lt_of_pos n (by omega)⟩
 have he : n % m = if n.tmod m < 0 then n.tmod m + m else n.tmod m := by
  have h5 := Int.emod_nonneg n (show m ≠ 0 by omega)
  have h6 := Int.emod_lt_of_pos n (show 0 < m by omega)
  have h7 : (m.natAbs : Int) = m := Int.natAbs_of_nonneg (by omega)
  rw [Int.tmod_eq_emod]
  by_cases hn : 0 ≤ n ∨ m ∣ n
  · rw [if_pos hn]; simp only [Int.ofNat_zero, Int.sub_zero]; rw [if_neg (by omega)]
  · rw [if_neg hn, h7, if_pos (by omega)]; omega
 go_enter Tryz.func111, Tryz.ntmps111
 go_wp2
 · go_ret
   exact ⟨ret_i64 (by rw [he, if_pos (by assumption)]), rfl⟩
 · go_ret
   exact ⟨ret_i64 (by rw [he, if_neg (by omega)]), rfl⟩
set_option maxHeartbeats 400000 in
theorem refRot32_any (x : BitVec 32) (n : Int) (w : World) (h1 : -9223372036854775808 ≤ n) (h2 : n ≤ 9223372036854775807) :
 Calls Tryz.prog 68 #[.int .u32 (W32 x), .int .i64 n] w (Gives (.int .u32 (W32 (rotl32 x n))) w) := by
 have h5 := Int.emod_nonneg n (show (32 : Int) ≠ 0 by omega)
 have h6 := Int.emod_lt_of_pos n (show (0 : Int) < 32 by omega)
 go_enter Tryz.func68, Tryz.ntmps68
 go_wp2
 go_loop [0, 5] (fun y i => ∃ k : Nat, (k : Int) ≤ n % 32 ∧ i = .int .i64 k ∧ y = .int .u32 (W32 (x.rotateLeft k))) (fun _ i => 64 - (intOf i).toNat)
 case atStart => exact ⟨0, by simpa using h5, rfl, by rw [rotl32_zero]⟩
 case round =>
  obtain ⟨k, hk, rfl, rfl⟩ := hrel
  by_cases hlt : (k : Int) < n % 32
  · go_wp2_with (go_at_call 111; refine (refLeft_any _ _ _ h1 h2 (by omega) (by omega)).mono ?_; rintro e w' ⟨rfl, rfl⟩)
    go_round
    case rel => exact ⟨k + 1, by omega, by go_num, by rw [step32 x k (by omega)]⟩
    case measure => simp [intOf]; omega
  · go_wp2_with (go_at_call 111; refine (refLeft_any _ _ _ h1 h2 (by omega) (by omega)).mono ?_; rintro e w' ⟨rfl, rfl⟩)
    go_ret
    exact ⟨ret_w32 (by unfold rotl32; rw [show (n % 32).toNat = k by omega]), rfl⟩
set_option maxHeartbeats 400000 in
theorem refRot64_any (x : BitVec 64) (n : Int) (w : World) (h1 : -9223372036854775808 ≤ n) (h2 : n ≤ 9223372036854775807) :
 Calls Tryz.prog 69 #[.int .u64 (W64 x), .int .i64 n] w (Gives (.int .u64 (W64 (rotl64 x n))) w) := by
 have h5 := Int.emod_nonneg n (show (64 : Int) ≠ 0 by omega)
 have h6 := Int.emod_lt_of_pos n (show (0 : Int) < 64 by omega)
 go_enter Tryz.func69, Tryz.ntmps69
 go_wp2
 go_loop [0, 5] (fun y i => ∃ k : Nat, (k : Int) ≤ n % 64 ∧ i = .int .i64 k ∧ y = .int .u64 (W64 (x.rotateLeft k))) (fun _ i => 128 - (intOf i).toNat)
 case atStart => exact ⟨0, by simpa using h5, rfl, by rw [rotl64_zero]⟩
 case round =>
  obtain ⟨k, hk, rfl, rfl⟩ := hrel
  by_cases hlt : (k : Int) < n % 64
  · go_wp2_with (go_at_call 111; refine (refLeft_any _ _ _ h1 h2 (by omega) (by omega)).mono ?_; rintro e w' ⟨rfl, rfl⟩)
    go_round
    case rel => exact ⟨k + 1, by omega, by go_num, by rw [step64 x k (by omega)]⟩
    case measure => simp [intOf]; omega
  · go_wp2_with (go_at_call 111; refine (refLeft_any _ _ _ h1 h2 (by omega) (by omega)).mono ?_; rintro e w' ⟨rfl, rfl⟩)
    go_ret
    exact ⟨ret_w64 (by unfold rotl64; rw [show (n % 64).toNat = k by omega]), rfl⟩
end Go.Proofs.YtidlpihoafnobaaGreatDoor
namespace Go.Proofs.YtidlpihoafnobaaGreatDoor
set_option maxRecDepth 100000
open Go.RowKit
def leb (x : BitVec 64) (k : Nat) : Bytes := (List.range k).map fun i => (x >>> (8 * i)).setWidth 8
theorem leb_succ (x : BitVec 64) (k : Nat) : leb x (k + 1) = leb x k ++ [(x >>> (8 * k)).setWidth 8] := by simp [leb, List.range_succ]
theorem leb_one (x : BitVec 64) : leb x 1 = [BitVec.setWidth 8 x] := by simp [leb]
theorem leb_length (x : BitVec 64) (k : Nat) : (leb x k).length = k := by simp [leb]
theorem shr8 (x : BitVec 64) (k : Nat) : (x >>> (8 * k)) / 256#64 = x >>> (8 * (k + 1)) := by
 apply BitVec.eq_of_toNat_eq
 rw [BitVec.toNat_udiv, BitVec.toNat_ushiftRight, BitVec.toNat_ushiftRight, Nat.shiftRight_eq_div_pow, Nat.shiftRight_eq_div_pow, Nat.mul_add, Nat.pow_add, Nat.div_div_eq_div_mul]; rfl
theorem mod8 (x : BitVec 64) : BitVec.setWidth 8 (x % 256#64) = BitVec.setWidth 8 x := by
 apply BitVec.eq_of_toNat_eq
 rw [BitVec.toNat_setWidth, BitVec.toNat_setWidth, BitVec.toNat_umod]
 exact Nat.mod_mod _ _
def PutAt (a : Option Addr) (n : Nat) (l : Bytes) (x : BitVec 64) (w : World) (k : Nat) (v : Value) (wr : World) : Prop :=
 (k = 0 ∧ v = .slice (subAddr a 0 n 1) n n ∧ wr = w) ∨ (0 < k ∧ Owns wr w.heap.size v (l ++ leb x k) ∧ Fr No w wr)
set_option maxHeartbeats 1000000 in
theorem put_any (a : Option Addr) (n c : Nat) (l : Bytes) (x : BitVec 64) (m : Nat) (w : World) (h : IsBytes w a n c l) (hm0 : 0 < m) (hm : m ≤ 8) (hr : n + 8 ≤ 140737488355328) :
 Calls Tryz.prog 60 #[.slice a n c, .int .u64 (W64 x), .int .i64 m] w (GivesBytes (l ++ leb x m) w) := by
 have hn : n ≤ c := h.2.1
 have hc : c ≤ 9223372036854775807 := h.2.2.1
 have hcut := Lib.hid (h.head n n (n' := n) (c' := n) (Nat.le_refl _) (Nat.le_refl _) hn rfl rfl)
 have hlen := Lib.hid h.1
 clear h
 go_enter Tryz.func60, Tryz.ntmps60
 go_wp2
 go_loopw [0, 1, 14] (fun v y i wr => ∃ k : Nat, k ≤ m ∧ i = .int .i64 k ∧ y = .int .u64 (W64 (x >>> (8 * k))) ∧ PutAt a n l x w k v wr) (fun _ _ i _ => m - (intOf i).toNat)
 case atStart => exact ⟨0, by omega, rfl, by simp, .inl ⟨rfl, by first | rfl | simp, rfl⟩⟩
 case round =>
  obtain ⟨k, hk, rfl, rfl, hput⟩ := hrel
  by_cases hlt : k < m
  · rcases hput with ⟨rfl, rfl, rfl⟩ | ⟨hk0, hown, hfr⟩
    · have hb0 := hcut.out
      rw [List.take_of_length_le (by rw [hlen.out]; omega)] at hb0
      have hb1 := hb0.no ((Fr.refl No wr).alloc (.cells #[.int .u8 (B8 (BitVec.setWidth 8 x))] 5))
      clear hcut
      go_wp2_with (refine wpList_append_full _ _ _ _ _ _ _ n l rfl hb1 _ 1 1 [BitVec.setWidth 8 x] rfl (by first | exact IsBytes.one _ _ _ | (simp; exact IsBytes.one _ _ _)) (by omega) (by omega) ?_; intro v' w1 hown' hfr')
      go_roundw
      case rel => exact ⟨1, by omega, by go_num, by rw [← shr8]; rfl, .inr ⟨by omega, by rw [leb_one]; exact hown'.mono (by simp), ((Fr.refl No wr).alloc _).no hfr'⟩⟩
      case measure => simp [intOf]; omega
    · have hfl : l.length = n := hlen.out
      go_wp2_with (refine wpList_append_bytes _ _ _ _ _ _ w.heap.size _ (l ++ leb x k) rfl (hown.alloc _) _ _ _ [BitVec.setWidth 8 (x >>> (8 * k))] rfl (IsBytes.one _ _ _) (by rw [List.length_append, leb_length]; omega) (by have := hfr.size; simp; omega) ?_; intro v' w1 hown' hfr' _)
      go_roundw
      case rel => exact ⟨k + 1, by omega, by go_num, by rw [← shr8], .inr ⟨by omega, by rw [leb_succ, ← List.append_assoc]; exact hown', (hfr.alloc _).append hfr' (hown.alloc _) (Nat.le_refl _)⟩⟩
      case measure => simp [intOf]; omega
  · obtain rfl : k = m := by omega
    rcases hput with ⟨rfl, _⟩ | ⟨hk0, hown, hfr⟩
    · omega
    · go_wp2
      go_ret
      exact ⟨_, rfl, hown, hfr⟩
theorem Put64_any (a : Option Addr) (n c : Nat) (l : Bytes) (x : BitVec 64) (w : World) (h : IsBytes w a n c l) (hr : n + 8 ≤ 140737488355328) :
 Calls Tryz.prog 31 #[.slice a n c, .int .u64 (W64 x)] w (GivesBytes (l ++ leb x 8) w) := by
 go_enter Tryz.func31, Tryz.ntmps31
 go_wp2_with (go_at_call 60; refine (put_any a n c l x 8 w h (by omega) (by omega) hr).mono ?_; rintro e w' ⟨v, rfl, hown, hfr⟩)
 go_ret
 exact ⟨v, rfl, hown, hfr⟩
theorem Put32_any (a : Option Addr) (n c : Nat) (l : Bytes) (x : BitVec 32) (w : World) (h : IsBytes w a n c l) (hr : n + 8 ≤ 140737488355328) :
 Calls Tryz.prog 61 #[.slice a n c, .int .u32 (W32 x)] w (GivesBytes (l ++ leb (x.setWidth 64) 4) w) := by
 go_enter Tryz.func61, Tryz.ntmps61
 go_wp2_with (go_at_call 60; refine (put_any a n c l (x.setWidth 64) 4 w h (by omega) (by omega) hr).mono ?_; rintro e w' ⟨v, rfl, hown, hfr⟩)
 go_ret
 exact ⟨v, rfl, hown, hfr⟩
set_option maxHeartbeats 400000 in
theorem refBytes_any (x : BitVec 64) (m : Nat) (w : World) (hm : m ≤ 8) :
 Calls Tryz.prog 40 #[.int .u64 (W64 x), .int .i64 m] w (GivesBytes (leb x m) w) := by
 go_enter Tryz.func40, Tryz.ntmps40
 go_wp2
 go_loopw [0, 5, 6] (fun y v i wr => ∃ k : Nat, k ≤ m ∧ i = .int .i64 k ∧ y = .int .u64 (W64 (x >>> (8 * k))) ∧ Owns wr w.heap.size v (leb x k) ∧ Fr No w wr) (fun _ _ i _ => m - (intOf i).toNat)
 case atStart => exact ⟨0, by omega, rfl, by simp, Owns.nil _ _, Fr.refl _ _⟩
 case round =>
  obtain ⟨k, hk, rfl, rfl, hown, hfr⟩ := hrel
  by_cases hlt : k < m
  · go_wp2_with (refine wpList_append_bytes _ _ _ _ _ _ w.heap.size _ (leb x k) rfl (hown.alloc _) _ _ _ [BitVec.setWidth 8 (x >>> (8 * k) % 256#64)] rfl (IsBytes.one _ _ _) (by rw [leb_length]; omega) (by have := hfr.size; simp; omega) ?_; intro v' w1 hown' hfr' _)
    go_roundw
    case rel => exact ⟨k + 1, by omega, by go_num, by rw [← shr8], by rw [leb_succ, ← mod8]; exact hown', (hfr.alloc _).append hfr' (hown.alloc _) (Nat.le_refl _)⟩
    case measure => simp [intOf]; omega
  · obtain rfl : k = m := by omega
    go_wp2
    go_ret
    exact ⟨_, rfl, hown, hfr⟩
set_option maxHeartbeats 400000 in
theorem refBoth_any (a : Option Addr) (n c : Nat) (l : Bytes) (a2 : Option Addr) (n2 c2 : Nat) (l2 : Bytes) (w : World) (h : IsBytes w a n c l) (h2 : IsBytes w a2 n2 c2 l2) (hr : n + n2 ≤ 140737488355328) :
 Calls Tryz.prog 18 #[.slice a n c, .slice a2 n2 c2] w (GivesBytes (l ++ l2) w) := by
 have hl := Lib.hid h.1
 go_enter Tryz.func18, Tryz.ntmps18
 go_wp2_with (first | (refine wpList_append_bytes _ _ _ _ (.tmp 6) (.tmp 7) w.heap.size _ [] rfl (Owns.nil _ _) _ _ _ l rfl h (by simp; omega) (Nat.le_refl _) ?_; intro v1 w1 hown1 hfr1 _; have hf1 : Fr No w w1 := (Fr.refl No w).append hfr1 (Owns.nil w w.heap.size) (Nat.le_refl _)) | (refine wpList_append_bytes _ _ _ _ (.tmp 9) (.tmp 10) w.heap.size _ ([] ++ l) rfl hown1 _ _ _ l2 rfl (h2.no hf1) (by rw [List.nil_append, hl.out]; omega) hf1.size ?_; intro v2 w2 hown2 hfr2 _))
 go_ret
 exact ⟨_, rfl, hown2, hf1.append hfr2 hown1 (Nat.le_refl _)⟩
theorem refSame_any (a : Option Addr) (n c : Nat) (l : Bytes) (a2 : Option Addr) (n2 c2 : Nat) (l2 : Bytes) (w : World) (h : IsBytes w a n c l) (h2 : IsBytes w a2 n2 c2 l2) :
 Calls Tryz.prog 10 #[.slice a n c, .slice a2 n2 c2] w (Gives (.bool (l == l2)) w) := by
 go_enter Tryz.func10, Tryz.ntmps10
 go_wp2_with (first | refine wpList_string _ _ _ _ (.tmp 5) _ _ _ l rfl h ?_ | refine wpList_string _ _ _ _ (.tmp 7) _ _ _ l2 rfl h2 ?_)
 go_ret
 exact ⟨rfl, rfl⟩
end Go.Proofs.YtidlpihoafnobaaGreatDoor
namespace Go.Proofs.YtidlpihoafnobaaGreatDoor
set_option maxRecDepth 100000
open Go
section
variable {P : Program} {ops : Array Oper} {Q : Exit → Act → World → Prop} {S : World → Prop} {late : Nat → Bool}
def okSeg (ops : Array Oper) (late : Nat → Bool) : List (Nat × Nat) → Array Bool → Array Bool → Bool
 | [], listed, goal => listed == goal
 | (i, 0) :: l, listed, goal => Region.ready .any ops listed == [i] && (!late i || l.all (fun x => x.2 != 1)) && okSeg ops late l (listed.setIfInBounds i true) goal
 | (i, 1) :: l, listed, goal => !late i && Region.free .any ops listed i && (Region.ready .any ops listed).contains i && okSeg ops late l (listed.setIfInBounds i true) goal
 | (i, _ + 2) :: l, listed, goal => late i && Region.free .any ops listed i && (Region.ready .any ops listed).contains i && okSeg ops late l (listed.setIfInBounds i true) goal
def okPart (ops : Array Oper) (late : Nat → Bool) (l : List (Nat × Nat)) (listed goal : Array Bool) : Bool :=
 Region.noSelect ops && lateWaits ops late && okSeg ops late l listed goal
def okRegion (ops : Array Oper) (late : Nat → Bool) (l : List (Nat × Nat)) : Bool :=
 okPart ops late l (Array.replicate ops.size false) (Array.replicate ops.size true) && decide (l.length = ops.size) && (Region.ready .any ops (Array.replicate ops.size true)).isEmpty
def wpSeq (P : Program) (ops : Array Oper) (Q : Exit → Act → World → Prop) (S : World → Prop) (late : Nat → Bool) (R : Act → World → Prop) : List (Nat × Nat) → Act → World → Prop
 | [], a, w => R a w
 | (i, 0) :: l, a, w => ∃ o, ops[i]? = some o ∧ ∀ K : Act → World → Prop, Shut (∀ a' w', (late i = false → S w') → wpSeq P ops Q S late R l a' w' → K a' w') →
  if Region.wanted o (yielded ops a.tmps) then o.wp P a w K Q else K (a.put o.dst undef) w
 | (i, 1) :: l, a, w => ∃ o v, ops[i]? = some o ∧ (∀ c a w, Q (.panic c) (a.put o.dst v) w → Q (.panic c) a w) ∧ YieldsIf P ops S o v a ∧ wpSeq P ops Q S late R l (a.put o.dst v) w
 | (i, _ + 2) :: l, a, w => ∃ o v, ops[i]? = some o ∧ (∀ c a w, Q (.panic c) (a.put o.dst v) w → Q (.panic c) a w) ∧ YieldsIf P ops (fun _ => True) o v a ∧ wpSeq P ops Q S late R l (a.put o.dst v) w
theorem wpLate_of_seg (hs : Region.noSelect ops = true) (hl : lateWaits ops late = true) (fuel : Nat) (goal : Array Bool) : ∀ (l : List (Nat × Nat)) (listed : Array Bool) (a : Act) (w : World), okSeg ops late l listed goal = true →
 ((∃ x ∈ l, x.2 = 1) → S w) → wpSeq P ops Q S late (wpLate P ops Q S late fuel goal) l a w → wpLate P ops Q S late (l.length + fuel) listed a w := by
 intro l
 induction l with
 | nil =>
  intro listed a w hok _ h
  have : listed = goal := by simpa [okSeg] using hok
  subst this
  simpa [wpSeq] using h
 | cons x l ih =>
  intro listed a w hok hS h
  obtain ⟨i, t⟩ := x
  rw [show ((i, t) :: l).length + fuel = (l.length + fuel) + 1 by simp; omega]
  match t, hok, h, hS with
  | 0, hok, h, hS =>
   simp only [okSeg, Bool.and_eq_true, beq_iff_eq] at hok
   obtain ⟨⟨hr, hlt⟩, hok⟩ := hok
   obtain ⟨o, ho, h⟩ := h
   refine ⟨fun h0 => absurd (hr ▸ h0) (by simp), ?_⟩
   rw [hr]
   intro j hj
   obtain rfl : j = i := by simpa using hj
   refine wpOp_step ho fun K hK => ?_
   refine h K (show Shut _ from fun a' w' hS' h' => hK a' w' ⟨hS', ih _ _ _ hok (fun hx => ?_) h'⟩)
   obtain ⟨x, hx, hx1⟩ := hx
   cases hlate : late j with
   | false => exact hS' hlate
   | true =>
    rw [hlate] at hlt
    simp at hlt
    exact absurd hx1 (hlt x.1 x.2 hx)
  | 1, hok, h, hS =>
   simp only [okSeg, Bool.and_eq_true, Bool.not_eq_true'] at hok
   obtain ⟨⟨⟨hlt, hfr⟩, hr⟩, hok⟩ := hok
   obtain ⟨o, v, ho, hQ, hy, h⟩ := h
   exact wpLate_take ho hs hl hlt hfr hr hQ hy (hS ⟨_, List.mem_cons_self, rfl⟩) (ih _ _ _ hok (fun ⟨x, hx, h1⟩ => hS ⟨x, List.mem_cons_of_mem _ hx, h1⟩) h)
  | t + 2, hok, h, hS =>
   simp only [okSeg, Bool.and_eq_true] at hok
   obtain ⟨⟨⟨hlt, hfr⟩, hr⟩, hok⟩ := hok
   obtain ⟨o, v, ho, hQ, hy, h⟩ := h
   exact wpLate_take' ho hs hlt hfr hr hQ hy (ih _ _ _ hok (fun ⟨x, hx, h1⟩ => hS ⟨x, List.mem_cons_of_mem _ hx, h1⟩) h)
theorem wpSeq_mono {R R' : Act → World → Prop} (hR : ∀ a w, R a w → R' a w) : ∀ (l : List (Nat × Nat)) (a : Act) (w : World), wpSeq P ops Q S late R l a w → wpSeq P ops Q S late R' l a w
 | [], a, w, h => hR a w h
 | (i, 0) :: l, a, w, ⟨o, ho, h⟩ => ⟨o, ho, fun K hK => h K (show Shut _ from fun a' w' hS h' => hK.out a' w' hS (wpSeq_mono hR l a' w' h'))⟩
 | (i, 1) :: l, a, w, ⟨o, v, ho, hQ, hy, h⟩ => ⟨o, v, ho, hQ, hy, wpSeq_mono hR l _ _ h⟩
 | (i, _ + 2) :: l, a, w, ⟨o, v, ho, hQ, hy, h⟩ => ⟨o, v, ho, hQ, hy, wpSeq_mono hR l _ _ h⟩
theorem wpLate_seg {a : Act} {w : World} {n : Nat} {listed : Array Bool} (l : List (Nat × Nat)) (fuel : Nat) (goal : Array Bool) (hok : okPart ops late l listed goal = true) (hn : n = l.length + fuel) (hS : S w)
 (h : wpSeq P ops Q S late (wpLate P ops Q S late fuel goal) l a w) : wpLate P ops Q S late n listed a w := by
 subst hn
 simp only [okPart, Bool.and_eq_true] at hok
 obtain ⟨⟨h1, h2⟩, h4⟩ := hok
 exact wpLate_of_seg h1 h2 _ _ _ _ _ _ h4 (fun _ => hS) h
theorem wp_region_seq {id : Nat} {a : Act} {w : World} (hm : P.follows .mixedOrders = true) (S : World → Prop) (late : Nat → Bool) (l : List (Nat × Nat)) (hok : okRegion ops late l = true) (hS : S w.drew)
 (h : wpSeq P ops Q S late (Q .normal) l a w.drew) : (Code.region id ops true).wp P Q a w := by
 simp only [okRegion, Bool.and_eq_true, decide_eq_true_eq] at hok
 obtain ⟨⟨h1, h2⟩, h3⟩ := hok
 refine wp_region_late hm S late hS fun _ => wpLate_seg l 0 (Array.replicate ops.size true) h1 (by omega) hS ?_
 exact wpSeq_mono (fun a w h => wpLate_done (by simpa using h3) h _) l _ _ h
theorem wpSeq_take {R : Act → World → Prop} {i : Nat} {o : Oper} {v : Value} {l : List (Nat × Nat)} {tmps : Array Value} {ds : List Deferred} {w : World} (d : Tmp) (ho : ops[i]? = some o) (hd : o.dst = some d) (hQ : ∀ c a w, Q (.panic c) (a.put o.dst v) w → Q (.panic c) a w) (hy : YieldsIf P ops S o v ⟨tmps, ds⟩)
 (h : wpSeq P ops Q S late R l ⟨tmps.setIfInBounds d v, ds⟩ w) : wpSeq P ops Q S late R ((i, 1) :: l) ⟨tmps, ds⟩ w := ⟨o, v, ho, hQ, hy, by simpa only [Act.put, hd] using h⟩
theorem tp {R : Act → World → Prop} {i : Nat} {o : Oper} {v : Value} {l : List (Nat × Nat)} {tmps : Array Value} {ds : List Deferred} {w : World} (d : Tmp) (ho : ops[i]? = some o) (hd : o.dst = some d)
 (h : wpSeq P ops Q S late R l ⟨tmps.setIfInBounds d v, ds⟩ w) (hQ : ∀ c a w, Q (.panic c) (a.put o.dst v) w → Q (.panic c) a w := by exact fun _ _ _ h => h) (hg : Region.wanted o (yielded ops tmps) = true := by rfl) (hy : ∀ w, S w → (execOp (Act.eval ⟨tmps, ds⟩) o).run P w = .ok (.value v) w := by intro w9 h9; go_simp; try with_reducible rfl) : wpSeq P ops Q S late R ((i, 1) :: l) ⟨tmps, ds⟩ w := wpSeq_take d ho hd hQ (.inl ⟨hg, hy⟩) h
theorem tq {R : Act → World → Prop} {i : Nat} {o : Oper} {v : Value} {l : List (Nat × Nat)} {tmps : Array Value} {ds : List Deferred} {w : World} (d : Tmp) (ho : ops[i]? = some o) (hd : o.dst = some d) (hy : ∀ w, S w → (execOp (Act.eval ⟨tmps, ds⟩) o).run P w = .ok (.value v) w)
 (h : wpSeq P ops Q S late R l ⟨tmps.setIfInBounds d v, ds⟩ w) (hQ : ∀ c a w, Q (.panic c) (a.put o.dst v) w → Q (.panic c) a w := by exact fun _ _ _ h => h) (hg : Region.wanted o (yielded ops tmps) = true := by rfl) : wpSeq P ops Q S late R ((i, 1) :: l) ⟨tmps, ds⟩ w := wpSeq_take d ho hd hQ (.inl ⟨hg, hy⟩) h
theorem rsq {id : Nat} {a : Act} {w : World} (hm : P.follows .mixedOrders = true) (l : List (Nat × Nat)) (hok : okRegion ops (fun _ => false) l = true)
 (h : wpSeq P ops Q (fun w' => Fr No w w') (fun _ => false) (Q .normal) l a w.drew) : (Code.region id ops true).wp P Q a w := wp_region_seq hm (fun w' => Fr No w w') (fun _ => false) l hok (Fr.refl No w).drew h
theorem wpSeq_next {R : Act → World → Prop} {i : Nat} {o : Oper} {l : List (Nat × Nat)} {a : Act} {w : World} (ho : ops[i]? = some o) (hg : Region.wanted o (yielded ops a.tmps) = true)
 (h : ∀ K : Act → World → Prop, Shut (∀ a' w', (late i = false → S w') → wpSeq P ops Q S late R l a' w' → K a' w') → Oper.wp P o a w K Q) : wpSeq P ops Q S late R ((i, 0) :: l) a w :=
 ⟨o, ho, fun K hK => by rw [if_pos hg]; exact h K hK⟩
theorem wpSeq_done {R : Act → World → Prop} {a : Act} {w : World} (h : R a w) : wpSeq P ops Q S late R [] a w := h
theorem wpLate_two {i j : Nat} {oi oj : Oper} {fuel : Nat} {listed : Array Bool} {a : Act} {w : World} (hr : Region.ready .any ops listed = [i, j])
 (hi : ops[i]? = some oi) (hgi : Region.wanted oi (yielded ops a.tmps) = true) (hj : ops[j]? = some oj) (hgj : Region.wanted oj (yielded ops a.tmps) = true)
 (h1 : ∀ K : Act → World → Prop, Shut (∀ a w, (late i = false → S w) → wpLate P ops Q S late fuel (listed.setIfInBounds i true) a w → K a w) → Oper.wp P oi a w K Q)
 (h2 : ∀ K : Act → World → Prop, Shut (∀ a w, (late j = false → S w) → wpLate P ops Q S late fuel (listed.setIfInBounds j true) a w → K a w) → Oper.wp P oj a w K Q) :
 wpLate P ops Q S late (fuel + 1) listed a w := by
 refine ⟨fun h0 => absurd (hr ▸ h0) (by simp), ?_⟩
 rw [hr]
 intro k hk
 have hk : k = i ∨ k = j := by simpa using hk
 rcases hk with rfl | rfl
 · refine wpOp_step hi fun K hK => ?_
   rw [if_pos hgi]
   exact h1 K (show Shut _ from fun a w hS hW => hK a w ⟨hS, hW⟩)
 · refine wpOp_step hj fun K hK => ?_
   rw [if_pos hgj]
   exact h2 K (show Shut _ from fun a w hS hW => hK a w ⟨hS, hW⟩)
end
end Go.Proofs.YtidlpihoafnobaaGreatDoor
namespace Go.Proofs.YtidlpihoafnobaaGreatDoor
set_option maxRecDepth 100000
open Go.RowKit
def Row2 (w : World) (b : Nat) (T : TypeId) (v0 v1 : Value) : Prop := w.heap[b]? = some (.cells #[v0, v1] T (0, 0))
section
variable {w w' : World} {b : Nat} {T : TypeId} {v0 v1 : Value}
theorem Row2.c0 (h : Row2 w b T v0 v1) : w.cell? ⟨b, 0, none⟩ = some v0 := by rw [cell_of_row w b 0 _ _ _ h]; rfl
theorem Row2.c1 (h : Row2 w b T v0 v1) : w.cell? ⟨b, 1, none⟩ = some v1 := by rw [cell_of_row w b 1 _ _ _ h]; rfl
theorem Row2.fz (h : Row2 w b T v0 v1) (k : Nat) : w.frozen? ⟨b, k, none⟩ = false := frozen_of_row w b k _ _ h
theorem Row2.lt (h : Row2 w b T v0 v1) : b < w.heap.size := (Array.getElem?_eq_some_iff.1 h).1
theorem Row2.fr {F : Nat → Prop} (h : Row2 w b T v0 v1) (k : Fr F w w') (hF : ¬ F b) : Row2 w' b T v0 v1 := k.heap hF h
theorem Row2.no (h : Row2 w b T v0 v1) (k : Fr No w w') : Row2 w' b T v0 v1 := k.heap (fun h => h) h
theorem Row2.put0 (h : Row2 w b T v0 v1) (x : Value) : Row2 (w.setCell ⟨b, 0, none⟩ x) b T x v1 := by unfold Row2; rw [heap_setCell_same w b 0 _ _ x h]; rfl
theorem Row2.put1 (h : Row2 w b T v0 v1) (x : Value) : Row2 (w.setCell ⟨b, 1, none⟩ x) b T v0 x := by unfold Row2; rw [heap_setCell_same w b 1 _ _ x h]; rfl
theorem row_put2 (h : Row2 w b T v0 v1) (x0 x1 : Value) : Row2 ((w.setCell ⟨b, 0, none⟩ x0).setCell ⟨b, 1, none⟩ x1) b T x0 x1 := (h.put0 x0).put1 x1
theorem fr_put1 (w : World) (b k : Nat) (x : Value) : Fr (fun y => y = b) w (w.setCell ⟨b, k, none⟩ x) := (Fr.refl (fun x => x = b) w).setCell (p := ⟨b, k, none⟩) (.inl rfl) _
theorem fr_put2 (w : World) (b : Nat) (x0 x1 : Value) : Fr (fun x => x = b) w ((w.setCell ⟨b, 0, none⟩ x0).setCell ⟨b, 1, none⟩ x1) :=
 ((Fr.refl (fun x => x = b) w).setCell (p := ⟨b, 0, none⟩) (.inl rfl) _).setCell (p := ⟨b, 1, none⟩) (.inl rfl) _
theorem row2_new (w : World) (T : TypeId) (v0 v1 : Value) : Row2 (w.alloc (.cells #[v0, v1] T)) w.heap.size T v0 v1 := heap_alloc_new w _
end
end Go.Proofs.YtidlpihoafnobaaGreatDoor
namespace Go.Proofs.YtidlpihoafnobaaGreatDoor
set_option maxRecDepth 100000
open Go.RowKit
theorem four_any (x : BitVec 32) (w : World) : Calls Tryz.prog 77 #[.int .u32 (W32 x)] w (GivesBytes (leb (x.setWidth 64) 4) w) := by
 go_enter Tryz.func77, Tryz.ntmps77
 go_wp2_with fail
 refine (Put32_any _ _ _ [] x _ (IsBytes.nil _) (by omega)).mono ?_
 rintro e w2 ⟨v2, rfl, hO, hf⟩
 obtain ⟨a2, c2, rfl, hb2, _⟩ := hO.bytes
 go_wp2_with fail
 go_ret
 exact ⟨_, rfl, hO, hf⟩
theorem eight_any (x : BitVec 64) (w : World) : Calls Tryz.prog 157 #[.int .u64 (W64 x)] w (GivesBytes (leb x 8) w) := by
 go_enter Tryz.func157, Tryz.ntmps157
 go_wp2_with fail
 refine (Put64_any _ _ _ [] x _ (IsBytes.nil _) (by omega)).mono ?_
 rintro e w2 ⟨v2, rfl, hO, hf⟩
 obtain ⟨a2, c2, rfl, hb2, _⟩ := hO.bytes
 go_wp2_with fail
 go_ret
 exact ⟨_, rfl, hO, hf⟩
theorem sixteen_any (kh kl : BitVec 64) (w : World) : Calls Tryz.prog 83 #[.agg #[.int .u64 (W64 kh), .int .u64 (W64 kl)]] w (GivesBytes (leb kl 8 ++ leb kh 8) w) := by
 have hA := row2_new w 30 (.int .u64 (W64 kh)) (.int .u64 (W64 kl))
 have hF := (Fr.refl No w).alloc (.cells #[.int .u64 (W64 kh), .int .u64 (W64 kl)] 30)
 have hlt := hF.size
 go_enter Tryz.func83, Tryz.ntmps83
 go_wp2_with fail
 generalize w.heap.size = ab at hA ⊢
 generalize w.alloc (.cells #[.int .u64 (W64 kh), .int .u64 (W64 kl)] 30) = w1 at hF hA hlt ⊢
 refine rsq (by kernel_rfl) [(0, 1), (1, 1), (3, 1), (4, 1), (2, 0), (5, 0), (6, 1)] (by kernel_rfl) ?_
 have hS0 : Fr No w1 w1.drew := (Fr.refl No w1).drew
 iterate 4 refine tq _ rfl rfl (by intro w9 h9; have q0 := (hA.no h9).c0; have q1 := (hA.no h9).c1; clear h9; go_simp; try with_reducible rfl) ?_; simp only [es1, es2, es3]
 refine wpSeq_next rfl rfl (fun K hK => ?_)
 go_wp2_with fail
 refine (Put64_any _ _ _ [] kl _ (IsBytes.nil _) (by omega)).mono ?_
 rintro e w2 ⟨v2, rfl, hO2, hf2⟩
 rw [List.nil_append] at hO2
 obtain ⟨a2, c2, rfl, hb2, _⟩ := hO2.bytes
 have hl2 : (leb kl 8).length = 8 := leb_length _ _
 have hs2 : Fr No w1 w2 := (hS0).no hf2
 refine hK.out _ _ (fun _ => hs2) ?_
 clear hK K
 refine wpSeq_next rfl rfl (fun K hK => ?_)
 go_wp2_with fail
 refine (Put64_any _ _ _ (leb kl 8) kh _ hb2 (by omega)).mono ?_
 rintro e w3 ⟨v3, rfl, hO3, hf3⟩
 obtain ⟨a3, c3, rfl, hb3, _⟩ := hO3.bytes
 have hs3 : Fr No w1 w3 := (hs2).no hf3
 refine hK.out _ _ (fun _ => hs3) ?_
 clear hK K
 refine tp _ rfl rfl ?_; simp only [es1, es2, es3]
 refine wpSeq_done ?_
 go_wp2_with fail
 go_ret
 exact ⟨_, rfl, hO3.mono (by have := hs2.size; omega), hF.no hs3⟩
end Go.Proofs.YtidlpihoafnobaaGreatDoor
