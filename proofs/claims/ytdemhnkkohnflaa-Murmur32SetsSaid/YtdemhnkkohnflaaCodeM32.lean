/- murmur32's step and end, and the reference's word, From, Blocks, End, One, Right: what they compute. -/
import Derived.Test.YtdemhnkkohnflaaLiveM32
import Derived.Test.YtdemhnkkohnflaaMix
import Derived.Test.YtdemhnkkohnflaaLoad
import Derived.Test.YtdemhnkkohnflaaSeq
import Derived.Test.YtdemhnkkohnflaaRow4
import Derived.Test.YtdemhnkkohnflaaPut
namespace Go.Proofs.Ytdemhnkkohnflaa.StM32
set_option linter.unusedVariables false
set_option linter.unusedSimpArgs false
open Go.RowKit

/-- What a number is turned to. -/
def wordF (k : BitVec 32) : BitVec 32 := rotl32 (k * 3432918353#32) 15 * 461845907#32
/-- A block more. -/
def stepG (s : ST) (l : Bytes) : ST := rotl32 (s ^^^ wordF ((le (l.take 4)).setWidth 32)) 13 * 5#32 + 3864292196#32
/-- What comes of a state, and what is left. -/
def endF (s : ST) (l : Bytes) (lo : BitVec 64) : BitVec 32 := fmix32 (s ^^^ wordF ((le (l.take 4)).setWidth 32) ^^^ lo.setWidth 32)
def firstF (sd : BitVec 32) : ST := sd
def oneF (sd : BitVec 32) (l : Bytes) : BitVec 32 := endF (foldF stepG 4 (firstF sd) l).1 (foldF stepG 4 (firstF sd) l).2 (BitVec.ofNat 64 l.length)

theorem word_any (k : BitVec 32) (w : World) : Calls Try.prog 42 #[.int .u32 (W32 k)] w (Gives (.int .u32 (W32 (wordF k))) w) := by
  go_enter Try.func42, Try.ntmps42
  go_wp2_with (go_at_call 44; refine (Rot32_any _ _ _).mono ?_; rintro e w' ⟨rfl, rfl⟩)
  go_ret
  exact ⟨rfl, rfl⟩
theorem refWord_any (k : BitVec 32) (w : World) : Calls Try.prog 36 #[.int .u32 (W32 k)] w (Gives (.int .u32 (W32 (wordF k))) w) := by
  go_enter Try.func36, Try.ntmps36
  go_wp2_with (go_at_call 47; refine (refRot32_any _ _ _ (by omega) (by omega)).mono ?_; rintro e w' ⟨rfl, rfl⟩)
  go_ret
  exact ⟨rfl, rfl⟩
set_option maxHeartbeats 400000 in
theorem step_any (s : ST) (a : Option Addr) (n c : Nat) (l : Bytes) (w : World) (hb : IsBytes w a n c l) (hl : l.length = 4) :
    Calls Try.prog 24 #[.agg #[], .int .u32 (W32 s), .slice a n c] w (GivesS (stepG s l) w) := by
  have e : l.take 4 = l.take 8 := by rw [List.take_of_length_le (by omega), List.take_of_length_le (by omega)]
  have HE := Lib.hid e
  have hb1 := hb.no ((Fr.refl No w).alloc (.cells #[] 50))
  clear hl hb e
  unfold stepG
  rw [HE.out]
  clear HE
  go_enter Try.func24, Try.ntmps24
  go_wp2_with fail
  refine (Go.Proofs.Ytdemhnkkohnflaa.Tail_any _ _ _ l _ hb1).mono ?_
  rintro e w' ⟨rfl, rfl⟩
  go_wp2_with fail
  refine (word_any _ _).mono ?_
  rintro e w' ⟨rfl, rfl⟩
  go_wp2_with fail
  refine (Rot32_any _ _ _).mono ?_
  rintro e w' ⟨rfl, rfl⟩
  go_wp2_with fail
  go_ret
  exact ⟨rfl, (Fr.refl No w).alloc _⟩
theorem steps_any : Hid (Steps (fun _ => True) stepG 4 0) := Lib.hid (fun w s a n c l _ hb hl => step_any s a n c l w hb hl)
theorem xor_word0 (s : BitVec 32) : s ^^^ wordF 0#32 = s := by
  have : wordF 0#32 = 0#32 := by decide
  rw [this]; simp
set_option maxHeartbeats 400000 in
theorem end_any (s : ST) (a : Option Addr) (n c : Nat) (l : Bytes) (lo : BitVec 64) (w : World) (hb : IsBytes w a n c l) (hl : l.length < 4) :
    Calls Try.prog 25 #[.agg #[], .int .u32 (W32 s), .slice a n c, .int .u64 (W64 lo)] w (GivesNew (.int .u32 (W32 (endF s l lo))) w) := by
  have e : l.take 4 = l.take 8 := by rw [List.take_of_length_le (by omega), List.take_of_length_le (by omega)]
  have hb1 := hb.no ((Fr.refl No w).alloc (.cells #[] 50))
  have hn := hb.1
  unfold endF
  rcases Nat.eq_zero_or_pos n with h0 | h0
  · subst h0
    obtain rfl : l = [] := List.eq_nil_of_length_eq_zero hn
    have e0 : (le (List.take 4 ([] : Bytes))).setWidth 32 = 0#32 := rfl
    rw [e0, xor_word0]
    clear hn hb1 hb hl e e0
    go_enter Try.func25, Try.ntmps25
    go_wp2_with fail
    refine (Fmix32_any _ _).mono ?_
    rintro e w' ⟨rfl, rfl⟩
    go_wp2_with fail
    go_ret
    exact ⟨rfl, (Fr.refl No w).alloc _⟩
  · have i1 : (0 : Int) < (n : Int) := by omega
    have HE := Lib.hid e
    clear hn hb hl e
    rw [HE.out]
    clear HE
    go_enter Try.func25, Try.ntmps25
    go_wp2_with fail
    refine (Go.Proofs.Ytdemhnkkohnflaa.Tail_any _ _ _ l _ hb1).mono ?_
    rintro e w' ⟨rfl, rfl⟩
    go_wp2_with fail
    refine (word_any _ _).mono ?_
    rintro e w' ⟨rfl, rfl⟩
    go_wp2_with fail
    refine (Fmix32_any _ _).mono ?_
    rintro e w' ⟨rfl, rfl⟩
    go_wp2_with fail
    go_ret
    exact ⟨rfl, (Fr.refl No w).alloc _⟩

/-! ### The reference -/
/-- The lanes of a state, as a value. -/
def lanesV (s : ST) : Value := .agg #[.int .u64 (W64 (s.setWidth 64)), .int .u64 0, .int .u64 0, .int .u64 0]
/-- It returns lanes, and a part of the bytes that are there. -/
def GivesLanes (a : Option Addr) (n c : Nat) (l : Bytes) (r : ST × Bytes) (w : World) (e : Ending) (w' : World) : Prop :=
  ∃ a' n' c', e = .returned (.tuple #[lanesV r.1, .slice a' n' c']) ∧ IsBytes w' a' n' c' r.2 ∧ (∀ w2, IsBytes w2 a n c l → IsBytes w2 a' n' c' r.2) ∧ Fr No w w'
set_option maxHeartbeats 600000 in
theorem refFrom_any (x0 : BitVec 64) (s : ST) (v1 v2 v3 : Value) (a : Option Addr) (n c : Nat) (l : Bytes) (w : World) (hs : Hid (x0.setWidth 32 = s)) (h : IsBytes w a n c l) (hn : n ≤ 1099511627776) :
    Calls Try.prog 33 #[.agg #[.int .u64 (W64 x0), v1, v2, v3], .slice a n c] w (GivesLanes a n c l (foldF stepG 4 s l) w) := by
  obtain ⟨r, hr⟩ : ∃ r, r = foldF stepG 4 s l := ⟨_, rfl⟩
  rw [← hr]
  have hF : Fr No w ((w.alloc (.cells #[.int .u64 (W64 x0), v1, v2, v3] 36)).alloc (.cells #[.int .u64 0, .int .u64 0, .int .u64 0, .int .u64 0] 36)) := ((Fr.refl No w).alloc _).alloc _
  have HR := Lib.hid hr
  clear hr
  go_enter Try.func33, Try.ntmps33
  go_wp2
  rw [hs.out]
  go_loop [1, 6] (fun v u => ∃ m a' c' l' s', v = .slice a' m c' ∧ u = .int .u32 (W32 s') ∧ IsBytes w a' m c' l' ∧ (∀ w2, IsBytes w2 a n c l → IsBytes w2 a' m c' l') ∧ foldF stepG 4 s' l' = r) (fun v _ => match v with | .slice _ m _ => m | _ => 0)
  case atStart => exact ⟨n, a, c, l, s, rfl, rfl, h, fun _ h => h, HR.out.symm⟩
  case round =>
    obtain ⟨m, a', c', l', s', rfl, rfl, hb, hst, hr'⟩ := hrel
    have hlen := Lib.hid hb.1
    have hc : m ≤ c' := hb.2.1
    have hc2 : c' ≤ 9223372036854775807 := hb.2.2.1
    by_cases hlt : 4 ≤ m
    · have i1 : (4 : Int) ≤ (m : Int) := by omega
      have i2 : (4 : Int) ≤ (c' : Int) := by omega
      have hb2 := hb.no hF
      go_wp2_with fail
      refine (refNum_any _ _ _ l' 0 4 _ hb2 (by omega) (by omega) (by omega) (by omega)).mono ?_
      rintro e w' ⟨rfl, rfl⟩
      clear hb2
      go_wp2_with fail
      refine (refWord_any _ _).mono ?_
      rintro e w' ⟨rfl, rfl⟩
      go_wp2_with fail
      refine (refRot32_any _ _ _ (by omega) (by omega)).mono ?_
      rintro e w' ⟨rfl, rfl⟩
      have hcut := hb.cut_to_end 4 (n' := m - 4) (c' := c' - 4) hlt rfl rfl
      go_wp2_with fail
      refine ⟨⟨m - 4, _, _, _, stepG s' (l'.take 4), rfl, congrArg (fun z => Value.int .u32 (W32 z)) ?_, hcut, fun w2 h2 => (hst w2 h2).cut_to_end 4 hlt rfl rfl, ?_⟩, by simp; omega⟩
      · unfold stepG; simp [List.take_take]
      · rw [← hr']
        exact (foldF_step (by omega) (by rw [hlen.out]; exact hlt)).symm
    · have i1 : (m : Int) < 4 := by omega
      have hsh : foldF stepG 4 s' l' = (s', l') := foldF_short (by rw [hlen.out]; omega)
      have HS := Lib.hid hsh
      clear hsh
      go_wp2_with fail
      have hR := heap_alloc2_new w (.cells #[.int .u64 (W64 x0), v1, v2, v3] 36) (.cells #[.int .u64 (W64 (s'.setWidth 64)), .int .u64 0, .int .u64 0, .int .u64 0] 36)
      have hF2 : Fr No w ((w.alloc (.cells #[.int .u64 (W64 x0), v1, v2, v3] 36)).alloc (.cells #[.int .u64 (W64 (s'.setWidth 64)), .int .u64 0, .int .u64 0, .int .u64 0] 36)) := ((Fr.refl No w).alloc _).alloc _
      generalize ((w.alloc (.cells #[.int .u64 (W64 x0), v1, v2, v3] 36)).alloc (.cells #[.int .u64 (W64 (s'.setWidth 64)), .int .u64 0, .int .u64 0, .int .u64 0] 36)) = w3 at hR hF2 ⊢
      have cd0 : w3.cell? ⟨w.heap.size + 1, 0, none⟩ = some (.int .u64 (W64 (s'.setWidth 64))) := by rw [cell_of_row w3 _ 0 _ _ _ hR]; rfl
      have cd1 : w3.cell? ⟨w.heap.size + 1, 1, none⟩ = some (.int .u64 0) := by rw [cell_of_row w3 _ 1 _ _ _ hR]; rfl
      have cd2 : w3.cell? ⟨w.heap.size + 1, 2, none⟩ = some (.int .u64 0) := by rw [cell_of_row w3 _ 2 _ _ _ hR]; rfl
      have cd3 : w3.cell? ⟨w.heap.size + 1, 3, none⟩ = some (.int .u64 0) := by rw [cell_of_row w3 _ 3 _ _ _ hR]; rfl
      refine bodyPost_ret (v := .tuple #[lanesV s', .slice a' m c']) (by simp [results, Try.results33, go_sem, cd0, cd1, cd2, cd3, lanesV]) rfl ?_
      refine ⟨a', m, c', by rw [← hr', HS.out], ?_, ?_, hF2⟩
      · rw [← hr', HS.out]; exact hb.no hF2
      · rw [← hr', HS.out]; exact hst
set_option maxHeartbeats 400000 in
theorem refBlocks_any (sd : BitVec 32) (a : Option Addr) (n c : Nat) (l : Bytes) (w : World) (h : IsBytes w a n c l) (hn : n ≤ 1099511627776) :
    Calls Try.prog 16 #[.int .u32 (W32 sd), .slice a n c] w (GivesLanes a n c l (foldF stepG 4 (firstF sd) l) w) := by
  have hs : Hid (BitVec.setWidth 32 (BitVec.setWidth 64 sd) = firstF sd) := by show _ = _; unfold firstF; simp
  have h1 := h.no ((Fr.refl No w).alloc (.cells #[.int .u64 0, .int .u64 0, .int .u64 0, .int .u64 0] 36))
  generalize hr : foldF stepG 4 (firstF sd) l = r
  have HR := Lib.hid hr
  clear hr
  go_enter Try.func16, Try.ntmps16
  go_wp2_with fail
  refine (refFrom_any _ (firstF sd) _ _ _ _ _ _ l _ hs h1 hn).mono ?_
  rintro e w2 ⟨a', n', c', rfl, hb, hst, hf⟩
  rw [HR.out] at hb hst ⊢
  have hR := (row4_new w 36 (.int .u64 0) (.int .u64 0) (.int .u64 0) (.int .u64 0)).no hf
  have hF := ((Fr.refl No w).alloc (.cells #[.int .u64 0, .int .u64 0, .int .u64 0, .int .u64 0] 36)).no hf
  clear hf h1
  have cr0 := hR.c0
  have cr1 := hR.c1
  have cr2 := hR.c2
  have cr3 := hR.c3
  have fr0 := hR.fz 0
  have fr1 := hR.fz 1
  have fr2 := hR.fz 2
  have fr3 := hR.fz 3
  unfold lanesV
  go_wp2_with fail
  have hF3 := fr_put4 w2 w.heap.size (.int .u64 (W64 (r.1.setWidth 64))) (.int .u64 0) (.int .u64 0) (.int .u64 0)
  have hR3 := row_put4 hR (.int .u64 (W64 (r.1.setWidth 64))) (.int .u64 0) (.int .u64 0) (.int .u64 0)
  clear cr0 cr1 cr2 cr3 fr0 fr1 fr2 fr3
  generalize (((w2.setCell ⟨w.heap.size, 0, none⟩ (.int .u64 (W64 (r.1.setWidth 64)))).setCell ⟨w.heap.size, 1, none⟩ (.int .u64 0)).setCell ⟨w.heap.size, 2, none⟩ (.int .u64 0)).setCell ⟨w.heap.size, 3, none⟩ (.int .u64 0) = w3 at hF3 hR3 ⊢
  have cd0 := hR3.c0
  have cd1 := hR3.c1
  have cd2 := hR3.c2
  have cd3 := hR3.c3
  have hFe : Fr No w w3 := hF.trans hF3 (fun x hx => .inr (by omega))
  refine bodyPost_ret (v := .tuple #[lanesV r.1, .slice a' n' c']) (by simp [results, Try.results16, go_sem, cd0, cd1, cd2, cd3, lanesV]) rfl ?_
  exact ⟨a', n', c', rfl, (hst _ (h.no hFe)), hst, hFe⟩
set_option maxHeartbeats 400000 in
theorem refEnd_any (sv : Value) (x0 : BitVec 64) (s : ST) (v1 v2 v3 : Value) (a : Option Addr) (n c : Nat) (l : Bytes) (lo : BitVec 64) (w : World) (hs : Hid (x0.setWidth 32 = s)) (h : IsBytes w a n c l) :
    Calls Try.prog 22 #[sv, .agg #[.int .u64 (W64 x0), v1, v2, v3], .slice a n c, .int .u64 (W64 lo)] w (GivesNew (.int .u32 (W32 (endF s l lo))) w) := by
  have hF := (Fr.refl No w).alloc (.cells #[.int .u64 (W64 x0), v1, v2, v3] 36)
  have hR := row4_new w 36 (.int .u64 (W64 x0)) v1 v2 v3
  have h1 := h.no hF
  unfold endF
  go_enter Try.func22, Try.ntmps22
  go_wp2_with fail
  generalize w.alloc (.cells #[.int .u64 (W64 x0), v1, v2, v3] 36) = w1 at hF hR h1 ⊢
  refine wp_region_seq (by kernel_rfl) (fun w' => Fr No w1 w') (fun _ => false) [(0, 1), (1, 1), (2, 1), (3, 1), (4, 0), (5, 1), (6, 0), (7, 1), (8, 1)] (by kernel_rfl) (Fr.refl No w1).drew ?_
  have hS0 : Fr No w1 w1.drew := (Fr.refl No w1).drew
  refine wpSeq_take (v := ?_) 10 rfl rfl (fun _ _ _ h => h) (Or.inl ⟨rfl, ?_⟩) ?_
  rotate_left 1
  · (intro w9 h9; go_simp; try with_reducible rfl)
  simp only [List.setIfInBounds_toArray, List.set_cons_zero, List.set_cons_succ]
  refine wpSeq_take (v := ?_) 11 rfl rfl (fun _ _ _ h => h) (Or.inl ⟨rfl, ?_⟩) ?_
  rotate_left 1
  · (intro w9 h9; have cc := (hR.no h9).c0; clear h9; go_simp; try with_reducible rfl)
  simp only [List.setIfInBounds_toArray, List.set_cons_zero, List.set_cons_succ]
  refine wpSeq_take (v := ?_) 12 rfl rfl (fun _ _ _ h => h) (Or.inl ⟨rfl, ?_⟩) ?_
  rotate_left 1
  · (intro w9 h9; go_simp; try with_reducible rfl)
  simp only [List.setIfInBounds_toArray, List.set_cons_zero, List.set_cons_succ]
  refine wpSeq_take (v := ?_) 13 rfl rfl (fun _ _ _ h => h) (Or.inl ⟨rfl, ?_⟩) ?_
  rotate_left 1
  · (intro w9 h9; go_simp; try with_reducible rfl)
  simp only [List.setIfInBounds_toArray, List.set_cons_zero, List.set_cons_succ]
  refine wpSeq_next rfl rfl (fun K hK => ?_)
  go_wp2_with fail
  refine (refNum_any _ _ _ l 0 4 _ (h1.no hS0) (by omega) (by omega) (by omega) (by omega)).mono ?_
  rintro e w' ⟨rfl, rfl⟩
  refine hK.out _ _ (fun _ => hS0) ?_
  clear hK K
  refine wpSeq_take (v := ?_) 15 rfl rfl (fun _ _ _ h => h) (Or.inl ⟨rfl, ?_⟩) ?_
  rotate_left 1
  · (intro w9 h9; go_simp; try with_reducible rfl)
  simp only [List.setIfInBounds_toArray, List.set_cons_zero, List.set_cons_succ]
  refine wpSeq_next rfl rfl (fun K hK => ?_)
  go_wp2_with fail
  refine (refWord_any _ _).mono ?_
  rintro e w' ⟨rfl, rfl⟩
  refine hK.out _ _ (fun _ => hS0) ?_
  clear hK K
  refine wpSeq_take (v := ?_) 17 rfl rfl (fun _ _ _ h => h) (Or.inl ⟨rfl, ?_⟩) ?_
  rotate_left 1
  · (intro w9 h9; go_simp; try with_reducible rfl)
  simp only [List.setIfInBounds_toArray, List.set_cons_zero, List.set_cons_succ]
  refine wpSeq_take (v := ?_) 9 rfl rfl (fun _ _ _ h => h) (Or.inl ⟨rfl, ?_⟩) ?_
  rotate_left 1
  · (intro w9 h9; go_simp; try with_reducible rfl)
  simp only [List.setIfInBounds_toArray, List.set_cons_zero, List.set_cons_succ]
  refine wpSeq_done ?_
  go_wp2_with fail
  refine (refFmix32_any _ _).mono ?_
  rintro e w' ⟨rfl, rfl⟩
  go_wp2_with fail
  go_ret
  refine ⟨congrArg (fun z => Ending.returned (.int .u32 (W32 z))) ?_, hF.drew⟩
  rw [← hs.out]; simp [mod32]
set_option maxHeartbeats 400000 in
theorem refOne_any (sd : BitVec 32) (a : Option Addr) (n c : Nat) (l : Bytes) (w : World) (h : IsBytes w a n c l) (hn : n ≤ 1099511627776) :
    Calls Try.prog 9 #[.int .u32 (W32 sd), .slice a n c] w (GivesNew (.int .u32 (W32 (oneF sd l))) w) := by
  have hlen := Lib.hid h.1
  unfold oneF
  rw [hlen.out]
  generalize hr : foldF stepG 4 (firstF sd) l = r
  have HR := Lib.hid hr
  clear hr
  go_enter Try.func9, Try.ntmps9
  go_wp2_with fail
  refine (refBlocks_any sd _ _ _ l _ h hn).mono ?_
  rw [HR.out]
  rintro e w2 ⟨a', n', c', rfl, hb, hst, hf⟩
  have hR := row4_new w2 36 (.int .u64 (W64 (r.1.setWidth 64))) (.int .u64 0) (.int .u64 0) (.int .u64 0)
  have hF2 := hf.alloc (.cells #[.int .u64 (W64 (r.1.setWidth 64)), .int .u64 0, .int .u64 0, .int .u64 0] 36)
  have hs : Hid (BitVec.setWidth 32 (BitVec.setWidth 64 r.1) = r.1) := by show _ = _; simp
  have hb2 := hst _ (h.no hF2)
  unfold lanesV
  go_wp2_with fail
  refine (refEnd_any _ _ r.1 _ _ _ _ _ _ r.2 _ _ hs hb2).mono ?_
  rintro e w3 ⟨rfl, hf3⟩
  go_wp2_with fail
  go_ret
  exact ⟨rfl, hF2.no hf3⟩
end Go.Proofs.Ytdemhnkkohnflaa.StM32
