/- CodeM32 HashM32 -/
import Derived.Test.YtidlpihoafnobaaGreatDoorPSealErr
set_option linter.unusedVariables false
set_option linter.unusedSimpArgs false
namespace Go.Proofs.YtidlpihoafnobaaGreatDoor.StM32
set_option maxRecDepth 100000
open Go.RowKit
def wordF (k : BitVec 32) : BitVec 32 := rotl32 (k * 3432918353#32) 15 * 461845907#32
def stepG (s : ST) (l : Bytes) : ST := rotl32 (s ^^^ wordF ((le (l.take 4)).setWidth 32)) 13 * 5#32 + 3864292196#32
def endF (s : ST) (l : Bytes) (lo : BitVec 64) : BitVec 32 := fmix32 (s ^^^ wordF ((le (l.take 4)).setWidth 32) ^^^ lo.setWidth 32)
def firstF (sd : BitVec 32) : ST := sd
def oneF (sd : BitVec 32) (l : Bytes) : BitVec 32 := endF (foldF stepG 4 (firstF sd) l).1 (foldF stepG 4 (firstF sd) l).2 (BitVec.ofNat 64 l.length)
theorem word_any (k : BitVec 32) (w : World) : Calls Tryz.prog 183 #[.int .u32 (W32 k)] w (Gives (.int .u32 (W32 (wordF k))) w) := by
 go_enter Tryz.func183, Tryz.ntmps183
 go_wp2_with (go_at_call 184; refine (Rot32_any _ _ _).mono ?_; rintro e w' ⟨rfl, rfl⟩)
 go_ret
 exact ⟨rfl, rfl⟩
theorem refWord_any (k : BitVec 32) (w : World) : Calls Tryz.prog 62 #[.int .u32 (W32 k)] w (Gives (.int .u32 (W32 (wordF k))) w) := by
 go_enter Tryz.func62, Tryz.ntmps62
 go_wp2_with (go_at_call 68; refine (refRot32_any _ _ _ (by omega) (by omega)).mono ?_; rintro e w' ⟨rfl, rfl⟩)
 go_ret
 exact ⟨rfl, rfl⟩
set_option maxHeartbeats 400000 in
theorem step_any (s : ST) (a : Option Addr) (n c : Nat) (l : Bytes) (w : World) (hb : IsBytes w a n c l) (hl : l.length = 4) :
 Calls Tryz.prog 116 #[.agg #[], .int .u32 (W32 s), .slice a n c] w (GivesS (stepG s l) w) := by
 have e : l.take 4 = l.take 8 := by rw [List.take_of_length_le (by omega), List.take_of_length_le (by omega)]
 have HE := Lib.hid e
 have hb1 := hb.no ((Fr.refl No w).alloc (.cells #[] 186))
 clear hl hb e
 unfold stepG
 rw [HE.out]
 clear HE
 go_enter Tryz.func116, Tryz.ntmps116
 go_wp2_with fail
 refine (Go.Proofs.YtidlpihoafnobaaGreatDoor.Tail_any _ _ _ l _ hb1).mono ?_
 rintro e w' ⟨rfl, rfl⟩
 go_wp2_with fail
 refine (word_any _ _).mono ?_
 rintro e w' ⟨rfl, rfl⟩
 go_wp2_with fail
 refine (Rot32_any _ _ _).mono ?_
 rintro e w' ⟨rfl, rfl⟩
 go_wp2_with fail
 go_ret
 exact ⟨rfl, (Fr.refl No w).alloc _⟩
theorem steps_any : Hid (Steps (fun _ => True) stepG 4 0) := Lib.hid (fun w s a n c l _ hb hl => step_any s a n c l w hb hl)
theorem xor_word0 (s : BitVec 32) : s ^^^ wordF 0#32 = s := by
 have : wordF 0#32 = 0#32 := by decide
 rw [this]; simp
set_option maxHeartbeats 400000 in
theorem end_any (s : ST) (a : Option Addr) (n c : Nat) (l : Bytes) (lo : BitVec 64) (w : World) (hb : IsBytes w a n c l) (hl : l.length < 4) :
 Calls Tryz.prog 117 #[.agg #[], .int .u32 (W32 s), .slice a n c, .int .u64 (W64 lo)] w (GivesNew (.int .u32 (W32 (endF s l lo))) w) := by
 have e : l.take 4 = l.take 8 := by rw [List.take_of_length_le (by omega), List.take_of_length_le (by omega)]
 have hb1 := hb.no ((Fr.refl No w).alloc (.cells #[] 186))
 have hn := hb.1
 unfold endF
 rcases Nat.eq_zero_or_pos n with h0 | h0
 · subst h0
   obtain rfl : l = [] := List.eq_nil_of_length_eq_zero hn
   have e0 : (le (List.take 4 ([] : Bytes))).setWidth 32 = 0#32 := rfl
   rw [e0, xor_word0]
   clear hn hb1 hb hl e e0
   go_enter Tryz.func117, Tryz.ntmps117
   go_wp2_with fail
   refine (Fmix32_any _ _).mono ?_
   rintro e w' ⟨rfl, rfl⟩
   go_wp2_with fail
   go_ret
   exact ⟨rfl, (Fr.refl No w).alloc _⟩
 · have i1 : (0 : Int) < (n : Int) := by omega
   have HE := Lib.hid e
   clear hn hb hl e
   rw [HE.out]
   clear HE
   go_enter Tryz.func117, Tryz.ntmps117
   go_wp2_with fail
   refine (Go.Proofs.YtidlpihoafnobaaGreatDoor.Tail_any _ _ _ l _ hb1).mono ?_
   rintro e w' ⟨rfl, rfl⟩
   go_wp2_with fail
   refine (word_any _ _).mono ?_
   rintro e w' ⟨rfl, rfl⟩
   go_wp2_with fail
   refine (Fmix32_any _ _).mono ?_
   rintro e w' ⟨rfl, rfl⟩
   go_wp2_with fail
   go_ret
   exact ⟨rfl, (Fr.refl No w).alloc _⟩
def lanesV (s : ST) : Value := .agg #[.int .u64 (W64 (s.setWidth 64)), .int .u64 0, .int .u64 0, .int .u64 0]
def GivesLanes (a : Option Addr) (n c : Nat) (l : Bytes) (r : ST × Bytes) (w : World) (e : Ending) (w' : World) : Prop :=
 ∃ a' n' c', e = .returned (.tuple #[lanesV r.1, .slice a' n' c']) ∧ IsBytes w' a' n' c' r.2 ∧ (∀ w2, IsBytes w2 a n c l → IsBytes w2 a' n' c' r.2) ∧ Fr No w w'
set_option maxHeartbeats 600000 in
theorem refFrom_any (x0 : BitVec 64) (s : ST) (v1 v2 v3 : Value) (a : Option Addr) (n c : Nat) (l : Bytes) (w : World) (hs : Hid (x0.setWidth 32 = s)) (h : IsBytes w a n c l) (hn : n ≤ 1099511627776) :
 Calls Tryz.prog 172 #[.agg #[.int .u64 (W64 x0), v1, v2, v3], .slice a n c] w (GivesLanes a n c l (foldF stepG 4 s l) w) := by
 obtain ⟨r, hr⟩ : ∃ r, r = foldF stepG 4 s l := ⟨_, rfl⟩
 rw [← hr]
 have hF : Fr No w ((w.alloc (.cells #[.int .u64 (W64 x0), v1, v2, v3] 31)).alloc (.cells #[.int .u64 0, .int .u64 0, .int .u64 0, .int .u64 0] 31)) := ((Fr.refl No w).alloc _).alloc _
 have HR := Lib.hid hr
 clear hr
 go_enter Tryz.func172, Tryz.ntmps172
 go_wp2
 rw [hs.out]
 go_loop [1, 6] (fun v u => ∃ m a' c' l' s', v = .slice a' m c' ∧ u = .int .u32 (W32 s') ∧ IsBytes w a' m c' l' ∧ (∀ w2, IsBytes w2 a n c l → IsBytes w2 a' m c' l') ∧ foldF stepG 4 s' l' = r) (fun v _ => match v with | .slice _ m _ => m | _ => 0)
 case atStart => exact ⟨n, a, c, l, s, rfl, rfl, h, fun _ h => h, HR.out.symm⟩
 case round =>
  obtain ⟨m, a', c', l', s', rfl, rfl, hb, hst, hr'⟩ := hrel
  have hlen := Lib.hid hb.1
  have hc : m ≤ c' := hb.2.1
  have hc2 : c' ≤ 9223372036854775807 := hb.2.2.1
  by_cases hlt : 4 ≤ m
  · have i1 : (4 : Int) ≤ (m : Int) := by omega
    have i2 : (4 : Int) ≤ (c' : Int) := by omega
    have hb2 := hb.no hF
    go_wp2_with fail
    refine (refNum_any _ _ _ l' 0 4 _ hb2 (by omega) (by omega) (by omega) (by omega)).mono ?_
    rintro e w' ⟨rfl, rfl⟩
    clear hb2
    go_wp2_with fail
    refine (refWord_any _ _).mono ?_
    rintro e w' ⟨rfl, rfl⟩
    go_wp2_with fail
    refine (refRot32_any _ _ _ (by omega) (by omega)).mono ?_
    rintro e w' ⟨rfl, rfl⟩
    have hcut := hb.cut_to_end 4 (n' := m - 4) (c' := c' - 4) hlt rfl rfl
    go_wp2_with fail
    refine ⟨⟨m - 4, _, _, _, stepG s' (l'.take 4), rfl, congrArg (fun z => Value.int .u32 (W32 z)) ?_, hcut, fun w2 h2 => (hst w2 h2).cut_to_end 4 hlt rfl rfl, ?_⟩, by simp; omega⟩
    · unfold stepG; simp [List.take_take]
    · rw [← hr']
      exact (foldF_step (by omega) (by rw [hlen.out]; exact hlt)).symm
  · have i1 : (m : Int) < 4 := by omega
    have hsh : foldF stepG 4 s' l' = (s', l') := foldF_short (by rw [hlen.out]; omega)
    have HS := Lib.hid hsh
    clear hsh
    go_wp2_with fail
    have hR := heap_alloc2_new w (.cells #[.int .u64 (W64 x0), v1, v2, v3] 31) (.cells #[.int .u64 (W64 (s'.setWidth 64)), .int .u64 0, .int .u64 0, .int .u64 0] 31)
    have hF2 : Fr No w ((w.alloc (.cells #[.int .u64 (W64 x0), v1, v2, v3] 31)).alloc (.cells #[.int .u64 (W64 (s'.setWidth 64)), .int .u64 0, .int .u64 0, .int .u64 0] 31)) := ((Fr.refl No w).alloc _).alloc _
    generalize ((w.alloc (.cells #[.int .u64 (W64 x0), v1, v2, v3] 31)).alloc (.cells #[.int .u64 (W64 (s'.setWidth 64)), .int .u64 0, .int .u64 0, .int .u64 0] 31)) = w3 at hR hF2 ⊢
    have cd0 : w3.cell? ⟨w.heap.size + 1, 0, none⟩ = some (.int .u64 (W64 (s'.setWidth 64))) := by rw [cell_of_row w3 _ 0 _ _ _ hR]; rfl
    have cd1 : w3.cell? ⟨w.heap.size + 1, 1, none⟩ = some (.int .u64 0) := by rw [cell_of_row w3 _ 1 _ _ _ hR]; rfl
    have cd2 : w3.cell? ⟨w.heap.size + 1, 2, none⟩ = some (.int .u64 0) := by rw [cell_of_row w3 _ 2 _ _ _ hR]; rfl
    have cd3 : w3.cell? ⟨w.heap.size + 1, 3, none⟩ = some (.int .u64 0) := by rw [cell_of_row w3 _ 3 _ _ _ hR]; rfl
    refine bodyPost_ret (v := .tuple #[lanesV s', .slice a' m c']) (by simp [results, Tryz.results172, go_sem, cd0, cd1, cd2, cd3, lanesV]) rfl ?_
    refine ⟨a', m, c', by rw [← hr', HS.out], ?_, ?_, hF2⟩
    · rw [← hr', HS.out]; exact hb.no hF2
    · rw [← hr', HS.out]; exact hst
set_option maxHeartbeats 400000 in
theorem refBlocks_any (sd : BitVec 32) (a : Option Addr) (n c : Nat) (l : Bytes) (w : World) (h : IsBytes w a n c l) (hn : n ≤ 1099511627776) :
 Calls Tryz.prog 97 #[.int .u32 (W32 sd), .slice a n c] w (GivesLanes a n c l (foldF stepG 4 (firstF sd) l) w) := by
 have hs : Hid (BitVec.setWidth 32 (BitVec.setWidth 64 sd) = firstF sd) := by show _ = _; unfold firstF; simp
 have h1 := h.no ((Fr.refl No w).alloc (.cells #[.int .u64 0, .int .u64 0, .int .u64 0, .int .u64 0] 31))
 generalize hr : foldF stepG 4 (firstF sd) l = r
 have HR := Lib.hid hr
 clear hr
 go_enter Tryz.func97, Tryz.ntmps97
 go_wp2_with fail
 refine (refFrom_any _ (firstF sd) _ _ _ _ _ _ l _ hs h1 hn).mono ?_
 rintro e w2 ⟨a', n', c', rfl, hb, hst, hf⟩
 rw [HR.out] at hb hst ⊢
 have hR := (row4_new w 31 (.int .u64 0) (.int .u64 0) (.int .u64 0) (.int .u64 0)).no hf
 have hF := ((Fr.refl No w).alloc (.cells #[.int .u64 0, .int .u64 0, .int .u64 0, .int .u64 0] 31)).no hf
 clear hf h1
 have cr0 := hR.c0
 have cr1 := hR.c1
 have cr2 := hR.c2
 have cr3 := hR.c3
 have fr0 := hR.fz 0
 have fr1 := hR.fz 1
 have fr2 := hR.fz 2
 have fr3 := hR.fz 3
 unfold lanesV
 go_wp2_with fail
 have hF3 := fr_put4 w2 w.heap.size (.int .u64 (W64 (r.1.setWidth 64))) (.int .u64 0) (.int .u64 0) (.int .u64 0)
 have hR3 := row_put4 hR (.int .u64 (W64 (r.1.setWidth 64))) (.int .u64 0) (.int .u64 0) (.int .u64 0)
 clear cr0 cr1 cr2 cr3 fr0 fr1 fr2 fr3
 generalize (((w2.setCell ⟨w.heap.size, 0, none⟩ (.int .u64 (W64 (r.1.setWidth 64)))).setCell ⟨w.heap.size, 1, none⟩ (.int .u64 0)).setCell ⟨w.heap.size, 2, none⟩ (.int .u64 0)).setCell ⟨w.heap.size, 3, none⟩ (.int .u64 0) = w3 at hF3 hR3 ⊢
 have cd0 := hR3.c0
 have cd1 := hR3.c1
 have cd2 := hR3.c2
 have cd3 := hR3.c3
 have hFe : Fr No w w3 := hF.trans hF3 (fun x hx => .inr (by omega))
 refine bodyPost_ret (v := .tuple #[lanesV r.1, .slice a' n' c']) (by simp [results, Tryz.results97, go_sem, cd0, cd1, cd2, cd3, lanesV]) rfl ?_
 exact ⟨a', n', c', rfl, (hst _ (h.no hFe)), hst, hFe⟩
set_option maxHeartbeats 400000 in
theorem refEnd_any (sv : Value) (x0 : BitVec 64) (s : ST) (v1 v2 v3 : Value) (a : Option Addr) (n c : Nat) (l : Bytes) (lo : BitVec 64) (w : World) (hs : Hid (x0.setWidth 32 = s)) (h : IsBytes w a n c l) :
 Calls Tryz.prog 34 #[sv, .agg #[.int .u64 (W64 x0), v1, v2, v3], .slice a n c, .int .u64 (W64 lo)] w (GivesNew (.int .u32 (W32 (endF s l lo))) w) := by
 have hF := (Fr.refl No w).alloc (.cells #[.int .u64 (W64 x0), v1, v2, v3] 31)
 have hR := row4_new w 31 (.int .u64 (W64 x0)) v1 v2 v3
 have h1 := h.no hF
 unfold endF
 go_enter Tryz.func34, Tryz.ntmps34
 go_wp2_with fail
 generalize w.alloc (.cells #[.int .u64 (W64 x0), v1, v2, v3] 31) = w1 at hF hR h1 ⊢
 refine rsq (by kernel_rfl) [(0, 1), (1, 1), (2, 1), (3, 1), (4, 0), (5, 1), (6, 0), (7, 1), (8, 1)] (by kernel_rfl) ?_
 have hS0 : Fr No w1 w1.drew := (Fr.refl No w1).drew
 iterate 4 refine tq _ rfl rfl (by intro w9 h9; have cc := (hR.no h9).c0; clear h9; go_simp; try with_reducible rfl) ?_; simp only [es1, es2, es3]
 refine wpSeq_next rfl rfl (fun K hK => ?_)
 go_wp2_with fail
 refine (refNum_any _ _ _ l 0 4 _ (h1.no hS0) (by omega) (by omega) (by omega) (by omega)).mono ?_
 rintro e w' ⟨rfl, rfl⟩
 refine hK.out _ _ (fun _ => hS0) ?_
 clear hK K
 refine tp _ rfl rfl ?_; simp only [es1, es2, es3]
 refine wpSeq_next rfl rfl (fun K hK => ?_)
 go_wp2_with fail
 refine (refWord_any _ _).mono ?_
 rintro e w' ⟨rfl, rfl⟩
 refine hK.out _ _ (fun _ => hS0) ?_
 clear hK K
 iterate 2 refine tp _ rfl rfl ?_; simp only [es1, es2, es3]
 refine wpSeq_done ?_
 go_wp2_with fail
 refine (refFmix32_any _ _).mono ?_
 rintro e w' ⟨rfl, rfl⟩
 go_wp2_with fail
 go_ret
 refine ⟨congrArg (fun z => Ending.returned (.int .u32 (W32 z))) ?_, hF.drew⟩
 rw [← hs.out]; simp [mod32]
end Go.Proofs.YtidlpihoafnobaaGreatDoor.StM32
namespace Go.Proofs.YtidlpihoafnobaaGreatDoor.StM32
set_option maxRecDepth 100000
open Go.RowKit
structure HLive (w0 w : World) (hb sb : Nat) (sd : BitVec 32) (s : ST) (tl : Bytes) (lo : BitVec 64) (tv : Value) : Prop where
 on : Live w0 w sb 4 (firstF sd) s 0 tl lo tv
 hc : w.heap[hb]? = some (.cells #[.pointer (some ⟨sb, 0, none⟩)] 193 (0, 0))
 ge : w0.heap.size ≤ hb
 ne : ¬ Foot sb tv hb
 tlen : tl.length < 4
def HFoot (hb sb : Nat) (tv : Value) (x : Nat) : Prop := x = hb ∨ Foot sb tv x
section
variable {w0 w w' : World} {hb sb : Nat} {sd : BitVec 32} {s : ST} {tl : Bytes} {lo : BitVec 64} {tv : Value}
theorem HLive.lt (h : HLive w0 w hb sb sd s tl lo tv) : ∀ x, HFoot hb sb tv x → x < w.heap.size := fun x hx => by
 rcases hx with rfl | hx
 · exact (Array.getElem?_eq_some_iff.1 h.hc).1
 · exact h.on.lt x hx
theorem HLive.above (h : HLive w0 w hb sb sd s tl lo tv) : ∀ x, HFoot hb sb tv x → w0.heap.size ≤ x := fun x hx => by
 rcases hx with rfl | hx
 · exact h.ge
 · exact h.on.above x hx
theorem HLive.fr (h : HLive w0 w hb sb sd s tl lo tv) : Fr No w0 w := h.on.fr
theorem HLive.keep {F : Nat → Prop} (h : HLive w0 w hb sb sd s tl lo tv) (k : Fr F w w') (hF : ∀ x, F x → ¬ HFoot hb sb tv x) (hA : ∀ x, F x → w0.heap.size ≤ x) : HLive w0 w' hb sb sd s tl lo tv :=
 ⟨h.on.keep k (fun x hx g => hF x hx (.inr g)) hA, k.heap (fun g => hF _ g (.inl rfl)) h.hc, h.ge, h.ne, h.tlen⟩
theorem HLive.no (h : HLive w0 w hb sb sd s tl lo tv) (k : Fr No w w') : HLive w0 w' hb sb sd s tl lo tv := h.keep k (fun _ g => g.elim) (fun _ g => g.elim)
theorem HLive.cell (h : HLive w0 w hb sb sd s tl lo tv) : w.cell? ⟨hb, 0, none⟩ = some (.pointer (some ⟨sb, 0, none⟩)) := by rw [cell_of_row w hb 0 _ _ _ h.hc]; rfl
end
theorem made_h {w0 w : World} {hb sb : Nat} {sd : BitVec 32} {s : ST} {tl : Bytes} {lo : BitVec 64} {tv : Value} (h : HLive w0 w hb sb sd s tl lo tv) : Calls Tryz.prog 119 #[.pointer (some ⟨hb, 0, none⟩)] w (Gives (.bool true) w) := by
 have cc := h.cell
 go_enter Tryz.func119, Tryz.ntmps119
 go_wp2
 go_ret
 exact ⟨rfl, rfl⟩
def GivesHash (w0 w : World) (sd : BitVec 32) (e : Ending) (w' : World) : Prop := ∃ hb sb, e = .returned (.pointer (some ⟨hb, 0, none⟩)) ∧ w.heap.size ≤ hb ∧ w.heap.size ≤ sb ∧ HLive w0 w' hb sb sd (firstF sd) [] 0#64 (.slice none 0 0) ∧ Fr No w w'
set_option maxHeartbeats 400000 in
theorem New_h (sd : BitVec 32) (w0 w : World) (hf : Fr No w0 w) : Calls Tryz.prog 75 #[.int .u32 (W32 sd)] w (GivesHash w0 w sd) := by
 have hW1 := (Fr.refl No w).alloc (.cells #[] 186)
 go_enter Tryz.func75, Tryz.ntmps75
 go_wp2_with fail
 refine (New_any 4 sd 0 _ (by omega) (by omega)).mono ?_
 rintro e w2 ⟨sb, rfl, hge, hlt, hst, hfr⟩
 have hz : sizeOk 4 = ((4 : Nat) : Int) := rfl
 rw [hz] at hst
 have hW := hW1.no hfr
 have g0 := hf.size
 have g1 := hW1.size
 have g2 := hfr.size
 clear hz
 go_wp2_with fail
 go_ret
 have h3 : Fr No w2 (w2.alloc (.cells #[.pointer (some ⟨sb, 0, none⟩)] 193)) := (Fr.refl No w2).alloc _
 refine ⟨w2.heap.size, sb, rfl, by omega, by omega, ⟨⟨hst.fr h3 (fun h => h), Owns.nil _ _, by omega, (hf.no hW).no h3⟩, heap_alloc_new w2 _, by omega, ?_, by simp⟩, hW.no h3⟩
 rintro (g | g)
 · omega
 · simp [Value.ownBlock] at g
def HWrote (w0 : World) (hb sb : Nat) (sd : BitVec 32) (tv : Value) (r : ST × Bytes) (lo : BitVec 64) (w : World) (e : Ending) (w' : World) : Prop :=
 e = .returned (.tuple #[]) ∧ ∃ tv', HLive w0 w' hb sb sd r.1 r.2 lo tv' ∧ Fr (Foot sb tv) w w' ∧ (tv'.ownBlock = tv.ownBlock ∨ ∀ x, tv'.ownBlock = some x → w.heap.size ≤ x)
theorem Write_h {w0 w : World} {hb sb : Nat} {sd : BitVec 32} {s : ST} {tl : Bytes} {lo : BitVec 64} {tv : Value} (h : HLive w0 w hb sb sd s tl lo tv) (a : Option Addr) (n c : Nat) (l : Bytes) (hy : IsBytes w a n c l) (hap : Apart (Foot sb tv) a n) (hn : n ≤ 1099511627776) :
 Calls Tryz.prog 276 #[.pointer (some ⟨hb, 0, none⟩), .slice a n c] w (HWrote w0 hb sb sd tv (foldF stepG 4 s (tl ++ l)) (lo + BitVec.ofNat 64 n) w) := by
 have cc := h.cell
 have q4 := foldF_lt (F := stepG) (size := 4) (by omega) s (tl ++ l)
 have hlt := h.lt hb (.inl rfl)
 generalize hr : foldF stepG 4 s (tl ++ l) = r at q4 ⊢
 have HR := Lib.hid hr
 clear hr
 go_enter Tryz.func276, Tryz.ntmps276
 go_wp2_with (go_at_call 119; refine (made_h h).mono ?_; rintro e w' ⟨rfl, rfl⟩)
 refine (live_write (fun _ => True) stepG h.on (fun _ _ => trivial) steps_any (by omega) (by omega) h.tlen a n c l hy hap hn).mono ?_
 rw [HR.out]
 rintro e w2 ⟨rfl, tv2, hL, hf, hk⟩
 have hn2 : ¬ Foot sb tv2 hb := fun g => by
  rcases g with g | g
  · exact h.ne (.inl g)
  · rcases hk with e | e
    · exact h.ne (.inr (by rw [← e]; exact g))
    · have := e _ g; omega
 have hH : HLive w0 w2 hb sb sd r.1 r.2 (lo + BitVec.ofNat 64 n) tv2 := ⟨hL, hf.heap h.ne h.hc, h.ge, hn2, q4⟩
 clear cc
 go_wp2_with fail
 go_end0
 exact ⟨rfl, tv2, hH, hf, hk⟩
set_option maxHeartbeats 800000 in
theorem Sum_h {w0 w : World} {hb sb : Nat} {sd : BitVec 32} {s : ST} {tl : Bytes} {lo : BitVec 64} {tv : Value} (h : HLive w0 w hb sb sd s tl lo tv) : Calls Tryz.prog 76 #[.pointer (some ⟨hb, 0, none⟩)] w (GivesNew (.int .u32 (W32 (endF s tl lo))) w) := by
 go_enter Tryz.func76, Tryz.ntmps76
 go_wp2_with (go_at_call 119; refine (made_h h).mono ?_; rintro e w' ⟨rfl, rfl⟩)
 have hf1 : Fr No w (w.alloc (.cells #[] 186)) := (Fr.refl No w).alloc _
 have h1 := h.no hf1
 generalize w.alloc (.cells #[] 186) = w1 at hf1 h1 ⊢
 have cc := h1.cell
 refine rsq (by kernel_rfl) [(0, 1), (1, 1), (2, 1), (3, 1), (4, 1), (6, 1), (7, 1), (8, 1), (9, 1), (11, 1), (12, 1), (13, 1), (14, 1), (5, 0), (10, 0), (15, 0), (16, 0), (17, 1)] (by kernel_rfl) ?_
 have hv0 : Fr No w1 w1.drew := (Fr.refl No w1).drew
 iterate 13 refine tq _ rfl rfl (by intro w9 h9; have ccc := h9.cell (fun h => h) cc; clear h9; go_simp; try with_reducible rfl) ?_; simp only [es1, es2, es3]
 refine wpSeq_next rfl rfl (fun K hK => ?_)
 go_wp2_with fail
 refine (State_any (h1.no hv0).on.st).mono ?_
 rintro e xhv1 ⟨rfl, hx⟩
 have hv1 := hv0.no hx
 clear hx
 refine hK.out _ _ (fun _ => hv1) ?_
 clear hK K
 refine wpSeq_next rfl rfl (fun K hK => ?_)
 go_wp2_with fail
 refine (Tail_any (h1.no hv1).on.st (h1.no hv1).on.ow (by have := h.tlen; omega)).mono ?_
 rintro e xhv2 ⟨vt, rfl, ho, hx⟩
 have hv2 := hv1.no hx
 obtain ⟨at_, ct, rfl, hbt, _⟩ := ho.bytes
 clear hx
 refine hK.out _ _ (fun _ => hv2) ?_
 clear hK K
 refine wpSeq_next rfl rfl (fun K hK => ?_)
 go_wp2_with fail
 refine (Long_any (h1.no hv2).on.st).mono ?_
 rintro e w' ⟨rfl, rfl⟩
 refine hK.out _ _ (fun _ => hv2) ?_
 clear hK K
 refine wpSeq_next rfl rfl (fun K hK => ?_)
 go_wp2_with fail
 refine (end_any s _ _ _ tl lo _ hbt h.tlen).mono ?_
 rintro e xhv3 ⟨rfl, hx⟩
 have hv3 := hv2.no hx
 clear hx
 refine hK.out _ _ (fun _ => hv3) ?_
 clear hK K
 refine tp _ rfl rfl ?_; simp only [es1, es2, es3]
 refine wpSeq_done ?_
 go_wp2_with fail
 go_ret
 exact ⟨rfl, hf1.no hv3⟩
def GivesHLanes (s : ST) (tl : Bytes) (lo : BitVec 64) (w : World) (e : Ending) (w' : World) : Prop := ∃ v, e = .returned (.tuple #[lanesV s, .int .u64 (W64 lo), v]) ∧ Owns w' w.heap.size v tl ∧ Fr No w w'
set_option maxHeartbeats 1000000 in
theorem Lanes_h {w0 w : World} {hb sb : Nat} {sd : BitVec 32} {s : ST} {tl : Bytes} {lo : BitVec 64} {tv : Value} (h : HLive w0 w hb sb sd s tl lo tv) : Calls Tryz.prog 273 #[.pointer (some ⟨hb, 0, none⟩)] w (GivesHLanes s tl lo w) := by
 have hlt := h.lt hb (.inl rfl)
 have hF1 : Fr No w (w.alloc (.cells #[.int .u64 0, .int .u64 0, .int .u64 0, .int .u64 0] 31)) := (Fr.refl No w).alloc _
 have h1 := h.no hF1
 have hR := row4_new w 31 (.int .u64 0) (.int .u64 0) (.int .u64 0) (.int .u64 0)
 go_enter Tryz.func273, Tryz.ntmps273
 go_wp2_with (go_at_call 119; refine (made_h h1).mono ?_; rintro e w' ⟨rfl, rfl⟩)
 obtain ⟨rb, hrb⟩ : ∃ rb, rb = w.heap.size := ⟨_, rfl⟩
 have hnb : ¬ hb = rb := by omega
 have hk := Lib.hid (fun (w' : World) (k : Fr (fun x => x = rb) (w.alloc (.cells #[.int .u64 0, .int .u64 0, .int .u64 0, .int .u64 0] 31)) w') => h1.keep k (fun x hx g => by have := h.lt x g; omega) (fun x hx => by have := h.on.fr.size; omega))
 rw [← hrb] at hR ⊢
 have hrg : w.heap.size ≤ rb := by omega
 clear hrb
 generalize w.alloc (.cells #[.int .u64 0, .int .u64 0, .int .u64 0, .int .u64 0] 31) = w1 at hF1 h1 hR hk ⊢
 have hrl := hR.lt
 have cc := h1.cell
 refine wp_region_seq (by kernel_rfl) (fun w' => Fr (fun x => x = rb) w1 w') (fun _ => false) [(0, 1), (1, 1), (2, 1), (3, 1), (7, 1), (8, 1), (9, 1), (10, 1), (12, 1), (13, 1), (14, 1), (15, 1), (4, 0), (5, 1), (6, 1), (11, 0), (16, 0), (17, 0), (18, 1), (19, 1)] (by kernel_rfl) (Fr.refl _ w1).drew ?_
 have hv0 : Fr No w1 w1.drew := (Fr.refl No w1).drew
 iterate 12 refine tq _ rfl rfl (by intro w9 h9; have ccc := h9.cell hnb cc; clear h9; go_simp; try with_reducible rfl) ?_; simp only [es1, es2, es3]
 refine wpSeq_next rfl rfl (fun K hK => ?_)
 go_wp2_with fail
 refine (State_any (hk.out _ (hv0.mono (fun _ _ f => f.elim))).on.st).mono ?_
 rintro e xhv1 ⟨rfl, hx⟩
 have hv1 := hv0.no hx
 clear hx
 refine hK.out _ _ (fun _ => (hv1.mono (fun _ _ f => f.elim))) ?_
 clear hK K
 iterate 2 refine tp _ rfl rfl ?_; simp only [es1, es2, es3]
 refine wpSeq_next rfl rfl (fun K hK => ?_)
 go_wp2_with fail
 refine (Long_any (hk.out _ (hv1.mono (fun _ _ f => f.elim))).on.st).mono ?_
 rintro e w' ⟨rfl, rfl⟩
 refine hK.out _ _ (fun _ => (hv1.mono (fun _ _ f => f.elim))) ?_
 clear hK K
 refine wpSeq_next rfl rfl (fun K hK => ?_)
 go_wp2_with fail
 refine (Tail_any (hk.out _ (hv1.mono (fun _ _ f => f.elim))).on.st (hk.out _ (hv1.mono (fun _ _ f => f.elim))).on.ow (by have := h.tlen; omega)).mono ?_
 rintro e xhv2 ⟨vt, rfl, ho, hx⟩
 have hsz := hv1.size
 have hv2 := hv1.no hx
 obtain ⟨at_, ct, rfl, _, _⟩ := ho.bytes
 clear hx
 refine hK.out _ _ (fun _ => (hv2.mono (fun _ _ f => f.elim))) ?_
 clear hK K
 have hRx := hR.no hv2
 have cr0 := hRx.c0
 have cr1 := hRx.c1
 have cr2 := hRx.c2
 have cr3 := hRx.c3
 have fr0 := hRx.fz 0
 have fr1 := hRx.fz 1
 have fr2 := hRx.fz 2
 have fr3 := hRx.fz 3
 refine wpSeq_next rfl rfl (fun K hK => ?_)
 go_wp2_with fail
 have hF3 := fr_put4 xhv2 rb (.int .u64 (W64 (s.setWidth 64))) (.int .u64 0) (.int .u64 0) (.int .u64 0)
 have hR3 := row_put4 hRx (.int .u64 (W64 (s.setWidth 64))) (.int .u64 0) (.int .u64 0) (.int .u64 0)
 have hs3 : Fr (fun x => x = rb) w1 _ := (hv2.mono (fun _ _ f => f.elim)).trans hF3 (fun _ h => .inl h)
 refine hK.out _ _ (fun _ => hs3) ?_
 clear hK K
 clear cr0 fr0 cr1 fr1 cr2 fr2 cr3 fr3
 generalize ((((xhv2.setCell ⟨rb, 0, none⟩ (.int .u64 (W64 (s.setWidth 64)))).setCell ⟨rb, 1, none⟩ (.int .u64 0)).setCell ⟨rb, 2, none⟩ (.int .u64 0)).setCell ⟨rb, 3, none⟩ (.int .u64 0)) = w3 at hF3 hR3 hs3 ⊢
 iterate 2 refine tp _ rfl rfl ?_; simp only [es1, es2, es3]
 refine wpSeq_done ?_
 have cd0 := hR3.c0
 have cd1 := hR3.c1
 have cd2 := hR3.c2
 have cd3 := hR3.c3
 have g1 := hF1.size
 go_wp2_with fail
 refine bodyPost_ret (v := .tuple #[lanesV s, .int .u64 (W64 lo), .slice at_ tl.length ct]) (by simp [results, Tryz.results273, go_sem, cd0, cd1, cd2, cd3, lanesV]) rfl ?_
 exact ⟨_, rfl, (ho.fr hF3 (fun x hx e => by have := own_ge ho hx; omega)).mono (by omega), hF1.trans hs3 (fun x hx => .inr (by omega))⟩
theorem fits_lt {n : Nat} {lo : BitVec 64} {size : Nat} (h : fitsB n lo size = true) (hn : n ≤ 1099511627776) (h1 : 1 ≤ size) (h2 : size ≤ 64) : n < size := by
 unfold fitsB at h
 have := congrArg BitVec.toNat (beq_iff_eq.1 h)
 simp only [BitVec.toNat_umod, BitVec.toNat_ofNat] at this
 rw [Nat.mod_eq_of_lt (show n < 2 ^ 64 by omega), Nat.mod_eq_of_lt (show size < 2 ^ 64 by omega)] at this
 rw [this]
 exact Nat.mod_lt _ (by omega)
def RightP (x0 x1 x2 x3 : BitVec 64) : Prop := x1 = 0#64 ∧ x2 = 0#64 ∧ x3 = 0#64 ∧ x0 / 4294967296#64 = 0#64
def stateF (x0 x1 x2 x3 : BitVec 64) : ST := x0.setWidth 32
def HSets (w0 : World) (hb sb : Nat) (sd : BitVec 32) (s2 : ST) (l : Bytes) (lo2 : BitVec 64) (w : World) (e : Ending) (w' : World) : Prop :=
 ∃ tv2, e = .returned (.bool true) ∧ HLive w0 w' hb sb sd s2 l lo2 tv2 ∧ Fr (fun x => x = sb) w w' ∧ ∀ x, tv2.ownBlock = some x → w.heap.size ≤ x
set_option maxHeartbeats 400000 in
theorem Set_right {w0 w : World} {hb sb : Nat} {sd : BitVec 32} {s : ST} {tl : Bytes} {lo : BitVec 64} {tv : Value} (h : HLive w0 w hb sb sd s tl lo tv) (x0 x1 x2 x3 : BitVec 64) (lv : Value) (hlv : lv = .agg #[.int .u64 (W64 x0), .int .u64 (W64 x1), .int .u64 (W64 x2), .int .u64 (W64 x3)]) (lo2 : BitVec 64) (a : Option Addr) (n c : Nat) (hw : RightP x0 x1 x2 x3) (hfit : fitsB n lo2 4 = true) (l : Bytes) (hy : IsBytes w a n c l) (hn : n ≤ 1099511627776) : Calls Tryz.prog 275 #[.pointer (some ⟨hb, 0, none⟩), lv, .int .u64 (W64 lo2), .slice a n c] w (HSets w0 hb sb sd (stateF x0 x1 x2 x3) l lo2 w) := by
 obtain ⟨rfl, rfl, rfl, hB⟩ := hw
 subst hlv
 have hF1 : Fr No w (w.alloc (.cells #[.int .u64 (W64 x0), .int .u64 (W64 0#64), .int .u64 (W64 0#64), .int .u64 (W64 0#64)] 31)) := (Fr.refl No w).alloc _
 have hR1 := row4_new w 31 (.int .u64 (W64 x0)) (.int .u64 (W64 0#64)) (.int .u64 (W64 0#64)) (.int .u64 (W64 0#64))
 have h1 := h.no hF1
 have cc := h1.cell
 have hb1 := hy.no hF1
 have hB2 : (x0 / 4294967296#64 == 0#64) = true := by simpa using hB
 have hB3 : (x0 / 4294967296#64 != 0#64) = false := by simp [bne, hB2]
 clear hB
 go_enter Tryz.func275, Tryz.ntmps275
 go_wp2_with (go_at_call 119; refine (made_h h1).mono ?_; rintro e w' ⟨rfl, rfl⟩)
 refine (Set_yes h1.on.st (by omega) (by omega) (stateF x0 0#64 0#64 0#64) lo2 _ n c l hb1 hn hfit).mono ?_
 rintro e w2 ⟨tv2, rfl, hst, hown, hfr⟩
 have hne : hb ≠ sb := fun e => h.ne (.inl e)
 have hlt := h1.lt hb (.inl rfl)
 have g1 := h1.on.fr.size
 have g2 := hF1.size
 have hH : HLive w0 w2 hb sb sd (stateF x0 0#64 0#64 0#64) l lo2 tv2 :=
  ⟨⟨hst, hown.mono (by omega), h.on.ge, h1.on.fr.trans hfr (fun x hx => .inr (by have := h.on.ge; omega))⟩, hfr.heap hne h1.hc, h.ge, (fun g => by rcases g with g | g; exact hne g; have := own_ge hown g; omega), by rw [hy.1]; exact fits_lt hfit hn (by omega) (by omega)⟩
 clear cc
 go_wp2_with fail
 go_ret
 exact ⟨tv2, rfl, hH, (hF1.mono (fun x _ f => f.elim)).trans hfr (fun x h => .inl h), fun x hx => by have := own_ge hown hx; omega⟩
end Go.Proofs.YtidlpihoafnobaaGreatDoor.StM32
