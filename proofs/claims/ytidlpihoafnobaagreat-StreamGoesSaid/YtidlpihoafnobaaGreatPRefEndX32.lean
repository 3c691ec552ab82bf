/- MixPlain M86Plain Mix64Plain Mix64 SipPlain Seq CodeM32 HashM32 RefEndX32 -/
import Derived.Test.YtidlpihoafnobaaGreatPCodeM64
import Derived.Test.YtidlpihoafnobaaGreatPRefX32
set_option linter.unusedVariables false
set_option linter.unusedSimpArgs false
namespace Go.Proofs.YtidlpihoafnobaaGreat
set_option maxRecDepth 100000
theorem div_shr64 (x c : BitVec 64) (k : Nat) (h : c.toNat = 2 ^ k) : x / c = x >>> k := by
 apply BitVec.eq_of_toNat_eq
 rw [BitVec.toNat_udiv, BitVec.toNat_ushiftRight, h, Nat.shiftRight_eq_div_pow]
theorem mod32 (x : BitVec 64) : BitVec.setWidth 32 (x % 4294967296#64) = BitVec.setWidth 32 x := by
 apply BitVec.eq_of_toNat_eq
 simp only [BitVec.toNat_setWidth, BitVec.toNat_umod, BitVec.toNat_ofNat]
 rw [show 4294967296 % 2 ^ 64 = 4294967296 from rfl]
 omega
end Go.Proofs.YtidlpihoafnobaaGreat
namespace Go.Proofs.YtidlpihoafnobaaGreat.StM86
set_option maxRecDepth 100000
theorem joinF_def (a b : BitVec 32) : a.setWidth 64 * 4294967296#64 + b.setWidth 64 = joinF a b := rfl
end Go.Proofs.YtidlpihoafnobaaGreat.StM86
namespace Go.Proofs.YtidlpihoafnobaaGreat
set_option maxRecDepth 100000
theorem fmix64_def (h : BitVec 64) : ((h ^^^ h / 8589934592#64) * 18397679294719823053#64 ^^^ (h ^^^ h / 8589934592#64) * 18397679294719823053#64 / 8589934592#64) * 14181476777654086739#64 ^^^
 ((h ^^^ h / 8589934592#64) * 18397679294719823053#64 ^^^ (h ^^^ h / 8589934592#64) * 18397679294719823053#64 / 8589934592#64) * 14181476777654086739#64 / 8589934592#64 = fmix64 h := rfl
theorem shr33 (x : BitVec 64) : x >>> 33 = x / 8589934592#64 := (div_shr64 x _ 33 (by rfl)).symm
end Go.Proofs.YtidlpihoafnobaaGreat
namespace Go.Proofs.YtidlpihoafnobaaGreat
set_option maxRecDepth 100000
open Go.RowKit
theorem refFmix64_any (h : BitVec 64) (w : World) :
 Calls Tryz.prog 94 #[.int .u64 (W64 h)] w (Gives (.int .u64 (W64 (fmix64 h))) w) := by
 go_enter Tryz.func94, Tryz.ntmps94
 go_wp2_with fail
 refine (refFold7_any _ 33 33 _ rfl (by omega) (by omega)).mono ?_
 rw [shr33]
 rintro e w' ⟨rfl, rfl⟩
 go_wp2_with fail
 refine (refFold7_any _ 33 33 _ rfl (by omega) (by omega)).mono ?_
 rw [shr33]
 rintro e w' ⟨rfl, rfl⟩
 go_wp2_with fail
 refine (refFold7_any _ 33 33 _ rfl (by omega) (by omega)).mono ?_
 rw [shr33]
 rintro e w' ⟨rfl, rfl⟩
 go_wp2_with fail
 rw [fmix64_def]
 go_ret
 exact ⟨rfl, rfl⟩
end Go.Proofs.YtidlpihoafnobaaGreat
namespace Go.Proofs.YtidlpihoafnobaaGreat.StSip
set_option maxRecDepth 100000
theorem le_bound (l : Bytes) : ∀ k : Nat, l.length ≤ k → (le l).toNat < 256 ^ k := by
 induction l with
 | nil => intro k _; exact Nat.pow_pos (by omega)
 | cons b r ih =>
  intro k hk
  obtain ⟨k, rfl⟩ : ∃ j, k = j + 1 := ⟨k - 1, by simp at hk; omega⟩
  have h1 := ih k (by simpa using hk)
  have h2 := b.isLt
  have h3 : (le (b :: r)).toNat ≤ b.toNat + (le r).toNat * 256 := by
   show (b.setWidth 64 + le r * 256#64).toNat ≤ _
   rw [BitVec.toNat_add, BitVec.toNat_mul, BitVec.toNat_setWidth]
   refine Nat.le_trans (Nat.mod_le _ _) ?_
   have h4 := Nat.mod_le b.toNat (2 ^ 64)
   have h5 := Nat.mod_le ((le r).toNat * 256) (2 ^ 64)
   have h6 : (256#64).toNat = 256 := rfl
   rw [h6]
   omega
  rw [Nat.pow_succ]
  omega
theorem mod_one (a : Nat) : a * 72057594037927936 % 18446744073709551616 = 72057594037927936 * (a % 256) := by omega
theorem mod_two (a : Nat) : a % 256 * 72057594037927936 % 18446744073709551616 = 72057594037927936 * (a % 256) := by
 have h := Nat.mod_lt a (show 256 > 0 by omega)
 generalize a % 256 = b at h
 omega
theorem mod_three (a x : Nat) (h : x < 72057594037927936) : 72057594037927936 * (a % 256) + x = (x + 72057594037927936 * (a % 256)) % 18446744073709551616 := by
 have h := Nat.mod_lt a (show 256 > 0 by omega)
 generalize a % 256 = b at h
 omega
theorem or_add (l : Bytes) (lo : BitVec 64) (hl : l.length < 8) : le (l.take 8) ||| lo * 72057594037927936#64 = le (l.take 8) + lo % 256#64 * 72057594037927936#64 := by
 have hb : (le (l.take 8)).toNat < 72057594037927936 := Nat.lt_of_lt_of_eq (le_bound (l.take 8) 7 (by rw [List.length_take]; omega)) (by decide)
 generalize le (l.take 8) = x at hb
 have h1 := lo.isLt
 apply BitVec.eq_of_toNat_eq
 rw [BitVec.toNat_or, BitVec.toNat_add, BitVec.toNat_mul, BitVec.toNat_mul, BitVec.toNat_umod]
 rw [show (256#64).toNat = 256 from rfl, show (72057594037927936#64).toNat = 72057594037927936 from rfl]
 have e0 : (2 : Nat) ^ 56 = 72057594037927936 := by decide
 have e3 : (2 : Nat) ^ 64 = 18446744073709551616 := by decide
 have e1 : lo.toNat * 72057594037927936 % 2 ^ 64 = 2 ^ 56 * (lo.toNat % 256) := by rw [e0, e3]; exact mod_one _
 have e2 : lo.toNat % 256 * 72057594037927936 % 2 ^ 64 = 2 ^ 56 * (lo.toNat % 256) := by rw [e0, e3]; exact mod_two _
 rw [e1, e2, Nat.or_comm, ← Nat.two_pow_add_eq_or_of_lt (show x.toNat < 2 ^ 56 by rw [e0]; exact hb), e0, e3]
 exact mod_three _ _ hb
end Go.Proofs.YtidlpihoafnobaaGreat.StSip
namespace Go.Proofs.YtidlpihoafnobaaGreat
set_option maxRecDepth 100000
open Go
section
variable {P : Program} {ops : Array Oper} {Q : Exit → Act → World → Prop} {S : World → Prop} {late : Nat → Bool}
theorem wpLate_two {i j : Nat} {oi oj : Oper} {fuel : Nat} {listed : Array Bool} {a : Act} {w : World} (hr : Region.ready .any ops listed = [i, j])
 (hi : ops[i]? = some oi) (hgi : Region.wanted oi (yielded ops a.tmps) = true) (hj : ops[j]? = some oj) (hgj : Region.wanted oj (yielded ops a.tmps) = true)
 (h1 : ∀ K : Act → World → Prop, Shut (∀ a w, (late i = false → S w) → wpLate P ops Q S late fuel (listed.setIfInBounds i true) a w → K a w) → Oper.wp P oi a w K Q)
 (h2 : ∀ K : Act → World → Prop, Shut (∀ a w, (late j = false → S w) → wpLate P ops Q S late fuel (listed.setIfInBounds j true) a w → K a w) → Oper.wp P oj a w K Q) :
 wpLate P ops Q S late (fuel + 1) listed a w := by
 refine ⟨fun h0 => absurd (hr ▸ h0) (by simp), ?_⟩
 rw [hr]
 intro k hk
 have hk : k = i ∨ k = j := by simpa using hk
 rcases hk with rfl | rfl
 · refine wpOp_step hi fun K hK => ?_
   rw [if_pos hgi]
   exact h1 K (show Shut _ from fun a w hS hW => hK a w ⟨hS, hW⟩)
 · refine wpOp_step hj fun K hK => ?_
   rw [if_pos hgj]
   exact h2 K (show Shut _ from fun a w hS hW => hK a w ⟨hS, hW⟩)
end
end Go.Proofs.YtidlpihoafnobaaGreat
namespace Go.Proofs.YtidlpihoafnobaaGreat.StM32
set_option maxRecDepth 100000
open Go.RowKit
set_option maxHeartbeats 400000 in
theorem refEnd_any (sv : Value) (x0 : BitVec 64) (s : ST) (v1 v2 v3 : Value) (a : Option Addr) (n c : Nat) (l : Bytes) (lo : BitVec 64) (w : World) (hs : Hid (x0.setWidth 32 = s)) (h : IsBytes w a n c l) :
 Calls Tryz.prog 48 #[sv, .agg #[.int .u64 (W64 x0), v1, v2, v3], .slice a n c, .int .u64 (W64 lo)] w (GivesNew (.int .u32 (W32 (endF s l lo))) w) := by
 have hF := (Fr.refl No w).alloc (.cells #[.int .u64 (W64 x0), v1, v2, v3] 49)
 have hR := row4_new w 49 (.int .u64 (W64 x0)) v1 v2 v3
 have h1 := h.no hF
 unfold endF
 go_enter Tryz.func48, Tryz.ntmps48
 go_wp2_with fail
 generalize w.alloc (.cells #[.int .u64 (W64 x0), v1, v2, v3] 49) = w1 at hF hR h1 ⊢
 refine rsq (by kernel_rfl) [(0, 1), (1, 1), (2, 1), (3, 1), (4, 0), (5, 1), (6, 0), (7, 1), (8, 1)] (by kernel_rfl) ?_
 have hS0 : Fr No w1 w1.drew := (Fr.refl No w1).drew
 iterate 4 refine tq _ rfl rfl (by intro w9 h9; have cc := (hR.no h9).c0; clear h9; go_simp; try with_reducible rfl) ?_; simp only [es1, es2, es3]
 refine wpSeq_next rfl rfl (fun K hK => ?_)
 go_wp2_with fail
 refine (refNum_any _ _ _ l 0 4 _ (h1.no hS0) (by omega) (by omega) (by omega) (by omega)).mono ?_
 rintro e w' ⟨rfl, rfl⟩
 refine hK.out _ _ (fun _ => hS0) ?_
 clear hK K
 refine tp _ rfl rfl ?_; simp only [es1, es2, es3]
 refine wpSeq_next rfl rfl (fun K hK => ?_)
 go_wp2_with fail
 refine (refWord_any _ _).mono ?_
 rintro e w' ⟨rfl, rfl⟩
 refine hK.out _ _ (fun _ => hS0) ?_
 clear hK K
 iterate 2 refine tp _ rfl rfl ?_; simp only [es1, es2, es3]
 refine wpSeq_done ?_
 go_wp2_with fail
 refine (refFmix32_any _ _).mono ?_
 rintro e w' ⟨rfl, rfl⟩
 go_wp2_with fail
 go_ret
 refine ⟨congrArg (fun z => Ending.returned (.int .u32 (W32 z))) ?_, hF.drew⟩
 rw [← hs.out]; simp [mod32]
end Go.Proofs.YtidlpihoafnobaaGreat.StM32
namespace Go.Proofs.YtidlpihoafnobaaGreat.StM32
set_option maxRecDepth 100000
open Go.RowKit
def stateF (x0 x1 x2 x3 : BitVec 64) : ST := x0.setWidth 32
end Go.Proofs.YtidlpihoafnobaaGreat.StM32
namespace Go.Proofs.YtidlpihoafnobaaGreat.StX32
set_option maxRecDepth 100000
open Go.Proofs.YtidlpihoafnobaaGreat.StG32
open Go.RowKit
theorem g1_def2 (h : BitVec 32) (b : BitVec 8) : rotl32 (h + BitVec.setWidth 32 b * 374761393#32) 11 * 2654435761#32 = g1 h b := rfl
set_option maxHeartbeats 2000000 in
theorem refEnd_short (sd : BitVec 32) (x0 x1 x2 x3 : BitVec 64) (s : ST) (a : Option Addr) (n c : Nat) (l : Bytes) (lo : BitVec 64) (w : World) (hs : Hid (s = (x0.setWidth 32, x1.setWidth 32, x2.setWidth 32, x3.setWidth 32))) (hb : IsBytes w a n c l) (hlo : W64 lo < 16) : Calls Tryz.prog 51 #[.int .u32 (W32 sd), .agg #[.int .u64 (W64 x0), .int .u64 (W64 x1), .int .u64 (W64 x2), .int .u64 (W64 x3)], .slice a n c, .int .u64 (W64 lo)] w (GivesNew (.int .u32 (W32 (endF sd s l lo))) w) := by
 have hf0 : Fr No w (w.alloc (.cells #[.int .u64 (W64 x0), .int .u64 (W64 x1), .int .u64 (W64 x2), .int .u64 (W64 x3)] 49)) := (Fr.refl No w).alloc _
 have hR := row4_new w 49 (.int .u64 (W64 x0)) (.int .u64 (W64 x1)) (.int .u64 (W64 x2)) (.int .u64 (W64 x3))
 have hH : headF sd s lo = sd + 374761393#32 := by unfold headF; rw [if_neg (by omega)]
 unfold endF
 rw [hH]
 generalize hr : restF (sd + 374761393#32 + lo.setWidth 32) l = r
 have HR := Lib.hid hr
 clear hr hH
 go_enter Tryz.func51, Tryz.ntmps51
 go_wp2_with fail
 generalize w.heap.size = pb at hR ⊢
 generalize w.alloc (.cells #[.int .u64 (W64 x0), .int .u64 (W64 x1), .int .u64 (W64 x2), .int .u64 (W64 x3)] 49) = w0 at hf0 hR ⊢
 have hf1 := hf0
 go_loopw [2, 9] (fun v u wr => ∃ m a' c' l' h', v = .slice a' m c' ∧ u = .int .u32 (W32 h') ∧ IsBytes w a' m c' l' ∧ Fr No w wr ∧ Hid (restF h' l' = r)) (fun v _ _ => match v with | .slice _ m _ => m | _ => 0)
 case atStart => exact ⟨n, a, c, l, _, rfl, by first | rfl | rw [mod32], hb, hf1, HR⟩
 case round =>
  obtain ⟨m, a', c', l', h', rfl, rfl, hb', hfr, hr'⟩ := hrel
  have hlen := Lib.hid hb'.1
  have hc : m ≤ c' := hb'.2.1
  have hc2 : c' ≤ 9223372036854775807 := hb'.2.2.1
  have hy := hb'.no hfr
  by_cases hlt : 4 ≤ m
  · have i2 : (4 : Int) ≤ (c' : Int) := by omega
    have i3 : (4 : Int) ≤ (m : Int) := by omega
    have hbig := Lib.hid (restF_big (h := h') (l := l') (by rw [hlen.out]; exact hlt))
    have hcut := hb'.cut_to_end 4 (n' := m - 4) (c' := c' - 4) hlt rfl rfl
    go_wp2_with fail
    refine (refNum_any _ _ _ l' 0 4 _ hy (by omega) (by omega) (by omega) (by omega)).mono ?_
    rintro e w' ⟨rfl, rfl⟩
    go_wp2_with fail
    refine (refRot32_any _ 17 _ (by omega) (by omega)).mono ?_
    rintro e w' ⟨rfl, rfl⟩
    go_wp2_with fail
    go_roundw
    case rel =>
     refine ⟨m - 4, _, _, _, g4 h' (l'.take 4), rfl, ?_, hcut, hfr, (by show _ = _; rw [← hr'.out, hbig.out])⟩
     rw [g4_take, ← g4_def]
    case measure => simp; omega
  · have hbl : Hid (l'.foldl g1 h' = r) := by show _ = _; rw [← restF_small (by rw [hlen.out]; omega), hr'.out]
    have i3 : (m : Int) < 4 := by omega
    clear hr'
    go_wp2_with fail
    obtain ⟨wo, rfl⟩ : ∃ wo : World, wo = wr := ⟨_, rfl⟩
    go_loopw [9, 52] (fun u i wr => ∃ (k : Nat) (h2 : BitVec 32), k ≤ m ∧ i = .int .i64 k ∧ u = .int .u32 (W32 h2) ∧ Fr No w wr ∧ Hid ((l'.drop k).foldl g1 h2 = r)) (fun _ i _ => m - (intOf i).toNat)
    case atStart => exact ⟨0, h', by omega, rfl, rfl, hfr, by show _ = _; rw [List.drop_zero]; exact hbl.out⟩
    case round =>
     obtain ⟨k, h2, hk, rfl, rfl, hf2, hr2⟩ := hrel
     clear hfr hbl
     by_cases hkm : k < m
     · have i4 : (k : Int) < (m : Int) := by omega
       have hkl : k < l'.length := by rw [hlen.out]; exact hkm
       obtain ⟨b, off, rfl, hcell⟩ := (hb'.no hf2).known (by omega)
       have hc0 := hcell k hkm
       have hd := Lib.hid (List.drop_eq_getElem_cons hkl)
       clear hcell
       go_wp2_with fail
       refine (refRot32_any _ 11 _ (by omega) (by omega)).mono ?_
       rintro e w' ⟨rfl, rfl⟩
       go_wp2_with fail
       go_roundw
       case rel =>
        refine ⟨k + 1, g1 h2 l'[k], by omega, rfl, by rw [g1_def2], hf2, ?_⟩
        show _ = _
        rw [← hr2.out, hd.out, List.foldl_cons]
       case measure => simp only [intOf, Int.toNat_natCast]; omega
     · have hkm2 : k = m := by omega
       subst hkm2
       have i4 : ¬ (k : Int) < (k : Int) := by omega
       have hh : h2 = r := by have := hr2.out; rw [List.drop_eq_nil_of_le (by rw [hlen.out]; exact Nat.le_refl _)] at this; exact this
       rw [hh]
       clear hh hr2
       go_wp2_with fail
       go_ret
       exact ⟨by unfold avalF; rfl, hf2⟩
def sumTo (s : ST) : Nat → BitVec 32
 | 0 => 0#32
 | 1 => rotl32 s.1 1
 | 2 => rotl32 s.1 1 + rotl32 s.2.1 7
 | 3 => rotl32 s.1 1 + rotl32 s.2.1 7 + rotl32 s.2.2.1 12
 | _ => rotl32 s.1 1 + rotl32 s.2.1 7 + rotl32 s.2.2.1 12 + rotl32 s.2.2.2 18
set_option maxHeartbeats 2000000 in
theorem refEnd_long (sd : BitVec 32) (x0 x1 x2 x3 : BitVec 64) (s : ST) (a : Option Addr) (n c : Nat) (l : Bytes) (lo : BitVec 64) (w : World) (hs : Hid (s = (x0.setWidth 32, x1.setWidth 32, x2.setWidth 32, x3.setWidth 32))) (hb : IsBytes w a n c l) (hlo : 16 ≤ W64 lo) : Calls Tryz.prog 51 #[.int .u32 (W32 sd), .agg #[.int .u64 (W64 x0), .int .u64 (W64 x1), .int .u64 (W64 x2), .int .u64 (W64 x3)], .slice a n c, .int .u64 (W64 lo)] w (GivesNew (.int .u32 (W32 (endF sd s l lo))) w) := by
 have hf0 : Fr No w (w.alloc (.cells #[.int .u64 (W64 x0), .int .u64 (W64 x1), .int .u64 (W64 x2), .int .u64 (W64 x3)] 49)) := (Fr.refl No w).alloc _
 have hR := row4_new w 49 (.int .u64 (W64 x0)) (.int .u64 (W64 x1)) (.int .u64 (W64 x2)) (.int .u64 (W64 x3))
 have hH : headF sd s lo = sumF s := by unfold headF; rw [if_pos hlo]
 unfold endF
 rw [hH]
 generalize hr : restF (sumF s + lo.setWidth 32) l = r
 have HR := Lib.hid hr
 clear hr hH
 go_enter Tryz.func51, Tryz.ntmps51
 go_wp2_with fail
 generalize w.heap.size = pb at hR ⊢
 generalize w.alloc (.cells #[.int .u64 (W64 x0), .int .u64 (W64 x1), .int .u64 (W64 x2), .int .u64 (W64 x3)] 49) = w0 at hf0 hR ⊢
 go_loopw [9, 10] (fun u i wr => ∃ k : Nat, k ≤ 4 ∧ i = .int .i64 k ∧ u = .int .u32 (W32 (sumTo s k)) ∧ Fr No w0 wr) (fun _ i _ => 4 - (intOf i).toNat)
 case atStart => exact ⟨0, by omega, rfl, rfl, Fr.refl No w0⟩
 case round =>
  obtain ⟨k, hk, rfl, rfl, hfi⟩ := hrel
  obtain ⟨wi, rfl⟩ : ∃ wi : World, wi = wr := ⟨_, rfl⟩
  rcases (show k = 0 ∨ k = 1 ∨ k = 2 ∨ k = 3 ∨ k = 4 by omega) with rfl | rfl | rfl | rfl | rfl
  · have hRw := hR.no hfi
    go_wp2_with fail
    refine rsq (by kernel_rfl) [(0, 1), (1, 1), (2, 1), (3, 1), (4, 1), (6, 1), (5, 0), (7, 1), (8, 0), (9, 0), (10, 1), (11, 1)] (by kernel_rfl) ?_
    have hv0 : Fr No wi wi.drew := (Fr.refl No wi).drew
    iterate 6 refine tq _ rfl rfl (by intro w9 h9; have q0 := (hRw.no h9).c0; clear h9; go_simp; try with_reducible rfl) ?_; simp only [es1, es2, es3]
    have hv1 : Fr No wi (wi.alloc (.cells #[.int .i64 1, .int .i64 7, .int .i64 12, .int .i64 18] 3)).drew := ((Fr.refl No wi).alloc _).drew
    refine wpSeq_next rfl rfl (fun K hK => ?_)
    go_wp2_with fail
    refine hK.out _ _ (fun _ => hv1) ?_
    clear hK K
    refine tp _ rfl rfl ?_; simp only [es1, es2, es3]
    refine wpSeq_next rfl rfl (fun K hK => ?_)
    go_wp2_with fail
    refine hK.out _ _ (fun _ => hv1) ?_
    clear hK K
    refine wpSeq_next rfl rfl (fun K hK => ?_)
    go_wp2_with fail
    refine (refRot32_any _ 1 _ (by omega) (by omega)).mono ?_
    rintro e w' ⟨rfl, rfl⟩
    refine hK.out _ _ (fun _ => hv1) ?_
    clear hK K
    iterate 2 refine tp _ rfl rfl ?_; simp only [es1, es2, es3]
    refine wpSeq_done ?_
    clear hRw
    go_wp2_with fail
    go_roundw
    case rel =>
     refine ⟨1, by omega, by simp, ?_, hfi.no hv1⟩
     simp only [sumTo]
     rw [hs.out]
     try simp
    case measure => simp [intOf]
  · have hRw := hR.no hfi
    go_wp2_with fail
    refine rsq (by kernel_rfl) [(0, 1), (1, 1), (2, 1), (3, 1), (4, 1), (6, 1), (5, 0), (7, 1), (8, 0), (9, 0), (10, 1), (11, 1)] (by kernel_rfl) ?_
    have hv0 : Fr No wi wi.drew := (Fr.refl No wi).drew
    iterate 6 refine tq _ rfl rfl (by intro w9 h9; have q1 := (hRw.no h9).c1; clear h9; go_simp; try with_reducible rfl) ?_; simp only [es1, es2, es3]
    have hv1 : Fr No wi (wi.alloc (.cells #[.int .i64 1, .int .i64 7, .int .i64 12, .int .i64 18] 3)).drew := ((Fr.refl No wi).alloc _).drew
    refine wpSeq_next rfl rfl (fun K hK => ?_)
    go_wp2_with fail
    refine hK.out _ _ (fun _ => hv1) ?_
    clear hK K
    refine tp _ rfl rfl ?_; simp only [es1, es2, es3]
    refine wpSeq_next rfl rfl (fun K hK => ?_)
    go_wp2_with fail
    refine hK.out _ _ (fun _ => hv1) ?_
    clear hK K
    refine wpSeq_next rfl rfl (fun K hK => ?_)
    go_wp2_with fail
    refine (refRot32_any _ 7 _ (by omega) (by omega)).mono ?_
    rintro e w' ⟨rfl, rfl⟩
    refine hK.out _ _ (fun _ => hv1) ?_
    clear hK K
    iterate 2 refine tp _ rfl rfl ?_; simp only [es1, es2, es3]
    refine wpSeq_done ?_
    clear hRw
    go_wp2_with fail
    go_roundw
    case rel =>
     refine ⟨2, by omega, by simp, ?_, hfi.no hv1⟩
     simp only [sumTo]
     rw [hs.out]
     try simp
    case measure => simp [intOf]
  · have hRw := hR.no hfi
    go_wp2_with fail
    refine rsq (by kernel_rfl) [(0, 1), (1, 1), (2, 1), (3, 1), (4, 1), (6, 1), (5, 0), (7, 1), (8, 0), (9, 0), (10, 1), (11, 1)] (by kernel_rfl) ?_
    have hv0 : Fr No wi wi.drew := (Fr.refl No wi).drew
    iterate 6 refine tq _ rfl rfl (by intro w9 h9; have q2 := (hRw.no h9).c2; clear h9; go_simp; try with_reducible rfl) ?_; simp only [es1, es2, es3]
    have hv1 : Fr No wi (wi.alloc (.cells #[.int .i64 1, .int .i64 7, .int .i64 12, .int .i64 18] 3)).drew := ((Fr.refl No wi).alloc _).drew
    refine wpSeq_next rfl rfl (fun K hK => ?_)
    go_wp2_with fail
    refine hK.out _ _ (fun _ => hv1) ?_
    clear hK K
    refine tp _ rfl rfl ?_; simp only [es1, es2, es3]
    refine wpSeq_next rfl rfl (fun K hK => ?_)
    go_wp2_with fail
    refine hK.out _ _ (fun _ => hv1) ?_
    clear hK K
    refine wpSeq_next rfl rfl (fun K hK => ?_)
    go_wp2_with fail
    refine (refRot32_any _ 12 _ (by omega) (by omega)).mono ?_
    rintro e w' ⟨rfl, rfl⟩
    refine hK.out _ _ (fun _ => hv1) ?_
    clear hK K
    iterate 2 refine tp _ rfl rfl ?_; simp only [es1, es2, es3]
    refine wpSeq_done ?_
    clear hRw
    go_wp2_with fail
    go_roundw
    case rel =>
     refine ⟨3, by omega, by simp, ?_, hfi.no hv1⟩
     simp only [sumTo]
     rw [hs.out]
     try simp
    case measure => simp [intOf]
  · have hRw := hR.no hfi
    go_wp2_with fail
    refine rsq (by kernel_rfl) [(0, 1), (1, 1), (2, 1), (3, 1), (4, 1), (6, 1), (5, 0), (7, 1), (8, 0), (9, 0), (10, 1), (11, 1)] (by kernel_rfl) ?_
    have hv0 : Fr No wi wi.drew := (Fr.refl No wi).drew
    iterate 6 refine tq _ rfl rfl (by intro w9 h9; have q3 := (hRw.no h9).c3; clear h9; go_simp; try with_reducible rfl) ?_; simp only [es1, es2, es3]
    have hv1 : Fr No wi (wi.alloc (.cells #[.int .i64 1, .int .i64 7, .int .i64 12, .int .i64 18] 3)).drew := ((Fr.refl No wi).alloc _).drew
    refine wpSeq_next rfl rfl (fun K hK => ?_)
    go_wp2_with fail
    refine hK.out _ _ (fun _ => hv1) ?_
    clear hK K
    refine tp _ rfl rfl ?_; simp only [es1, es2, es3]
    refine wpSeq_next rfl rfl (fun K hK => ?_)
    go_wp2_with fail
    refine hK.out _ _ (fun _ => hv1) ?_
    clear hK K
    refine wpSeq_next rfl rfl (fun K hK => ?_)
    go_wp2_with fail
    refine (refRot32_any _ 18 _ (by omega) (by omega)).mono ?_
    rintro e w' ⟨rfl, rfl⟩
    refine hK.out _ _ (fun _ => hv1) ?_
    clear hK K
    iterate 2 refine tp _ rfl rfl ?_; simp only [es1, es2, es3]
    refine wpSeq_done ?_
    clear hRw
    go_wp2_with fail
    go_roundw
    case rel =>
     refine ⟨4, by omega, by simp, ?_, hfi.no hv1⟩
     simp only [sumTo]
     rw [hs.out]
     try simp
    case measure => simp [intOf]
  · have hf1 := hf0.no hfi
    have hsum : sumTo s 4 = sumF s := rfl
    rw [hsum, show ((4 : Nat) : Int) = 4 from rfl]
    clear hsum hR hfi hf0
    go_wp2_with fail
    go_loopw [2, 9] (fun v u wr => ∃ m a' c' l' h', v = .slice a' m c' ∧ u = .int .u32 (W32 h') ∧ IsBytes w a' m c' l' ∧ Fr No w wr ∧ Hid (restF h' l' = r)) (fun v _ _ => match v with | .slice _ m _ => m | _ => 0)
    case atStart => exact ⟨n, a, c, l, _, rfl, by first | rfl | rw [mod32], hb, hf1, HR⟩
    case round =>
     obtain ⟨m, a', c', l', h', rfl, rfl, hb', hfr, hr'⟩ := hrel
     have hlen := Lib.hid hb'.1
     have hc : m ≤ c' := hb'.2.1
     have hc2 : c' ≤ 9223372036854775807 := hb'.2.2.1
     have hy := hb'.no hfr
     by_cases hlt : 4 ≤ m
     · have i2 : (4 : Int) ≤ (c' : Int) := by omega
       have i3 : (4 : Int) ≤ (m : Int) := by omega
       have hbig := Lib.hid (restF_big (h := h') (l := l') (by rw [hlen.out]; exact hlt))
       have hcut := hb'.cut_to_end 4 (n' := m - 4) (c' := c' - 4) hlt rfl rfl
       go_wp2_with fail
       refine (refNum_any _ _ _ l' 0 4 _ hy (by omega) (by omega) (by omega) (by omega)).mono ?_
       rintro e w' ⟨rfl, rfl⟩
       go_wp2_with fail
       refine (refRot32_any _ 17 _ (by omega) (by omega)).mono ?_
       rintro e w' ⟨rfl, rfl⟩
       go_wp2_with fail
       go_roundw
       case rel =>
        refine ⟨m - 4, _, _, _, g4 h' (l'.take 4), rfl, ?_, hcut, hfr, (by show _ = _; rw [← hr'.out, hbig.out])⟩
        rw [g4_take, ← g4_def]
       case measure => simp; omega
     · have hbl : Hid (l'.foldl g1 h' = r) := by show _ = _; rw [← restF_small (by rw [hlen.out]; omega), hr'.out]
       have i3 : (m : Int) < 4 := by omega
       clear hr'
       go_wp2_with fail
       obtain ⟨wo, rfl⟩ : ∃ wo : World, wo = wr := ⟨_, rfl⟩
       go_loopw [9, 52] (fun u i wr => ∃ (k : Nat) (h2 : BitVec 32), k ≤ m ∧ i = .int .i64 k ∧ u = .int .u32 (W32 h2) ∧ Fr No w wr ∧ Hid ((l'.drop k).foldl g1 h2 = r)) (fun _ i _ => m - (intOf i).toNat)
       case atStart => exact ⟨0, h', by omega, rfl, rfl, hfr, by show _ = _; rw [List.drop_zero]; exact hbl.out⟩
       case round =>
        obtain ⟨k, h2, hk, rfl, rfl, hf2, hr2⟩ := hrel
        clear hfr hbl
        by_cases hkm : k < m
        · have i4 : (k : Int) < (m : Int) := by omega
          have hkl : k < l'.length := by rw [hlen.out]; exact hkm
          obtain ⟨b, off, rfl, hcell⟩ := (hb'.no hf2).known (by omega)
          have hc0 := hcell k hkm
          have hd := Lib.hid (List.drop_eq_getElem_cons hkl)
          clear hcell
          go_wp2_with fail
          refine (refRot32_any _ 11 _ (by omega) (by omega)).mono ?_
          rintro e w' ⟨rfl, rfl⟩
          go_wp2_with fail
          go_roundw
          case rel =>
           refine ⟨k + 1, g1 h2 l'[k], by omega, rfl, by rw [g1_def2], hf2, ?_⟩
           show _ = _
           rw [← hr2.out, hd.out, List.foldl_cons]
          case measure => simp only [intOf, Int.toNat_natCast]; omega
        · have hkm2 : k = m := by omega
          subst hkm2
          have i4 : ¬ (k : Int) < (k : Int) := by omega
          have hh : h2 = r := by have := hr2.out; rw [List.drop_eq_nil_of_le (by rw [hlen.out]; exact Nat.le_refl _)] at this; exact this
          rw [hh]
          clear hh hr2
          go_wp2_with fail
          go_ret
          exact ⟨by unfold avalF; rfl, hf2⟩
theorem refEnd_any (sd : BitVec 32) (x0 x1 x2 x3 : BitVec 64) (s : ST) (a : Option Addr) (n c : Nat) (l : Bytes) (lo : BitVec 64) (w : World) (hs : Hid (s = (x0.setWidth 32, x1.setWidth 32, x2.setWidth 32, x3.setWidth 32))) (hb : IsBytes w a n c l) : Calls Tryz.prog 51 #[.int .u32 (W32 sd), .agg #[.int .u64 (W64 x0), .int .u64 (W64 x1), .int .u64 (W64 x2), .int .u64 (W64 x3)], .slice a n c, .int .u64 (W64 lo)] w (GivesNew (.int .u32 (W32 (endF sd s l lo))) w) := by
 by_cases h : 16 ≤ W64 lo
 · exact refEnd_long sd x0 x1 x2 x3 s a n c l lo w hs hb h
 · exact refEnd_short sd x0 x1 x2 x3 s a n c l lo w hs hb (by omega)
end Go.Proofs.YtidlpihoafnobaaGreat.StX32
