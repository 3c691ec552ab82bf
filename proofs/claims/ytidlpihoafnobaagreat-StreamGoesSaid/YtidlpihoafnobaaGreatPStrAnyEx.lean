/- HashM64 StrHasher StrIM64 StrIX32 SetG64 HashX64 StrIX64 HashSip StrISip StrIM86 StrIM32 StrPlain StrAny -/
import Derived.Stop.IfaceNil
import Derived.Test.YtidlpihoafnobaaGreatPHashM86
set_option linter.unusedVariables false
set_option linter.unusedSimpArgs false
namespace Go.Proofs.YtidlpihoafnobaaGreat.StM64
set_option maxRecDepth 100000
open Go.RowKit
theorem fits_lt {n : Nat} {lo : BitVec 64} {size : Nat} (h : fitsB n lo size = true) (hn : n ≤ 1099511627776) (h1 : 1 ≤ size) (h2 : size ≤ 64) : n < size := by
 unfold fitsB at h
 have := congrArg BitVec.toNat (beq_iff_eq.1 h)
 simp only [BitVec.toNat_umod, BitVec.toNat_ofNat] at this
 rw [Nat.mod_eq_of_lt (show n < 2 ^ 64 by omega), Nat.mod_eq_of_lt (show size < 2 ^ 64 by omega)] at this
 rw [this]
 exact Nat.mod_lt _ (by omega)
def RightP (x0 x1 x2 x3 : BitVec 64) : Prop := x2 = 0#64 ∧ x3 = 0#64
def HSets (w0 : World) (hb sb : Nat) (sd : BitVec 32) (s2 : ST) (l : Bytes) (lo2 : BitVec 64) (w : World) (e : Ending) (w' : World) : Prop :=
 ∃ tv2, e = .returned (.bool true) ∧ HLive w0 w' hb sb sd s2 l lo2 tv2 ∧ Fr (fun x => x = sb) w w' ∧ ∀ x, tv2.ownBlock = some x → w.heap.size ≤ x
theorem lanesV_state (x0 x1 x2 x3 : BitVec 64) : lanesV (stateF x0 x1 x2 x3) = .agg #[.int .u64 (W64 (x0)), .int .u64 (W64 (x1)), .int .u64 (W64 (0#64)), .int .u64 (W64 (0#64))] := rfl
set_option maxHeartbeats 800000 in
theorem Set_right {w0 w : World} {hb sb : Nat} {sd : BitVec 32} {s : ST} {tl : Bytes} {lo : BitVec 64} {tv : Value} (h : HLive w0 w hb sb sd s tl lo tv) (x0 x1 x2 x3 : BitVec 64) (lv : Value) (hlv : lv = .agg #[.int .u64 (W64 x0), .int .u64 (W64 x1), .int .u64 (W64 x2), .int .u64 (W64 x3)]) (lo2 : BitVec 64) (a : Option Addr) (n c : Nat) (hw : RightP x0 x1 x2 x3) (hfit : fitsB n lo2 16 = true) (l : Bytes) (hy : IsBytes w a n c l) (hn : n ≤ 1099511627776) : Calls Tryz.prog 278 #[.pointer (some ⟨hb, 0, none⟩), lv, .int .u64 (W64 lo2), .slice a n c] w (HSets w0 hb sb sd (stateF x0 x1 x2 x3) l lo2 w) := by
 subst hlv
 have hF1 : Fr No w (w.alloc (.cells #[.int .u64 (W64 x0), .int .u64 (W64 x1), .int .u64 (W64 x2), .int .u64 (W64 x3)] 49)) := (Fr.refl No w).alloc _
 have hR1 := row4_new w 49 (.int .u64 (W64 x0)) (.int .u64 (W64 x1)) (.int .u64 (W64 x2)) (.int .u64 (W64 x3))
 have h1 := h.no hF1
 have cc := h1.cell
 obtain ⟨pb0, hpb0⟩ : ∃ pb0, pb0 = w.heap.size := ⟨_, rfl⟩
 have hHid := Lib.hid hpb0
 clear hpb0
 go_enter Tryz.func278, Tryz.ntmps278
 go_wp2_with fail
 have hpb0 := hHid.out
 clear hHid
 have g2 := hF1.size
 have hps : ¬ pb0 = sb := by have := h.lt sb (.inr (.inl rfl)); omega
 rw [← hpb0] at hR1 ⊢
 clear hpb0
 obtain ⟨pb, rfl⟩ : ∃ pb, pb = pb0 := ⟨_, rfl⟩
 generalize w.alloc (.cells #[.int .u64 (W64 x0), .int .u64 (W64 x1), .int .u64 (W64 x2), .int .u64 (W64 x3)] 49) = w1 at hF1 hR1 h1 cc g2 ⊢
 have hq : (0#64 == x2 && 0#64 == x3) = true := by
  obtain ⟨e2, e3⟩ := hw
  rw [e2, e3]
  rfl
 refine rsq (by kernel_rfl) [(0, 1), (1, 0), (2, 1), (3, 1), (4, 1), (7, 1), (5, 0), (6, 0), (8, 1), (9, 1)] (by kernel_rfl) ?_
 have hv0 : Fr No w1 w1.drew := (Fr.refl No w1).drew
 refine tp _ rfl rfl ?_; simp only [es1, es2, es3]
 refine wpSeq_next rfl rfl (fun K hK => ?_)
 go_wp2_with fail
 refine (made_h (h1.no hv0)).mono ?_
 rintro e w' ⟨rfl, rfl⟩
 refine hK.out _ _ (fun _ => hv0) ?_
 clear hK K
 iterate 4 refine tq _ rfl rfl (by intro w9 h9; have q0 := (hR1.no h9).c0; have q1 := (hR1.no h9).c1; have q2 := (hR1.no h9).c2; have q3 := (hR1.no h9).c3; have ch := (h1.no h9).cell; clear h9; go_simp; try with_reducible rfl) ?_; simp only [es1, es2, es3]
 refine wpSeq_next rfl rfl (fun K hK => ?_)
 go_wp2_with fail
 refine (two_any x0 x1 x2 x3 _).mono ?_
 rintro e xhv1 ⟨rfl, hx⟩
 have hv1 := hv0.no hx
 clear hx
 refine hK.out _ _ (fun _ => hv1) ?_
 clear hK K
 refine wpSeq_next rfl rfl (fun K hK => ?_)
 go_wp2_with fail
 refine (four_any (stateF x0 x1 x2 x3) _).mono ?_
 rintro e xhv2 ⟨rfl, hx⟩
 have hv2 := hv1.no hx
 clear hx
 rw [lanesV_state]
 refine hK.out _ _ (fun _ => hv2) ?_
 clear hK K
 iterate 2 refine tp _ rfl rfl ?_; simp only [es1, es2, es3]
 refine wpSeq_done ?_
 go_wp2_with fail
 have h2 := h1.no hv2
 have hR2 := hR1.no hv2
 have hF2 := hF1.no hv2
 generalize xhv2 = w2 at h2 hR2 hF2 ⊢
 clear hR1 hv0 cc hv1 hv2
 have hb2 := hy.no hF2
 have cc := h2.cell
 have hnb : ¬ hb = sb := fun e => h2.ne (.inl e)
 refine wp_region_seq (by kernel_rfl) (fun w' => Fr (fun x => x = sb) w2 w') (fun _ => false) [(0, 1), (1, 1), (2, 1), (3, 1), (4, 1), (6, 1), (7, 1), (5, 0), (8, 0), (9, 1)] (by kernel_rfl) (Fr.refl _ w2).drew ?_
 have hv0 : Fr No w2 w2.drew := (Fr.refl No w2).drew
 iterate 7 refine tq _ rfl rfl (by intro w9 h9; have q0 := (hR2.fr h9 hps).c0; have q1 := (hR2.fr h9 hps).c1; have q2 := (hR2.fr h9 hps).c2; have q3 := (hR2.fr h9 hps).c3; have ch := h9.cell hnb cc; clear h9; go_simp; try with_reducible rfl) ?_; simp only [es1, es2, es3]
 refine wpSeq_next rfl rfl (fun K hK => ?_)
 go_wp2_with fail
 refine (two_any x0 x1 x2 x3 _).mono ?_
 rintro e xhv1 ⟨rfl, hx⟩
 have hv1 := hv0.no hx
 clear hx
 refine hK.out _ _ (fun _ => (hv1.mono (fun _ _ f => f.elim))) ?_
 clear hK K
 refine wpSeq_next rfl rfl (fun K hK => ?_)
 go_wp2_with fail
 refine (Set_yes (h2.no hv1).on.st (by omega) (by omega) (stateF x0 x1 x2 x3) lo2 _ n c l (hb2.no hv1) hn hfit).mono ?_
 rintro e w4 ⟨tv2, rfl, hst, hown, hfr⟩
 have hy4 : Fr (fun x => x = sb) w2 w4 := (hv1.mono (fun _ _ f => f.elim)).trans hfr (fun _ h => .inl h)
 refine hK.out _ _ (fun _ => hy4) ?_
 clear hK K
 refine tp _ rfl rfl ?_; simp only [es1, es2, es3]
 refine wpSeq_done ?_
 have h3 := h2.no hv1
 have hF3 := hF2.no hv1
 have hne : hb ≠ sb := fun e => h.ne (.inl e)
 have hlt := h3.lt hb (.inl rfl)
 have g1 := h3.on.fr.size
 have g3 := hF3.size
 have hH : HLive w0 w4 hb sb sd (stateF x0 x1 x2 x3) l lo2 tv2 :=
  ⟨⟨hst, hown.mono (by omega), h.on.ge, h3.on.fr.trans hfr (fun x hx => .inr (by have := h.on.ge; omega))⟩, hfr.heap hne h3.hc, h.ge, (fun g => by rcases g with g | g; exact hne g; have := own_ge hown g; omega), by rw [hy.1]; exact fits_lt hfit hn (by omega) (by omega)⟩
 go_wp2_with fail
 go_ret
 exact ⟨tv2, rfl, hH, (hF3.mono (fun x _ f => f.elim)).trans hfr (fun x h => .inl h), fun x hx => by have := own_ge hown hx; omega⟩
end Go.Proofs.YtidlpihoafnobaaGreat.StM64
namespace Go.Proofs.YtidlpihoafnobaaGreat
set_option maxRecDepth 100000
open Go.RowKit
theorem hSet_of {w : World} {hb : Nat} {T : TypeId} {v : Value} (h3 : w.cell? ⟨hb, 3, none⟩ = some (.iface T v)) (f : FuncId) (hm : ∀ W, (Go.method 369 T v "Set").run Tryz.prog W = .ok (f, v) W) (he : ∀ (args : Array Value) (W : World), Sem.run Tryz.prog (callFunc f args) W = .ok (.enter f args) W) (x0 x1 x2 x3 lo : BitVec 64) (a : Option Addr) (n c : Nat) (b : Bool) {F : Nat → Prop} {Q : World → Prop} (hFb : ¬ F hb) (hFl : ∀ x, F x → x < w.heap.size)
 (hc : ∀ W, Fr No w W → Calls Tryz.prog f #[v, .agg #[.int .u64 (W64 x0), .int .u64 (W64 x1), .int .u64 (W64 x2), .int .u64 (W64 x3)], .int .u64 (W64 lo), .slice a n c] W (fun e w' => e = .returned (.bool b) ∧ Q w' ∧ Fr F W w')) :
 Calls Tryz.prog 29 #[.pointer (some ⟨hb, 0, none⟩), .agg #[.int .u64 (W64 x0), .int .u64 (W64 x1), .int .u64 (W64 x2), .int .u64 (W64 x3)], .int .u64 (W64 lo), .slice a n c] w (fun e w' => e = .returned (.int .i64 (if b then 0 else 5)) ∧ Q w') := by
 have hF := (Fr.refl No w).alloc (.cells #[.int .u64 (W64 x0), .int .u64 (W64 x1), .int .u64 (W64 x2), .int .u64 (W64 x3)] 49)
 have hA := row4_new w 49 (.int .u64 (W64 x0)) (.int .u64 (W64 x1)) (.int .u64 (W64 x2)) (.int .u64 (W64 x3))
 have hFa : ¬ F w.heap.size := fun h => by have := hFl _ h; omega
 have h3' := hF.cell (fun h => h) h3
 clear h3
 have h3 := h3'
 clear h3'
 go_enter Tryz.func29, Tryz.ntmps29
 go_wp2_with (go_at_call 38; refine (hmade_yes h3).mono ?_; rintro e w' ⟨rfl, rfl⟩)
 generalize w.heap.size = ab at hA hFa ⊢
 generalize w.alloc (.cells #[.int .u64 (W64 x0), .int .u64 (W64 x1), .int .u64 (W64 x2), .int .u64 (W64 x3)] 49) = w1 at hF hA h3 ⊢
 refine wp_region_seq (by kernel_rfl) (fun w' => Fr F w1 w') (fun _ => false) [(0, 1), (1, 1), (2, 1), (3, 1), (4, 1), (5, 1), (6, 1), (7, 0), (8, 1), (9, 1)] (by kernel_rfl) (Fr.refl F w1).drew ?_
 have hS0 : Fr F w1 w1.drew := (Fr.refl F w1).drew
 iterate 7 refine tq _ rfl rfl (by intro w9 h9; have q3 := h9.cell hFb h3; have r0 := (hA.fr h9 hFa).c0; have r1 := (hA.fr h9 hFa).c1; have r2 := (hA.fr h9 hFa).c2; have r3 := (hA.fr h9 hFa).c3; clear h9; go_simp; try with_reducible rfl) ?_; simp only [es1, es2, es3]
 have hW : Fr No w w1.drew := hF.drew
 refine wpSeq_next rfl rfl (fun K hK => ?_)
 go_wp2_with fail
 refine (hc _ hW).mono ?_
 rintro e w2 ⟨rfl, hQ, hf⟩
 have hf2 : Fr F w1 w2 := hS0.trans hf (fun x hx => .inl hx)
 refine hK.out _ _ (fun _ => hf2) ?_
 clear hK K
 iterate 2 refine tp _ rfl rfl ?_; simp only [es1, es2, es3]
 refine wpSeq_done ?_
 cases b
 · go_wp2_with fail
   go_ret
   exact ⟨rfl, hQ⟩
 · go_wp2_with fail
   go_ret
   exact ⟨rfl, hQ⟩
end Go.Proofs.YtidlpihoafnobaaGreat
namespace Go.Proofs.YtidlpihoafnobaaGreat.StM64
set_option maxRecDepth 100000
open Go.RowKit
theorem HS.set_right {w0 w : World} {hb : Nat} {F : Nat → Prop} {k : Int} {kh kl : BitVec 64} {s : ST} {tl : Bytes} {lo : BitVec 64} (h : HS w0 w hb (F) k kh kl s tl lo) (x0 x1 x2 x3 lo2 : BitVec 64) (a : Option Addr) (n c : Nat) (hw : RightP x0 x1 x2 x3) (hfit : fitsB n lo2 16 = true) (l : Bytes) (hy : IsBytes w a n c l) (hn : n ≤ 1099511627776) :
 Calls Tryz.prog 29 #[.pointer (some ⟨hb, 0, none⟩), .agg #[.int .u64 (W64 x0), .int .u64 (W64 x1), .int .u64 (W64 x2), .int .u64 (W64 x3)], .int .u64 (W64 lo2), .slice a n c] w (fun e w' => e = .returned (.int .i64 0) ∧ ∃ F', HS w0 w' hb F' k kh kl (stateF x0 x1 x2 x3) l lo2 ∧ Fr F w w' ∧ ∀ x, F' x → F x ∨ w.heap.size ≤ x) := by
 obtain ⟨ib, sb, tv, c6, c7, c8, c9, c10, c11, hr, hc, hL, rfl⟩ := h
 refine hSet_of hr.c3 278 (fun W => by kernel_rfl) (calls_enter Tryz.func278 (by kernel_rfl) (by kernel_rfl)) x0 x1 x2 x3 lo2 a n c true (F := Foot sb tv) (hL.on.con _ _ hr ⟨_, _, rfl, by decide⟩) (fun x hx => hL.lt x (.inr hx)) (fun W hW => (Set_right (hL.no hW) x0 x1 x2 x3 _ rfl lo2 a n c hw hfit l (hy.no hW) hn).mono ?_)
 rintro e w' ⟨tv2, rfl, hL', hf, hk⟩
 have hK := (hL.no hW).on.con
 have hf2 : Fr (Foot sb tv) W w' := hf.mono (fun x _ g => .inl g)
 have hr := hr.no hW
 have hc := hc.no hW
 refine ⟨rfl, ⟨_, ⟨ib, sb, _, c6, c7, c8, c9, c10, c11, hr.fr hf2 hK, (hc.fr hf2 (hK) (by decide)), hL', rfl⟩, (hW.mono (fun x _ g => g.elim)).trans hf2 (fun x hx => .inl hx), fun x hx => ?_⟩, hf2⟩
 rcases hx with rfl | hx
 · exact .inl (.inl rfl)
 · exact .inr (Nat.le_trans hW.size (hk _ hx))
end Go.Proofs.YtidlpihoafnobaaGreat.StM64
namespace Go.Proofs.YtidlpihoafnobaaGreat.StX32
open Go.Proofs.YtidlpihoafnobaaGreat.StG32
set_option maxRecDepth 100000
open Go.RowKit
theorem HS.set_right {w0 w : World} {hb : Nat} {F : Nat → Prop} {k : Int} {kh kl : BitVec 64} {s : ST} {tl : Bytes} {lo : BitVec 64} (h : HS w0 w hb (F) k kh kl s tl lo) (x0 x1 x2 x3 lo2 : BitVec 64) (a : Option Addr) (n c : Nat) (hw : RightP x0 x1 x2 x3) (hfit : fitsB n lo2 16 = true) (l : Bytes) (hy : IsBytes w a n c l) (hn : n ≤ 1099511627776) :
 Calls Tryz.prog 29 #[.pointer (some ⟨hb, 0, none⟩), .agg #[.int .u64 (W64 x0), .int .u64 (W64 x1), .int .u64 (W64 x2), .int .u64 (W64 x3)], .int .u64 (W64 lo2), .slice a n c] w (fun e w' => e = .returned (.int .i64 0) ∧ ∃ F', HS w0 w' hb F' k kh kl (stateF x0 x1 x2 x3) l lo2 ∧ Fr F w w' ∧ ∀ x, F' x → F x ∨ w.heap.size ≤ x) := by
 obtain ⟨ib, sb, tv, c6, c7, c8, c9, c10, c11, hr, hc, hL, rfl⟩ := h
 refine hSet_of hr.c3 287 (fun W => by kernel_rfl) (calls_enter Tryz.func287 (by kernel_rfl) (by kernel_rfl)) x0 x1 x2 x3 lo2 a n c true (F := Foot sb tv) (hL.on.con _ _ hr ⟨_, _, rfl, by decide⟩) (fun x hx => hL.lt x (.inr hx)) (fun W hW => (Set_right (hL.no hW) x0 x1 x2 x3 _ rfl lo2 a n c hw hfit l (hy.no hW) hn).mono ?_)
 rintro e w' ⟨tv2, rfl, hL', hf, hk⟩
 have hK := (hL.no hW).on.con
 have hf2 : Fr (Foot sb tv) W w' := hf.mono (fun x _ g => .inl g)
 have hr := hr.no hW
 have hc := hc.no hW
 refine ⟨rfl, ⟨_, ⟨ib, sb, _, c6, c7, c8, c9, c10, c11, hr.fr hf2 hK, (hc.fr hf2 (hK) (by decide)), hL', rfl⟩, (hW.mono (fun x _ g => g.elim)).trans hf2 (fun x hx => .inl hx), fun x hx => ?_⟩, hf2⟩
 rcases hx with rfl | hx
 · exact .inl (.inl rfl)
 · exact .inr (Nat.le_trans hW.size (hk _ hx))
end Go.Proofs.YtidlpihoafnobaaGreat.StX32
namespace Go.Proofs.YtidlpihoafnobaaGreat.StG64
set_option maxRecDepth 100000
open Go.RowKit
def fitsB (n : Nat) (lo : BitVec 64) (size : Nat) : Bool := BitVec.ofNat 64 n == lo % BitVec.ofNat 64 size
theorem size_ne (size : Nat) (hz1 : 1 ≤ size) (hz2 : size ≤ 64) : (BitVec.ofNat 64 size == 0#64) = false := by
 rw [beq_eq_false_iff_ne]
 intro h
 have := ofNat_inj' (n := size) (m := 0) (by omega) (by omega) h
 omega
def Sets (size : Int) (f s2 : ST) (q : QT) (sb : Nat) (l : Bytes) (lo2 : BitVec 64) (w : World) (e : Ending) (w' : World) : Prop :=
 ∃ tv2, e = .returned (.bool true) ∧ StreamAt w' sb size f s2 q tv2 lo2 ∧ Owns w' w.heap.size tv2 l ∧ Fr (fun x => x = sb) w w'
set_option maxHeartbeats 1000000 in
theorem Set_yes {w : World} {sb size : Nat} {f s : ST} {q : QT} {tv : Value} {lo : BitVec 64} (hst : StreamAt w sb size f s q tv lo) (hz1 : 1 ≤ size) (hz2 : size ≤ 64) (s2 : ST) (lo2 : BitVec 64) (a : Option Addr) (n c : Nat) (l : Bytes) (hb : IsBytes w a n c l) (hn : n ≤ 1099511627776) (hfit : fitsB n lo2 size = true) :
 Calls Tryz.prog 296 #[.pointer (some ⟨sb, 0, none⟩), .agg #[cS s2 0, cS s2 1, cS s2 2, cS s2 3], .int .u64 (W64 lo2), .slice a n c] w (Sets size f s2 q sb l lo2 w) := by
 have hz := size_ne size hz1 hz2
 have hz' : ¬ BitVec.ofNat 64 size = 0#64 := by simpa using hz
 unfold fitsB at hfit
 have hfit' : (BitVec.ofNat 64 n != lo2 % BitVec.ofNat 64 size) = false := by simp [bne, hfit]
 have hst1 : StreamAt (w.alloc (.cells #[cS s2 0, cS s2 1, cS s2 2, cS s2 3] 49)) sb size f s q tv lo := hst.fr ((Fr.refl No w).alloc _) (fun h => h)
 have hF1 : Fr No w (w.alloc (.cells #[cS s2 0, cS s2 1, cS s2 2, cS s2 3] 49)) := (Fr.refl _ _).alloc _
 have hb1 := hb.no hF1
 have hlt := hst.lt
 have cz : (w.alloc (.cells #[cS s2 0, cS s2 1, cS s2 2, cS s2 3] 49)).cell? ⟨sb, 0, none⟩ = some (.int .i64 size) := hst1.cell 0 rfl
 go_enter Tryz.func296, Tryz.ntmps296
 go_wp2_with (go_at_call 234; refine (made_any hst1).mono ?_; rintro e w' ⟨rfl, rfl⟩)
 clear hfit hfit' hz hz'
 have hbox : BoxAt (w.alloc (.cells #[cS s2 0, cS s2 1, cS s2 2, cS s2 3] 49)) w.heap.size s2 := heap_alloc_new w _
 generalize (w.alloc (.cells #[cS s2 0, cS s2 1, cS s2 2, cS s2 3] 49)) = w1 at hst1 hF1 hb1 hbox cz ⊢
 have hne : w.heap.size ≠ sb := by omega
 refine wp_region_seq (by kernel_rfl) (fun w' => Fr (fun x => x = sb) w1 w') (fun _ => false) [(0, 1), (1, 1), (2, 1), (3, 1), (4, 1), (5, 1), (6, 0), (7, 1), (8, 1), (9, 0), (10, 1), (11, 1), (12, 0), (13, 1), (14, 1), (15, 0)] (by kernel_rfl) (Fr.refl _ w1).drew ?_
 have hS0 : Fr (fun x => x = sb) w1 w1.drew := (Fr.refl _ w1).drew
 iterate 6 refine tq _ rfl rfl (by intro w9 h9; have cb0 : w9.cell? ⟨w.heap.size, 0, none⟩ = some (cS s2 0) := (hbox.fr h9 hne).cell 0 rfl; have cb1 : w9.cell? ⟨w.heap.size, 1, none⟩ = some (cS s2 1) := (hbox.fr h9 hne).cell 1 rfl; have cb2 : w9.cell? ⟨w.heap.size, 2, none⟩ = some (cS s2 2) := (hbox.fr h9 hne).cell 2 rfl; have cb3 : w9.cell? ⟨w.heap.size, 3, none⟩ = some (cS s2 3) := (hbox.fr h9 hne).cell 3 rfl; clear h9; go_simp; try with_reducible rfl) ?_; simp only [es1, es2, es3]
 refine wpSeq_next rfl rfl (fun K hK => ?_)
 go_wp2_with fail
 refine (Clone_any _ _ _ l _ (hb1.no (Fr.refl No w1).drew) (by omega)).mono ?_
 rintro e w2 ⟨v2, rfl, ho2, hf2⟩
 obtain ⟨a2, c2, rfl, _, _⟩ := ho2.bytes
 have hS2 : StreamAt w2 sb size f s q tv lo := StreamAt.fr (w := w1.drew) hst1 hf2 (fun h => h)
 have hf12 : Fr (fun x => x = sb) w1 w2 := hS0.trans hf2 (fun _ h => h.elim)
 refine hK.out _ _ (fun _ => hf12) ?_
 clear hK K hS0 cz
 iterate 2 refine tp _ rfl rfl ?_; simp only [es1, es2, es3]
 have hrow9 := hS2
 have cg9_5 : w2.cell? ⟨sb, 5, none⟩ = some (cS s 0) := by rw [cell_of_row w2 sb 5 _ _ _ hrow9]; rfl
 have fg9_5 := frozen_of_row w2 sb 5 _ _ hrow9
 have cg9_6 : w2.cell? ⟨sb, 6, none⟩ = some (cS s 1) := by rw [cell_of_row w2 sb 6 _ _ _ hrow9]; rfl
 have fg9_6 := frozen_of_row w2 sb 6 _ _ hrow9
 have cg9_7 : w2.cell? ⟨sb, 7, none⟩ = some (cS s 2) := by rw [cell_of_row w2 sb 7 _ _ _ hrow9]; rfl
 have fg9_7 := frozen_of_row w2 sb 7 _ _ hrow9
 have cg9_8 : w2.cell? ⟨sb, 8, none⟩ = some (cS s 3) := by rw [cell_of_row w2 sb 8 _ _ _ hrow9]; rfl
 have fg9_8 := frozen_of_row w2 sb 8 _ _ hrow9
 refine wpSeq_next rfl rfl (fun K hK => ?_)
 go_wp2_with fail
 have hq9 : Fr (fun x => x = sb) w2 (World.setCell (World.setCell (World.setCell (World.setCell w2 ⟨sb, 5, none⟩ (cS s2 0)) ⟨sb, 6, none⟩ (cS s2 1)) ⟨sb, 7, none⟩ (cS s2 2)) ⟨sb, 8, none⟩ (cS s2 3)) := ((((Fr.refl (fun x => x = sb) w2).setCell (p := ⟨sb, 5, none⟩) (.inl rfl) _).setCell (p := ⟨sb, 6, none⟩) (.inl rfl) _).setCell (p := ⟨sb, 7, none⟩) (.inl rfl) _).setCell (p := ⟨sb, 8, none⟩) (.inl rfl) _
 have hr9 := (row_put (row_put (row_put (row_put hrow9 5 (cS s2 0)) 6 (cS s2 1)) 7 (cS s2 2)) 8 (cS s2 3))
 have hs9 := hf12.trans hq9 (fun _ h => .inl h)
 refine hK.out _ _ (fun _ => hs9) ?_
 clear hK K cg9_5 fg9_5 cg9_6 fg9_6 cg9_7 fg9_7 cg9_8 fg9_8 hrow9
 generalize hW9 : (World.setCell (World.setCell (World.setCell (World.setCell w2 ⟨sb, 5, none⟩ (cS s2 0)) ⟨sb, 6, none⟩ (cS s2 1)) ⟨sb, 7, none⟩ (cS s2 2)) ⟨sb, 8, none⟩ (cS s2 3)) = w29 at hq9 hr9 hs9 ⊢
 clear hW9
 iterate 2 refine tp _ rfl rfl ?_; simp only [es1, es2, es3]
 have hrow12 := hr9
 have cg12_11 : w29.cell? ⟨sb, 11, none⟩ = some (.int .u64 (W64 lo)) := by rw [cell_of_row w29 sb 11 _ _ _ hrow12]; rfl
 have fg12_11 := frozen_of_row w29 sb 11 _ _ hrow12
 refine wpSeq_next rfl rfl (fun K hK => ?_)
 go_wp2_with fail
 have hq12 : Fr (fun x => x = sb) w29 (World.setCell w29 ⟨sb, 11, none⟩ (.int .u64 (W64 lo2))) := (Fr.refl (fun x => x = sb) w29).setCell (p := ⟨sb, 11, none⟩) (.inl rfl) _
 have hr12 := (row_put hrow12 11 (.int .u64 (W64 lo2)))
 have hs12 := hs9.trans hq12 (fun _ h => .inl h)
 refine hK.out _ _ (fun _ => hs12) ?_
 clear hK K cg12_11 fg12_11 hrow12
 generalize hW12 : (World.setCell w29 ⟨sb, 11, none⟩ (.int .u64 (W64 lo2))) = w32 at hq12 hr12 hs12 ⊢
 clear hW12
 iterate 2 refine tp _ rfl rfl ?_; simp only [es1, es2, es3]
 have hrow15 := hr12
 have cg15_10 : w32.cell? ⟨sb, 10, none⟩ = some (tv) := by rw [cell_of_row w32 sb 10 _ _ _ hrow15]; rfl
 have fg15_10 := frozen_of_row w32 sb 10 _ _ hrow15
 refine wpSeq_next rfl rfl (fun K hK => ?_)
 go_wp2_with fail
 have hq15 : Fr (fun x => x = sb) w32 (World.setCell w32 ⟨sb, 10, none⟩ (.slice a2 l.length c2)) := (Fr.refl (fun x => x = sb) w32).setCell (p := ⟨sb, 10, none⟩) (.inl rfl) _
 have hr15 := (row_put hrow15 10 (.slice a2 l.length c2))
 have hs15 := hs12.trans hq15 (fun _ h => .inl h)
 refine hK.out _ _ (fun _ => hs15) ?_
 clear hK K cg15_10 fg15_10 hrow15
 generalize hW15 : (World.setCell w32 ⟨sb, 10, none⟩ (.slice a2 l.length c2)) = w35 at hq15 hr15 hs15 ⊢
 clear hW15
 refine wpSeq_done ?_
 go_wp2_with fail
 go_ret
 have hall : Fr (fun x => x = sb) w2 w35 := (hq9.trans hq12 (fun _ h => .inl h)).trans hq15 (fun _ h => .inl h)
 exact ⟨_, rfl, hr15, (ho2.fr hall (fun x hx e => hS2.apart ho2 (by rw [hx, e]))).mono hF1.size, (hF1.mono (fun x _ f => f.elim)).trans hs15 (fun x h => .inl h)⟩
end Go.Proofs.YtidlpihoafnobaaGreat.StG64
namespace Go.Proofs.YtidlpihoafnobaaGreat.StX64
set_option maxRecDepth 100000
open Go.Proofs.YtidlpihoafnobaaGreat.StG64
open Go.RowKit
theorem fits_lt {n : Nat} {lo : BitVec 64} {size : Nat} (h : fitsB n lo size = true) (hn : n ≤ 1099511627776) (h1 : 1 ≤ size) (h2 : size ≤ 64) : n < size := by
 unfold fitsB at h
 have := congrArg BitVec.toNat (beq_iff_eq.1 h)
 simp only [BitVec.toNat_umod, BitVec.toNat_ofNat] at this
 rw [Nat.mod_eq_of_lt (show n < 2 ^ 64 by omega), Nat.mod_eq_of_lt (show size < 2 ^ 64 by omega)] at this
 rw [this]
 exact Nat.mod_lt _ (by omega)
def RightP (x0 x1 x2 x3 : BitVec 64) : Prop := True
def HSets (w0 : World) (hb sb : Nat) (sd : BitVec 64) (s2 : ST) (l : Bytes) (lo2 : BitVec 64) (w : World) (e : Ending) (w' : World) : Prop :=
 ∃ tv2, e = .returned (.bool true) ∧ HLive w0 w' hb sb sd s2 l lo2 tv2 ∧ Fr (fun x => x = sb) w w' ∧ ∀ x, tv2.ownBlock = some x → w.heap.size ≤ x
set_option maxHeartbeats 800000 in
theorem Set_right {w0 w : World} {hb sb : Nat} {sd : BitVec 64} {s : ST} {tl : Bytes} {lo : BitVec 64} {tv : Value} (h : HLive w0 w hb sb sd s tl lo tv) (x0 x1 x2 x3 : BitVec 64) (lv : Value) (hlv : lv = .agg #[.int .u64 (W64 x0), .int .u64 (W64 x1), .int .u64 (W64 x2), .int .u64 (W64 x3)]) (lo2 : BitVec 64) (a : Option Addr) (n c : Nat) (hw : RightP x0 x1 x2 x3) (hfit : fitsB n lo2 32 = true) (l : Bytes) (hy : IsBytes w a n c l) (hn : n ≤ 1099511627776) : Calls Tryz.prog 293 #[.pointer (some ⟨hb, 0, none⟩), lv, .int .u64 (W64 lo2), .slice a n c] w (HSets w0 hb sb sd (stateF x0 x1 x2 x3) l lo2 w) := by
 subst hlv
 have hF1 : Fr No w (w.alloc (.cells #[.int .u64 (W64 x0), .int .u64 (W64 x1), .int .u64 (W64 x2), .int .u64 (W64 x3)] 49)) := (Fr.refl No w).alloc _
 have hR1 := row4_new w 49 (.int .u64 (W64 x0)) (.int .u64 (W64 x1)) (.int .u64 (W64 x2)) (.int .u64 (W64 x3))
 have h1 := h.no hF1
 have cc := h1.cell
 obtain ⟨pb0, hpb0⟩ : ∃ pb0, pb0 = w.heap.size := ⟨_, rfl⟩
 have hHid := Lib.hid hpb0
 clear hpb0
 go_enter Tryz.func293, Tryz.ntmps293
 go_wp2_with fail
 have hpb0 := hHid.out
 clear hHid
 have g2 := hF1.size
 have hps : ¬ pb0 = sb := by have := h.lt sb (.inr (.inl rfl)); omega
 have hnb : ¬ hb = sb := fun e => h.ne (.inl e)
 rw [← hpb0] at hR1 ⊢
 clear hpb0
 obtain ⟨pb, rfl⟩ : ∃ pb, pb = pb0 := ⟨_, rfl⟩
 generalize w.alloc (.cells #[.int .u64 (W64 x0), .int .u64 (W64 x1), .int .u64 (W64 x2), .int .u64 (W64 x3)] 49) = w1 at hF1 hR1 h1 cc g2 ⊢
 have hb2 := hy.no hF1
 refine wp_region_seq (by kernel_rfl) (fun w' => Fr (fun x => x = sb) w1 w') (fun _ => false) [(0, 1), (1, 0), (2, 1), (3, 1), (4, 1), (5, 1), (6, 1), (7, 1), (8, 1), (9, 1), (10, 0), (11, 1), (12, 1)] (by kernel_rfl) (Fr.refl _ w1).drew ?_
 have hv0 : Fr No w1 w1.drew := (Fr.refl No w1).drew
 refine tp _ rfl rfl ?_; simp only [es1, es2, es3]
 refine wpSeq_next rfl rfl (fun K hK => ?_)
 go_wp2_with fail
 refine (made_h (h1.no hv0)).mono ?_
 rintro e w' ⟨rfl, rfl⟩
 refine hK.out _ _ (fun _ => (hv0.mono (fun _ _ f => f.elim))) ?_
 clear hK K
 iterate 8 refine tq _ rfl rfl (by intro w9 h9; have q0 := (hR1.fr h9 hps).c0; have q1 := (hR1.fr h9 hps).c1; have q2 := (hR1.fr h9 hps).c2; have q3 := (hR1.fr h9 hps).c3; have ch := h9.cell hnb cc; clear h9; go_simp; try with_reducible rfl) ?_; simp only [es1, es2, es3]
 refine wpSeq_next rfl rfl (fun K hK => ?_)
 go_wp2_with fail
 refine (Set_yes (h1.no hv0).on.st (by omega) (by omega) (stateF x0 x1 x2 x3) lo2 _ n c l (hb2.no hv0) hn hfit).mono ?_
 rintro e w4 ⟨tv2, rfl, hst, hown, hfr⟩
 have hy4 : Fr (fun x => x = sb) w1 w4 := (hv0.mono (fun _ _ f => f.elim)).trans hfr (fun _ h => .inl h)
 refine hK.out _ _ (fun _ => hy4) ?_
 clear hK K
 iterate 2 refine tp _ rfl rfl ?_; simp only [es1, es2, es3]
 refine wpSeq_done ?_
 have h3 := h1.no hv0
 have hF3 := hF1.no hv0
 have hne : hb ≠ sb := fun e => h.ne (.inl e)
 have hlt := h3.lt hb (.inl rfl)
 have g1 := h3.on.fr.size
 have g3 := hF3.size
 have hH : HLive w0 w4 hb sb sd (stateF x0 x1 x2 x3) l lo2 tv2 :=
  ⟨⟨hst, hown.mono (by omega), h.on.ge, h3.on.fr.trans hfr (fun x hx => .inr (by have := h.on.ge; omega))⟩, hfr.heap hne h3.hc, h.ge, (fun g => by rcases g with g | g; exact hne g; have := own_ge hown g; omega), by rw [hy.1]; exact fits_lt hfit hn (by omega) (by omega)⟩
 go_wp2_with fail
 go_ret
 exact ⟨tv2, rfl, hH, (hF3.mono (fun x _ f => f.elim)).trans hfr (fun x h => .inl h), fun x hx => by have := own_ge hown hx; omega⟩
end Go.Proofs.YtidlpihoafnobaaGreat.StX64
namespace Go.Proofs.YtidlpihoafnobaaGreat.StX64
open Go.Proofs.YtidlpihoafnobaaGreat.StG64
set_option maxRecDepth 100000
open Go.RowKit
theorem HS.set_right {w0 w : World} {hb : Nat} {F : Nat → Prop} {k : Int} {kh kl : BitVec 64} {s : ST} {tl : Bytes} {lo : BitVec 64} (h : HS w0 w hb (F) k kh kl s tl lo) (x0 x1 x2 x3 lo2 : BitVec 64) (a : Option Addr) (n c : Nat) (hw : RightP x0 x1 x2 x3) (hfit : fitsB n lo2 32 = true) (l : Bytes) (hy : IsBytes w a n c l) (hn : n ≤ 1099511627776) :
 Calls Tryz.prog 29 #[.pointer (some ⟨hb, 0, none⟩), .agg #[.int .u64 (W64 x0), .int .u64 (W64 x1), .int .u64 (W64 x2), .int .u64 (W64 x3)], .int .u64 (W64 lo2), .slice a n c] w (fun e w' => e = .returned (.int .i64 0) ∧ ∃ F', HS w0 w' hb F' k kh kl (stateF x0 x1 x2 x3) l lo2 ∧ Fr F w w' ∧ ∀ x, F' x → F x ∨ w.heap.size ≤ x) := by
 obtain ⟨ib, sb, tv, c6, c7, c8, c9, c10, c11, hr, hc, hL, rfl⟩ := h
 refine hSet_of hr.c3 293 (fun W => by kernel_rfl) (calls_enter Tryz.func293 (by kernel_rfl) (by kernel_rfl)) x0 x1 x2 x3 lo2 a n c true (F := Foot sb tv) (hL.on.con _ _ hr ⟨_, _, rfl, by decide⟩) (fun x hx => hL.lt x (.inr hx)) (fun W hW => (Set_right (hL.no hW) x0 x1 x2 x3 _ rfl lo2 a n c hw hfit l (hy.no hW) hn).mono ?_)
 rintro e w' ⟨tv2, rfl, hL', hf, hk⟩
 have hK := (hL.no hW).on.con
 have hf2 : Fr (Foot sb tv) W w' := hf.mono (fun x _ g => .inl g)
 have hr := hr.no hW
 have hc := hc.no hW
 refine ⟨rfl, ⟨_, ⟨ib, sb, _, c6, c7, c8, c9, c10, c11, hr.fr hf2 hK, (hc.fr hf2 (hK) (by decide)), hL', rfl⟩, (hW.mono (fun x _ g => g.elim)).trans hf2 (fun x hx => .inl hx), fun x hx => ?_⟩, hf2⟩
 rcases hx with rfl | hx
 · exact .inl (.inl rfl)
 · exact .inr (Nat.le_trans hW.size (hk _ hx))
end Go.Proofs.YtidlpihoafnobaaGreat.StX64
namespace Go.Proofs.YtidlpihoafnobaaGreat.StSip
set_option maxRecDepth 100000
open Go.Proofs.YtidlpihoafnobaaGreat.StG64
open Go.RowKit
theorem fits_lt {n : Nat} {lo : BitVec 64} {size : Nat} (h : fitsB n lo size = true) (hn : n ≤ 1099511627776) (h1 : 1 ≤ size) (h2 : size ≤ 64) : n < size := by
 unfold fitsB at h
 have := congrArg BitVec.toNat (beq_iff_eq.1 h)
 simp only [BitVec.toNat_umod, BitVec.toNat_ofNat] at this
 rw [Nat.mod_eq_of_lt (show n < 2 ^ 64 by omega), Nat.mod_eq_of_lt (show size < 2 ^ 64 by omega)] at this
 rw [this]
 exact Nat.mod_lt _ (by omega)
def RightP (x0 x1 x2 x3 : BitVec 64) : Prop := True
def HSets (w0 : World) (hb sb : Nat) (kd : Int) (kh kl : BitVec 64) (q : Nat) (s2 : ST) (l : Bytes) (lo2 : BitVec 64) (w : World) (e : Ending) (w' : World) : Prop :=
 ∃ tv2, e = .returned (.bool true) ∧ HLive w0 w' hb sb kd kh kl q s2 l lo2 tv2 ∧ Fr (fun x => x = sb) w w' ∧ ∀ x, tv2.ownBlock = some x → w.heap.size ≤ x
set_option maxHeartbeats 800000 in
theorem Set_right {w0 w : World} {hb sb : Nat} {kd : Int} {kh kl : BitVec 64} {q : Nat} {s : ST} {tl : Bytes} {lo : BitVec 64} {tv : Value} (h : HLive w0 w hb sb kd kh kl q s tl lo tv) (x0 x1 x2 x3 : BitVec 64) (lv : Value) (hlv : lv = .agg #[.int .u64 (W64 x0), .int .u64 (W64 x1), .int .u64 (W64 x2), .int .u64 (W64 x3)]) (lo2 : BitVec 64) (a : Option Addr) (n c : Nat) (hw : RightP x0 x1 x2 x3) (hfit : fitsB n lo2 8 = true) (l : Bytes) (hy : IsBytes w a n c l) (hn : n ≤ 1099511627776) : Calls Tryz.prog 300 #[.pointer (some ⟨hb, 0, none⟩), lv, .int .u64 (W64 lo2), .slice a n c] w (HSets w0 hb sb kd kh kl q (stateF x0 x1 x2 x3) l lo2 w) := by
 subst hlv
 have hF1 : Fr No w (w.alloc (.cells #[.int .u64 (W64 x0), .int .u64 (W64 x1), .int .u64 (W64 x2), .int .u64 (W64 x3)] 49)) := (Fr.refl No w).alloc _
 have hR1 := row4_new w 49 (.int .u64 (W64 x0)) (.int .u64 (W64 x1)) (.int .u64 (W64 x2)) (.int .u64 (W64 x3))
 have h1 := h.no hF1
 have cc := h1.cell
 obtain ⟨pb0, hpb0⟩ : ∃ pb0, pb0 = w.heap.size := ⟨_, rfl⟩
 have hHid := Lib.hid hpb0
 clear hpb0
 go_enter Tryz.func300, Tryz.ntmps300
 go_wp2_with fail
 have hpb0 := hHid.out
 clear hHid
 have g2 := hF1.size
 have hps : ¬ pb0 = sb := by have := h.lt sb (.inr (.inl rfl)); omega
 have hnb : ¬ hb = sb := fun e => h.ne (.inl e)
 rw [← hpb0] at hR1 ⊢
 clear hpb0
 obtain ⟨pb, rfl⟩ : ∃ pb, pb = pb0 := ⟨_, rfl⟩
 generalize w.alloc (.cells #[.int .u64 (W64 x0), .int .u64 (W64 x1), .int .u64 (W64 x2), .int .u64 (W64 x3)] 49) = w1 at hF1 hR1 h1 cc g2 ⊢
 have hb2 := hy.no hF1
 refine wp_region_seq (by kernel_rfl) (fun w' => Fr (fun x => x = sb) w1 w') (fun _ => false) [(0, 1), (1, 0), (2, 1), (3, 1), (4, 1), (5, 1), (6, 1), (7, 1), (8, 1), (9, 1), (10, 0), (11, 1), (12, 1)] (by kernel_rfl) (Fr.refl _ w1).drew ?_
 have hv0 : Fr No w1 w1.drew := (Fr.refl No w1).drew
 refine tp _ rfl rfl ?_; simp only [es1, es2, es3]
 refine wpSeq_next rfl rfl (fun K hK => ?_)
 go_wp2_with fail
 refine (made_h (h1.no hv0)).mono ?_
 rintro e w' ⟨rfl, rfl⟩
 refine hK.out _ _ (fun _ => (hv0.mono (fun _ _ f => f.elim))) ?_
 clear hK K
 iterate 8 refine tq _ rfl rfl (by intro w9 h9; have q0 := (hR1.fr h9 hps).c0; have q1 := (hR1.fr h9 hps).c1; have q2 := (hR1.fr h9 hps).c2; have q3 := (hR1.fr h9 hps).c3; have ch := h9.cell hnb cc; clear h9; go_simp; try with_reducible rfl) ?_; simp only [es1, es2, es3]
 refine wpSeq_next rfl rfl (fun K hK => ?_)
 go_wp2_with fail
 refine (Set_yes (h1.no hv0).on.st (by omega) (by omega) (stateF x0 x1 x2 x3) lo2 _ n c l (hb2.no hv0) hn hfit).mono ?_
 rintro e w4 ⟨tv2, rfl, hst, hown, hfr⟩
 have hy4 : Fr (fun x => x = sb) w1 w4 := (hv0.mono (fun _ _ f => f.elim)).trans hfr (fun _ h => .inl h)
 refine hK.out _ _ (fun _ => hy4) ?_
 clear hK K
 iterate 2 refine tp _ rfl rfl ?_; simp only [es1, es2, es3]
 refine wpSeq_done ?_
 have h3 := h1.no hv0
 have hF3 := hF1.no hv0
 have hne : hb ≠ sb := fun e => h.ne (.inl e)
 have hlt := h3.lt hb (.inl rfl)
 have g1 := h3.on.fr.size
 have g3 := hF3.size
 have hH : HLive w0 w4 hb sb kd kh kl q (stateF x0 x1 x2 x3) l lo2 tv2 :=
  ⟨⟨hst, hown.mono (by omega), h.on.ge, h3.on.fr.trans hfr (fun x hx => .inr (by have := h.on.ge; omega))⟩, hfr.heap hne h3.hc, h.ge, (fun g => by rcases g with g | g; exact hne g; have := own_ge hown g; omega), by rw [hy.1]; exact fits_lt hfit hn (by omega) (by omega), (h3.on.con.sub (fun x hx => .inl hx)).fr hfr h3.hq ⟨_, _, rfl, by decide⟩, h.kk⟩
 go_wp2_with fail
 go_ret
 exact ⟨tv2, rfl, hH, (hF3.mono (fun x _ f => f.elim)).trans hfr (fun x h => .inl h), fun x hx => by have := own_ge hown hx; omega⟩
end Go.Proofs.YtidlpihoafnobaaGreat.StSip
namespace Go.Proofs.YtidlpihoafnobaaGreat.StSip
open Go.Proofs.YtidlpihoafnobaaGreat.StG64
set_option maxRecDepth 100000
open Go.RowKit
theorem HS.set_right {w0 w : World} {hb : Nat} {F : Nat → Prop} {k : Int} {kh kl : BitVec 64} {s : ST} {tl : Bytes} {lo : BitVec 64} {sz : Nat} (h : HS w0 w hb (F) k kh kl s tl lo sz) (x0 x1 x2 x3 lo2 : BitVec 64) (a : Option Addr) (n c : Nat) (hw : RightP x0 x1 x2 x3) (hfit : fitsB n lo2 8 = true) (l : Bytes) (hy : IsBytes w a n c l) (hn : n ≤ 1099511627776) :
 Calls Tryz.prog 29 #[.pointer (some ⟨hb, 0, none⟩), .agg #[.int .u64 (W64 x0), .int .u64 (W64 x1), .int .u64 (W64 x2), .int .u64 (W64 x3)], .int .u64 (W64 lo2), .slice a n c] w (fun e w' => e = .returned (.int .i64 0) ∧ ∃ F', HS w0 w' hb F' k kh kl (stateF x0 x1 x2 x3) l lo2 sz ∧ Fr F w w' ∧ ∀ x, F' x → F x ∨ w.heap.size ≤ x) := by
 obtain ⟨ib, sb, tv, c6, c7, c8, c9, c10, c11, q, c5, hr, hc, hL, rfl⟩ := h
 refine hSet_of hr.c3 300 (fun W => by kernel_rfl) (calls_enter Tryz.func300 (by kernel_rfl) (by kernel_rfl)) x0 x1 x2 x3 lo2 a n c true (F := Foot sb tv) (hL.on.con _ _ hr ⟨_, _, rfl, by decide⟩) (fun x hx => hL.lt x (.inr hx)) (fun W hW => (Set_right (hL.no hW) x0 x1 x2 x3 _ rfl lo2 a n c hw hfit l (hy.no hW) hn).mono ?_)
 rintro e w' ⟨tv2, rfl, hL', hf, hk⟩
 have hK := (hL.no hW).on.con
 have hf2 : Fr (Foot sb tv) W w' := hf.mono (fun x _ g => .inl g)
 have hr := hr.no hW
 have hc := (⟨hc.1.no hW, hc.2.no hW⟩ : Cap6 W k kh kl ib c6 c7 c8 c9 c10 c11 c5 sz)
 refine ⟨rfl, ⟨_, ⟨ib, sb, _, c6, c7, c8, c9, c10, c11, q, c5, hr.fr hf2 hK, ⟨hc.1.fr hf2 (hK) (by decide), hc.2.con hf2 (hK) (by decide)⟩, hL', rfl⟩, (hW.mono (fun x _ g => g.elim)).trans hf2 (fun x hx => .inl hx), fun x hx => ?_⟩, hf2⟩
 rcases hx with rfl | hx
 · exact .inl (.inl rfl)
 · exact .inr (Nat.le_trans hW.size (hk _ hx))
end Go.Proofs.YtidlpihoafnobaaGreat.StSip
namespace Go.Proofs.YtidlpihoafnobaaGreat.StM86
open Go.Proofs.YtidlpihoafnobaaGreat.StG32
set_option maxRecDepth 100000
open Go.RowKit
theorem HS.set_right {w0 w : World} {hb : Nat} {F : Nat → Prop} {k : Int} {kh kl : BitVec 64} {s : ST} {tl : Bytes} {lo : BitVec 64} (h : HS w0 w hb (F) k kh kl s tl lo) (x0 x1 x2 x3 lo2 : BitVec 64) (a : Option Addr) (n c : Nat) (hw : RightP x0 x1 x2 x3) (hfit : fitsB n lo2 16 = true) (l : Bytes) (hy : IsBytes w a n c l) (hn : n ≤ 1099511627776) :
 Calls Tryz.prog 29 #[.pointer (some ⟨hb, 0, none⟩), .agg #[.int .u64 (W64 x0), .int .u64 (W64 x1), .int .u64 (W64 x2), .int .u64 (W64 x3)], .int .u64 (W64 lo2), .slice a n c] w (fun e w' => e = .returned (.int .i64 0) ∧ ∃ F', HS w0 w' hb F' k kh kl (stateF x0 x1 x2 x3) l lo2 ∧ Fr F w w' ∧ ∀ x, F' x → F x ∨ w.heap.size ≤ x) := by
 obtain ⟨ib, sb, tv, c6, c7, c8, c9, c10, c11, hr, hc, hL, rfl⟩ := h
 refine hSet_of hr.c3 270 (fun W => by kernel_rfl) (calls_enter Tryz.func270 (by kernel_rfl) (by kernel_rfl)) x0 x1 x2 x3 lo2 a n c true (F := Foot sb tv) (hL.on.con _ _ hr ⟨_, _, rfl, by decide⟩) (fun x hx => hL.lt x (.inr hx)) (fun W hW => (Set_right (hL.no hW) x0 x1 x2 x3 _ rfl lo2 a n c hw hfit l (hy.no hW) hn).mono ?_)
 rintro e w' ⟨tv2, rfl, hL', hf, hk⟩
 have hK := (hL.no hW).on.con
 have hf2 : Fr (Foot sb tv) W w' := hf.mono (fun x _ g => .inl g)
 have hr := hr.no hW
 have hc := hc.no hW
 refine ⟨rfl, ⟨_, ⟨ib, sb, _, c6, c7, c8, c9, c10, c11, hr.fr hf2 hK, (hc.fr hf2 (hK) (by decide)), hL', rfl⟩, (hW.mono (fun x _ g => g.elim)).trans hf2 (fun x hx => .inl hx), fun x hx => ?_⟩, hf2⟩
 rcases hx with rfl | hx
 · exact .inl (.inl rfl)
 · exact .inr (Nat.le_trans hW.size (hk _ hx))
end Go.Proofs.YtidlpihoafnobaaGreat.StM86
namespace Go.Proofs.YtidlpihoafnobaaGreat.StM32
set_option maxRecDepth 100000
open Go.RowKit
theorem HS.set_right {w0 w : World} {hb : Nat} {F : Nat → Prop} {k : Int} {kh kl : BitVec 64} {s : ST} {tl : Bytes} {lo : BitVec 64} (h : HS w0 w hb (F) k kh kl s tl lo) (x0 x1 x2 x3 lo2 : BitVec 64) (a : Option Addr) (n c : Nat) (hw : RightP x0 x1 x2 x3) (hfit : fitsB n lo2 4 = true) (l : Bytes) (hy : IsBytes w a n c l) (hn : n ≤ 1099511627776) :
 Calls Tryz.prog 29 #[.pointer (some ⟨hb, 0, none⟩), .agg #[.int .u64 (W64 x0), .int .u64 (W64 x1), .int .u64 (W64 x2), .int .u64 (W64 x3)], .int .u64 (W64 lo2), .slice a n c] w (fun e w' => e = .returned (.int .i64 0) ∧ ∃ F', HS w0 w' hb F' k kh kl (stateF x0 x1 x2 x3) l lo2 ∧ Fr F w w' ∧ ∀ x, F' x → F x ∨ w.heap.size ≤ x) := by
 obtain ⟨ib, sb, tv, c6, c7, c8, c9, c10, c11, hr, hc, hL, rfl⟩ := h
 refine hSet_of hr.c3 263 (fun W => by kernel_rfl) (calls_enter Tryz.func263 (by kernel_rfl) (by kernel_rfl)) x0 x1 x2 x3 lo2 a n c true (F := Foot sb tv) (hL.on.con _ _ hr ⟨_, _, rfl, by decide⟩) (fun x hx => hL.lt x (.inr hx)) (fun W hW => (Set_right (hL.no hW) x0 x1 x2 x3 _ rfl lo2 a n c hw hfit l (hy.no hW) hn).mono ?_)
 rintro e w' ⟨tv2, rfl, hL', hf, hk⟩
 have hK := (hL.no hW).on.con
 have hf2 : Fr (Foot sb tv) W w' := hf.mono (fun x _ g => .inl g)
 have hr := hr.no hW
 have hc := hc.no hW
 refine ⟨rfl, ⟨_, ⟨ib, sb, _, c6, c7, c8, c9, c10, c11, hr.fr hf2 hK, (hc.fr hf2 (hK) (by decide)), hL', rfl⟩, (hW.mono (fun x _ g => g.elim)).trans hf2 (fun x hx => .inl hx), fun x hx => ?_⟩, hf2⟩
 rcases hx with rfl | hx
 · exact .inl (.inl rfl)
 · exact .inr (Nat.le_trans hW.size (hk _ hx))
end Go.Proofs.YtidlpihoafnobaaGreat.StM32
namespace Go.Proofs.YtidlpihoafnobaaGreat
set_option maxRecDepth 100000
open Go.RowKit
def RightS (k : Int) (x : L4) : Prop := if k = 1 then StM32.RightP x.1 x.2.1 x.2.2.1 x.2.2.2 else if k = 2 then StM86.RightP x.1 x.2.1 x.2.2.1 x.2.2.2 else if k = 3 then StM64.RightP x.1 x.2.1 x.2.2.1 x.2.2.2 else if k = 4 then StX32.RightP x.1 x.2.1 x.2.2.1 x.2.2.2 else if k = 5 then StX64.RightP x.1 x.2.1 x.2.2.1 x.2.2.2 else StSip.RightP x.1 x.2.1 x.2.2.1 x.2.2.2
theorem RightS_m32 (x : L4) : RightS 1 x = StM32.RightP x.1 x.2.1 x.2.2.1 x.2.2.2 := rfl
theorem RightS_m86 (x : L4) : RightS 2 x = StM86.RightP x.1 x.2.1 x.2.2.1 x.2.2.2 := rfl
theorem RightS_m64 (x : L4) : RightS 3 x = StM64.RightP x.1 x.2.1 x.2.2.1 x.2.2.2 := rfl
theorem RightS_x32 (x : L4) : RightS 4 x = StX32.RightP x.1 x.2.1 x.2.2.1 x.2.2.2 := rfl
theorem RightS_x64 (x : L4) : RightS 5 x = StX64.RightP x.1 x.2.1 x.2.2.1 x.2.2.2 := rfl
theorem RightS_sip {k : Int} (hk : StSip.IsK k) (x : L4) : RightS k x = StSip.RightP x.1 x.2.1 x.2.2.1 x.2.2.2 := by
 obtain ⟨h1, h2, h3, h4, h5⟩ := isK_no hk
 unfold RightS; rw [if_neg h1, if_neg h2, if_neg h3, if_neg h4, if_neg h5]
def FitS (k : Int) (n : Nat) (lo : BitVec 64) : Prop := (BitVec.ofNat 64 n == lo % O64 (blockN k)) = true
theorem fit_m32 (n : Nat) (lo : BitVec 64) : FitS 1 n lo ↔ StM32.fitsB n lo 4 = true := by
 unfold FitS
 rw [show O64 (blockN 1) = BitVec.ofNat 64 4 from by decide]; exact Iff.rfl
theorem fit_m86 (n : Nat) (lo : BitVec 64) : FitS 2 n lo ↔ StG32.fitsB n lo 16 = true := by
 unfold FitS
 rw [show O64 (blockN 2) = BitVec.ofNat 64 16 from by decide]; exact Iff.rfl
theorem fit_m64 (n : Nat) (lo : BitVec 64) : FitS 3 n lo ↔ StM64.fitsB n lo 16 = true := by
 unfold FitS
 rw [show O64 (blockN 3) = BitVec.ofNat 64 16 from by decide]; exact Iff.rfl
theorem fit_x32 (n : Nat) (lo : BitVec 64) : FitS 4 n lo ↔ StG32.fitsB n lo 16 = true := by
 unfold FitS
 rw [show O64 (blockN 4) = BitVec.ofNat 64 16 from by decide]; exact Iff.rfl
theorem fit_x64 (n : Nat) (lo : BitVec 64) : FitS 5 n lo ↔ StG64.fitsB n lo 32 = true := by
 unfold FitS
 rw [show O64 (blockN 5) = BitVec.ofNat 64 32 from by decide]; exact Iff.rfl
theorem fit_sip {k : Int} (hk : StSip.IsK k) (n : Nat) (lo : BitVec 64) : FitS k n lo ↔ StG64.fitsB n lo 8 = true := by
 unfold FitS
 rw [block_sip hk, show O64 8 = BitVec.ofNat 64 8 from by decide]; exact Iff.rfl
end Go.Proofs.YtidlpihoafnobaaGreat
namespace Go.Proofs.YtidlpihoafnobaaGreat
set_option maxRecDepth 100000
open Go.RowKit
theorem HSAny.set_right {w0 w : World} {hb : Nat} {F : Nat → Prop} {k : Int} {kh kl : BitVec 64} {s : HSt} {tl : Bytes} {lo : BitVec 64} (h : HSAny w0 w hb F k kh kl s tl lo) (x : L4) (lo2 : BitVec 64) (a : Option Addr) (n c : Nat) (hw : RightS k x) (hfit : FitS k n lo2) (l : Bytes) (hy : IsBytes w a n c l) (hn : n ≤ 1099511627776) :
 Calls Tryz.prog 29 #[.pointer (some ⟨hb, 0, none⟩), .agg #[.int .u64 (W64 x.1), .int .u64 (W64 x.2.1), .int .u64 (W64 x.2.2.1), .int .u64 (W64 x.2.2.2)], .int .u64 (W64 lo2), .slice a n c] w (fun e w' => e = .returned (.int .i64 0) ∧ ∃ F', HSAny w0 w' hb F' k kh kl (stateS k x) l lo2 ∧ Fr F w w' ∧ ∀ x, F' x → F x ∨ w.heap.size ≤ x) := by
 cases s with
 | m32 s =>
  obtain ⟨hk, h⟩ := h
  subst hk
  rw [RightS_m32] at hw
  rw [fit_m32] at hfit
  refine (h.set_right x.1 x.2.1 x.2.2.1 x.2.2.2 lo2 a n c hw hfit l hy hn).mono ?_
  rintro e w' ⟨rfl, F', h', r⟩
  refine ⟨rfl, F', ?_, r⟩
  rw [stateS_m32]
  exact ⟨rfl, h'⟩
 | m86 s =>
  obtain ⟨hk, h⟩ := h
  subst hk
  rw [RightS_m86] at hw
  rw [fit_m86] at hfit
  refine (h.set_right x.1 x.2.1 x.2.2.1 x.2.2.2 lo2 a n c hw hfit l hy hn).mono ?_
  rintro e w' ⟨rfl, F', h', r⟩
  refine ⟨rfl, F', ?_, r⟩
  rw [stateS_m86]
  exact ⟨rfl, h'⟩
 | m64 s =>
  obtain ⟨hk, h⟩ := h
  subst hk
  rw [RightS_m64] at hw
  rw [fit_m64] at hfit
  refine (h.set_right x.1 x.2.1 x.2.2.1 x.2.2.2 lo2 a n c hw hfit l hy hn).mono ?_
  rintro e w' ⟨rfl, F', h', r⟩
  refine ⟨rfl, F', ?_, r⟩
  rw [stateS_m64]
  exact ⟨rfl, h'⟩
 | x32 s =>
  obtain ⟨hk, h⟩ := h
  subst hk
  rw [RightS_x32] at hw
  rw [fit_x32] at hfit
  refine (h.set_right x.1 x.2.1 x.2.2.1 x.2.2.2 lo2 a n c hw hfit l hy hn).mono ?_
  rintro e w' ⟨rfl, F', h', r⟩
  refine ⟨rfl, F', ?_, r⟩
  rw [stateS_x32]
  exact ⟨rfl, h'⟩
 | x64 s =>
  obtain ⟨hk, h⟩ := h
  subst hk
  rw [RightS_x64] at hw
  rw [fit_x64] at hfit
  refine (h.set_right x.1 x.2.1 x.2.2.1 x.2.2.2 lo2 a n c hw hfit l hy hn).mono ?_
  rintro e w' ⟨rfl, F', h', r⟩
  refine ⟨rfl, F', ?_, r⟩
  rw [stateS_x64]
  exact ⟨rfl, h'⟩
 | sip s =>
  obtain ⟨hk, h⟩ := h
  rw [RightS_sip hk] at hw
  rw [fit_sip hk] at hfit
  refine (h.set_right x.1 x.2.1 x.2.2.1 x.2.2.2 lo2 a n c hw hfit l hy hn).mono ?_
  rintro e w' ⟨rfl, F', h', r⟩
  refine ⟨rfl, F', ?_, r⟩
  rw [stateS_sip hk]
  exact ⟨hk, h'⟩
end Go.Proofs.YtidlpihoafnobaaGreat
