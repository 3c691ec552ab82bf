/- Words2 EndM64 CodeX32 SetM32 HashM32 SetM64 SetG32 HashX32 CodeM86 HashM86 -/
import Derived.Test.YtidlpihoafnobaaGreatPCodeX32
import Derived.Test.YtidlpihoafnobaaGreatPStrAnyCx
set_option linter.unusedVariables false
set_option linter.unusedSimpArgs false
namespace Go.Proofs.YtidlpihoafnobaaGreat
set_option maxRecDepth 100000
open Go.RowKit
theorem ofNat_inj' {n m : Nat} (hn : n < 18446744073709551616) (hm : m < 18446744073709551616) (h : BitVec.ofNat 64 n = BitVec.ofNat 64 m) : n = m := by
 have := congrArg BitVec.toNat h
 simp only [BitVec.toNat_ofNat] at this
 omega
end Go.Proofs.YtidlpihoafnobaaGreat
namespace Go.Proofs.YtidlpihoafnobaaGreat.StM64
set_option maxRecDepth 100000
open Go.RowKit
theorem two_any (x0 x1 x2 x3 : BitVec 64) (w : World) : Calls Tryz.prog 282 #[.agg #[.int .u64 (W64 (x0)), .int .u64 (W64 (x1)), .int .u64 (W64 (x2)), .int .u64 (W64 (x3))]] w (GivesNew (.agg #[cS (x0, x1) 0, cS (x0, x1) 1]) w) := by
 have hF : Fr No w ((w.alloc (.cells #[.int .u64 (W64 (x0)), .int .u64 (W64 (x1)), .int .u64 (W64 (x2)), .int .u64 (W64 (x3))] 49)).alloc (.cells #[.int .u64 (W64 (x0)), .int .u64 (W64 (x1))] 160)) := ((Fr.refl No w).alloc _).alloc _
 have hN : ((w.alloc (.cells #[.int .u64 (W64 (x0)), .int .u64 (W64 (x1)), .int .u64 (W64 (x2)), .int .u64 (W64 (x3))] 49)).alloc (.cells #[.int .u64 (W64 (x0)), .int .u64 (W64 (x1))] 160)).heap[w.heap.size + 1]? = some (.cells #[.int .u64 (W64 (x0)), .int .u64 (W64 (x1))] 160 (0, 0)) := heap_alloc2_new w _ _
 go_enter Tryz.func282, Tryz.ntmps282
 go_wp2_with fail
 generalize ((w.alloc (.cells #[.int .u64 (W64 (x0)), .int .u64 (W64 (x1)), .int .u64 (W64 (x2)), .int .u64 (W64 (x3))] 49)).alloc (.cells #[.int .u64 (W64 (x0)), .int .u64 (W64 (x1))] 160)) = w3 at hF hN ⊢
 have cd0 : w3.cell? ⟨w.heap.size + 1, 0, none⟩ = some (.int .u64 (W64 (x0))) := by rw [cell_of_row w3 _ 0 _ _ _ hN]; rfl
 have cd1 : w3.cell? ⟨w.heap.size + 1, 1, none⟩ = some (.int .u64 (W64 (x1))) := by rw [cell_of_row w3 _ 1 _ _ _ hN]; rfl
 exact bodyPost_ret (v := .agg #[.int .u64 (W64 (x0)), .int .u64 (W64 (x1))]) (by simp [results, Tryz.results282, go_sem, cd0, cd1]) rfl ⟨rfl, hF⟩
end Go.Proofs.YtidlpihoafnobaaGreat.StM64
namespace Go.Proofs.YtidlpihoafnobaaGreat.StX32
set_option maxRecDepth 100000
open Go.Proofs.YtidlpihoafnobaaGreat.StG32
open Go.RowKit
set_option maxHeartbeats 400000 in
theorem narrow_any (x0 x1 x2 x3 : BitVec 64) (w : World) : Calls Tryz.prog 290 #[.agg #[.int .u64 (W64 x0), .int .u64 (W64 x1), .int .u64 (W64 x2), .int .u64 (W64 x3)]] w (GivesNew (.agg #[.int .u32 (W32 (x0.setWidth 32)), .int .u32 (W32 (x1.setWidth 32)), .int .u32 (W32 (x2.setWidth 32)), .int .u32 (W32 (x3.setWidth 32))]) w) := by
 have hR := row4_new w 49 (.int .u64 (W64 x0)) (.int .u64 (W64 x1)) (.int .u64 (W64 x2)) (.int .u64 (W64 x3))
 have hF := (Fr.refl No w).alloc (.cells #[.int .u64 (W64 x0), .int .u64 (W64 x1), .int .u64 (W64 x2), .int .u64 (W64 x3)] 49)
 have hR2 : Row4 ((w.alloc (.cells #[.int .u64 (W64 x0), .int .u64 (W64 x1), .int .u64 (W64 x2), .int .u64 (W64 x3)] 49)).alloc (.cells #[.int .u32 (W32 (x0.setWidth 32)), .int .u32 (W32 (x1.setWidth 32)), .int .u32 (W32 (x2.setWidth 32)), .int .u32 (W32 (x3.setWidth 32))] 122)) (w.heap.size + 1) 122 (.int .u32 (W32 (x0.setWidth 32))) (.int .u32 (W32 (x1.setWidth 32))) (.int .u32 (W32 (x2.setWidth 32))) (.int .u32 (W32 (x3.setWidth 32))) := heap_alloc2_new w _ _
 have hF2 := hF.alloc (.cells #[.int .u32 (W32 (x0.setWidth 32)), .int .u32 (W32 (x1.setWidth 32)), .int .u32 (W32 (x2.setWidth 32)), .int .u32 (W32 (x3.setWidth 32))] 122)
 go_enter Tryz.func290, Tryz.ntmps290
 go_wp2
 generalize ((w.alloc (.cells #[.int .u64 (W64 x0), .int .u64 (W64 x1), .int .u64 (W64 x2), .int .u64 (W64 x3)] 49)).alloc (.cells #[.int .u32 (W32 (x0.setWidth 32)), .int .u32 (W32 (x1.setWidth 32)), .int .u32 (W32 (x2.setWidth 32)), .int .u32 (W32 (x3.setWidth 32))] 122)) = w3 at hR2 hF2 ⊢
 have cd0 := hR2.c0
 have cd1 := hR2.c1
 have cd2 := hR2.c2
 have cd3 := hR2.c3
 exact bodyPost_ret (v := .agg #[.int .u32 (W32 (x0.setWidth 32)), .int .u32 (W32 (x1.setWidth 32)), .int .u32 (W32 (x2.setWidth 32)), .int .u32 (W32 (x3.setWidth 32))]) (by simp [results, Tryz.results290, go_sem, cd0, cd1, cd2, cd3]) rfl ⟨rfl, hF2⟩
end Go.Proofs.YtidlpihoafnobaaGreat.StX32
namespace Go.Proofs.YtidlpihoafnobaaGreat.StM32
set_option maxRecDepth 100000
open Go.RowKit
def fitsB (n : Nat) (lo : BitVec 64) (size : Nat) : Bool := BitVec.ofNat 64 n == lo % BitVec.ofNat 64 size
theorem size_ne (size : Nat) (hz1 : 1 ≤ size) (hz2 : size ≤ 64) : (BitVec.ofNat 64 size == 0#64) = false := by
 rw [beq_eq_false_iff_ne]
 intro h
 have := ofNat_inj' (n := size) (m := 0) (by omega) (by omega) h
 omega
def Sets (size : Int) (f s2 : ST) (q : Nat) (sb : Nat) (l : Bytes) (lo2 : BitVec 64) (w : World) (e : Ending) (w' : World) : Prop :=
 ∃ tv2, e = .returned (.bool true) ∧ StreamAt w' sb size f s2 q tv2 lo2 ∧ Owns w' w.heap.size tv2 l ∧ Fr (fun x => x = sb) w w'
set_option maxHeartbeats 1000000 in
theorem Set_yes {w : World} {sb size : Nat} {f s : ST} {q : Nat} {tv : Value} {lo : BitVec 64} (hst : StreamAt w sb size f s q tv lo) (hz1 : 1 ≤ size) (hz2 : size ≤ 64) (s2 : ST) (lo2 : BitVec 64) (a : Option Addr) (n c : Nat) (l : Bytes) (hb : IsBytes w a n c l) (hn : n ≤ 1099511627776) (hfit : fitsB n lo2 size = true) :
 Calls Tryz.prog 266 #[.pointer (some ⟨sb, 0, none⟩), (.int .u32 (W32 s2)), .int .u64 (W64 lo2), .slice a n c] w (Sets size f s2 q sb l lo2 w) := by
 have hz := size_ne size hz1 hz2
 have hz' : ¬ BitVec.ofNat 64 size = 0#64 := by simpa using hz
 unfold fitsB at hfit
 have hfit' : (BitVec.ofNat 64 n != lo2 % BitVec.ofNat 64 size) = false := by simp [bne, hfit]
 have hst1 : StreamAt w sb size f s q tv lo := hst
 have hF1 : Fr No w w := Fr.refl _ _
 have hb1 := hb.no hF1
 have hlt := hst.lt
 have cz : w.cell? ⟨sb, 0, none⟩ = some (.int .i64 size) := hst1.cell 0 rfl
 go_enter Tryz.func266, Tryz.ntmps266
 go_wp2_with (go_at_call 177; refine (made_any hst1).mono ?_; rintro e w' ⟨rfl, rfl⟩)
 clear hfit hfit' hz hz'
 go_wp2_with fail
 refine (Clone_any _ _ _ l _ hb1 (by omega)).mono ?_
 rintro e w2 ⟨v2, rfl, ho2, hf2⟩
 obtain ⟨a2, c2, rfl, _, _⟩ := ho2.bytes
 have hS2 := hst1.fr hf2 (fun h => h)
 have cn0 : w2.cell? ⟨sb, 2, none⟩ = some (.int .u32 (W32 s)) := hS2.cell 2 rfl
 have ctl : w2.cell? ⟨sb, 4, none⟩ = some (tv) := hS2.cell 4 rfl
 have clo : w2.cell? ⟨sb, 5, none⟩ = some (.int .u64 (W64 lo)) := hS2.cell 5 rfl
 have fz2 := hS2.frozen 2
 have fz4 := hS2.frozen 4
 have fz5 := hS2.frozen 5
 go_wp2_with fail
 go_ret
 exact ⟨_, rfl, (row_put (row_put (row_put hS2 2 (.int .u32 (W32 s2))) 5 (.int .u64 (W64 lo2))) 4 (.slice a2 l.length c2)), ho2.fr ((((Fr.refl (fun x => x = sb) w2).setCell (p := ⟨sb, 2, none⟩) (.inl rfl) _).setCell (p := ⟨sb, 5, none⟩) (.inl rfl) _).setCell (p := ⟨sb, 4, none⟩) (.inl rfl) _) (fun x hx e => hS2.apart ho2 (by rw [hx, e])), (hf2.mono (fun x _ f => f.elim)).trans ((((Fr.refl (fun x => x = sb) w2).setCell (p := ⟨sb, 2, none⟩) (.inl rfl) _).setCell (p := ⟨sb, 5, none⟩) (.inl rfl) _).setCell (p := ⟨sb, 4, none⟩) (.inl rfl) _) (fun x h => .inl h)⟩
end Go.Proofs.YtidlpihoafnobaaGreat.StM32
namespace Go.Proofs.YtidlpihoafnobaaGreat.StM32
set_option maxRecDepth 100000
open Go.RowKit
theorem fits_lt {n : Nat} {lo : BitVec 64} {size : Nat} (h : fitsB n lo size = true) (hn : n ≤ 1099511627776) (h1 : 1 ≤ size) (h2 : size ≤ 64) : n < size := by
 unfold fitsB at h
 have := congrArg BitVec.toNat (beq_iff_eq.1 h)
 simp only [BitVec.toNat_umod, BitVec.toNat_ofNat] at this
 rw [Nat.mod_eq_of_lt (show n < 2 ^ 64 by omega), Nat.mod_eq_of_lt (show size < 2 ^ 64 by omega)] at this
 rw [this]
 exact Nat.mod_lt _ (by omega)
def RightP (x0 x1 x2 x3 : BitVec 64) : Prop := x1 = 0#64 ∧ x2 = 0#64 ∧ x3 = 0#64 ∧ x0 / 4294967296#64 = 0#64
def HSets (w0 : World) (hb sb : Nat) (sd : BitVec 32) (s2 : ST) (l : Bytes) (lo2 : BitVec 64) (w : World) (e : Ending) (w' : World) : Prop :=
 ∃ tv2, e = .returned (.bool true) ∧ HLive w0 w' hb sb sd s2 l lo2 tv2 ∧ Fr (fun x => x = sb) w w' ∧ ∀ x, tv2.ownBlock = some x → w.heap.size ≤ x
set_option maxHeartbeats 400000 in
theorem Set_right {w0 w : World} {hb sb : Nat} {sd : BitVec 32} {s : ST} {tl : Bytes} {lo : BitVec 64} {tv : Value} (h : HLive w0 w hb sb sd s tl lo tv) (x0 x1 x2 x3 : BitVec 64) (lv : Value) (hlv : lv = .agg #[.int .u64 (W64 x0), .int .u64 (W64 x1), .int .u64 (W64 x2), .int .u64 (W64 x3)]) (lo2 : BitVec 64) (a : Option Addr) (n c : Nat) (hw : RightP x0 x1 x2 x3) (hfit : fitsB n lo2 4 = true) (l : Bytes) (hy : IsBytes w a n c l) (hn : n ≤ 1099511627776) : Calls Tryz.prog 263 #[.pointer (some ⟨hb, 0, none⟩), lv, .int .u64 (W64 lo2), .slice a n c] w (HSets w0 hb sb sd (stateF x0 x1 x2 x3) l lo2 w) := by
 obtain ⟨rfl, rfl, rfl, hB⟩ := hw
 subst hlv
 have hF1 : Fr No w (w.alloc (.cells #[.int .u64 (W64 x0), .int .u64 (W64 0#64), .int .u64 (W64 0#64), .int .u64 (W64 0#64)] 49)) := (Fr.refl No w).alloc _
 have hR1 := row4_new w 49 (.int .u64 (W64 x0)) (.int .u64 (W64 0#64)) (.int .u64 (W64 0#64)) (.int .u64 (W64 0#64))
 have h1 := h.no hF1
 have cc := h1.cell
 have hb1 := hy.no hF1
 have hB2 : (x0 / 4294967296#64 == 0#64) = true := by simpa using hB
 have hB3 : (x0 / 4294967296#64 != 0#64) = false := by simp [bne, hB2]
 clear hB
 go_enter Tryz.func263, Tryz.ntmps263
 go_wp2_with (go_at_call 111; refine (made_h h1).mono ?_; rintro e w' ⟨rfl, rfl⟩)
 refine (Set_yes h1.on.st (by omega) (by omega) (stateF x0 0#64 0#64 0#64) lo2 _ n c l hb1 hn hfit).mono ?_
 rintro e w2 ⟨tv2, rfl, hst, hown, hfr⟩
 have hne : hb ≠ sb := fun e => h.ne (.inl e)
 have hlt := h1.lt hb (.inl rfl)
 have g1 := h1.on.fr.size
 have g2 := hF1.size
 have hH : HLive w0 w2 hb sb sd (stateF x0 0#64 0#64 0#64) l lo2 tv2 :=
  ⟨⟨hst, hown.mono (by omega), h.on.ge, h1.on.fr.trans hfr (fun x hx => .inr (by have := h.on.ge; omega))⟩, hfr.heap hne h1.hc, h.ge, (fun g => by rcases g with g | g; exact hne g; have := own_ge hown g; omega), by rw [hy.1]; exact fits_lt hfit hn (by omega) (by omega)⟩
 clear cc
 go_wp2_with fail
 go_ret
 exact ⟨tv2, rfl, hH, (hF1.mono (fun x _ f => f.elim)).trans hfr (fun x h => .inl h), fun x hx => by have := own_ge hown hx; omega⟩
end Go.Proofs.YtidlpihoafnobaaGreat.StM32
namespace Go.Proofs.YtidlpihoafnobaaGreat.StM64
set_option maxRecDepth 100000
open Go.RowKit
def fitsB (n : Nat) (lo : BitVec 64) (size : Nat) : Bool := BitVec.ofNat 64 n == lo % BitVec.ofNat 64 size
theorem size_ne (size : Nat) (hz1 : 1 ≤ size) (hz2 : size ≤ 64) : (BitVec.ofNat 64 size == 0#64) = false := by
 rw [beq_eq_false_iff_ne]
 intro h
 have := ofNat_inj' (n := size) (m := 0) (by omega) (by omega) h
 omega
def Sets (size : Int) (f s2 : ST) (q : Nat) (sb : Nat) (l : Bytes) (lo2 : BitVec 64) (w : World) (e : Ending) (w' : World) : Prop :=
 ∃ tv2, e = .returned (.bool true) ∧ StreamAt w' sb size f s2 q tv2 lo2 ∧ Owns w' w.heap.size tv2 l ∧ Fr (fun x => x = sb) w w'
set_option maxHeartbeats 1000000 in
theorem Set_yes {w : World} {sb size : Nat} {f s : ST} {q : Nat} {tv : Value} {lo : BitVec 64} (hst : StreamAt w sb size f s q tv lo) (hz1 : 1 ≤ size) (hz2 : size ≤ 64) (s2 : ST) (lo2 : BitVec 64) (a : Option Addr) (n c : Nat) (l : Bytes) (hb : IsBytes w a n c l) (hn : n ≤ 1099511627776) (hfit : fitsB n lo2 size = true) :
 Calls Tryz.prog 283 #[.pointer (some ⟨sb, 0, none⟩), .agg #[cS s2 0, cS s2 1], .int .u64 (W64 lo2), .slice a n c] w (Sets size f s2 q sb l lo2 w) := by
 have hz := size_ne size hz1 hz2
 have hz' : ¬ BitVec.ofNat 64 size = 0#64 := by simpa using hz
 unfold fitsB at hfit
 have hfit' : (BitVec.ofNat 64 n != lo2 % BitVec.ofNat 64 size) = false := by simp [bne, hfit]
 have hst1 : StreamAt (w.alloc (.cells #[cS s2 0, cS s2 1] 160)) sb size f s q tv lo := hst.fr ((Fr.refl No w).alloc _) (fun h => h)
 have hF1 : Fr No w (w.alloc (.cells #[cS s2 0, cS s2 1] 160)) := (Fr.refl _ _).alloc _
 have hb1 := hb.no hF1
 have hlt := hst.lt
 have cz : (w.alloc (.cells #[cS s2 0, cS s2 1] 160)).cell? ⟨sb, 0, none⟩ = some (.int .i64 size) := hst1.cell 0 rfl
 go_enter Tryz.func283, Tryz.ntmps283
 go_wp2_with (go_at_call 198; refine (made_any hst1).mono ?_; rintro e w' ⟨rfl, rfl⟩)
 clear hfit hfit' hz hz'
 have hbox : BoxAt (w.alloc (.cells #[cS s2 0, cS s2 1] 160)) w.heap.size s2 := heap_alloc_new w _
 generalize (w.alloc (.cells #[cS s2 0, cS s2 1] 160)) = w1 at hst1 hF1 hb1 hbox cz ⊢
 have hne : w.heap.size ≠ sb := by omega
 refine wp_region_seq (by kernel_rfl) (fun w' => Fr (fun x => x = sb) w1 w') (fun _ => false) [(0, 1), (1, 1), (2, 1), (3, 1), (4, 1), (5, 1), (6, 0), (7, 1), (8, 1), (9, 0), (10, 1), (11, 1), (12, 0), (13, 1), (14, 1), (15, 0)] (by kernel_rfl) (Fr.refl _ w1).drew ?_
 have hS0 : Fr (fun x => x = sb) w1 w1.drew := (Fr.refl _ w1).drew
 iterate 6 refine tq _ rfl rfl (by intro w9 h9; have cb0 : w9.cell? ⟨w.heap.size, 0, none⟩ = some (cS s2 0) := (hbox.fr h9 hne).cell 0 rfl; have cb1 : w9.cell? ⟨w.heap.size, 1, none⟩ = some (cS s2 1) := (hbox.fr h9 hne).cell 1 rfl; clear h9; go_simp; try with_reducible rfl) ?_; simp only [es1, es2, es3]
 refine wpSeq_next rfl rfl (fun K hK => ?_)
 go_wp2_with fail
 refine (Clone_any _ _ _ l _ (hb1.no (Fr.refl No w1).drew) (by omega)).mono ?_
 rintro e w2 ⟨v2, rfl, ho2, hf2⟩
 obtain ⟨a2, c2, rfl, _, _⟩ := ho2.bytes
 have hS2 : StreamAt w2 sb size f s q tv lo := StreamAt.fr (w := w1.drew) hst1 hf2 (fun h => h)
 have hf12 : Fr (fun x => x = sb) w1 w2 := hS0.trans hf2 (fun _ h => h.elim)
 refine hK.out _ _ (fun _ => hf12) ?_
 clear hK K hS0 cz
 iterate 2 refine tp _ rfl rfl ?_; simp only [es1, es2, es3]
 have hrow9 := hS2
 have cg9_3 : w2.cell? ⟨sb, 3, none⟩ = some (cS s 0) := by rw [cell_of_row w2 sb 3 _ _ _ hrow9]; rfl
 have fg9_3 := frozen_of_row w2 sb 3 _ _ hrow9
 have cg9_4 : w2.cell? ⟨sb, 4, none⟩ = some (cS s 1) := by rw [cell_of_row w2 sb 4 _ _ _ hrow9]; rfl
 have fg9_4 := frozen_of_row w2 sb 4 _ _ hrow9
 refine wpSeq_next rfl rfl (fun K hK => ?_)
 go_wp2_with fail
 have hq9 : Fr (fun x => x = sb) w2 (World.setCell (World.setCell w2 ⟨sb, 3, none⟩ (cS s2 0)) ⟨sb, 4, none⟩ (cS s2 1)) := ((Fr.refl (fun x => x = sb) w2).setCell (p := ⟨sb, 3, none⟩) (.inl rfl) _).setCell (p := ⟨sb, 4, none⟩) (.inl rfl) _
 have hr9 := (row_put (row_put hrow9 3 (cS s2 0)) 4 (cS s2 1))
 have hs9 := hf12.trans hq9 (fun _ h => .inl h)
 refine hK.out _ _ (fun _ => hs9) ?_
 clear hK K cg9_3 fg9_3 cg9_4 fg9_4 hrow9
 generalize hW9 : (World.setCell (World.setCell w2 ⟨sb, 3, none⟩ (cS s2 0)) ⟨sb, 4, none⟩ (cS s2 1)) = w29 at hq9 hr9 hs9 ⊢
 clear hW9
 iterate 2 refine tp _ rfl rfl ?_; simp only [es1, es2, es3]
 have hrow12 := hr9
 have cg12_7 : w29.cell? ⟨sb, 7, none⟩ = some (.int .u64 (W64 lo)) := by rw [cell_of_row w29 sb 7 _ _ _ hrow12]; rfl
 have fg12_7 := frozen_of_row w29 sb 7 _ _ hrow12
 refine wpSeq_next rfl rfl (fun K hK => ?_)
 go_wp2_with fail
 have hq12 : Fr (fun x => x = sb) w29 (World.setCell w29 ⟨sb, 7, none⟩ (.int .u64 (W64 lo2))) := (Fr.refl (fun x => x = sb) w29).setCell (p := ⟨sb, 7, none⟩) (.inl rfl) _
 have hr12 := (row_put hrow12 7 (.int .u64 (W64 lo2)))
 have hs12 := hs9.trans hq12 (fun _ h => .inl h)
 refine hK.out _ _ (fun _ => hs12) ?_
 clear hK K cg12_7 fg12_7 hrow12
 generalize hW12 : (World.setCell w29 ⟨sb, 7, none⟩ (.int .u64 (W64 lo2))) = w32 at hq12 hr12 hs12 ⊢
 clear hW12
 iterate 2 refine tp _ rfl rfl ?_; simp only [es1, es2, es3]
 have hrow15 := hr12
 have cg15_6 : w32.cell? ⟨sb, 6, none⟩ = some (tv) := by rw [cell_of_row w32 sb 6 _ _ _ hrow15]; rfl
 have fg15_6 := frozen_of_row w32 sb 6 _ _ hrow15
 refine wpSeq_next rfl rfl (fun K hK => ?_)
 go_wp2_with fail
 have hq15 : Fr (fun x => x = sb) w32 (World.setCell w32 ⟨sb, 6, none⟩ (.slice a2 l.length c2)) := (Fr.refl (fun x => x = sb) w32).setCell (p := ⟨sb, 6, none⟩) (.inl rfl) _
 have hr15 := (row_put hrow15 6 (.slice a2 l.length c2))
 have hs15 := hs12.trans hq15 (fun _ h => .inl h)
 refine hK.out _ _ (fun _ => hs15) ?_
 clear hK K cg15_6 fg15_6 hrow15
 generalize hW15 : (World.setCell w32 ⟨sb, 6, none⟩ (.slice a2 l.length c2)) = w35 at hq15 hr15 hs15 ⊢
 clear hW15
 refine wpSeq_done ?_
 go_wp2_with fail
 go_ret
 have hall : Fr (fun x => x = sb) w2 w35 := (hq9.trans hq12 (fun _ h => .inl h)).trans hq15 (fun _ h => .inl h)
 exact ⟨_, rfl, hr15, (ho2.fr hall (fun x hx e => hS2.apart ho2 (by rw [hx, e]))).mono hF1.size, (hF1.mono (fun x _ f => f.elim)).trans hs15 (fun x h => .inl h)⟩
end Go.Proofs.YtidlpihoafnobaaGreat.StM64
namespace Go.Proofs.YtidlpihoafnobaaGreat.StG32
set_option maxRecDepth 100000
open Go.RowKit
def fitsB (n : Nat) (lo : BitVec 64) (size : Nat) : Bool := BitVec.ofNat 64 n == lo % BitVec.ofNat 64 size
theorem size_ne (size : Nat) (hz1 : 1 ≤ size) (hz2 : size ≤ 64) : (BitVec.ofNat 64 size == 0#64) = false := by
 rw [beq_eq_false_iff_ne]
 intro h
 have := ofNat_inj' (n := size) (m := 0) (by omega) (by omega) h
 omega
def Sets (size : Int) (f s2 : ST) (q : QT) (sb : Nat) (l : Bytes) (lo2 : BitVec 64) (w : World) (e : Ending) (w' : World) : Prop :=
 ∃ tv2, e = .returned (.bool true) ∧ StreamAt w' sb size f s2 q tv2 lo2 ∧ Owns w' w.heap.size tv2 l ∧ Fr (fun x => x = sb) w w'
set_option maxHeartbeats 1000000 in
theorem Set_yes {w : World} {sb size : Nat} {f s : ST} {q : QT} {tv : Value} {lo : BitVec 64} (hst : StreamAt w sb size f s q tv lo) (hz1 : 1 ≤ size) (hz2 : size ≤ 64) (s2 : ST) (lo2 : BitVec 64) (a : Option Addr) (n c : Nat) (l : Bytes) (hb : IsBytes w a n c l) (hn : n ≤ 1099511627776) (hfit : fitsB n lo2 size = true) :
 Calls Tryz.prog 274 #[.pointer (some ⟨sb, 0, none⟩), .agg #[cS s2 0, cS s2 1, cS s2 2, cS s2 3], .int .u64 (W64 lo2), .slice a n c] w (Sets size f s2 q sb l lo2 w) := by
 have hz := size_ne size hz1 hz2
 have hz' : ¬ BitVec.ofNat 64 size = 0#64 := by simpa using hz
 unfold fitsB at hfit
 have hfit' : (BitVec.ofNat 64 n != lo2 % BitVec.ofNat 64 size) = false := by simp [bne, hfit]
 have hst1 : StreamAt (w.alloc (.cells #[cS s2 0, cS s2 1, cS s2 2, cS s2 3] 122)) sb size f s q tv lo := hst.fr ((Fr.refl No w).alloc _) (fun h => h)
 have hF1 : Fr No w (w.alloc (.cells #[cS s2 0, cS s2 1, cS s2 2, cS s2 3] 122)) := (Fr.refl _ _).alloc _
 have hb1 := hb.no hF1
 have hlt := hst.lt
 have cz : (w.alloc (.cells #[cS s2 0, cS s2 1, cS s2 2, cS s2 3] 122)).cell? ⟨sb, 0, none⟩ = some (.int .i64 size) := hst1.cell 0 rfl
 go_enter Tryz.func274, Tryz.ntmps274
 go_wp2_with (go_at_call 190; refine (made_any hst1).mono ?_; rintro e w' ⟨rfl, rfl⟩)
 clear hfit hfit' hz hz'
 have hbox : BoxAt (w.alloc (.cells #[cS s2 0, cS s2 1, cS s2 2, cS s2 3] 122)) w.heap.size s2 := heap_alloc_new w _
 generalize (w.alloc (.cells #[cS s2 0, cS s2 1, cS s2 2, cS s2 3] 122)) = w1 at hst1 hF1 hb1 hbox cz ⊢
 have hne : w.heap.size ≠ sb := by omega
 refine wp_region_seq (by kernel_rfl) (fun w' => Fr (fun x => x = sb) w1 w') (fun _ => false) [(0, 1), (1, 1), (2, 1), (3, 1), (4, 1), (5, 1), (6, 0), (7, 1), (8, 1), (9, 0), (10, 1), (11, 1), (12, 0), (13, 1), (14, 1), (15, 0)] (by kernel_rfl) (Fr.refl _ w1).drew ?_
 have hS0 : Fr (fun x => x = sb) w1 w1.drew := (Fr.refl _ w1).drew
 iterate 6 refine tq _ rfl rfl (by intro w9 h9; have cb0 : w9.cell? ⟨w.heap.size, 0, none⟩ = some (cS s2 0) := (hbox.fr h9 hne).cell 0 rfl; have cb1 : w9.cell? ⟨w.heap.size, 1, none⟩ = some (cS s2 1) := (hbox.fr h9 hne).cell 1 rfl; have cb2 : w9.cell? ⟨w.heap.size, 2, none⟩ = some (cS s2 2) := (hbox.fr h9 hne).cell 2 rfl; have cb3 : w9.cell? ⟨w.heap.size, 3, none⟩ = some (cS s2 3) := (hbox.fr h9 hne).cell 3 rfl; clear h9; go_simp; try with_reducible rfl) ?_; simp only [es1, es2, es3]
 refine wpSeq_next rfl rfl (fun K hK => ?_)
 go_wp2_with fail
 refine (Clone_any _ _ _ l _ (hb1.no (Fr.refl No w1).drew) (by omega)).mono ?_
 rintro e w2 ⟨v2, rfl, ho2, hf2⟩
 obtain ⟨a2, c2, rfl, _, _⟩ := ho2.bytes
 have hS2 : StreamAt w2 sb size f s q tv lo := StreamAt.fr (w := w1.drew) hst1 hf2 (fun h => h)
 have hf12 : Fr (fun x => x = sb) w1 w2 := hS0.trans hf2 (fun _ h => h.elim)
 refine hK.out _ _ (fun _ => hf12) ?_
 clear hK K hS0 cz
 iterate 2 refine tp _ rfl rfl ?_; simp only [es1, es2, es3]
 have hrow9 := hS2
 have cg9_5 : w2.cell? ⟨sb, 5, none⟩ = some (cS s 0) := by rw [cell_of_row w2 sb 5 _ _ _ hrow9]; rfl
 have fg9_5 := frozen_of_row w2 sb 5 _ _ hrow9
 have cg9_6 : w2.cell? ⟨sb, 6, none⟩ = some (cS s 1) := by rw [cell_of_row w2 sb 6 _ _ _ hrow9]; rfl
 have fg9_6 := frozen_of_row w2 sb 6 _ _ hrow9
 have cg9_7 : w2.cell? ⟨sb, 7, none⟩ = some (cS s 2) := by rw [cell_of_row w2 sb 7 _ _ _ hrow9]; rfl
 have fg9_7 := frozen_of_row w2 sb 7 _ _ hrow9
 have cg9_8 : w2.cell? ⟨sb, 8, none⟩ = some (cS s 3) := by rw [cell_of_row w2 sb 8 _ _ _ hrow9]; rfl
 have fg9_8 := frozen_of_row w2 sb 8 _ _ hrow9
 refine wpSeq_next rfl rfl (fun K hK => ?_)
 go_wp2_with fail
 have hq9 : Fr (fun x => x = sb) w2 (World.setCell (World.setCell (World.setCell (World.setCell w2 ⟨sb, 5, none⟩ (cS s2 0)) ⟨sb, 6, none⟩ (cS s2 1)) ⟨sb, 7, none⟩ (cS s2 2)) ⟨sb, 8, none⟩ (cS s2 3)) := ((((Fr.refl (fun x => x = sb) w2).setCell (p := ⟨sb, 5, none⟩) (.inl rfl) _).setCell (p := ⟨sb, 6, none⟩) (.inl rfl) _).setCell (p := ⟨sb, 7, none⟩) (.inl rfl) _).setCell (p := ⟨sb, 8, none⟩) (.inl rfl) _
 have hr9 := (row_put (row_put (row_put (row_put hrow9 5 (cS s2 0)) 6 (cS s2 1)) 7 (cS s2 2)) 8 (cS s2 3))
 have hs9 := hf12.trans hq9 (fun _ h => .inl h)
 refine hK.out _ _ (fun _ => hs9) ?_
 clear hK K cg9_5 fg9_5 cg9_6 fg9_6 cg9_7 fg9_7 cg9_8 fg9_8 hrow9
 generalize hW9 : (World.setCell (World.setCell (World.setCell (World.setCell w2 ⟨sb, 5, none⟩ (cS s2 0)) ⟨sb, 6, none⟩ (cS s2 1)) ⟨sb, 7, none⟩ (cS s2 2)) ⟨sb, 8, none⟩ (cS s2 3)) = w29 at hq9 hr9 hs9 ⊢
 clear hW9
 iterate 2 refine tp _ rfl rfl ?_; simp only [es1, es2, es3]
 have hrow12 := hr9
 have cg12_11 : w29.cell? ⟨sb, 11, none⟩ = some (.int .u64 (W64 lo)) := by rw [cell_of_row w29 sb 11 _ _ _ hrow12]; rfl
 have fg12_11 := frozen_of_row w29 sb 11 _ _ hrow12
 refine wpSeq_next rfl rfl (fun K hK => ?_)
 go_wp2_with fail
 have hq12 : Fr (fun x => x = sb) w29 (World.setCell w29 ⟨sb, 11, none⟩ (.int .u64 (W64 lo2))) := (Fr.refl (fun x => x = sb) w29).setCell (p := ⟨sb, 11, none⟩) (.inl rfl) _
 have hr12 := (row_put hrow12 11 (.int .u64 (W64 lo2)))
 have hs12 := hs9.trans hq12 (fun _ h => .inl h)
 refine hK.out _ _ (fun _ => hs12) ?_
 clear hK K cg12_11 fg12_11 hrow12
 generalize hW12 : (World.setCell w29 ⟨sb, 11, none⟩ (.int .u64 (W64 lo2))) = w32 at hq12 hr12 hs12 ⊢
 clear hW12
 iterate 2 refine tp _ rfl rfl ?_; simp only [es1, es2, es3]
 have hrow15 := hr12
 have cg15_10 : w32.cell? ⟨sb, 10, none⟩ = some (tv) := by rw [cell_of_row w32 sb 10 _ _ _ hrow15]; rfl
 have fg15_10 := frozen_of_row w32 sb 10 _ _ hrow15
 refine wpSeq_next rfl rfl (fun K hK => ?_)
 go_wp2_with fail
 have hq15 : Fr (fun x => x = sb) w32 (World.setCell w32 ⟨sb, 10, none⟩ (.slice a2 l.length c2)) := (Fr.refl (fun x => x = sb) w32).setCell (p := ⟨sb, 10, none⟩) (.inl rfl) _
 have hr15 := (row_put hrow15 10 (.slice a2 l.length c2))
 have hs15 := hs12.trans hq15 (fun _ h => .inl h)
 refine hK.out _ _ (fun _ => hs15) ?_
 clear hK K cg15_10 fg15_10 hrow15
 generalize hW15 : (World.setCell w32 ⟨sb, 10, none⟩ (.slice a2 l.length c2)) = w35 at hq15 hr15 hs15 ⊢
 clear hW15
 refine wpSeq_done ?_
 go_wp2_with fail
 go_ret
 have hall : Fr (fun x => x = sb) w2 w35 := (hq9.trans hq12 (fun _ h => .inl h)).trans hq15 (fun _ h => .inl h)
 exact ⟨_, rfl, hr15, (ho2.fr hall (fun x hx e => hS2.apart ho2 (by rw [hx, e]))).mono hF1.size, (hF1.mono (fun x _ f => f.elim)).trans hs15 (fun x h => .inl h)⟩
end Go.Proofs.YtidlpihoafnobaaGreat.StG32
namespace Go.Proofs.YtidlpihoafnobaaGreat.StX32
set_option maxRecDepth 100000
open Go.Proofs.YtidlpihoafnobaaGreat.StG32
open Go.RowKit
theorem fits_lt {n : Nat} {lo : BitVec 64} {size : Nat} (h : fitsB n lo size = true) (hn : n ≤ 1099511627776) (h1 : 1 ≤ size) (h2 : size ≤ 64) : n < size := by
 unfold fitsB at h
 have := congrArg BitVec.toNat (beq_iff_eq.1 h)
 simp only [BitVec.toNat_umod, BitVec.toNat_ofNat] at this
 rw [Nat.mod_eq_of_lt (show n < 2 ^ 64 by omega), Nat.mod_eq_of_lt (show size < 2 ^ 64 by omega)] at this
 rw [this]
 exact Nat.mod_lt _ (by omega)
def RightP (x0 x1 x2 x3 : BitVec 64) : Prop := (x0.setWidth 32).setWidth 64 = x0 ∧ (x1.setWidth 32).setWidth 64 = x1 ∧ (x2.setWidth 32).setWidth 64 = x2 ∧ (x3.setWidth 32).setWidth 64 = x3
def HSets (w0 : World) (hb sb : Nat) (sd : BitVec 32) (s2 : ST) (l : Bytes) (lo2 : BitVec 64) (w : World) (e : Ending) (w' : World) : Prop :=
 ∃ tv2, e = .returned (.bool true) ∧ HLive w0 w' hb sb sd s2 l lo2 tv2 ∧ Fr (fun x => x = sb) w w' ∧ ∀ x, tv2.ownBlock = some x → w.heap.size ≤ x
theorem lanesV_state (x0 x1 x2 x3 : BitVec 64) : lanesV (stateF x0 x1 x2 x3) = .agg #[.int .u64 (W64 ((x0.setWidth 32).setWidth 64)), .int .u64 (W64 ((x1.setWidth 32).setWidth 64)), .int .u64 (W64 ((x2.setWidth 32).setWidth 64)), .int .u64 (W64 ((x3.setWidth 32).setWidth 64))] := rfl
set_option maxHeartbeats 800000 in
theorem Set_right {w0 w : World} {hb sb : Nat} {sd : BitVec 32} {s : ST} {tl : Bytes} {lo : BitVec 64} {tv : Value} (h : HLive w0 w hb sb sd s tl lo tv) (x0 x1 x2 x3 : BitVec 64) (lv : Value) (hlv : lv = .agg #[.int .u64 (W64 x0), .int .u64 (W64 x1), .int .u64 (W64 x2), .int .u64 (W64 x3)]) (lo2 : BitVec 64) (a : Option Addr) (n c : Nat) (hw : RightP x0 x1 x2 x3) (hfit : fitsB n lo2 16 = true) (l : Bytes) (hy : IsBytes w a n c l) (hn : n ≤ 1099511627776) : Calls Tryz.prog 287 #[.pointer (some ⟨hb, 0, none⟩), lv, .int .u64 (W64 lo2), .slice a n c] w (HSets w0 hb sb sd (stateF x0 x1 x2 x3) l lo2 w) := by
 subst hlv
 have hF1 : Fr No w (w.alloc (.cells #[.int .u64 (W64 x0), .int .u64 (W64 x1), .int .u64 (W64 x2), .int .u64 (W64 x3)] 49)) := (Fr.refl No w).alloc _
 have hR1 := row4_new w 49 (.int .u64 (W64 x0)) (.int .u64 (W64 x1)) (.int .u64 (W64 x2)) (.int .u64 (W64 x3))
 have h1 := h.no hF1
 have cc := h1.cell
 obtain ⟨pb0, hpb0⟩ : ∃ pb0, pb0 = w.heap.size := ⟨_, rfl⟩
 have hHid := Lib.hid hpb0
 clear hpb0
 go_enter Tryz.func287, Tryz.ntmps287
 go_wp2_with fail
 have hpb0 := hHid.out
 clear hHid
 have g2 := hF1.size
 have hps : ¬ pb0 = sb := by have := h.lt sb (.inr (.inl rfl)); omega
 rw [← hpb0] at hR1 ⊢
 clear hpb0
 obtain ⟨pb, rfl⟩ : ∃ pb, pb = pb0 := ⟨_, rfl⟩
 generalize w.alloc (.cells #[.int .u64 (W64 x0), .int .u64 (W64 x1), .int .u64 (W64 x2), .int .u64 (W64 x3)] 49) = w1 at hF1 hR1 h1 cc g2 ⊢
 have hq : ((x0.setWidth 32).setWidth 64 == x0 && (x1.setWidth 32).setWidth 64 == x1 && (x2.setWidth 32).setWidth 64 == x2 && (x3.setWidth 32).setWidth 64 == x3) = true := by
  obtain ⟨e0, e1, e2, e3⟩ := hw
  rw [e0, e1, e2, e3]
  simp
 refine rsq (by kernel_rfl) [(0, 1), (1, 0), (2, 1), (3, 1), (4, 1), (7, 1), (5, 0), (6, 0), (8, 1), (9, 1)] (by kernel_rfl) ?_
 have hv0 : Fr No w1 w1.drew := (Fr.refl No w1).drew
 refine tp _ rfl rfl ?_; simp only [es1, es2, es3]
 refine wpSeq_next rfl rfl (fun K hK => ?_)
 go_wp2_with fail
 refine (made_h (h1.no hv0)).mono ?_
 rintro e w' ⟨rfl, rfl⟩
 refine hK.out _ _ (fun _ => hv0) ?_
 clear hK K
 iterate 4 refine tq _ rfl rfl (by intro w9 h9; have q0 := (hR1.no h9).c0; have q1 := (hR1.no h9).c1; have q2 := (hR1.no h9).c2; have q3 := (hR1.no h9).c3; have ch := (h1.no h9).cell; clear h9; go_simp; try with_reducible rfl) ?_; simp only [es1, es2, es3]
 refine wpSeq_next rfl rfl (fun K hK => ?_)
 go_wp2_with fail
 refine (narrow_any x0 x1 x2 x3 _).mono ?_
 rintro e xhv1 ⟨rfl, hx⟩
 have hv1 := hv0.no hx
 clear hx
 refine hK.out _ _ (fun _ => hv1) ?_
 clear hK K
 refine wpSeq_next rfl rfl (fun K hK => ?_)
 go_wp2_with fail
 refine (wide_any (stateF x0 x1 x2 x3) _).mono ?_
 rintro e xhv2 ⟨rfl, hx⟩
 have hv2 := hv1.no hx
 clear hx
 rw [lanesV_state]
 refine hK.out _ _ (fun _ => hv2) ?_
 clear hK K
 iterate 2 refine tp _ rfl rfl ?_; simp only [es1, es2, es3]
 refine wpSeq_done ?_
 go_wp2_with fail
 have h2 := h1.no hv2
 have hR2 := hR1.no hv2
 have hF2 := hF1.no hv2
 generalize xhv2 = w2 at h2 hR2 hF2 ⊢
 clear hR1 hv0 cc hv1 hv2
 have hb2 := hy.no hF2
 have cc := h2.cell
 have hnb : ¬ hb = sb := fun e => h2.ne (.inl e)
 refine wp_region_seq (by kernel_rfl) (fun w' => Fr (fun x => x = sb) w2 w') (fun _ => false) [(0, 1), (1, 1), (2, 1), (3, 1), (4, 1), (6, 1), (7, 1), (5, 0), (8, 0), (9, 1)] (by kernel_rfl) (Fr.refl _ w2).drew ?_
 have hv0 : Fr No w2 w2.drew := (Fr.refl No w2).drew
 iterate 7 refine tq _ rfl rfl (by intro w9 h9; have q0 := (hR2.fr h9 hps).c0; have q1 := (hR2.fr h9 hps).c1; have q2 := (hR2.fr h9 hps).c2; have q3 := (hR2.fr h9 hps).c3; have ch := h9.cell hnb cc; clear h9; go_simp; try with_reducible rfl) ?_; simp only [es1, es2, es3]
 refine wpSeq_next rfl rfl (fun K hK => ?_)
 go_wp2_with fail
 refine (narrow_any x0 x1 x2 x3 _).mono ?_
 rintro e xhv1 ⟨rfl, hx⟩
 have hv1 := hv0.no hx
 clear hx
 refine hK.out _ _ (fun _ => (hv1.mono (fun _ _ f => f.elim))) ?_
 clear hK K
 refine wpSeq_next rfl rfl (fun K hK => ?_)
 go_wp2_with fail
 refine (Set_yes (h2.no hv1).on.st (by omega) (by omega) (stateF x0 x1 x2 x3) lo2 _ n c l (hb2.no hv1) hn hfit).mono ?_
 rintro e w4 ⟨tv2, rfl, hst, hown, hfr⟩
 have hy4 : Fr (fun x => x = sb) w2 w4 := (hv1.mono (fun _ _ f => f.elim)).trans hfr (fun _ h => .inl h)
 refine hK.out _ _ (fun _ => hy4) ?_
 clear hK K
 refine tp _ rfl rfl ?_; simp only [es1, es2, es3]
 refine wpSeq_done ?_
 have h3 := h2.no hv1
 have hF3 := hF2.no hv1
 have hne : hb ≠ sb := fun e => h.ne (.inl e)
 have hlt := h3.lt hb (.inl rfl)
 have g1 := h3.on.fr.size
 have g3 := hF3.size
 have hH : HLive w0 w4 hb sb sd (stateF x0 x1 x2 x3) l lo2 tv2 :=
  ⟨⟨hst, hown.mono (by omega), h.on.ge, h3.on.fr.trans hfr (fun x hx => .inr (by have := h.on.ge; omega))⟩, hfr.heap hne h3.hc, h.ge, (fun g => by rcases g with g | g; exact hne g; have := own_ge hown g; omega), by rw [hy.1]; exact fits_lt hfit hn (by omega) (by omega)⟩
 go_wp2_with fail
 go_ret
 exact ⟨tv2, rfl, hH, (hF3.mono (fun x _ f => f.elim)).trans hfr (fun x h => .inl h), fun x hx => by have := own_ge hown hx; omega⟩
end Go.Proofs.YtidlpihoafnobaaGreat.StX32
namespace Go.Proofs.YtidlpihoafnobaaGreat.StM86
set_option maxRecDepth 100000
open Go.Proofs.YtidlpihoafnobaaGreat.StG32
open Go.RowKit
set_option maxHeartbeats 1000000 in
theorem narrow_any (x0 x1 x2 x3 : BitVec 64) (w : World) : Calls Tryz.prog 273 #[.agg #[.int .u64 (W64 (x0)), .int .u64 (W64 (x1)), .int .u64 (W64 (x2)), .int .u64 (W64 (x3))]] w (GivesNew (.agg #[.int .u32 (W32 (x0.setWidth 32)), .int .u32 (W32 (x1.setWidth 32)), .int .u32 (W32 (x2.setWidth 32)), .int .u32 (W32 (x3.setWidth 32))]) w) := by
 have hF0 : Fr No w (((w.alloc (.cells #[.int .u64 (W64 (x0)), .int .u64 (W64 (x1)), .int .u64 (W64 (x2)), .int .u64 (W64 (x3))] 49)).alloc (.cells #[.int .u32 0, .int .u32 0, .int .u32 0, .int .u32 0] 122)).alloc (.cells #[.int .u32 0, .int .u32 0, .int .u32 0, .int .u32 0] 122)) := (((Fr.refl No w).alloc _).alloc _).alloc _
 have hO0 : Row4 (((w.alloc (.cells #[.int .u64 (W64 (x0)), .int .u64 (W64 (x1)), .int .u64 (W64 (x2)), .int .u64 (W64 (x3))] 49)).alloc (.cells #[.int .u32 0, .int .u32 0, .int .u32 0, .int .u32 0] 122)).alloc (.cells #[.int .u32 0, .int .u32 0, .int .u32 0, .int .u32 0] 122)) (w.heap.size + 2) 122 (.int .u32 0) (.int .u32 0) (.int .u32 0) (.int .u32 0) := heap_alloc3_new w _ _ _
 have hZ0 : Row4 (((w.alloc (.cells #[.int .u64 (W64 (x0)), .int .u64 (W64 (x1)), .int .u64 (W64 (x2)), .int .u64 (W64 (x3))] 49)).alloc (.cells #[.int .u32 0, .int .u32 0, .int .u32 0, .int .u32 0] 122)).alloc (.cells #[.int .u32 0, .int .u32 0, .int .u32 0, .int .u32 0] 122)) (w.heap.size + 1) 122 (.int .u32 0) (.int .u32 0) (.int .u32 0) (.int .u32 0) := Row4.no (show Row4 ((w.alloc (.cells #[.int .u64 (W64 (x0)), .int .u64 (W64 (x1)), .int .u64 (W64 (x2)), .int .u64 (W64 (x3))] 49)).alloc (.cells #[.int .u32 0, .int .u32 0, .int .u32 0, .int .u32 0] 122)) (w.heap.size + 1) 122 (.int .u32 0) (.int .u32 0) (.int .u32 0) (.int .u32 0) from heap_alloc2_new w _ _) ((Fr.refl No _).alloc _)
 go_enter Tryz.func273, Tryz.ntmps273
 go_wp2
 rw [show w.heap.size + 1 + 1 = w.heap.size + 2 from rfl]
 go_loopw [7] (fun i wr => ∃ k : Nat, k ≤ 4 ∧ i = .int .i64 k ∧ Row4 wr (w.heap.size + 2) 122 (if 0 < k then .int .u32 (W32 (x0.setWidth 32)) else .int .u32 0) (if 1 < k then .int .u32 (W32 (x1.setWidth 32)) else .int .u32 0) (if 2 < k then .int .u32 (W32 (x2.setWidth 32)) else .int .u32 0) (if 3 < k then .int .u32 (W32 (x3.setWidth 32)) else .int .u32 0) ∧ Row4 wr (w.heap.size + 1) 122 (.int .u32 0) (.int .u32 0) (.int .u32 0) (.int .u32 0) ∧ Fr No w wr) (fun i _ => 4 - (intOf i).toNat)
 case atStart => exact ⟨0, by omega, rfl, hO0, hZ0, hF0⟩
 case round =>
  obtain ⟨k, hk, rfl, hO, hZ, hf⟩ := hrel
  clear hF0 hO0 hZ0
  rcases (show k = 0 ∨ k = 1 ∨ k = 2 ∨ k = 3 ∨ k = 4 by omega) with rfl | rfl | rfl | rfl | rfl
  · have hRow : Row4 wr (w.heap.size + 2) 122 (.int .u32 0) (.int .u32 0) (.int .u32 0) (.int .u32 0) := hO
    have cx := hRow.c0
    have fx := hRow.fz 0
    clear hO
    go_wp2_with fail
    go_roundw
    case rel =>
     have hN : Row4 _ (w.heap.size + 2) 122 (.int .u32 (W32 (x0.setWidth 32))) (.int .u32 0) (.int .u32 0) (.int .u32 0) := hRow.put0 _
     exact ⟨1, by omega, rfl, hN, hZ.fr ((Fr.refl (fun x => x = w.heap.size + 2) wr).setCell (p := ⟨w.heap.size + 2, 0, none⟩) (.inl rfl) _) (by omega), hf.trans ((Fr.refl (fun x => x = w.heap.size + 2) wr).setCell (p := ⟨w.heap.size + 2, 0, none⟩) (.inl rfl) _) (fun x hx => .inr (by omega))⟩
    case measure => simp [intOf]
  · have hRow : Row4 wr (w.heap.size + 2) 122 (.int .u32 (W32 (x0.setWidth 32))) (.int .u32 0) (.int .u32 0) (.int .u32 0) := hO
    have cx := hRow.c1
    have fx := hRow.fz 1
    clear hO
    go_wp2_with fail
    go_roundw
    case rel =>
     have hN : Row4 _ (w.heap.size + 2) 122 (.int .u32 (W32 (x0.setWidth 32))) (.int .u32 (W32 (x1.setWidth 32))) (.int .u32 0) (.int .u32 0) := hRow.put1 _
     exact ⟨2, by omega, rfl, hN, hZ.fr ((Fr.refl (fun x => x = w.heap.size + 2) wr).setCell (p := ⟨w.heap.size + 2, 1, none⟩) (.inl rfl) _) (by omega), hf.trans ((Fr.refl (fun x => x = w.heap.size + 2) wr).setCell (p := ⟨w.heap.size + 2, 1, none⟩) (.inl rfl) _) (fun x hx => .inr (by omega))⟩
    case measure => simp [intOf]
  · have hRow : Row4 wr (w.heap.size + 2) 122 (.int .u32 (W32 (x0.setWidth 32))) (.int .u32 (W32 (x1.setWidth 32))) (.int .u32 0) (.int .u32 0) := hO
    have cx := hRow.c2
    have fx := hRow.fz 2
    clear hO
    go_wp2_with fail
    go_roundw
    case rel =>
     have hN : Row4 _ (w.heap.size + 2) 122 (.int .u32 (W32 (x0.setWidth 32))) (.int .u32 (W32 (x1.setWidth 32))) (.int .u32 (W32 (x2.setWidth 32))) (.int .u32 0) := hRow.put2 _
     exact ⟨3, by omega, rfl, hN, hZ.fr ((Fr.refl (fun x => x = w.heap.size + 2) wr).setCell (p := ⟨w.heap.size + 2, 2, none⟩) (.inl rfl) _) (by omega), hf.trans ((Fr.refl (fun x => x = w.heap.size + 2) wr).setCell (p := ⟨w.heap.size + 2, 2, none⟩) (.inl rfl) _) (fun x hx => .inr (by omega))⟩
    case measure => simp [intOf]
  · have hRow : Row4 wr (w.heap.size + 2) 122 (.int .u32 (W32 (x0.setWidth 32))) (.int .u32 (W32 (x1.setWidth 32))) (.int .u32 (W32 (x2.setWidth 32))) (.int .u32 0) := hO
    have cx := hRow.c3
    have fx := hRow.fz 3
    clear hO
    go_wp2_with fail
    go_roundw
    case rel =>
     have hN : Row4 _ (w.heap.size + 2) 122 (.int .u32 (W32 (x0.setWidth 32))) (.int .u32 (W32 (x1.setWidth 32))) (.int .u32 (W32 (x2.setWidth 32))) (.int .u32 (W32 (x3.setWidth 32))) := hRow.put3 _
     exact ⟨4, by omega, rfl, hN, hZ.fr ((Fr.refl (fun x => x = w.heap.size + 2) wr).setCell (p := ⟨w.heap.size + 2, 3, none⟩) (.inl rfl) _) (by omega), hf.trans ((Fr.refl (fun x => x = w.heap.size + 2) wr).setCell (p := ⟨w.heap.size + 2, 3, none⟩) (.inl rfl) _) (fun x hx => .inr (by omega))⟩
    case measure => simp [intOf]
  · have hRow : Row4 wr (w.heap.size + 2) 122 (.int .u32 (W32 (x0.setWidth 32))) (.int .u32 (W32 (x1.setWidth 32))) (.int .u32 (W32 (x2.setWidth 32))) (.int .u32 (W32 (x3.setWidth 32))) := hO
    clear hO
    have cb0 := hRow.c0
    have cb1 := hRow.c1
    have cb2 := hRow.c2
    have cb3 := hRow.c3
    have cr0 := hZ.c0
    have cr1 := hZ.c1
    have cr2 := hZ.c2
    have cr3 := hZ.c3
    have fr0 := hZ.fz 0
    have fr1 := hZ.fz 1
    have fr2 := hZ.fz 2
    have fr3 := hZ.fz 3
    go_wp2_with fail
    have hF3 := fr_put4 wr (w.heap.size + 1) (.int .u32 (W32 (x0.setWidth 32))) (.int .u32 (W32 (x1.setWidth 32))) (.int .u32 (W32 (x2.setWidth 32))) (.int .u32 (W32 (x3.setWidth 32)))
    have hR3 := row_put4 hZ (.int .u32 (W32 (x0.setWidth 32))) (.int .u32 (W32 (x1.setWidth 32))) (.int .u32 (W32 (x2.setWidth 32))) (.int .u32 (W32 (x3.setWidth 32)))
    clear cr0 fr0 cr1 fr1 cr2 fr2 cr3 fr3
    generalize (((wr.setCell ⟨w.heap.size + 1, 0, none⟩ (.int .u32 (W32 (x0.setWidth 32)))).setCell ⟨w.heap.size + 1, 1, none⟩ (.int .u32 (W32 (x1.setWidth 32)))).setCell ⟨w.heap.size + 1, 2, none⟩ (.int .u32 (W32 (x2.setWidth 32)))).setCell ⟨w.heap.size + 1, 3, none⟩ (.int .u32 (W32 (x3.setWidth 32))) = w3 at hF3 hR3 ⊢
    have cd0 := hR3.c0
    have cd1 := hR3.c1
    have cd2 := hR3.c2
    have cd3 := hR3.c3
    refine bodyPost_ret (v := .agg #[.int .u32 (W32 (x0.setWidth 32)), .int .u32 (W32 (x1.setWidth 32)), .int .u32 (W32 (x2.setWidth 32)), .int .u32 (W32 (x3.setWidth 32))]) (by simp [results, Tryz.results273, go_sem, cd0, cd1, cd2, cd3, lanesV, cS0, cS1, cS2, cS3]) rfl ?_
    exact ⟨rfl, hf.trans hF3 (fun x hx => .inr (by omega))⟩
end Go.Proofs.YtidlpihoafnobaaGreat.StM86
namespace Go.Proofs.YtidlpihoafnobaaGreat.StM86
set_option maxRecDepth 100000
open Go.Proofs.YtidlpihoafnobaaGreat.StG32
open Go.RowKit
theorem fits_lt {n : Nat} {lo : BitVec 64} {size : Nat} (h : fitsB n lo size = true) (hn : n ≤ 1099511627776) (h1 : 1 ≤ size) (h2 : size ≤ 64) : n < size := by
 unfold fitsB at h
 have := congrArg BitVec.toNat (beq_iff_eq.1 h)
 simp only [BitVec.toNat_umod, BitVec.toNat_ofNat] at this
 rw [Nat.mod_eq_of_lt (show n < 2 ^ 64 by omega), Nat.mod_eq_of_lt (show size < 2 ^ 64 by omega)] at this
 rw [this]
 exact Nat.mod_lt _ (by omega)
def RightP (x0 x1 x2 x3 : BitVec 64) : Prop := (x0.setWidth 32).setWidth 64 = x0 ∧ (x1.setWidth 32).setWidth 64 = x1 ∧ (x2.setWidth 32).setWidth 64 = x2 ∧ (x3.setWidth 32).setWidth 64 = x3
def HSets (w0 : World) (hb sb : Nat) (sd : BitVec 32) (s2 : ST) (l : Bytes) (lo2 : BitVec 64) (w : World) (e : Ending) (w' : World) : Prop :=
 ∃ tv2, e = .returned (.bool true) ∧ HLive w0 w' hb sb sd s2 l lo2 tv2 ∧ Fr (fun x => x = sb) w w' ∧ ∀ x, tv2.ownBlock = some x → w.heap.size ≤ x
theorem lanesV_state (x0 x1 x2 x3 : BitVec 64) : lanesV (stateF x0 x1 x2 x3) = .agg #[.int .u64 (W64 ((x0.setWidth 32).setWidth 64)), .int .u64 (W64 ((x1.setWidth 32).setWidth 64)), .int .u64 (W64 ((x2.setWidth 32).setWidth 64)), .int .u64 (W64 ((x3.setWidth 32).setWidth 64))] := rfl
set_option maxHeartbeats 800000 in
theorem Set_right {w0 w : World} {hb sb : Nat} {sd : BitVec 32} {s : ST} {tl : Bytes} {lo : BitVec 64} {tv : Value} (h : HLive w0 w hb sb sd s tl lo tv) (x0 x1 x2 x3 : BitVec 64) (lv : Value) (hlv : lv = .agg #[.int .u64 (W64 x0), .int .u64 (W64 x1), .int .u64 (W64 x2), .int .u64 (W64 x3)]) (lo2 : BitVec 64) (a : Option Addr) (n c : Nat) (hw : RightP x0 x1 x2 x3) (hfit : fitsB n lo2 16 = true) (l : Bytes) (hy : IsBytes w a n c l) (hn : n ≤ 1099511627776) : Calls Tryz.prog 270 #[.pointer (some ⟨hb, 0, none⟩), lv, .int .u64 (W64 lo2), .slice a n c] w (HSets w0 hb sb sd (stateF x0 x1 x2 x3) l lo2 w) := by
 subst hlv
 have hF1 : Fr No w (w.alloc (.cells #[.int .u64 (W64 x0), .int .u64 (W64 x1), .int .u64 (W64 x2), .int .u64 (W64 x3)] 49)) := (Fr.refl No w).alloc _
 have hR1 := row4_new w 49 (.int .u64 (W64 x0)) (.int .u64 (W64 x1)) (.int .u64 (W64 x2)) (.int .u64 (W64 x3))
 have h1 := h.no hF1
 have cc := h1.cell
 obtain ⟨pb0, hpb0⟩ : ∃ pb0, pb0 = w.heap.size := ⟨_, rfl⟩
 have hHid := Lib.hid hpb0
 clear hpb0
 go_enter Tryz.func270, Tryz.ntmps270
 go_wp2_with fail
 have hpb0 := hHid.out
 clear hHid
 have g2 := hF1.size
 have hps : ¬ pb0 = sb := by have := h.lt sb (.inr (.inl rfl)); omega
 rw [← hpb0] at hR1 ⊢
 clear hpb0
 obtain ⟨pb, rfl⟩ : ∃ pb, pb = pb0 := ⟨_, rfl⟩
 generalize w.alloc (.cells #[.int .u64 (W64 x0), .int .u64 (W64 x1), .int .u64 (W64 x2), .int .u64 (W64 x3)] 49) = w1 at hF1 hR1 h1 cc g2 ⊢
 have hq : ((x0.setWidth 32).setWidth 64 == x0 && (x1.setWidth 32).setWidth 64 == x1 && (x2.setWidth 32).setWidth 64 == x2 && (x3.setWidth 32).setWidth 64 == x3) = true := by
  obtain ⟨e0, e1, e2, e3⟩ := hw
  rw [e0, e1, e2, e3]
  simp
 refine rsq (by kernel_rfl) [(0, 1), (1, 0), (2, 1), (3, 1), (4, 1), (7, 1), (5, 0), (6, 0), (8, 1), (9, 1)] (by kernel_rfl) ?_
 have hv0 : Fr No w1 w1.drew := (Fr.refl No w1).drew
 refine tp _ rfl rfl ?_; simp only [es1, es2, es3]
 refine wpSeq_next rfl rfl (fun K hK => ?_)
 go_wp2_with fail
 refine (made_h (h1.no hv0)).mono ?_
 rintro e w' ⟨rfl, rfl⟩
 refine hK.out _ _ (fun _ => hv0) ?_
 clear hK K
 iterate 4 refine tq _ rfl rfl (by intro w9 h9; have q0 := (hR1.no h9).c0; have q1 := (hR1.no h9).c1; have q2 := (hR1.no h9).c2; have q3 := (hR1.no h9).c3; have ch := (h1.no h9).cell; clear h9; go_simp; try with_reducible rfl) ?_; simp only [es1, es2, es3]
 refine wpSeq_next rfl rfl (fun K hK => ?_)
 go_wp2_with fail
 refine (narrow_any x0 x1 x2 x3 _).mono ?_
 rintro e xhv1 ⟨rfl, hx⟩
 have hv1 := hv0.no hx
 clear hx
 refine hK.out _ _ (fun _ => hv1) ?_
 clear hK K
 refine wpSeq_next rfl rfl (fun K hK => ?_)
 go_wp2_with fail
 refine (wide_any (stateF x0 x1 x2 x3) _).mono ?_
 rintro e xhv2 ⟨rfl, hx⟩
 have hv2 := hv1.no hx
 clear hx
 rw [lanesV_state]
 refine hK.out _ _ (fun _ => hv2) ?_
 clear hK K
 iterate 2 refine tp _ rfl rfl ?_; simp only [es1, es2, es3]
 refine wpSeq_done ?_
 go_wp2_with fail
 have h2 := h1.no hv2
 have hR2 := hR1.no hv2
 have hF2 := hF1.no hv2
 generalize xhv2 = w2 at h2 hR2 hF2 ⊢
 clear hR1 hv0 cc hv1 hv2
 have hb2 := hy.no hF2
 have cc := h2.cell
 have hnb : ¬ hb = sb := fun e => h2.ne (.inl e)
 refine wp_region_seq (by kernel_rfl) (fun w' => Fr (fun x => x = sb) w2 w') (fun _ => false) [(0, 1), (1, 1), (2, 1), (3, 1), (4, 1), (6, 1), (7, 1), (5, 0), (8, 0), (9, 1)] (by kernel_rfl) (Fr.refl _ w2).drew ?_
 have hv0 : Fr No w2 w2.drew := (Fr.refl No w2).drew
 iterate 7 refine tq _ rfl rfl (by intro w9 h9; have q0 := (hR2.fr h9 hps).c0; have q1 := (hR2.fr h9 hps).c1; have q2 := (hR2.fr h9 hps).c2; have q3 := (hR2.fr h9 hps).c3; have ch := h9.cell hnb cc; clear h9; go_simp; try with_reducible rfl) ?_; simp only [es1, es2, es3]
 refine wpSeq_next rfl rfl (fun K hK => ?_)
 go_wp2_with fail
 refine (narrow_any x0 x1 x2 x3 _).mono ?_
 rintro e xhv1 ⟨rfl, hx⟩
 have hv1 := hv0.no hx
 clear hx
 refine hK.out _ _ (fun _ => (hv1.mono (fun _ _ f => f.elim))) ?_
 clear hK K
 refine wpSeq_next rfl rfl (fun K hK => ?_)
 go_wp2_with fail
 refine (Set_yes (h2.no hv1).on.st (by omega) (by omega) (stateF x0 x1 x2 x3) lo2 _ n c l (hb2.no hv1) hn hfit).mono ?_
 rintro e w4 ⟨tv2, rfl, hst, hown, hfr⟩
 have hy4 : Fr (fun x => x = sb) w2 w4 := (hv1.mono (fun _ _ f => f.elim)).trans hfr (fun _ h => .inl h)
 refine hK.out _ _ (fun _ => hy4) ?_
 clear hK K
 refine tp _ rfl rfl ?_; simp only [es1, es2, es3]
 refine wpSeq_done ?_
 have h3 := h2.no hv1
 have hF3 := hF2.no hv1
 have hne : hb ≠ sb := fun e => h.ne (.inl e)
 have hlt := h3.lt hb (.inl rfl)
 have g1 := h3.on.fr.size
 have g3 := hF3.size
 have hH : HLive w0 w4 hb sb sd (stateF x0 x1 x2 x3) l lo2 tv2 :=
  ⟨⟨hst, hown.mono (by omega), h.on.ge, h3.on.fr.trans hfr (fun x hx => .inr (by have := h.on.ge; omega))⟩, hfr.heap hne h3.hc, h.ge, (fun g => by rcases g with g | g; exact hne g; have := own_ge hown g; omega), by rw [hy.1]; exact fits_lt hfit hn (by omega) (by omega)⟩
 go_wp2_with fail
 go_ret
 exact ⟨tv2, rfl, hH, (hF3.mono (fun x _ f => f.elim)).trans hfr (fun x h => .inl h), fun x hx => by have := own_ge hown hx; omega⟩
end Go.Proofs.YtidlpihoafnobaaGreat.StM86
