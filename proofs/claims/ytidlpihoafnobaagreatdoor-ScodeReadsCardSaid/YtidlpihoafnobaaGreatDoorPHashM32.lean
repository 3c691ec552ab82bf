/- Words2 Arr4 SetM32 SetG64 SetG32 HashM32 -/
import Derived.Laws.StructEq
import Derived.Test.YtidlpihoafnobaaGreatDoorProg
import Derived.Test.YtidlpihoafnobaaGreatDoorPCodeM32
set_option linter.unusedVariables false
set_option linter.unusedSimpArgs false
namespace Go.Proofs.YtidlpihoafnobaaGreatDoor
set_option maxRecDepth 100000
open Go.RowKit
@[go_sem] theorem W64_mod' (x y : BitVec 64) : W64 x % W64 y = W64 (x % y) := by
 simp only [W64, BitVec.toNat_umod]; rfl
@[go_sem] theorem W64_tmod' (x y : BitVec 64) : (W64 x).tmod (W64 y) = W64 (x % y) := by
 rw [Int.tmod_eq_emod_of_nonneg (W64_nn x), W64_mod']
@[go_sem] theorem W64_bne (x y : BitVec 64) : (W64 x != W64 y) = (x != y) := by simp only [bne, W64_beq]
@[go_sem] theorem W32_bne (x y : BitVec 32) : (W32 x != W32 y) = (x != y) := by simp only [bne, W32_beq]
@[go_sem] theorem W64_bne_lit (x : BitVec 64) (n : Nat) (h : n < 18446744073709551616) : (W64 x != no_index (OfNat.ofNat n : Int)) = (x != BitVec.ofNat 64 n) := by simp only [bne, W64_beq_lit x n h]
@[go_sem] theorem W32_bne_lit (x : BitVec 32) (n : Nat) (h : n < 4294967296) : (W32 x != no_index (OfNat.ofNat n : Int)) = (x != BitVec.ofNat 32 n) := by simp only [bne, W32_beq_lit x n h]
theorem ofNat_inj' {n m : Nat} (hn : n < 18446744073709551616) (hm : m < 18446744073709551616) (h : BitVec.ofNat 64 n = BitVec.ofNat 64 m) : n = m := by
 have := congrArg BitVec.toNat h
 simp only [BitVec.toNat_ofNat] at this
 omega
end Go.Proofs.YtidlpihoafnobaaGreatDoor
namespace Go.Proofs.YtidlpihoafnobaaGreatDoor
set_option maxRecDepth 100000
open Go.RowKit
set_option maxHeartbeats 400000 in
@[go_sem] theorem eq_arr4 (a0 a1 a2 a3 b0 b1 b2 b3 : Int) (w : World) : (Op.equalIn 10000 31 (.agg #[.int .u64 a0, .int .u64 a1, .int .u64 a2, .int .u64 a3]) (.agg #[.int .u64 b0, .int .u64 b1, .int .u64 b2, .int .u64 b3])).run Tryz.prog w = .ok (a0 == b0 && a1 == b1 && a2 == b2 && a3 == b3) w := by
 have u3 := Tryz.underlying28
 rw [show (10000 : Nat) = 9999 + 1 from rfl, Op.equalIn]
 simp only [Sem.run_bind, run_underlying Tryz.underlying31, Result.andThen_ok]
 simp only [Std.Legacy.Range.forIn_eq_forIn_range', Std.Legacy.Range.size, Nat.sub_zero, Nat.add_sub_cancel, Nat.div_one, List.range'_succ, List.range'_zero, List.forIn_cons, List.forIn_nil]
 go_simp
 by_cases h0 : a0 = b0 <;> by_cases h1 : a1 = b1 <;> by_cases h2 : a2 = b2 <;> by_cases h3 : a3 = b3 <;> simp [h0, h1, h2, h3]
end Go.Proofs.YtidlpihoafnobaaGreatDoor
namespace Go.Proofs.YtidlpihoafnobaaGreatDoor.StM32
set_option maxRecDepth 100000
open Go.RowKit
def fitsB (n : Nat) (lo : BitVec 64) (size : Nat) : Bool := BitVec.ofNat 64 n == lo % BitVec.ofNat 64 size
theorem size_ne (size : Nat) (hz1 : 1 ≤ size) (hz2 : size ≤ 64) : (BitVec.ofNat 64 size == 0#64) = false := by
 rw [beq_eq_false_iff_ne]
 intro h
 have := ofNat_inj' (n := size) (m := 0) (by omega) (by omega) h
 omega
def Sets (size : Int) (f s2 : ST) (q : Nat) (sb : Nat) (l : Bytes) (lo2 : BitVec 64) (w : World) (e : Ending) (w' : World) : Prop :=
 ∃ tv2, e = .returned (.bool true) ∧ StreamAt w' sb size f s2 q tv2 lo2 ∧ Owns w' w.heap.size tv2 l ∧ Fr (fun x => x = sb) w w'
set_option maxHeartbeats 1000000 in
theorem Set_yes {w : World} {sb size : Nat} {f s : ST} {q : Nat} {tv : Value} {lo : BitVec 64} (hst : StreamAt w sb size f s q tv lo) (hz1 : 1 ≤ size) (hz2 : size ≤ 64) (s2 : ST) (lo2 : BitVec 64) (a : Option Addr) (n c : Nat) (l : Bytes) (hb : IsBytes w a n c l) (hn : n ≤ 1099511627776) (hfit : fitsB n lo2 size = true) :
 Calls Tryz.prog 277 #[.pointer (some ⟨sb, 0, none⟩), (.int .u32 (W32 s2)), .int .u64 (W64 lo2), .slice a n c] w (Sets size f s2 q sb l lo2 w) := by
 have hz := size_ne size hz1 hz2
 have hz' : ¬ BitVec.ofNat 64 size = 0#64 := by simpa using hz
 unfold fitsB at hfit
 have hfit' : (BitVec.ofNat 64 n != lo2 % BitVec.ofNat 64 size) = false := by simp [bne, hfit]
 have hst1 : StreamAt w sb size f s q tv lo := hst
 have hF1 : Fr No w w := Fr.refl _ _
 have hb1 := hb.no hF1
 have hlt := hst.lt
 have cz : w.cell? ⟨sb, 0, none⟩ = some (.int .i64 size) := hst1.cell 0 rfl
 go_enter Tryz.func277, Tryz.ntmps277
 go_wp2_with (go_at_call 185; refine (made_any hst1).mono ?_; rintro e w' ⟨rfl, rfl⟩)
 clear hfit hfit' hz hz'
 go_wp2_with fail
 refine (Clone_any _ _ _ l _ hb1 (by omega)).mono ?_
 rintro e w2 ⟨v2, rfl, ho2, hf2⟩
 obtain ⟨a2, c2, rfl, _, _⟩ := ho2.bytes
 have hS2 := hst1.fr hf2 (fun h => h)
 have cn0 : w2.cell? ⟨sb, 2, none⟩ = some (.int .u32 (W32 s)) := hS2.cell 2 rfl
 have ctl : w2.cell? ⟨sb, 4, none⟩ = some (tv) := hS2.cell 4 rfl
 have clo : w2.cell? ⟨sb, 5, none⟩ = some (.int .u64 (W64 lo)) := hS2.cell 5 rfl
 have fz2 := hS2.frozen 2
 have fz4 := hS2.frozen 4
 have fz5 := hS2.frozen 5
 go_wp2_with fail
 go_ret
 exact ⟨_, rfl, (row_put (row_put (row_put hS2 2 (.int .u32 (W32 s2))) 5 (.int .u64 (W64 lo2))) 4 (.slice a2 l.length c2)), ho2.fr ((((Fr.refl (fun x => x = sb) w2).setCell (p := ⟨sb, 2, none⟩) (.inl rfl) _).setCell (p := ⟨sb, 5, none⟩) (.inl rfl) _).setCell (p := ⟨sb, 4, none⟩) (.inl rfl) _) (fun x hx e => hS2.apart ho2 (by rw [hx, e])), (hf2.mono (fun x _ f => f.elim)).trans ((((Fr.refl (fun x => x = sb) w2).setCell (p := ⟨sb, 2, none⟩) (.inl rfl) _).setCell (p := ⟨sb, 5, none⟩) (.inl rfl) _).setCell (p := ⟨sb, 4, none⟩) (.inl rfl) _) (fun x h => .inl h)⟩
end Go.Proofs.YtidlpihoafnobaaGreatDoor.StM32
namespace Go.Proofs.YtidlpihoafnobaaGreatDoor.StG64
set_option maxRecDepth 100000
open Go.RowKit
def fitsB (n : Nat) (lo : BitVec 64) (size : Nat) : Bool := BitVec.ofNat 64 n == lo % BitVec.ofNat 64 size
theorem size_ne (size : Nat) (hz1 : 1 ≤ size) (hz2 : size ≤ 64) : (BitVec.ofNat 64 size == 0#64) = false := by
 rw [beq_eq_false_iff_ne]
 intro h
 have := ofNat_inj' (n := size) (m := 0) (by omega) (by omega) h
 omega
def Sets (size : Int) (f s2 : ST) (q : QT) (sb : Nat) (l : Bytes) (lo2 : BitVec 64) (w : World) (e : Ending) (w' : World) : Prop :=
 ∃ tv2, e = .returned (.bool true) ∧ StreamAt w' sb size f s2 q tv2 lo2 ∧ Owns w' w.heap.size tv2 l ∧ Fr (fun x => x = sb) w w'
set_option maxHeartbeats 1000000 in
theorem Set_yes {w : World} {sb size : Nat} {f s : ST} {q : QT} {tv : Value} {lo : BitVec 64} (hst : StreamAt w sb size f s q tv lo) (hz1 : 1 ≤ size) (hz2 : size ≤ 64) (s2 : ST) (lo2 : BitVec 64) (a : Option Addr) (n c : Nat) (l : Bytes) (hb : IsBytes w a n c l) (hn : n ≤ 1099511627776) (hfit : fitsB n lo2 size = true) :
 Calls Tryz.prog 318 #[.pointer (some ⟨sb, 0, none⟩), .agg #[cS s2 0, cS s2 1, cS s2 2, cS s2 3], .int .u64 (W64 lo2), .slice a n c] w (Sets size f s2 q sb l lo2 w) := by
 have hz := size_ne size hz1 hz2
 have hz' : ¬ BitVec.ofNat 64 size = 0#64 := by simpa using hz
 unfold fitsB at hfit
 have hfit' : (BitVec.ofNat 64 n != lo2 % BitVec.ofNat 64 size) = false := by simp [bne, hfit]
 have hst1 : StreamAt (w.alloc (.cells #[cS s2 0, cS s2 1, cS s2 2, cS s2 3] 31)) sb size f s q tv lo := hst.fr ((Fr.refl No w).alloc _) (fun h => h)
 have hF1 : Fr No w (w.alloc (.cells #[cS s2 0, cS s2 1, cS s2 2, cS s2 3] 31)) := (Fr.refl _ _).alloc _
 have hb1 := hb.no hF1
 have hlt := hst.lt
 have cz : (w.alloc (.cells #[cS s2 0, cS s2 1, cS s2 2, cS s2 3] 31)).cell? ⟨sb, 0, none⟩ = some (.int .i64 size) := hst1.cell 0 rfl
 go_enter Tryz.func318, Tryz.ntmps318
 go_wp2_with (go_at_call 240; refine (made_any hst1).mono ?_; rintro e w' ⟨rfl, rfl⟩)
 clear hfit hfit' hz hz'
 have hbox : BoxAt (w.alloc (.cells #[cS s2 0, cS s2 1, cS s2 2, cS s2 3] 31)) w.heap.size s2 := heap_alloc_new w _
 generalize (w.alloc (.cells #[cS s2 0, cS s2 1, cS s2 2, cS s2 3] 31)) = w1 at hst1 hF1 hb1 hbox cz ⊢
 have hne : w.heap.size ≠ sb := by omega
 refine wp_region_seq (by kernel_rfl) (fun w' => Fr (fun x => x = sb) w1 w') (fun _ => false) [(0, 1), (1, 1), (2, 1), (3, 1), (4, 1), (5, 1), (6, 0), (7, 1), (8, 1), (9, 0), (10, 1), (11, 1), (12, 0), (13, 1), (14, 1), (15, 0)] (by kernel_rfl) (Fr.refl _ w1).drew ?_
 have hS0 : Fr (fun x => x = sb) w1 w1.drew := (Fr.refl _ w1).drew
 iterate 6 refine tq _ rfl rfl (by intro w9 h9; have cb0 : w9.cell? ⟨w.heap.size, 0, none⟩ = some (cS s2 0) := (hbox.fr h9 hne).cell 0 rfl; have cb1 : w9.cell? ⟨w.heap.size, 1, none⟩ = some (cS s2 1) := (hbox.fr h9 hne).cell 1 rfl; have cb2 : w9.cell? ⟨w.heap.size, 2, none⟩ = some (cS s2 2) := (hbox.fr h9 hne).cell 2 rfl; have cb3 : w9.cell? ⟨w.heap.size, 3, none⟩ = some (cS s2 3) := (hbox.fr h9 hne).cell 3 rfl; clear h9; go_simp; try with_reducible rfl) ?_; simp only [es1, es2, es3]
 refine wpSeq_next rfl rfl (fun K hK => ?_)
 go_wp2_with fail
 refine (Clone_any _ _ _ l _ (hb1.no (Fr.refl No w1).drew) (by omega)).mono ?_
 rintro e w2 ⟨v2, rfl, ho2, hf2⟩
 obtain ⟨a2, c2, rfl, _, _⟩ := ho2.bytes
 have hS2 : StreamAt w2 sb size f s q tv lo := StreamAt.fr (w := w1.drew) hst1 hf2 (fun h => h)
 have hf12 : Fr (fun x => x = sb) w1 w2 := hS0.trans hf2 (fun _ h => h.elim)
 refine hK.out _ _ (fun _ => hf12) ?_
 clear hK K hS0 cz
 iterate 2 refine tp _ rfl rfl ?_; simp only [es1, es2, es3]
 have hrow9 := hS2
 have cg9_5 : w2.cell? ⟨sb, 5, none⟩ = some (cS s 0) := by rw [cell_of_row w2 sb 5 _ _ _ hrow9]; rfl
 have fg9_5 := frozen_of_row w2 sb 5 _ _ hrow9
 have cg9_6 : w2.cell? ⟨sb, 6, none⟩ = some (cS s 1) := by rw [cell_of_row w2 sb 6 _ _ _ hrow9]; rfl
 have fg9_6 := frozen_of_row w2 sb 6 _ _ hrow9
 have cg9_7 : w2.cell? ⟨sb, 7, none⟩ = some (cS s 2) := by rw [cell_of_row w2 sb 7 _ _ _ hrow9]; rfl
 have fg9_7 := frozen_of_row w2 sb 7 _ _ hrow9
 have cg9_8 : w2.cell? ⟨sb, 8, none⟩ = some (cS s 3) := by rw [cell_of_row w2 sb 8 _ _ _ hrow9]; rfl
 have fg9_8 := frozen_of_row w2 sb 8 _ _ hrow9
 refine wpSeq_next rfl rfl (fun K hK => ?_)
 go_wp2_with fail
 have hq9 : Fr (fun x => x = sb) w2 (World.setCell (World.setCell (World.setCell (World.setCell w2 ⟨sb, 5, none⟩ (cS s2 0)) ⟨sb, 6, none⟩ (cS s2 1)) ⟨sb, 7, none⟩ (cS s2 2)) ⟨sb, 8, none⟩ (cS s2 3)) := ((((Fr.refl (fun x => x = sb) w2).setCell (p := ⟨sb, 5, none⟩) (.inl rfl) _).setCell (p := ⟨sb, 6, none⟩) (.inl rfl) _).setCell (p := ⟨sb, 7, none⟩) (.inl rfl) _).setCell (p := ⟨sb, 8, none⟩) (.inl rfl) _
 have hr9 := (row_put (row_put (row_put (row_put hrow9 5 (cS s2 0)) 6 (cS s2 1)) 7 (cS s2 2)) 8 (cS s2 3))
 have hs9 := hf12.trans hq9 (fun _ h => .inl h)
 refine hK.out _ _ (fun _ => hs9) ?_
 clear hK K cg9_5 fg9_5 cg9_6 fg9_6 cg9_7 fg9_7 cg9_8 fg9_8 hrow9
 generalize hW9 : (World.setCell (World.setCell (World.setCell (World.setCell w2 ⟨sb, 5, none⟩ (cS s2 0)) ⟨sb, 6, none⟩ (cS s2 1)) ⟨sb, 7, none⟩ (cS s2 2)) ⟨sb, 8, none⟩ (cS s2 3)) = w29 at hq9 hr9 hs9 ⊢
 clear hW9
 iterate 2 refine tp _ rfl rfl ?_; simp only [es1, es2, es3]
 have hrow12 := hr9
 have cg12_11 : w29.cell? ⟨sb, 11, none⟩ = some (.int .u64 (W64 lo)) := by rw [cell_of_row w29 sb 11 _ _ _ hrow12]; rfl
 have fg12_11 := frozen_of_row w29 sb 11 _ _ hrow12
 refine wpSeq_next rfl rfl (fun K hK => ?_)
 go_wp2_with fail
 have hq12 : Fr (fun x => x = sb) w29 (World.setCell w29 ⟨sb, 11, none⟩ (.int .u64 (W64 lo2))) := (Fr.refl (fun x => x = sb) w29).setCell (p := ⟨sb, 11, none⟩) (.inl rfl) _
 have hr12 := (row_put hrow12 11 (.int .u64 (W64 lo2)))
 have hs12 := hs9.trans hq12 (fun _ h => .inl h)
 refine hK.out _ _ (fun _ => hs12) ?_
 clear hK K cg12_11 fg12_11 hrow12
 generalize hW12 : (World.setCell w29 ⟨sb, 11, none⟩ (.int .u64 (W64 lo2))) = w32 at hq12 hr12 hs12 ⊢
 clear hW12
 iterate 2 refine tp _ rfl rfl ?_; simp only [es1, es2, es3]
 have hrow15 := hr12
 have cg15_10 : w32.cell? ⟨sb, 10, none⟩ = some (tv) := by rw [cell_of_row w32 sb 10 _ _ _ hrow15]; rfl
 have fg15_10 := frozen_of_row w32 sb 10 _ _ hrow15
 refine wpSeq_next rfl rfl (fun K hK => ?_)
 go_wp2_with fail
 have hq15 : Fr (fun x => x = sb) w32 (World.setCell w32 ⟨sb, 10, none⟩ (.slice a2 l.length c2)) := (Fr.refl (fun x => x = sb) w32).setCell (p := ⟨sb, 10, none⟩) (.inl rfl) _
 have hr15 := (row_put hrow15 10 (.slice a2 l.length c2))
 have hs15 := hs12.trans hq15 (fun _ h => .inl h)
 refine hK.out _ _ (fun _ => hs15) ?_
 clear hK K cg15_10 fg15_10 hrow15
 generalize hW15 : (World.setCell w32 ⟨sb, 10, none⟩ (.slice a2 l.length c2)) = w35 at hq15 hr15 hs15 ⊢
 clear hW15
 refine wpSeq_done ?_
 go_wp2_with fail
 go_ret
 have hall : Fr (fun x => x = sb) w2 w35 := (hq9.trans hq12 (fun _ h => .inl h)).trans hq15 (fun _ h => .inl h)
 exact ⟨_, rfl, hr15, (ho2.fr hall (fun x hx e => hS2.apart ho2 (by rw [hx, e]))).mono hF1.size, (hF1.mono (fun x _ f => f.elim)).trans hs15 (fun x h => .inl h)⟩
end Go.Proofs.YtidlpihoafnobaaGreatDoor.StG64
namespace Go.Proofs.YtidlpihoafnobaaGreatDoor.StG32
set_option maxRecDepth 100000
open Go.RowKit
def fitsB (n : Nat) (lo : BitVec 64) (size : Nat) : Bool := BitVec.ofNat 64 n == lo % BitVec.ofNat 64 size
theorem size_ne (size : Nat) (hz1 : 1 ≤ size) (hz2 : size ≤ 64) : (BitVec.ofNat 64 size == 0#64) = false := by
 rw [beq_eq_false_iff_ne]
 intro h
 have := ofNat_inj' (n := size) (m := 0) (by omega) (by omega) h
 omega
def Sets (size : Int) (f s2 : ST) (q : QT) (sb : Nat) (l : Bytes) (lo2 : BitVec 64) (w : World) (e : Ending) (w' : World) : Prop :=
 ∃ tv2, e = .returned (.bool true) ∧ StreamAt w' sb size f s2 q tv2 lo2 ∧ Owns w' w.heap.size tv2 l ∧ Fr (fun x => x = sb) w w'
set_option maxHeartbeats 1000000 in
theorem Set_yes {w : World} {sb size : Nat} {f s : ST} {q : QT} {tv : Value} {lo : BitVec 64} (hst : StreamAt w sb size f s q tv lo) (hz1 : 1 ≤ size) (hz2 : size ≤ 64) (s2 : ST) (lo2 : BitVec 64) (a : Option Addr) (n c : Nat) (l : Bytes) (hb : IsBytes w a n c l) (hn : n ≤ 1099511627776) (hfit : fitsB n lo2 size = true) :
 Calls Tryz.prog 284 #[.pointer (some ⟨sb, 0, none⟩), .agg #[cS s2 0, cS s2 1, cS s2 2, cS s2 3], .int .u64 (W64 lo2), .slice a n c] w (Sets size f s2 q sb l lo2 w) := by
 have hz := size_ne size hz1 hz2
 have hz' : ¬ BitVec.ofNat 64 size = 0#64 := by simpa using hz
 unfold fitsB at hfit
 have hfit' : (BitVec.ofNat 64 n != lo2 % BitVec.ofNat 64 size) = false := by simp [bne, hfit]
 have hst1 : StreamAt (w.alloc (.cells #[cS s2 0, cS s2 1, cS s2 2, cS s2 3] 123)) sb size f s q tv lo := hst.fr ((Fr.refl No w).alloc _) (fun h => h)
 have hF1 : Fr No w (w.alloc (.cells #[cS s2 0, cS s2 1, cS s2 2, cS s2 3] 123)) := (Fr.refl _ _).alloc _
 have hb1 := hb.no hF1
 have hlt := hst.lt
 have cz : (w.alloc (.cells #[cS s2 0, cS s2 1, cS s2 2, cS s2 3] 123)).cell? ⟨sb, 0, none⟩ = some (.int .i64 size) := hst1.cell 0 rfl
 go_enter Tryz.func284, Tryz.ntmps284
 go_wp2_with (go_at_call 198; refine (made_any hst1).mono ?_; rintro e w' ⟨rfl, rfl⟩)
 clear hfit hfit' hz hz'
 have hbox : BoxAt (w.alloc (.cells #[cS s2 0, cS s2 1, cS s2 2, cS s2 3] 123)) w.heap.size s2 := heap_alloc_new w _
 generalize (w.alloc (.cells #[cS s2 0, cS s2 1, cS s2 2, cS s2 3] 123)) = w1 at hst1 hF1 hb1 hbox cz ⊢
 have hne : w.heap.size ≠ sb := by omega
 refine wp_region_seq (by kernel_rfl) (fun w' => Fr (fun x => x = sb) w1 w') (fun _ => false) [(0, 1), (1, 1), (2, 1), (3, 1), (4, 1), (5, 1), (6, 0), (7, 1), (8, 1), (9, 0), (10, 1), (11, 1), (12, 0), (13, 1), (14, 1), (15, 0)] (by kernel_rfl) (Fr.refl _ w1).drew ?_
 have hS0 : Fr (fun x => x = sb) w1 w1.drew := (Fr.refl _ w1).drew
 iterate 6 refine tq _ rfl rfl (by intro w9 h9; have cb0 : w9.cell? ⟨w.heap.size, 0, none⟩ = some (cS s2 0) := (hbox.fr h9 hne).cell 0 rfl; have cb1 : w9.cell? ⟨w.heap.size, 1, none⟩ = some (cS s2 1) := (hbox.fr h9 hne).cell 1 rfl; have cb2 : w9.cell? ⟨w.heap.size, 2, none⟩ = some (cS s2 2) := (hbox.fr h9 hne).cell 2 rfl; have cb3 : w9.cell? ⟨w.heap.size, 3, none⟩ = some (cS s2 3) := (hbox.fr h9 hne).cell 3 rfl; clear h9; go_simp; try with_reducible rfl) ?_; simp only [es1, es2, es3]
 refine wpSeq_next rfl rfl (fun K hK => ?_)
 go_wp2_with fail
 refine (Clone_any _ _ _ l _ (hb1.no (Fr.refl No w1).drew) (by omega)).mono ?_
 rintro e w2 ⟨v2, rfl, ho2, hf2⟩
 obtain ⟨a2, c2, rfl, _, _⟩ := ho2.bytes
 have hS2 : StreamAt w2 sb size f s q tv lo := StreamAt.fr (w := w1.drew) hst1 hf2 (fun h => h)
 have hf12 : Fr (fun x => x = sb) w1 w2 := hS0.trans hf2 (fun _ h => h.elim)
 refine hK.out _ _ (fun _ => hf12) ?_
 clear hK K hS0 cz
 iterate 2 refine tp _ rfl rfl ?_; simp only [es1, es2, es3]
 have hrow9 := hS2
 have cg9_5 : w2.cell? ⟨sb, 5, none⟩ = some (cS s 0) := by rw [cell_of_row w2 sb 5 _ _ _ hrow9]; rfl
 have fg9_5 := frozen_of_row w2 sb 5 _ _ hrow9
 have cg9_6 : w2.cell? ⟨sb, 6, none⟩ = some (cS s 1) := by rw [cell_of_row w2 sb 6 _ _ _ hrow9]; rfl
 have fg9_6 := frozen_of_row w2 sb 6 _ _ hrow9
 have cg9_7 : w2.cell? ⟨sb, 7, none⟩ = some (cS s 2) := by rw [cell_of_row w2 sb 7 _ _ _ hrow9]; rfl
 have fg9_7 := frozen_of_row w2 sb 7 _ _ hrow9
 have cg9_8 : w2.cell? ⟨sb, 8, none⟩ = some (cS s 3) := by rw [cell_of_row w2 sb 8 _ _ _ hrow9]; rfl
 have fg9_8 := frozen_of_row w2 sb 8 _ _ hrow9
 refine wpSeq_next rfl rfl (fun K hK => ?_)
 go_wp2_with fail
 have hq9 : Fr (fun x => x = sb) w2 (World.setCell (World.setCell (World.setCell (World.setCell w2 ⟨sb, 5, none⟩ (cS s2 0)) ⟨sb, 6, none⟩ (cS s2 1)) ⟨sb, 7, none⟩ (cS s2 2)) ⟨sb, 8, none⟩ (cS s2 3)) := ((((Fr.refl (fun x => x = sb) w2).setCell (p := ⟨sb, 5, none⟩) (.inl rfl) _).setCell (p := ⟨sb, 6, none⟩) (.inl rfl) _).setCell (p := ⟨sb, 7, none⟩) (.inl rfl) _).setCell (p := ⟨sb, 8, none⟩) (.inl rfl) _
 have hr9 := (row_put (row_put (row_put (row_put hrow9 5 (cS s2 0)) 6 (cS s2 1)) 7 (cS s2 2)) 8 (cS s2 3))
 have hs9 := hf12.trans hq9 (fun _ h => .inl h)
 refine hK.out _ _ (fun _ => hs9) ?_
 clear hK K cg9_5 fg9_5 cg9_6 fg9_6 cg9_7 fg9_7 cg9_8 fg9_8 hrow9
 generalize hW9 : (World.setCell (World.setCell (World.setCell (World.setCell w2 ⟨sb, 5, none⟩ (cS s2 0)) ⟨sb, 6, none⟩ (cS s2 1)) ⟨sb, 7, none⟩ (cS s2 2)) ⟨sb, 8, none⟩ (cS s2 3)) = w29 at hq9 hr9 hs9 ⊢
 clear hW9
 iterate 2 refine tp _ rfl rfl ?_; simp only [es1, es2, es3]
 have hrow12 := hr9
 have cg12_11 : w29.cell? ⟨sb, 11, none⟩ = some (.int .u64 (W64 lo)) := by rw [cell_of_row w29 sb 11 _ _ _ hrow12]; rfl
 have fg12_11 := frozen_of_row w29 sb 11 _ _ hrow12
 refine wpSeq_next rfl rfl (fun K hK => ?_)
 go_wp2_with fail
 have hq12 : Fr (fun x => x = sb) w29 (World.setCell w29 ⟨sb, 11, none⟩ (.int .u64 (W64 lo2))) := (Fr.refl (fun x => x = sb) w29).setCell (p := ⟨sb, 11, none⟩) (.inl rfl) _
 have hr12 := (row_put hrow12 11 (.int .u64 (W64 lo2)))
 have hs12 := hs9.trans hq12 (fun _ h => .inl h)
 refine hK.out _ _ (fun _ => hs12) ?_
 clear hK K cg12_11 fg12_11 hrow12
 generalize hW12 : (World.setCell w29 ⟨sb, 11, none⟩ (.int .u64 (W64 lo2))) = w32 at hq12 hr12 hs12 ⊢
 clear hW12
 iterate 2 refine tp _ rfl rfl ?_; simp only [es1, es2, es3]
 have hrow15 := hr12
 have cg15_10 : w32.cell? ⟨sb, 10, none⟩ = some (tv) := by rw [cell_of_row w32 sb 10 _ _ _ hrow15]; rfl
 have fg15_10 := frozen_of_row w32 sb 10 _ _ hrow15
 refine wpSeq_next rfl rfl (fun K hK => ?_)
 go_wp2_with fail
 have hq15 : Fr (fun x => x = sb) w32 (World.setCell w32 ⟨sb, 10, none⟩ (.slice a2 l.length c2)) := (Fr.refl (fun x => x = sb) w32).setCell (p := ⟨sb, 10, none⟩) (.inl rfl) _
 have hr15 := (row_put hrow15 10 (.slice a2 l.length c2))
 have hs15 := hs12.trans hq15 (fun _ h => .inl h)
 refine hK.out _ _ (fun _ => hs15) ?_
 clear hK K cg15_10 fg15_10 hrow15
 generalize hW15 : (World.setCell w32 ⟨sb, 10, none⟩ (.slice a2 l.length c2)) = w35 at hq15 hr15 hs15 ⊢
 clear hW15
 refine wpSeq_done ?_
 go_wp2_with fail
 go_ret
 have hall : Fr (fun x => x = sb) w2 w35 := (hq9.trans hq12 (fun _ h => .inl h)).trans hq15 (fun _ h => .inl h)
 exact ⟨_, rfl, hr15, (ho2.fr hall (fun x hx e => hS2.apart ho2 (by rw [hx, e]))).mono hF1.size, (hF1.mono (fun x _ f => f.elim)).trans hs15 (fun x h => .inl h)⟩
end Go.Proofs.YtidlpihoafnobaaGreatDoor.StG32
namespace Go.Proofs.YtidlpihoafnobaaGreatDoor.StM32
set_option maxRecDepth 100000
open Go.RowKit
structure HLive (w0 w : World) (hb sb : Nat) (sd : BitVec 32) (s : ST) (tl : Bytes) (lo : BitVec 64) (tv : Value) : Prop where
 on : Live w0 w sb 4 (firstF sd) s 0 tl lo tv
 hc : w.heap[hb]? = some (.cells #[.pointer (some ⟨sb, 0, none⟩)] 193 (0, 0))
 ge : w0.heap.size ≤ hb
 ne : ¬ Foot sb tv hb
 tlen : tl.length < 4
def HFoot (hb sb : Nat) (tv : Value) (x : Nat) : Prop := x = hb ∨ Foot sb tv x
section
variable {w0 w w' : World} {hb sb : Nat} {sd : BitVec 32} {s : ST} {tl : Bytes} {lo : BitVec 64} {tv : Value}
theorem HLive.lt (h : HLive w0 w hb sb sd s tl lo tv) : ∀ x, HFoot hb sb tv x → x < w.heap.size := fun x hx => by
 rcases hx with rfl | hx
 · exact (Array.getElem?_eq_some_iff.1 h.hc).1
 · exact h.on.lt x hx
theorem HLive.fr (h : HLive w0 w hb sb sd s tl lo tv) : Fr No w0 w := h.on.fr
theorem HLive.keep {F : Nat → Prop} (h : HLive w0 w hb sb sd s tl lo tv) (k : Fr F w w') (hF : ∀ x, F x → ¬ HFoot hb sb tv x) (hA : ∀ x, F x → w0.heap.size ≤ x) : HLive w0 w' hb sb sd s tl lo tv :=
 ⟨h.on.keep k (fun x hx g => hF x hx (.inr g)) hA, k.heap (fun g => hF _ g (.inl rfl)) h.hc, h.ge, h.ne, h.tlen⟩
theorem HLive.no (h : HLive w0 w hb sb sd s tl lo tv) (k : Fr No w w') : HLive w0 w' hb sb sd s tl lo tv := h.keep k (fun _ g => g.elim) (fun _ g => g.elim)
theorem HLive.cell (h : HLive w0 w hb sb sd s tl lo tv) : w.cell? ⟨hb, 0, none⟩ = some (.pointer (some ⟨sb, 0, none⟩)) := by rw [cell_of_row w hb 0 _ _ _ h.hc]; rfl
end
theorem made_h {w0 w : World} {hb sb : Nat} {sd : BitVec 32} {s : ST} {tl : Bytes} {lo : BitVec 64} {tv : Value} (h : HLive w0 w hb sb sd s tl lo tv) : Calls Tryz.prog 119 #[.pointer (some ⟨hb, 0, none⟩)] w (Gives (.bool true) w) := by
 have cc := h.cell
 go_enter Tryz.func119, Tryz.ntmps119
 go_wp2
 go_ret
 exact ⟨rfl, rfl⟩
def GivesHash (w0 w : World) (sd : BitVec 32) (e : Ending) (w' : World) : Prop := ∃ hb sb, e = .returned (.pointer (some ⟨hb, 0, none⟩)) ∧ w.heap.size ≤ hb ∧ w.heap.size ≤ sb ∧ HLive w0 w' hb sb sd (firstF sd) [] 0#64 (.slice none 0 0) ∧ Fr No w w'
set_option maxHeartbeats 400000 in
theorem New_h (sd : BitVec 32) (w0 w : World) (hf : Fr No w0 w) : Calls Tryz.prog 75 #[.int .u32 (W32 sd)] w (GivesHash w0 w sd) := by
 have hW1 := (Fr.refl No w).alloc (.cells #[] 186)
 go_enter Tryz.func75, Tryz.ntmps75
 go_wp2_with fail
 refine (New_any 4 sd 0 _ (by omega) (by omega)).mono ?_
 rintro e w2 ⟨sb, rfl, hge, hlt, hst, hfr⟩
 have hz : sizeOk 4 = ((4 : Nat) : Int) := rfl
 rw [hz] at hst
 have hW := hW1.no hfr
 have g0 := hf.size
 have g1 := hW1.size
 have g2 := hfr.size
 clear hz
 go_wp2_with fail
 go_ret
 have h3 : Fr No w2 (w2.alloc (.cells #[.pointer (some ⟨sb, 0, none⟩)] 193)) := (Fr.refl No w2).alloc _
 refine ⟨w2.heap.size, sb, rfl, by omega, by omega, ⟨⟨hst.fr h3 (fun h => h), Owns.nil _ _, by omega, (hf.no hW).no h3⟩, heap_alloc_new w2 _, by omega, ?_, by simp⟩, hW.no h3⟩
 rintro (g | g)
 · omega
 · simp [Value.ownBlock] at g
set_option maxHeartbeats 800000 in
theorem Sum_h {w0 w : World} {hb sb : Nat} {sd : BitVec 32} {s : ST} {tl : Bytes} {lo : BitVec 64} {tv : Value} (h : HLive w0 w hb sb sd s tl lo tv) : Calls Tryz.prog 76 #[.pointer (some ⟨hb, 0, none⟩)] w (GivesNew (.int .u32 (W32 (endF s tl lo))) w) := by
 go_enter Tryz.func76, Tryz.ntmps76
 go_wp2_with (go_at_call 119; refine (made_h h).mono ?_; rintro e w' ⟨rfl, rfl⟩)
 have hf1 : Fr No w (w.alloc (.cells #[] 186)) := (Fr.refl No w).alloc _
 have h1 := h.no hf1
 generalize w.alloc (.cells #[] 186) = w1 at hf1 h1 ⊢
 have cc := h1.cell
 refine rsq (by kernel_rfl) [(0, 1), (1, 1), (2, 1), (3, 1), (4, 1), (6, 1), (7, 1), (8, 1), (9, 1), (11, 1), (12, 1), (13, 1), (14, 1), (5, 0), (10, 0), (15, 0), (16, 0), (17, 1)] (by kernel_rfl) ?_
 have hv0 : Fr No w1 w1.drew := (Fr.refl No w1).drew
 iterate 13 refine tq _ rfl rfl (by intro w9 h9; have ccc := h9.cell (fun h => h) cc; clear h9; go_simp; try with_reducible rfl) ?_; simp only [es1, es2, es3]
 refine wpSeq_next rfl rfl (fun K hK => ?_)
 go_wp2_with fail
 refine (State_any (h1.no hv0).on.st).mono ?_
 rintro e xhv1 ⟨rfl, hx⟩
 have hv1 := hv0.no hx
 clear hx
 refine hK.out _ _ (fun _ => hv1) ?_
 clear hK K
 refine wpSeq_next rfl rfl (fun K hK => ?_)
 go_wp2_with fail
 refine (Tail_any (h1.no hv1).on.st (h1.no hv1).on.ow (by have := h.tlen; omega)).mono ?_
 rintro e xhv2 ⟨vt, rfl, ho, hx⟩
 have hv2 := hv1.no hx
 obtain ⟨at_, ct, rfl, hbt, _⟩ := ho.bytes
 clear hx
 refine hK.out _ _ (fun _ => hv2) ?_
 clear hK K
 refine wpSeq_next rfl rfl (fun K hK => ?_)
 go_wp2_with fail
 refine (Long_any (h1.no hv2).on.st).mono ?_
 rintro e w' ⟨rfl, rfl⟩
 refine hK.out _ _ (fun _ => hv2) ?_
 clear hK K
 refine wpSeq_next rfl rfl (fun K hK => ?_)
 go_wp2_with fail
 refine (end_any s _ _ _ tl lo _ hbt h.tlen).mono ?_
 rintro e xhv3 ⟨rfl, hx⟩
 have hv3 := hv2.no hx
 clear hx
 refine hK.out _ _ (fun _ => hv3) ?_
 clear hK K
 refine tp _ rfl rfl ?_; simp only [es1, es2, es3]
 refine wpSeq_done ?_
 go_wp2_with fail
 go_ret
 exact ⟨rfl, hf1.no hv3⟩
def GivesHLanes (s : ST) (tl : Bytes) (lo : BitVec 64) (w : World) (e : Ending) (w' : World) : Prop := ∃ v, e = .returned (.tuple #[lanesV s, .int .u64 (W64 lo), v]) ∧ Owns w' w.heap.size v tl ∧ Fr No w w'
set_option maxHeartbeats 1000000 in
theorem Lanes_h {w0 w : World} {hb sb : Nat} {sd : BitVec 32} {s : ST} {tl : Bytes} {lo : BitVec 64} {tv : Value} (h : HLive w0 w hb sb sd s tl lo tv) : Calls Tryz.prog 273 #[.pointer (some ⟨hb, 0, none⟩)] w (GivesHLanes s tl lo w) := by
 have hlt := h.lt hb (.inl rfl)
 have hF1 : Fr No w (w.alloc (.cells #[.int .u64 0, .int .u64 0, .int .u64 0, .int .u64 0] 31)) := (Fr.refl No w).alloc _
 have h1 := h.no hF1
 have hR := row4_new w 31 (.int .u64 0) (.int .u64 0) (.int .u64 0) (.int .u64 0)
 go_enter Tryz.func273, Tryz.ntmps273
 go_wp2_with (go_at_call 119; refine (made_h h1).mono ?_; rintro e w' ⟨rfl, rfl⟩)
 obtain ⟨rb, hrb⟩ : ∃ rb, rb = w.heap.size := ⟨_, rfl⟩
 have hnb : ¬ hb = rb := by omega
 have hk := Lib.hid (fun (w' : World) (k : Fr (fun x => x = rb) (w.alloc (.cells #[.int .u64 0, .int .u64 0, .int .u64 0, .int .u64 0] 31)) w') => h1.keep k (fun x hx g => by have := h.lt x g; omega) (fun x hx => by have := h.on.fr.size; omega))
 rw [← hrb] at hR ⊢
 have hrg : w.heap.size ≤ rb := by omega
 clear hrb
 generalize w.alloc (.cells #[.int .u64 0, .int .u64 0, .int .u64 0, .int .u64 0] 31) = w1 at hF1 h1 hR hk ⊢
 have hrl := hR.lt
 have cc := h1.cell
 refine wp_region_seq (by kernel_rfl) (fun w' => Fr (fun x => x = rb) w1 w') (fun _ => false) [(0, 1), (1, 1), (2, 1), (3, 1), (7, 1), (8, 1), (9, 1), (10, 1), (12, 1), (13, 1), (14, 1), (15, 1), (4, 0), (5, 1), (6, 1), (11, 0), (16, 0), (17, 0), (18, 1), (19, 1)] (by kernel_rfl) (Fr.refl _ w1).drew ?_
 have hv0 : Fr No w1 w1.drew := (Fr.refl No w1).drew
 iterate 12 refine tq _ rfl rfl (by intro w9 h9; have ccc := h9.cell hnb cc; clear h9; go_simp; try with_reducible rfl) ?_; simp only [es1, es2, es3]
 refine wpSeq_next rfl rfl (fun K hK => ?_)
 go_wp2_with fail
 refine (State_any (hk.out _ (hv0.mono (fun _ _ f => f.elim))).on.st).mono ?_
 rintro e xhv1 ⟨rfl, hx⟩
 have hv1 := hv0.no hx
 clear hx
 refine hK.out _ _ (fun _ => (hv1.mono (fun _ _ f => f.elim))) ?_
 clear hK K
 iterate 2 refine tp _ rfl rfl ?_; simp only [es1, es2, es3]
 refine wpSeq_next rfl rfl (fun K hK => ?_)
 go_wp2_with fail
 refine (Long_any (hk.out _ (hv1.mono (fun _ _ f => f.elim))).on.st).mono ?_
 rintro e w' ⟨rfl, rfl⟩
 refine hK.out _ _ (fun _ => (hv1.mono (fun _ _ f => f.elim))) ?_
 clear hK K
 refine wpSeq_next rfl rfl (fun K hK => ?_)
 go_wp2_with fail
 refine (Tail_any (hk.out _ (hv1.mono (fun _ _ f => f.elim))).on.st (hk.out _ (hv1.mono (fun _ _ f => f.elim))).on.ow (by have := h.tlen; omega)).mono ?_
 rintro e xhv2 ⟨vt, rfl, ho, hx⟩
 have hsz := hv1.size
 have hv2 := hv1.no hx
 obtain ⟨at_, ct, rfl, _, _⟩ := ho.bytes
 clear hx
 refine hK.out _ _ (fun _ => (hv2.mono (fun _ _ f => f.elim))) ?_
 clear hK K
 have hRx := hR.no hv2
 have cr0 := hRx.c0
 have cr1 := hRx.c1
 have cr2 := hRx.c2
 have cr3 := hRx.c3
 have fr0 := hRx.fz 0
 have fr1 := hRx.fz 1
 have fr2 := hRx.fz 2
 have fr3 := hRx.fz 3
 refine wpSeq_next rfl rfl (fun K hK => ?_)
 go_wp2_with fail
 have hF3 := fr_put4 xhv2 rb (.int .u64 (W64 (s.setWidth 64))) (.int .u64 0) (.int .u64 0) (.int .u64 0)
 have hR3 := row_put4 hRx (.int .u64 (W64 (s.setWidth 64))) (.int .u64 0) (.int .u64 0) (.int .u64 0)
 have hs3 : Fr (fun x => x = rb) w1 _ := (hv2.mono (fun _ _ f => f.elim)).trans hF3 (fun _ h => .inl h)
 refine hK.out _ _ (fun _ => hs3) ?_
 clear hK K
 clear cr0 fr0 cr1 fr1 cr2 fr2 cr3 fr3
 generalize ((((xhv2.setCell ⟨rb, 0, none⟩ (.int .u64 (W64 (s.setWidth 64)))).setCell ⟨rb, 1, none⟩ (.int .u64 0)).setCell ⟨rb, 2, none⟩ (.int .u64 0)).setCell ⟨rb, 3, none⟩ (.int .u64 0)) = w3 at hF3 hR3 hs3 ⊢
 iterate 2 refine tp _ rfl rfl ?_; simp only [es1, es2, es3]
 refine wpSeq_done ?_
 have cd0 := hR3.c0
 have cd1 := hR3.c1
 have cd2 := hR3.c2
 have cd3 := hR3.c3
 have g1 := hF1.size
 go_wp2_with fail
 refine bodyPost_ret (v := .tuple #[lanesV s, .int .u64 (W64 lo), .slice at_ tl.length ct]) (by simp [results, Tryz.results273, go_sem, cd0, cd1, cd2, cd3, lanesV]) rfl ?_
 exact ⟨_, rfl, (ho.fr hF3 (fun x hx e => by have := own_ge ho hx; omega)).mono (by omega), hF1.trans hs3 (fun x hx => .inr (by omega))⟩
theorem fits_lt {n : Nat} {lo : BitVec 64} {size : Nat} (h : fitsB n lo size = true) (hn : n ≤ 1099511627776) (h1 : 1 ≤ size) (h2 : size ≤ 64) : n < size := by
 unfold fitsB at h
 have := congrArg BitVec.toNat (beq_iff_eq.1 h)
 simp only [BitVec.toNat_umod, BitVec.toNat_ofNat] at this
 rw [Nat.mod_eq_of_lt (show n < 2 ^ 64 by omega), Nat.mod_eq_of_lt (show size < 2 ^ 64 by omega)] at this
 rw [this]
 exact Nat.mod_lt _ (by omega)
def RightP (x0 x1 x2 x3 : BitVec 64) : Prop := x1 = 0#64 ∧ x2 = 0#64 ∧ x3 = 0#64 ∧ x0 / 4294967296#64 = 0#64
def stateF (x0 x1 x2 x3 : BitVec 64) : ST := x0.setWidth 32
def HSets (w0 : World) (hb sb : Nat) (sd : BitVec 32) (s2 : ST) (l : Bytes) (lo2 : BitVec 64) (w : World) (e : Ending) (w' : World) : Prop :=
 ∃ tv2, e = .returned (.bool true) ∧ HLive w0 w' hb sb sd s2 l lo2 tv2 ∧ Fr (fun x => x = sb) w w' ∧ ∀ x, tv2.ownBlock = some x → w.heap.size ≤ x
set_option maxHeartbeats 400000 in
theorem Set_right {w0 w : World} {hb sb : Nat} {sd : BitVec 32} {s : ST} {tl : Bytes} {lo : BitVec 64} {tv : Value} (h : HLive w0 w hb sb sd s tl lo tv) (x0 x1 x2 x3 : BitVec 64) (lv : Value) (hlv : lv = .agg #[.int .u64 (W64 x0), .int .u64 (W64 x1), .int .u64 (W64 x2), .int .u64 (W64 x3)]) (lo2 : BitVec 64) (a : Option Addr) (n c : Nat) (hw : RightP x0 x1 x2 x3) (hfit : fitsB n lo2 4 = true) (l : Bytes) (hy : IsBytes w a n c l) (hn : n ≤ 1099511627776) : Calls Tryz.prog 275 #[.pointer (some ⟨hb, 0, none⟩), lv, .int .u64 (W64 lo2), .slice a n c] w (HSets w0 hb sb sd (stateF x0 x1 x2 x3) l lo2 w) := by
 obtain ⟨rfl, rfl, rfl, hB⟩ := hw
 subst hlv
 have hF1 : Fr No w (w.alloc (.cells #[.int .u64 (W64 x0), .int .u64 (W64 0#64), .int .u64 (W64 0#64), .int .u64 (W64 0#64)] 31)) := (Fr.refl No w).alloc _
 have hR1 := row4_new w 31 (.int .u64 (W64 x0)) (.int .u64 (W64 0#64)) (.int .u64 (W64 0#64)) (.int .u64 (W64 0#64))
 have h1 := h.no hF1
 have cc := h1.cell
 have hb1 := hy.no hF1
 have hB2 : (x0 / 4294967296#64 == 0#64) = true := by simpa using hB
 have hB3 : (x0 / 4294967296#64 != 0#64) = false := by simp [bne, hB2]
 clear hB
 go_enter Tryz.func275, Tryz.ntmps275
 go_wp2_with (go_at_call 119; refine (made_h h1).mono ?_; rintro e w' ⟨rfl, rfl⟩)
 refine (Set_yes h1.on.st (by omega) (by omega) (stateF x0 0#64 0#64 0#64) lo2 _ n c l hb1 hn hfit).mono ?_
 rintro e w2 ⟨tv2, rfl, hst, hown, hfr⟩
 have hne : hb ≠ sb := fun e => h.ne (.inl e)
 have hlt := h1.lt hb (.inl rfl)
 have g1 := h1.on.fr.size
 have g2 := hF1.size
 have hH : HLive w0 w2 hb sb sd (stateF x0 0#64 0#64 0#64) l lo2 tv2 :=
  ⟨⟨hst, hown.mono (by omega), h.on.ge, h1.on.fr.trans hfr (fun x hx => .inr (by have := h.on.ge; omega))⟩, hfr.heap hne h1.hc, h.ge, (fun g => by rcases g with g | g; exact hne g; have := own_ge hown g; omega), by rw [hy.1]; exact fits_lt hfit hn (by omega) (by omega)⟩
 clear cc
 go_wp2_with fail
 go_ret
 exact ⟨tv2, rfl, hH, (hF1.mono (fun x _ f => f.elim)).trans hfr (fun x h => .inl h), fun x hx => by have := own_ge hown hx; omega⟩
end Go.Proofs.YtidlpihoafnobaaGreatDoor.StM32
