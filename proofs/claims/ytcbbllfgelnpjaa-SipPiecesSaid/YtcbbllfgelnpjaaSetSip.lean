/- block.Stream[[4]uint64].Set. -/
import Derived.Test.YtcbbllfgelnpjaaLiveSip
import Derived.Test.YtcbbllfgelnpjaaWords2
import Derived.Test.YtcbbllfgelnpjaaSeq
namespace Go.Proofs.Ytcbbllfgelnpjaa.StSip
set_option linter.unusedVariables false
set_option linter.unusedSimpArgs false
open Go.RowKit

/-- Does so many waiting bytes fit how many came? -/
def fitsB (n : Nat) (lo : BitVec 64) (size : Nat) : Bool := BitVec.ofNat 64 n == lo % BitVec.ofNat 64 size
theorem size_ne (size : Nat) (hz1 : 1 ≤ size) (hz2 : size ≤ 64) : (BitVec.ofNat 64 size == 0#64) = false := by
  rw [beq_eq_false_iff_ne]
  intro h
  have := ofNat_inj' (n := size) (m := 0) (by omega) (by omega) h
  omega
theorem Set_no {w : World} {sb size : Nat} {f s : ST} {q : Nat} {tv : Value} {lo : BitVec 64} (hst : StreamAt w sb size f s q tv lo) (hz1 : 1 ≤ size) (hz2 : size ≤ 64) (s2 : ST) (lo2 : BitVec 64) (a : Option Addr) (n c : Nat) (hfit : fitsB n lo2 size = false) :
    Calls Try.prog 37 #[.pointer (some ⟨sb, 0, none⟩), .agg #[cS s2 0, cS s2 1, cS s2 2, cS s2 3], .int .u64 (W64 lo2), .slice a n c] w (GivesNew (.bool false) w) := by
  have hz := size_ne size hz1 hz2
  have hz' : ¬ BitVec.ofNat 64 size = 0#64 := by simpa using hz
  unfold fitsB at hfit
  have hfit' : (BitVec.ofNat 64 n != lo2 % BitVec.ofNat 64 size) = true := by simp [bne, hfit]
  have hfit2 : ¬ BitVec.ofNat 64 n = lo2 % BitVec.ofNat 64 size := by simpa using hfit
  have hst1 : StreamAt (w.alloc (.cells #[cS s2 0, cS s2 1, cS s2 2, cS s2 3] 38)) sb size f s q tv lo := hst.fr ((Fr.refl No w).alloc _) (fun h => h)
  have cz : (w.alloc (.cells #[cS s2 0, cS s2 1, cS s2 2, cS s2 3] 38)).cell? ⟨sb, 0, none⟩ = some (.int .i64 size) := hst1.cell 0 rfl
  go_enter Try.func37, Try.ntmps37
  go_wp2_with (go_at_call 50; refine (made_any hst1).mono ?_; rintro e w' ⟨rfl, rfl⟩)
  go_ret
  exact ⟨rfl, (Fr.refl _ _).alloc _⟩
/-- What is set. -/
def Sets (size : Int) (f s2 : ST) (q : Nat) (sb : Nat) (l : Bytes) (lo2 : BitVec 64) (w : World) (e : Ending) (w' : World) : Prop :=
  ∃ tv2, e = .returned (.bool true) ∧ StreamAt w' sb size f s2 q tv2 lo2 ∧ Owns w' w.heap.size tv2 l ∧ Fr (fun x => x = sb) w w'
set_option maxHeartbeats 1000000 in
theorem Set_yes {w : World} {sb size : Nat} {f s : ST} {q : Nat} {tv : Value} {lo : BitVec 64} (hst : StreamAt w sb size f s q tv lo) (hz1 : 1 ≤ size) (hz2 : size ≤ 64) (s2 : ST) (lo2 : BitVec 64) (a : Option Addr) (n c : Nat) (l : Bytes) (hb : IsBytes w a n c l) (hn : n ≤ 1099511627776) (hfit : fitsB n lo2 size = true) :
    Calls Try.prog 37 #[.pointer (some ⟨sb, 0, none⟩), .agg #[cS s2 0, cS s2 1, cS s2 2, cS s2 3], .int .u64 (W64 lo2), .slice a n c] w (Sets size f s2 q sb l lo2 w) := by
  have hz := size_ne size hz1 hz2
  have hz' : ¬ BitVec.ofNat 64 size = 0#64 := by simpa using hz
  unfold fitsB at hfit
  have hfit' : (BitVec.ofNat 64 n != lo2 % BitVec.ofNat 64 size) = false := by simp [bne, hfit]
  have hst1 : StreamAt (w.alloc (.cells #[cS s2 0, cS s2 1, cS s2 2, cS s2 3] 38)) sb size f s q tv lo := hst.fr ((Fr.refl No w).alloc _) (fun h => h)
  have hF1 : Fr No w (w.alloc (.cells #[cS s2 0, cS s2 1, cS s2 2, cS s2 3] 38)) := (Fr.refl _ _).alloc _
  have hb1 := hb.no hF1
  have hlt := hst.lt
  have cz : (w.alloc (.cells #[cS s2 0, cS s2 1, cS s2 2, cS s2 3] 38)).cell? ⟨sb, 0, none⟩ = some (.int .i64 size) := hst1.cell 0 rfl
  go_enter Try.func37, Try.ntmps37
  go_wp2_with (go_at_call 50; refine (made_any hst1).mono ?_; rintro e w' ⟨rfl, rfl⟩)
  clear hfit hfit' hz hz'

  have hbox : BoxAt (w.alloc (.cells #[cS s2 0, cS s2 1, cS s2 2, cS s2 3] 38)) w.heap.size s2 := heap_alloc_new w _
  generalize (w.alloc (.cells #[cS s2 0, cS s2 1, cS s2 2, cS s2 3] 38)) = w1 at hst1 hF1 hb1 hbox cz ⊢
  have hne : w.heap.size ≠ sb := by omega
  refine wp_region_seq (by kernel_rfl) (fun w' => Fr (fun x => x = sb) w1 w') (fun _ => false) [(0, 1), (1, 1), (2, 1), (3, 1), (4, 1), (5, 1), (6, 0), (7, 1), (8, 1), (9, 0), (10, 1), (11, 1), (12, 0), (13, 1), (14, 1), (15, 0)] (by kernel_rfl) (Fr.refl _ w1).drew ?_
  have hS0 : Fr (fun x => x = sb) w1 w1.drew := (Fr.refl _ w1).drew
  refine wpSeq_take (v := ?_) 25 rfl rfl (fun _ _ _ h => h) (Or.inl ⟨rfl, ?_⟩) ?_
  rotate_left 1
  · (intro w9 h9; go_simp; try with_reducible rfl)
  simp only [List.setIfInBounds_toArray, List.set_cons_zero, List.set_cons_succ]
  refine wpSeq_take (v := ?_) 26 rfl rfl (fun _ _ _ h => h) (Or.inl ⟨rfl, ?_⟩) ?_
  rotate_left 1
  · (intro w9 h9; go_simp; try with_reducible rfl)
  simp only [List.setIfInBounds_toArray, List.set_cons_zero, List.set_cons_succ]
  refine wpSeq_take (v := ?_) 27 rfl rfl (fun _ _ _ h => h) (Or.inl ⟨rfl, ?_⟩) ?_
  rotate_left 1
  · (intro w9 h9; go_simp; try with_reducible rfl)
  simp only [List.setIfInBounds_toArray, List.set_cons_zero, List.set_cons_succ]
  refine wpSeq_take (v := ?_) 28 rfl rfl (fun _ _ _ h => h) (Or.inl ⟨rfl, ?_⟩) ?_
  rotate_left 1
  · (intro w9 h9; have cb0 : w9.cell? ⟨w.heap.size, 0, none⟩ = some (cS s2 0) := (hbox.fr h9 hne).cell 0 rfl; have cb1 : w9.cell? ⟨w.heap.size, 1, none⟩ = some (cS s2 1) := (hbox.fr h9 hne).cell 1 rfl; have cb2 : w9.cell? ⟨w.heap.size, 2, none⟩ = some (cS s2 2) := (hbox.fr h9 hne).cell 2 rfl; have cb3 : w9.cell? ⟨w.heap.size, 3, none⟩ = some (cS s2 3) := (hbox.fr h9 hne).cell 3 rfl; clear h9; go_simp; try with_reducible rfl)
  simp only [List.setIfInBounds_toArray, List.set_cons_zero, List.set_cons_succ]
  refine wpSeq_take (v := ?_) 29 rfl rfl (fun _ _ _ h => h) (Or.inl ⟨rfl, ?_⟩) ?_
  rotate_left 1
  · (intro w9 h9; go_simp; try with_reducible rfl)
  simp only [List.setIfInBounds_toArray, List.set_cons_zero, List.set_cons_succ]
  refine wpSeq_take (v := ?_) 30 rfl rfl (fun _ _ _ h => h) (Or.inl ⟨rfl, ?_⟩) ?_
  rotate_left 1
  · (intro w9 h9; go_simp; try with_reducible rfl)
  simp only [List.setIfInBounds_toArray, List.set_cons_zero, List.set_cons_succ]
  refine wpSeq_next rfl rfl (fun K hK => ?_)
  go_wp2_with fail
  refine (Clone_any _ _ _ l _ (hb1.no (Fr.refl No w1).drew) (by omega)).mono ?_
  rintro e w2 ⟨v2, rfl, ho2, hf2⟩
  obtain ⟨a2, c2, rfl, _, _⟩ := ho2.bytes
  have hS2 : StreamAt w2 sb size f s q tv lo := StreamAt.fr (w := w1.drew) hst1 hf2 (fun h => h)
  have hf12 : Fr (fun x => x = sb) w1 w2 := hS0.trans hf2 (fun _ h => h.elim)
  refine hK.out _ _ (fun _ => hf12) ?_
  clear hK K hS0 cz
  refine wpSeq_take (v := ?_) 32 rfl rfl (fun _ _ _ h => h) (Or.inl ⟨rfl, ?_⟩) ?_
  rotate_left 1
  · (intro w9 h9; go_simp; try with_reducible rfl)
  simp only [List.setIfInBounds_toArray, List.set_cons_zero, List.set_cons_succ]
  refine wpSeq_take (v := ?_) 33 rfl rfl (fun _ _ _ h => h) (Or.inl ⟨rfl, ?_⟩) ?_
  rotate_left 1
  · (intro w9 h9; go_simp; try with_reducible rfl)
  simp only [List.setIfInBounds_toArray, List.set_cons_zero, List.set_cons_succ]
  have hrow9 := hS2
  have cg9_5 : w2.cell? ⟨sb, 5, none⟩ = some (cS s 0) := by rw [cell_of_row w2 sb 5 _ _ _ hrow9]; rfl
  have fg9_5 := frozen_of_row w2 sb 5 _ _ hrow9
  have cg9_6 : w2.cell? ⟨sb, 6, none⟩ = some (cS s 1) := by rw [cell_of_row w2 sb 6 _ _ _ hrow9]; rfl
  have fg9_6 := frozen_of_row w2 sb 6 _ _ hrow9
  have cg9_7 : w2.cell? ⟨sb, 7, none⟩ = some (cS s 2) := by rw [cell_of_row w2 sb 7 _ _ _ hrow9]; rfl
  have fg9_7 := frozen_of_row w2 sb 7 _ _ hrow9
  have cg9_8 : w2.cell? ⟨sb, 8, none⟩ = some (cS s 3) := by rw [cell_of_row w2 sb 8 _ _ _ hrow9]; rfl
  have fg9_8 := frozen_of_row w2 sb 8 _ _ hrow9
  refine wpSeq_next rfl rfl (fun K hK => ?_)
  go_wp2_with fail
  have hq9 : Fr (fun x => x = sb) w2 (World.setCell (World.setCell (World.setCell (World.setCell w2 ⟨sb, 5, none⟩ (cS s2 0)) ⟨sb, 6, none⟩ (cS s2 1)) ⟨sb, 7, none⟩ (cS s2 2)) ⟨sb, 8, none⟩ (cS s2 3)) := ((((Fr.refl (fun x => x = sb) w2).setCell (p := ⟨sb, 5, none⟩) (.inl rfl) _).setCell (p := ⟨sb, 6, none⟩) (.inl rfl) _).setCell (p := ⟨sb, 7, none⟩) (.inl rfl) _).setCell (p := ⟨sb, 8, none⟩) (.inl rfl) _
  have hr9 := (row_put (row_put (row_put (row_put hrow9 5 (cS s2 0)) 6 (cS s2 1)) 7 (cS s2 2)) 8 (cS s2 3))
  have hs9 := hf12.trans hq9 (fun _ h => .inl h)
  refine hK.out _ _ (fun _ => hs9) ?_
  clear hK K cg9_5 fg9_5 cg9_6 fg9_6 cg9_7 fg9_7 cg9_8 fg9_8 hrow9
  generalize hW9 : (World.setCell (World.setCell (World.setCell (World.setCell w2 ⟨sb, 5, none⟩ (cS s2 0)) ⟨sb, 6, none⟩ (cS s2 1)) ⟨sb, 7, none⟩ (cS s2 2)) ⟨sb, 8, none⟩ (cS s2 3)) = w29 at hq9 hr9 hs9 ⊢
  clear hW9
  refine wpSeq_take (v := ?_) 34 rfl rfl (fun _ _ _ h => h) (Or.inl ⟨rfl, ?_⟩) ?_
  rotate_left 1
  · (intro w9 h9; go_simp; try with_reducible rfl)
  simp only [List.setIfInBounds_toArray, List.set_cons_zero, List.set_cons_succ]
  refine wpSeq_take (v := ?_) 35 rfl rfl (fun _ _ _ h => h) (Or.inl ⟨rfl, ?_⟩) ?_
  rotate_left 1
  · (intro w9 h9; go_simp; try with_reducible rfl)
  simp only [List.setIfInBounds_toArray, List.set_cons_zero, List.set_cons_succ]
  have hrow12 := hr9
  have cg12_11 : w29.cell? ⟨sb, 11, none⟩ = some (.int .u64 (W64 lo)) := by rw [cell_of_row w29 sb 11 _ _ _ hrow12]; rfl
  have fg12_11 := frozen_of_row w29 sb 11 _ _ hrow12
  refine wpSeq_next rfl rfl (fun K hK => ?_)
  go_wp2_with fail
  have hq12 : Fr (fun x => x = sb) w29 (World.setCell w29 ⟨sb, 11, none⟩ (.int .u64 (W64 lo2))) := (Fr.refl (fun x => x = sb) w29).setCell (p := ⟨sb, 11, none⟩) (.inl rfl) _
  have hr12 := (row_put hrow12 11 (.int .u64 (W64 lo2)))
  have hs12 := hs9.trans hq12 (fun _ h => .inl h)
  refine hK.out _ _ (fun _ => hs12) ?_
  clear hK K cg12_11 fg12_11 hrow12
  generalize hW12 : (World.setCell w29 ⟨sb, 11, none⟩ (.int .u64 (W64 lo2))) = w32 at hq12 hr12 hs12 ⊢
  clear hW12
  refine wpSeq_take (v := ?_) 36 rfl rfl (fun _ _ _ h => h) (Or.inl ⟨rfl, ?_⟩) ?_
  rotate_left 1
  · (intro w9 h9; go_simp; try with_reducible rfl)
  simp only [List.setIfInBounds_toArray, List.set_cons_zero, List.set_cons_succ]
  refine wpSeq_take (v := ?_) 37 rfl rfl (fun _ _ _ h => h) (Or.inl ⟨rfl, ?_⟩) ?_
  rotate_left 1
  · (intro w9 h9; go_simp; try with_reducible rfl)
  simp only [List.setIfInBounds_toArray, List.set_cons_zero, List.set_cons_succ]
  have hrow15 := hr12
  have cg15_10 : w32.cell? ⟨sb, 10, none⟩ = some (tv) := by rw [cell_of_row w32 sb 10 _ _ _ hrow15]; rfl
  have fg15_10 := frozen_of_row w32 sb 10 _ _ hrow15
  refine wpSeq_next rfl rfl (fun K hK => ?_)
  go_wp2_with fail
  have hq15 : Fr (fun x => x = sb) w32 (World.setCell w32 ⟨sb, 10, none⟩ (.slice a2 l.length c2)) := (Fr.refl (fun x => x = sb) w32).setCell (p := ⟨sb, 10, none⟩) (.inl rfl) _
  have hr15 := (row_put hrow15 10 (.slice a2 l.length c2))
  have hs15 := hs12.trans hq15 (fun _ h => .inl h)
  refine hK.out _ _ (fun _ => hs15) ?_
  clear hK K cg15_10 fg15_10 hrow15
  generalize hW15 : (World.setCell w32 ⟨sb, 10, none⟩ (.slice a2 l.length c2)) = w35 at hq15 hr15 hs15 ⊢
  clear hW15
  refine wpSeq_done ?_
  go_wp2_with fail
  go_ret
  have hall : Fr (fun x => x = sb) w2 w35 := (hq9.trans hq12 (fun _ h => .inl h)).trans hq15 (fun _ h => .inl h)
  exact ⟨_, rfl, hr15, (ho2.fr hall (fun x hx e => hS2.apart ho2 (by rw [hx, e]))).mono hF1.size, (hF1.mono (fun x _ f => f.elim)).trans hs15 (fun x h => .inl h)⟩
end Go.Proofs.Ytcbbllfgelnpjaa.StSip