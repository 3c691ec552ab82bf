/- astragalref28.Fold. -/
import Derived.Test.YthjpnkjbkkeoaaaRef28
namespace Go.Proofs.Ythjpnkjbkkeoaaa.StS28
set_option linter.unusedVariables false
set_option linter.unusedSimpArgs false
open Go.RowKit

/-- It returns the state, and a part of the bytes that are there. -/
def GivesPart (a : Option Addr) (n c : Nat) (l : Bytes) (r : ST × Bytes) (w : World) (e : Ending) (w' : World) : Prop := ∃ a' n' c', e = .returned (.tuple #[.agg #[cS r.1 0, cS r.1 1], .slice a' n' c']) ∧ IsBytes w' a' n' c' r.2 ∧ (∀ w2, IsBytes w2 a n c l → IsBytes w2 a' n' c' r.2) ∧ Fr No w w'
set_option maxHeartbeats 600000 in
theorem refFold_any (sz : Int) (size : Nat) (s : ST) (a : Option Addr) (n c : Nat) (l : Bytes) (w : World) (h1 : -9223372036854775808 ≤ sz) (h2 : sz ≤ 9223372036854775807) (hsz : sizeOk sz = size) (h : IsBytes w a n c l) (hn : n ≤ 1099511627776) :
    Calls Try.prog 11 #[.int .i64 sz, .agg #[cS s 0, cS s 1], .slice a n c] w (GivesPart a n c l (foldF stepG size s l) w) := by
  obtain ⟨r, hr⟩ : ∃ r, r = foldF stepG size s l := ⟨_, rfl⟩
  rw [← hr]
  have hz1 : 1 ≤ size := by have := sizeOk_bd sz; omega
  have hz2 : size ≤ 64 := by have := sizeOk_bd sz; omega
  have hlen := Lib.hid h.1
  have hnc : n ≤ c := h.2.1
  have hcm : c ≤ 9223372036854775807 := h.2.2.1
  have hA : BoxAt (w.alloc (.cells (boxCells s).toArray 27)) w.heap.size s := heap_alloc_new w _
  have hbox : BoxAt ((w.alloc (.cells (boxCells s).toArray 27)).alloc (.cells zero28.toArray 27)) w.heap.size s := hA.fr ((Fr.refl No _).alloc _) (fun h => h)
  have hres : ((w.alloc (.cells (boxCells s).toArray 27)).alloc (.cells zero28.toArray 27)).heap[w.heap.size + 1]? = some (.cells zero28.toArray 27 (0, 0)) := heap_alloc2_new w _ _
  have hfr := ((Fr.refl No w).alloc (.cells (boxCells s).toArray 27)).alloc (.cells zero28.toArray 27)
  go_enter Try.func11, Try.ntmps11
  go_wp2_with (go_at_call 20; refine (Size_any _ _ h1 h2).mono ?_; rintro e w' ⟨rfl, rfl⟩; rw [hsz])
  go_loopw [8] (fun i wr => ∃ p s', p ≤ n ∧ i = .int .i64 (p : Nat) ∧ BoxAt wr w.heap.size s' ∧ wr.heap[w.heap.size + 1]? = some (.cells zero28.toArray 27 (0, 0)) ∧ Fr No w wr ∧ foldF stepG size s' (l.drop p) = r) (fun i _ => n - (intOf i).toNat)
  case atStart => exact ⟨0, s, by omega, rfl, hbox, hres, hfr, hr.symm⟩
  case round =>
    obtain ⟨p, s', hp, rfl, hbox', hres', hfr', hr'⟩ := hrel
    clear hA hbox hres hfr hr hsz
    have hb' := h.no hfr'
    have hdl : Hid ((l.drop p).length = n - p) := by show _ = _; rw [List.length_drop, hlen.out]
    obtain ⟨z, hz⟩ : ∃ z, Hid (z = p + size) := ⟨_, rfl⟩
    have e1 : (p : Int) + (size : Int) = (z : Int) := by have := hz.out; omega
    by_cases hlt : z ≤ n
    · have i1 : (z : Int) ≤ (n : Int) := by omega
      have i2 : (z : Int) ≤ (c : Int) := by omega
      have i3 : (p : Int) ≤ (z : Int) := by omega
      have i4 : (p : Int) ≤ (c : Int) := by omega
      have hpz : p ≤ z := by have := hz.out; omega
      have hwz : IntKind.i64.wrap (z : Int) = (z : Int) := by simp [IntKind.wrap, IntKind.bits, IntKind.signed]; omega
      go_wp2_with fail
      have hcut := Lib.hid (hb'.cut p z c (n' := z - p) (c' := c - p) (by omega) (by omega) (by omega) (by omega) (by omega) rfl)
      refine wp_region_late (by kernel_rfl) (fun w' => BoxAt w' w.heap.size s') (fun i => decide (8 ≤ i)) (show BoxAt wr.drew w.heap.size s' from hbox') (fun hS0 => ?_)
      refine wpLate_take (i := 0) (v := ?_) rfl (by kernel_rfl) (by kernel_rfl) rfl (by kernel_rfl) (by kernel_rfl) (fun _ _ _ h => h) (Or.inl ⟨rfl, ?_⟩) hS0 ?_
      rotate_left 1
      · (intro w9 h9; have cb0 : w9.cell? ⟨w.heap.size, 0, none⟩ = some (cS s' 0) := h9.cell 0 rfl; have cb1 : w9.cell? ⟨w.heap.size, 1, none⟩ = some (cS s' 1) := h9.cell 1 rfl; clear h9; go_simp; try with_reducible rfl)
      simp only [Act.put, List.setIfInBounds_toArray, List.set_cons_zero, List.set_cons_succ]
      refine wpLate_take (i := 1) (v := ?_) rfl (by kernel_rfl) (by kernel_rfl) rfl (by kernel_rfl) (by kernel_rfl) (fun _ _ _ h => h) (Or.inl ⟨rfl, ?_⟩) hS0 ?_
      rotate_left 1
      · (intro w9 h9; go_simp; try with_reducible rfl)
      simp only [Act.put, List.setIfInBounds_toArray, List.set_cons_zero, List.set_cons_succ]
      refine wpLate_take (i := 2) (v := ?_) rfl (by kernel_rfl) (by kernel_rfl) rfl (by kernel_rfl) (by kernel_rfl) (fun _ _ _ h => h) (Or.inl ⟨rfl, ?_⟩) hS0 ?_
      rotate_left 1
      · (intro w9 h9; go_simp; try with_reducible rfl)
      simp only [Act.put, List.setIfInBounds_toArray, List.set_cons_zero, List.set_cons_succ]
      refine wpLate_take (i := 3) (v := ?_) rfl (by kernel_rfl) (by kernel_rfl) rfl (by kernel_rfl) (by kernel_rfl) (fun _ _ _ h => h) (Or.inl ⟨rfl, ?_⟩) hS0 ?_
      rotate_left 1
      · (intro w9 h9; go_simp; try with_reducible rfl)
      simp only [Act.put, List.setIfInBounds_toArray, List.set_cons_zero, List.set_cons_succ]
      refine wpLate_take (i := 4) (v := ?_) rfl (by kernel_rfl) (by kernel_rfl) rfl (by kernel_rfl) (by kernel_rfl) (fun _ _ _ h => h) (Or.inl ⟨rfl, ?_⟩) hS0 ?_
      rotate_left 1
      · (intro w9 h9; go_simp; try with_reducible rfl)
      simp only [Act.put, List.setIfInBounds_toArray, List.set_cons_zero, List.set_cons_succ]
      refine wpLate_take (i := 5) (v := ?_) rfl (by kernel_rfl) (by kernel_rfl) rfl (by kernel_rfl) (by kernel_rfl) (fun _ _ _ h => h) (Or.inl ⟨rfl, ?_⟩) hS0 ?_
      rotate_left 1
      · (intro w9 h9; go_simp; try with_reducible rfl)
      simp only [Act.put, List.setIfInBounds_toArray, List.set_cons_zero, List.set_cons_succ]
      refine wpLate_take (i := 6) (v := ?_) rfl (by kernel_rfl) (by kernel_rfl) rfl (by kernel_rfl) (by kernel_rfl) (fun _ _ _ h => h) (Or.inl ⟨rfl, ?_⟩) hS0 ?_
      rotate_left 1
      · (intro w9 h9; go_simp; try with_reducible rfl)
      simp only [Act.put, List.setIfInBounds_toArray, List.set_cons_zero, List.set_cons_succ]
      refine wpLate_next (k := 7) (by kernel_rfl) rfl rfl (fun K hK => ?_)
      go_wp2_with fail
      have hzp : z - p = size := by have := hz.out; omega
      refine (Step_any s' _ _ _ ((l.drop p).take (z - p)) _ (hcut.out.no (Fr.refl No wr).drew) (by omega)).mono ?_
      rintro e w3 ⟨rfl, hf3d⟩
      have hf3 : Fr No wr w3 := (Fr.refl No wr).drew.no hf3d
      clear hf3d
      have hS3 : BoxAt w3 w.heap.size s' := hbox'.fr hf3 (fun h => h)
      refine hK.out _ _ (fun _ => hS3) ?_
      clear hK K hcut
      rw [hzp]
      have cb0 : w3.cell? ⟨w.heap.size, 0, none⟩ = some (cS s' 0) := hS3.cell 0 rfl
      have cb1 : w3.cell? ⟨w.heap.size, 1, none⟩ = some (cS s' 1) := hS3.cell 1 rfl
      have fz0 := hS3.frozen 0
      have fz1 := hS3.frozen 1
      refine wpLate_next (k := 8) (by kernel_rfl) rfl rfl (fun K hK => ?_)
      go_wp2_with fail
      refine hK.out _ _ (fun h => by simp at h) ?_
      clear hK K
      refine wpLate_done (by kernel_rfl) ?_ _
      have hS4 : BoxAt (World.setCell (World.setCell w3 ⟨w.heap.size, 0, none⟩ (cS (stepG s' ((l.drop p).take size)) 0)) ⟨w.heap.size, 1, none⟩ (cS (stepG s' ((l.drop p).take size)) 1)) w.heap.size (stepG s' ((l.drop p).take size)) := (box_put (box_put hS3 0 (cS (stepG s' ((l.drop p).take size)) 0)) 1 (cS (stepG s' ((l.drop p).take size)) 1))
      have hF4 : Fr (fun x => x = w.heap.size) w3 (World.setCell (World.setCell w3 ⟨w.heap.size, 0, none⟩ (cS (stepG s' ((l.drop p).take size)) 0)) ⟨w.heap.size, 1, none⟩ (cS (stepG s' ((l.drop p).take size)) 1)) := ((Fr.refl (fun x => x = w.heap.size) w3).setCell (p := ⟨w.heap.size, 0, none⟩) (.inl rfl) _).setCell (p := ⟨w.heap.size, 1, none⟩) (.inl rfl) _
      clear cb0 fz0 cb1 fz1 hS3
      generalize (World.setCell (World.setCell w3 ⟨w.heap.size, 0, none⟩ (cS (stepG s' ((l.drop p).take size)) 0)) ⟨w.heap.size, 1, none⟩ (cS (stepG s' ((l.drop p).take size)) 1)) = w4 at hS4 hF4 ⊢
      have hF34 : Fr (fun x => x = w.heap.size) wr w4 := (hf3.mono (fun _ _ f => f.elim)).trans hF4 (fun x h => .inl h)
      have hfe : Fr No w w4 := hfr'.trans hF34 (fun x h => .inr (by omega))
      go_wp2_with fail
      go_roundw
      case rel => exact ⟨z, _, hlt, rfl, hS4, hF34.heap (by omega) hres', hfe, by rw [← hr', foldF_step hz1 (s := s') (by rw [hdl.out]; omega), List.drop_drop, hz.out]⟩
      case measure => simp [intOf]; omega
    · have i1 : (n : Int) < (z : Int) := by omega
      have i4 : (p : Int) ≤ (n : Int) := by omega
      go_wp2_with fail
      have hcut := Lib.hid (hb'.cut_to_end p (n' := n - p) (c' := c - p) hp rfl rfl)
      refine wp_region_late (by kernel_rfl) (fun w' => BoxAt w' w.heap.size s') (fun i => decide (6 ≤ i)) (show BoxAt wr.drew w.heap.size s' from hbox') (fun hS0 => ?_)
      refine wpLate_take (i := 0) (v := ?_) rfl (by kernel_rfl) (by kernel_rfl) rfl (by kernel_rfl) (by kernel_rfl) (fun _ _ _ h => h) (Or.inl ⟨rfl, ?_⟩) hS0 ?_
      rotate_left 1
      · (intro w9 h9; have cb0 : w9.cell? ⟨w.heap.size, 0, none⟩ = some (cS s' 0) := h9.cell 0 rfl; have cb1 : w9.cell? ⟨w.heap.size, 1, none⟩ = some (cS s' 1) := h9.cell 1 rfl; clear h9; go_simp; try with_reducible rfl)
      simp only [Act.put, List.setIfInBounds_toArray, List.set_cons_zero, List.set_cons_succ]
      refine wpLate_take (i := 1) (v := ?_) rfl (by kernel_rfl) (by kernel_rfl) rfl (by kernel_rfl) (by kernel_rfl) (fun _ _ _ h => h) (Or.inl ⟨rfl, ?_⟩) hS0 ?_
      rotate_left 1
      · (intro w9 h9; go_simp; try with_reducible rfl)
      simp only [Act.put, List.setIfInBounds_toArray, List.set_cons_zero, List.set_cons_succ]
      refine wpLate_take (i := 2) (v := ?_) rfl (by kernel_rfl) (by kernel_rfl) rfl (by kernel_rfl) (by kernel_rfl) (fun _ _ _ h => h) (Or.inl ⟨rfl, ?_⟩) hS0 ?_
      rotate_left 1
      · (intro w9 h9; go_simp; try with_reducible rfl)
      simp only [Act.put, List.setIfInBounds_toArray, List.set_cons_zero, List.set_cons_succ]
      refine wpLate_take (i := 3) (v := ?_) rfl (by kernel_rfl) (by kernel_rfl) rfl (by kernel_rfl) (by kernel_rfl) (fun _ _ _ h => h) (Or.inl ⟨rfl, ?_⟩) hS0 ?_
      rotate_left 1
      · (intro w9 h9; go_simp; try with_reducible rfl)
      simp only [Act.put, List.setIfInBounds_toArray, List.set_cons_zero, List.set_cons_succ]
      have hR2 : wr.drew.heap[w.heap.size + 1]? = some (.cells zero28.toArray 27 (0, 0)) := hres'
      have hS2 : BoxAt wr.drew w.heap.size s' := hbox'
      have hf2 : Fr No wr wr.drew := (Fr.refl No wr).drew
      clear hS0
      generalize wr.drew = w2 at hR2 hS2 hf2 ⊢
      have cr0 : w2.cell? ⟨w.heap.size + 1, 0, none⟩ = some (.int .u64 0) := by rw [cell_of_row w2 _ 0 _ _ _ hR2]; rfl
      have cr1 : w2.cell? ⟨w.heap.size + 1, 1, none⟩ = some (.int .i64 0) := by rw [cell_of_row w2 _ 1 _ _ _ hR2]; rfl
      have fr0 := frozen_of_row w2 (w.heap.size + 1) 0 _ _ hR2
      have fr1 := frozen_of_row w2 (w.heap.size + 1) 1 _ _ hR2
      have hF3 : Fr (fun x => x = w.heap.size + 1) w2 (World.setCell (World.setCell w2 ⟨w.heap.size + 1, 0, none⟩ (cS s' 0)) ⟨w.heap.size + 1, 1, none⟩ (cS s' 1)) := ((Fr.refl (fun x => x = w.heap.size + 1) w2).setCell (p := ⟨w.heap.size + 1, 0, none⟩) (.inl rfl) _).setCell (p := ⟨w.heap.size + 1, 1, none⟩) (.inl rfl) _
      have hB3 : BoxAt (World.setCell (World.setCell w2 ⟨w.heap.size + 1, 0, none⟩ (cS s' 0)) ⟨w.heap.size + 1, 1, none⟩ (cS s' 1)) w.heap.size s' := hS2.fr hF3 (fun h => by omega)
      refine wpLate_next (k := 4) (by kernel_rfl) rfl rfl (fun K hK => ?_)
      go_wp2_with fail
      refine hK.out _ _ (fun _ => hB3) ?_
      clear hK K
      refine wpLate_next (k := 5) (by kernel_rfl) rfl rfl (fun K hK => ?_)
      go_wp2_with fail
      refine hK.out _ _ (fun _ => hB3) ?_
      clear hK K hB3
      refine wpLate_done (by kernel_rfl) ?_ _
      have hS3 : BoxAt (World.setCell (World.setCell w2 ⟨w.heap.size + 1, 0, none⟩ (cS s' 0)) ⟨w.heap.size + 1, 1, none⟩ (cS s' 1)) (w.heap.size + 1) s' := (box_put (box_put hR2 0 (cS s' 0)) 1 (cS s' 1))
      clear cr0 fr0 cr1 fr1
      generalize (World.setCell (World.setCell w2 ⟨w.heap.size + 1, 0, none⟩ (cS s' 0)) ⟨w.heap.size + 1, 1, none⟩ (cS s' 1)) = w3 at hS3 hF3 ⊢
      have cd0 : w3.cell? ⟨w.heap.size + 1, 0, none⟩ = some (cS s' 0) := hS3.cell 0 rfl
      have cd1 : w3.cell? ⟨w.heap.size + 1, 1, none⟩ = some (cS s' 1) := hS3.cell 1 rfl
      have hfe : Fr No w w3 := (hfr'.no hf2).trans hF3 (fun x h => .inr (by omega))
      go_wp2_with fail
      refine bodyPost_ret (v := .tuple #[.agg #[cS s' 0, cS s' 1], .slice (subAddr a p c 1) (n - p) (c - p)]) (by simp [results, Try.results11, go_sem, cd0, cd1]) rfl ?_
      have hsh : foldF stepG size s' (l.drop p) = (s', l.drop p) := foldF_short (by rw [hdl.out]; have := hz.out; omega)
      refine ⟨_, _, _, by rw [← hr', hsh], ?_, ?_, hfe⟩
      · rw [← hr', hsh]
        exact (h.cut_to_end p (n' := n - p) (c' := c - p) hp rfl rfl).no hfe
      · rw [← hr', hsh]
        exact fun w2 h9 => h9.cut_to_end p (n' := n - p) (c' := c - p) hp rfl rfl

end Go.Proofs.Ythjpnkjbkkeoaaa.StS28
