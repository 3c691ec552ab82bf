/- ScoRef -/
import Derived.Test.YtidlpihoafnobaaGreatDoorPScoPlainAx
import Derived.Test.YtidlpihoafnobaaGreatDoorPStrRight
set_option linter.unusedVariables false
set_option linter.unusedSimpArgs false
namespace Go.Proofs.YtidlpihoafnobaaGreatDoor
set_option maxRecDepth 100000
open Go.RowKit
def Row9 (w : World) (b : Nat) (T : TypeId) (v0 v1 v2 v3 v4 v5 v6 v7 v8 : Value) : Prop := w.heap[b]? = some (.cells #[v0, v1, v2, v3, v4, v5, v6, v7, v8] T (0, 0))
section
variable {w w' : World} {b : Nat} {T : TypeId} {v0 v1 v2 v3 v4 v5 v6 v7 v8 : Value}
theorem Row9.c0 (h : Row9 w b T v0 v1 v2 v3 v4 v5 v6 v7 v8) : w.cell? ⟨b, 0, none⟩ = some v0 := by rw [cell_of_row w b 0 _ _ _ h]; rfl
theorem Row9.put0 (h : Row9 w b T v0 v1 v2 v3 v4 v5 v6 v7 v8) (x : Value) : Row9 (w.setCell ⟨b, 0, none⟩ x) b T x v1 v2 v3 v4 v5 v6 v7 v8 := by unfold Row9; rw [heap_setCell_same w b 0 _ _ x h]; rfl
theorem Row9.c1 (h : Row9 w b T v0 v1 v2 v3 v4 v5 v6 v7 v8) : w.cell? ⟨b, 1, none⟩ = some v1 := by rw [cell_of_row w b 1 _ _ _ h]; rfl
theorem Row9.put1 (h : Row9 w b T v0 v1 v2 v3 v4 v5 v6 v7 v8) (x : Value) : Row9 (w.setCell ⟨b, 1, none⟩ x) b T v0 x v2 v3 v4 v5 v6 v7 v8 := by unfold Row9; rw [heap_setCell_same w b 1 _ _ x h]; rfl
theorem Row9.c2 (h : Row9 w b T v0 v1 v2 v3 v4 v5 v6 v7 v8) : w.cell? ⟨b, 2, none⟩ = some v2 := by rw [cell_of_row w b 2 _ _ _ h]; rfl
theorem Row9.put2 (h : Row9 w b T v0 v1 v2 v3 v4 v5 v6 v7 v8) (x : Value) : Row9 (w.setCell ⟨b, 2, none⟩ x) b T v0 v1 x v3 v4 v5 v6 v7 v8 := by unfold Row9; rw [heap_setCell_same w b 2 _ _ x h]; rfl
theorem Row9.c3 (h : Row9 w b T v0 v1 v2 v3 v4 v5 v6 v7 v8) : w.cell? ⟨b, 3, none⟩ = some v3 := by rw [cell_of_row w b 3 _ _ _ h]; rfl
theorem Row9.put3 (h : Row9 w b T v0 v1 v2 v3 v4 v5 v6 v7 v8) (x : Value) : Row9 (w.setCell ⟨b, 3, none⟩ x) b T v0 v1 v2 x v4 v5 v6 v7 v8 := by unfold Row9; rw [heap_setCell_same w b 3 _ _ x h]; rfl
theorem Row9.c4 (h : Row9 w b T v0 v1 v2 v3 v4 v5 v6 v7 v8) : w.cell? ⟨b, 4, none⟩ = some v4 := by rw [cell_of_row w b 4 _ _ _ h]; rfl
theorem Row9.put4 (h : Row9 w b T v0 v1 v2 v3 v4 v5 v6 v7 v8) (x : Value) : Row9 (w.setCell ⟨b, 4, none⟩ x) b T v0 v1 v2 v3 x v5 v6 v7 v8 := by unfold Row9; rw [heap_setCell_same w b 4 _ _ x h]; rfl
theorem Row9.c5 (h : Row9 w b T v0 v1 v2 v3 v4 v5 v6 v7 v8) : w.cell? ⟨b, 5, none⟩ = some v5 := by rw [cell_of_row w b 5 _ _ _ h]; rfl
theorem Row9.put5 (h : Row9 w b T v0 v1 v2 v3 v4 v5 v6 v7 v8) (x : Value) : Row9 (w.setCell ⟨b, 5, none⟩ x) b T v0 v1 v2 v3 v4 x v6 v7 v8 := by unfold Row9; rw [heap_setCell_same w b 5 _ _ x h]; rfl
theorem Row9.c6 (h : Row9 w b T v0 v1 v2 v3 v4 v5 v6 v7 v8) : w.cell? ⟨b, 6, none⟩ = some v6 := by rw [cell_of_row w b 6 _ _ _ h]; rfl
theorem Row9.put6 (h : Row9 w b T v0 v1 v2 v3 v4 v5 v6 v7 v8) (x : Value) : Row9 (w.setCell ⟨b, 6, none⟩ x) b T v0 v1 v2 v3 v4 v5 x v7 v8 := by unfold Row9; rw [heap_setCell_same w b 6 _ _ x h]; rfl
theorem Row9.c7 (h : Row9 w b T v0 v1 v2 v3 v4 v5 v6 v7 v8) : w.cell? ⟨b, 7, none⟩ = some v7 := by rw [cell_of_row w b 7 _ _ _ h]; rfl
theorem Row9.put7 (h : Row9 w b T v0 v1 v2 v3 v4 v5 v6 v7 v8) (x : Value) : Row9 (w.setCell ⟨b, 7, none⟩ x) b T v0 v1 v2 v3 v4 v5 v6 x v8 := by unfold Row9; rw [heap_setCell_same w b 7 _ _ x h]; rfl
theorem Row9.c8 (h : Row9 w b T v0 v1 v2 v3 v4 v5 v6 v7 v8) : w.cell? ⟨b, 8, none⟩ = some v8 := by rw [cell_of_row w b 8 _ _ _ h]; rfl
theorem Row9.put8 (h : Row9 w b T v0 v1 v2 v3 v4 v5 v6 v7 v8) (x : Value) : Row9 (w.setCell ⟨b, 8, none⟩ x) b T v0 v1 v2 v3 v4 v5 v6 v7 x := by unfold Row9; rw [heap_setCell_same w b 8 _ _ x h]; rfl
theorem Row9.fz (h : Row9 w b T v0 v1 v2 v3 v4 v5 v6 v7 v8) (k : Nat) : w.frozen? ⟨b, k, none⟩ = false := frozen_of_row w b k _ _ h
theorem Row9.no (h : Row9 w b T v0 v1 v2 v3 v4 v5 v6 v7 v8) (k : Fr No w w') : Row9 w' b T v0 v1 v2 v3 v4 v5 v6 v7 v8 := k.heap (fun h => h) h
theorem Row9.fr (h : Row9 w b T v0 v1 v2 v3 v4 v5 v6 v7 v8) {F : Nat → Prop} (k : Fr F w w') (hF : ¬ F b) : Row9 w' b T v0 v1 v2 v3 v4 v5 v6 v7 v8 := k.heap hF h
theorem Row9.lt (h : Row9 w b T v0 v1 v2 v3 v4 v5 v6 v7 v8) : b < w.heap.size := (Array.getElem?_eq_some_iff.1 h).1
theorem row9_new (w : World) (T : TypeId) (v0 v1 v2 v3 v4 v5 v6 v7 v8 : Value) : Row9 (w.alloc (.cells #[v0, v1, v2, v3, v4, v5, v6, v7, v8] T)) w.heap.size T v0 v1 v2 v3 v4 v5 v6 v7 v8 := heap_alloc_new w _
theorem row_put9 (h : Row9 w b T v0 v1 v2 v3 v4 v5 v6 v7 v8) (x0 x1 x2 x3 x4 x5 x6 x7 x8 : Value) : Row9 (((((((((w.setCell ⟨b, 0, none⟩ x0).setCell ⟨b, 1, none⟩ x1).setCell ⟨b, 2, none⟩ x2).setCell ⟨b, 3, none⟩ x3).setCell ⟨b, 4, none⟩ x4).setCell ⟨b, 5, none⟩ x5).setCell ⟨b, 6, none⟩ x6).setCell ⟨b, 7, none⟩ x7).setCell ⟨b, 8, none⟩ x8) b T x0 x1 x2 x3 x4 x5 x6 x7 x8 := (((((((((h.put0 x0).put1 x1).put2 x2).put3 x3).put4 x4).put5 x5).put6 x6).put7 x7).put8 x8)
end
theorem fr_put9 (w : World) (b : Nat) (x0 x1 x2 x3 x4 x5 x6 x7 x8 : Value) : Fr (fun x => x = b) w (((((((((w.setCell ⟨b, 0, none⟩ x0).setCell ⟨b, 1, none⟩ x1).setCell ⟨b, 2, none⟩ x2).setCell ⟨b, 3, none⟩ x3).setCell ⟨b, 4, none⟩ x4).setCell ⟨b, 5, none⟩ x5).setCell ⟨b, 6, none⟩ x6).setCell ⟨b, 7, none⟩ x7).setCell ⟨b, 8, none⟩ x8) := ((((((((((Fr.refl (fun x => x = b) w).setCell (p := ⟨b, 0, none⟩) (.inl rfl) x0).setCell (p := ⟨b, 1, none⟩) (.inl rfl) x1).setCell (p := ⟨b, 2, none⟩) (.inl rfl) x2).setCell (p := ⟨b, 3, none⟩) (.inl rfl) x3).setCell (p := ⟨b, 4, none⟩) (.inl rfl) x4).setCell (p := ⟨b, 5, none⟩) (.inl rfl) x5).setCell (p := ⟨b, 6, none⟩) (.inl rfl) x6).setCell (p := ⟨b, 7, none⟩) (.inl rfl) x7).setCell (p := ⟨b, 8, none⟩) (.inl rfl) x8)
def GivesBad (z : Int) (w : World) (e : Ending) (w' : World) : Prop := e = .returned (.tuple #[.agg #[.int .i64 0, .int .u64 0, .int .u64 0, .int .u64 0, .int .u64 0, .int .u64 0, .int .u64 0, .int .u64 0, .slice none 0 0], .int .i64 z]) ∧ Fr No w w'
set_option maxHeartbeats 2000000 in
theorem Read_short (a : Option Addr) (n c : Nat) (w : World) (h : n < 2) : Calls Tryz.prog 7 #[.slice a n c] w (GivesBad 3 w) := by
 have i1 : (n : Int) < 2 := by omega
 have hO := row9_new w 33 (.int .i64 0) (.int .u64 0) (.int .u64 0) (.int .u64 0) (.int .u64 0) (.int .u64 0) (.int .u64 0) (.int .u64 0) (.slice none 0 0)
 have hF := (Fr.refl No w).alloc (.cells #[.int .i64 0, .int .u64 0, .int .u64 0, .int .u64 0, .int .u64 0, .int .u64 0, .int .u64 0, .int .u64 0, .slice none 0 0] 33)
 go_enter Tryz.func7, Tryz.ntmps7
 go_upto_region 1 with fail
 obtain ⟨ob, hob⟩ : ∃ ob, ob = w.heap.size := ⟨_, rfl⟩
 have hoe : w.heap.size ≤ ob := by omega
 rw [← hob] at hO ⊢
 clear hob
 generalize w.alloc (.cells #[.int .i64 0, .int .u64 0, .int .u64 0, .int .u64 0, .int .u64 0, .int .u64 0, .int .u64 0, .int .u64 0, .slice none 0 0] 33) = w1 at hO hF ⊢
 have z0 := hO.c0
 have g0 := hO.fz 0
 have z1 := hO.c1
 have g1 := hO.fz 1
 have z2 := hO.c2
 have g2 := hO.fz 2
 have z3 := hO.c3
 have g3 := hO.fz 3
 have z4 := hO.c4
 have g4 := hO.fz 4
 have z5 := hO.c5
 have g5 := hO.fz 5
 have z6 := hO.c6
 have g6 := hO.fz 6
 have z7 := hO.c7
 have g7 := hO.fz 7
 have z8 := hO.c8
 have g8 := hO.fz 8
 go_wp2_with fail
 have hR := row_put9 hO (.int .i64 0) (.int .u64 0) (.int .u64 0) (.int .u64 0) (.int .u64 0) (.int .u64 0) (.int .u64 0) (.int .u64 0) (.slice none 0 0)
 have hP := fr_put9 w1 ob (.int .i64 0) (.int .u64 0) (.int .u64 0) (.int .u64 0) (.int .u64 0) (.int .u64 0) (.int .u64 0) (.int .u64 0) (.slice none 0 0)
 have cd0 := hR.c0
 have cd1 := hR.c1
 have cd2 := hR.c2
 have cd3 := hR.c3
 have cd4 := hR.c4
 have cd5 := hR.c5
 have cd6 := hR.c6
 have cd7 := hR.c7
 have cd8 := hR.c8
 refine bodyPost_ret (v := .tuple #[.agg #[.int .i64 0, .int .u64 0, .int .u64 0, .int .u64 0, .int .u64 0, .int .u64 0, .int .u64 0, .int .u64 0, .slice none 0 0], .int .i64 3]) (by simp [results, Tryz.results7, go_sem, cd0, cd1, cd2, cd3, cd4, cd5, cd6, cd7, cd8]) rfl ?_
 exact ⟨rfl, hF.trans hP (fun q hq => .inr (by omega))⟩
set_option maxHeartbeats 2000000 in
theorem Read_head (a : Option Addr) (n c : Nat) (b : Bytes) (w : World) (hb : IsBytes w a n c b) (h : 2 ≤ n) (h1 : ¬ b.getD 0 0 = 104#8) : Calls Tryz.prog 7 #[.slice a n c] w (GivesBad 5 w) := by
 obtain ⟨bb, off, rfl, hcell⟩ := hb.known (by omega)
 have c0 := hcell 0 (by omega)
 have c1 := hcell 1 (by omega)
 rw [Nat.add_zero] at c0
 clear hcell
 have hF := (Fr.refl No w).alloc (.cells #[.int .i64 0, .int .u64 0, .int .u64 0, .int .u64 0, .int .u64 0, .int .u64 0, .int .u64 0, .int .u64 0, .slice none 0 0] 33)
 replace c0 := hF.cell (fun h => h) c0
 generalize b.getD 0 0 = y0 at c0 h1
 have e1 : (y0 == 104#8) = false := by simpa using h1
 have e2 := B8_ne104 h1
 clear hb
 have i1 : ¬ (n : Int) < 2 := by omega
 have i2 : (1 : Int) ≤ (n : Int) := by omega
 have hO := row9_new w 33 (.int .i64 0) (.int .u64 0) (.int .u64 0) (.int .u64 0) (.int .u64 0) (.int .u64 0) (.int .u64 0) (.int .u64 0) (.slice none 0 0)
 go_enter Tryz.func7, Tryz.ntmps7
 go_upto_region 1 with fail
 obtain ⟨ob, hob⟩ : ∃ ob, ob = w.heap.size := ⟨_, rfl⟩
 have hoe : w.heap.size ≤ ob := by omega
 rw [← hob] at hO ⊢
 clear hob
 generalize w.alloc (.cells #[.int .i64 0, .int .u64 0, .int .u64 0, .int .u64 0, .int .u64 0, .int .u64 0, .int .u64 0, .int .u64 0, .slice none 0 0] 33) = w1 at hO hF c0 ⊢
 have z0 := hO.c0
 have g0 := hO.fz 0
 have z1 := hO.c1
 have g1 := hO.fz 1
 have z2 := hO.c2
 have g2 := hO.fz 2
 have z3 := hO.c3
 have g3 := hO.fz 3
 have z4 := hO.c4
 have g4 := hO.fz 4
 have z5 := hO.c5
 have g5 := hO.fz 5
 have z6 := hO.c6
 have g6 := hO.fz 6
 have z7 := hO.c7
 have g7 := hO.fz 7
 have z8 := hO.c8
 have g8 := hO.fz 8
 go_wp2_with fail
 have hR := row_put9 hO (.int .i64 0) (.int .u64 0) (.int .u64 0) (.int .u64 0) (.int .u64 0) (.int .u64 0) (.int .u64 0) (.int .u64 0) (.slice none 0 0)
 have hP := fr_put9 w1 ob (.int .i64 0) (.int .u64 0) (.int .u64 0) (.int .u64 0) (.int .u64 0) (.int .u64 0) (.int .u64 0) (.int .u64 0) (.slice none 0 0)
 have cd0 := hR.c0
 have cd1 := hR.c1
 have cd2 := hR.c2
 have cd3 := hR.c3
 have cd4 := hR.c4
 have cd5 := hR.c5
 have cd6 := hR.c6
 have cd7 := hR.c7
 have cd8 := hR.c8
 refine bodyPost_ret (v := .tuple #[.agg #[.int .i64 0, .int .u64 0, .int .u64 0, .int .u64 0, .int .u64 0, .int .u64 0, .int .u64 0, .int .u64 0, .slice none 0 0], .int .i64 5]) (by simp [results, Tryz.results7, go_sem, cd0, cd1, cd2, cd3, cd4, cd5, cd6, cd7, cd8]) rfl ?_
 exact ⟨rfl, hF.trans hP (fun q hq => .inr (by omega))⟩
set_option maxHeartbeats 4000000 in
theorem Read_kind (a : Option Addr) (n c : Nat) (b : Bytes) (w : World) (hb : IsBytes w a n c b) (h : 2 ≤ n) (h1 : b.getD 0 0 = 104#8) (h2 : sizeN (B8 (b.getD 1 0)) = 0) : Calls Tryz.prog 7 #[.slice a n c] w (GivesBad 6 w) := by
 obtain ⟨bb, off, rfl, hcell⟩ := hb.known (by omega)
 have c0 := hcell 0 (by omega)
 have c1 := hcell 1 (by omega)
 rw [Nat.add_zero] at c0
 clear hcell
 generalize b.getD 0 0 = y0 at c0 h1
 subst h1
 have e0 : B8 104#8 = 104 := by decide
 rw [e0] at c0
 clear e0
 obtain ⟨y1, hy1⟩ : ∃ y, Hid (y = b.getD 1 0) := ⟨_, Lib.hid rfl⟩
 rw [← hy1.out] at c1 h2
 have hS := refSize_any (B8 y1)
 rw [h2] at hS
 clear h2 hb
 have hXn := fun w1 => row9_new w1 33 (.int .i64 (B8 y1)) (.int .u64 0) (.int .u64 0) (.int .u64 0) (.int .u64 0) (.int .u64 0) (.int .u64 0) (.int .u64 0) (.slice none 0 0)
 have hF := (Fr.refl No w).alloc (.cells #[.int .i64 0, .int .u64 0, .int .u64 0, .int .u64 0, .int .u64 0, .int .u64 0, .int .u64 0, .int .u64 0, .slice none 0 0] 33)
 replace c0 := hF.cell (fun h => h) c0
 replace c1 := hF.cell (fun h => h) c1
 have i1 : ¬ (n : Int) < 2 := by omega
 have i2 : (1 : Int) < (n : Int) := by omega
 have i3 : (0 : Int) < (n : Int) := by omega
 have hO := row9_new w 33 (.int .i64 0) (.int .u64 0) (.int .u64 0) (.int .u64 0) (.int .u64 0) (.int .u64 0) (.int .u64 0) (.int .u64 0) (.slice none 0 0)
 go_enter Tryz.func7, Tryz.ntmps7
 go_upto_region 1 with fail
 obtain ⟨ob, hob⟩ : ∃ ob, ob = w.heap.size := ⟨_, rfl⟩
 have hoe : w.heap.size ≤ ob := by omega
 rw [← hob] at hO ⊢
 clear hob
 generalize w.alloc (.cells #[.int .i64 0, .int .u64 0, .int .u64 0, .int .u64 0, .int .u64 0, .int .u64 0, .int .u64 0, .int .u64 0, .slice none 0 0] 33) = w1 at hO hF c0 c1 ⊢
 have hX := row9_new w1 33 (.int .i64 (B8 y1)) (.int .u64 0) (.int .u64 0) (.int .u64 0) (.int .u64 0) (.int .u64 0) (.int .u64 0) (.int .u64 0) (.slice none 0 0)
 have hA := (Fr.refl No w1).alloc (.cells #[.int .i64 (B8 y1), .int .u64 0, .int .u64 0, .int .u64 0, .int .u64 0, .int .u64 0, .int .u64 0, .int .u64 0, .slice none 0 0] 33)
 have hlo := hO.lt
 have hls := hF.size
 go_upto_region 6 with fail
 obtain ⟨xb, hxb⟩ : ∃ xb, xb = w1.heap.size := ⟨_, rfl⟩
 have hxe : w.heap.size ≤ xb := by omega
 have hxo : ob < xb := by omega
 rw [← hxb] at hX ⊢
 clear hxb hlo
 generalize w1.alloc (.cells #[.int .i64 (B8 y1), .int .u64 0, .int .u64 0, .int .u64 0, .int .u64 0, .int .u64 0, .int .u64 0, .int .u64 0, .slice none 0 0] 33) = w2 at hX hA ⊢
 have k0 := hX.c0
 go_wp2_with fail
 clear k0
 refine (hS _).mono ?_
 rintro e w3 ⟨rfl, hf3⟩
 replace hO := (hO.no hA).no hf3
 replace hF := (hF.no hA).no hf3
 have z0 := hO.c0
 have g0 := hO.fz 0
 have z1 := hO.c1
 have g1 := hO.fz 1
 have z2 := hO.c2
 have g2 := hO.fz 2
 have z3 := hO.c3
 have g3 := hO.fz 3
 have z4 := hO.c4
 have g4 := hO.fz 4
 have z5 := hO.c5
 have g5 := hO.fz 5
 have z6 := hO.c6
 have g6 := hO.fz 6
 have z7 := hO.c7
 have g7 := hO.fz 7
 have z8 := hO.c8
 have g8 := hO.fz 8
 go_wp2_with fail
 have hR := row_put9 hO (.int .i64 0) (.int .u64 0) (.int .u64 0) (.int .u64 0) (.int .u64 0) (.int .u64 0) (.int .u64 0) (.int .u64 0) (.slice none 0 0)
 have hP := fr_put9 w3 ob (.int .i64 0) (.int .u64 0) (.int .u64 0) (.int .u64 0) (.int .u64 0) (.int .u64 0) (.int .u64 0) (.int .u64 0) (.slice none 0 0)
 have cd0 := hR.c0
 have cd1 := hR.c1
 have cd2 := hR.c2
 have cd3 := hR.c3
 have cd4 := hR.c4
 have cd5 := hR.c5
 have cd6 := hR.c6
 have cd7 := hR.c7
 have cd8 := hR.c8
 refine bodyPost_ret (v := .tuple #[.agg #[.int .i64 0, .int .u64 0, .int .u64 0, .int .u64 0, .int .u64 0, .int .u64 0, .int .u64 0, .int .u64 0, .slice none 0 0], .int .i64 6]) (by simp [results, Tryz.results7, go_sem, cd0, cd1, cd2, cd3, cd4, cd5, cd6, cd7, cd8]) rfl ?_
 exact ⟨rfl, hF.trans hP (fun q hq => .inr (by omega))⟩
set_option maxHeartbeats 4000000 in
theorem Read_less (a : Option Addr) (n c : Nat) (b : Bytes) (w : World) (hb : IsBytes w a n c b) (h : 2 ≤ n) (h1 : b.getD 0 0 = 104#8) (h2 : ¬ sizeN (B8 (b.getD 1 0)) = 0) (h3 : n < 62) : Calls Tryz.prog 7 #[.slice a n c] w (GivesBad 3 w) := by
 obtain ⟨bb, off, rfl, hcell⟩ := hb.known (by omega)
 have c0 := hcell 0 (by omega)
 have c1 := hcell 1 (by omega)
 rw [Nat.add_zero] at c0
 clear hcell
 generalize b.getD 0 0 = y0 at c0 h1
 subst h1
 have e0 : B8 104#8 = 104 := by decide
 rw [e0] at c0
 clear e0
 obtain ⟨y1, hy1⟩ : ∃ y, Hid (y = b.getD 1 0) := ⟨_, Lib.hid rfl⟩
 rw [← hy1.out] at c1 h2
 have hS := refSize_any (B8 y1)
 generalize sizeN (B8 y1) = sz at hS h2
 have e3 : (sz == 0) = false := by simpa using h2
 have i4 : (n : Int) < 62 := by omega
 clear hb h3
 have hXn := fun w1 => row9_new w1 33 (.int .i64 (B8 y1)) (.int .u64 0) (.int .u64 0) (.int .u64 0) (.int .u64 0) (.int .u64 0) (.int .u64 0) (.int .u64 0) (.slice none 0 0)
 have hF := (Fr.refl No w).alloc (.cells #[.int .i64 0, .int .u64 0, .int .u64 0, .int .u64 0, .int .u64 0, .int .u64 0, .int .u64 0, .int .u64 0, .slice none 0 0] 33)
 replace c0 := hF.cell (fun h => h) c0
 replace c1 := hF.cell (fun h => h) c1
 have i1 : ¬ (n : Int) < 2 := by omega
 have i2 : (1 : Int) < (n : Int) := by omega
 have i3 : (0 : Int) < (n : Int) := by omega
 have hO := row9_new w 33 (.int .i64 0) (.int .u64 0) (.int .u64 0) (.int .u64 0) (.int .u64 0) (.int .u64 0) (.int .u64 0) (.int .u64 0) (.slice none 0 0)
 go_enter Tryz.func7, Tryz.ntmps7
 go_upto_region 1 with fail
 obtain ⟨ob, hob⟩ : ∃ ob, ob = w.heap.size := ⟨_, rfl⟩
 have hoe : w.heap.size ≤ ob := by omega
 rw [← hob] at hO ⊢
 clear hob
 generalize w.alloc (.cells #[.int .i64 0, .int .u64 0, .int .u64 0, .int .u64 0, .int .u64 0, .int .u64 0, .int .u64 0, .int .u64 0, .slice none 0 0] 33) = w1 at hO hF c0 c1 ⊢
 have hX := row9_new w1 33 (.int .i64 (B8 y1)) (.int .u64 0) (.int .u64 0) (.int .u64 0) (.int .u64 0) (.int .u64 0) (.int .u64 0) (.int .u64 0) (.slice none 0 0)
 have hA := (Fr.refl No w1).alloc (.cells #[.int .i64 (B8 y1), .int .u64 0, .int .u64 0, .int .u64 0, .int .u64 0, .int .u64 0, .int .u64 0, .int .u64 0, .slice none 0 0] 33)
 have hlo := hO.lt
 have hls := hF.size
 go_upto_region 6 with fail
 obtain ⟨xb, hxb⟩ : ∃ xb, xb = w1.heap.size := ⟨_, rfl⟩
 have hxe : w.heap.size ≤ xb := by omega
 have hxo : ob < xb := by omega
 rw [← hxb] at hX ⊢
 clear hxb hlo
 generalize w1.alloc (.cells #[.int .i64 (B8 y1), .int .u64 0, .int .u64 0, .int .u64 0, .int .u64 0, .int .u64 0, .int .u64 0, .int .u64 0, .slice none 0 0] 33) = w2 at hX hA ⊢
 have k0 := hX.c0
 go_wp2_with fail
 clear k0
 refine (hS _).mono ?_
 rintro e w3 ⟨rfl, hf3⟩
 replace hO := (hO.no hA).no hf3
 replace hF := (hF.no hA).no hf3
 have z0 := hO.c0
 have g0 := hO.fz 0
 have z1 := hO.c1
 have g1 := hO.fz 1
 have z2 := hO.c2
 have g2 := hO.fz 2
 have z3 := hO.c3
 have g3 := hO.fz 3
 have z4 := hO.c4
 have g4 := hO.fz 4
 have z5 := hO.c5
 have g5 := hO.fz 5
 have z6 := hO.c6
 have g6 := hO.fz 6
 have z7 := hO.c7
 have g7 := hO.fz 7
 have z8 := hO.c8
 have g8 := hO.fz 8
 go_wp2_with fail
 have hR := row_put9 hO (.int .i64 0) (.int .u64 0) (.int .u64 0) (.int .u64 0) (.int .u64 0) (.int .u64 0) (.int .u64 0) (.int .u64 0) (.slice none 0 0)
 have hP := fr_put9 w3 ob (.int .i64 0) (.int .u64 0) (.int .u64 0) (.int .u64 0) (.int .u64 0) (.int .u64 0) (.int .u64 0) (.int .u64 0) (.slice none 0 0)
 have cd0 := hR.c0
 have cd1 := hR.c1
 have cd2 := hR.c2
 have cd3 := hR.c3
 have cd4 := hR.c4
 have cd5 := hR.c5
 have cd6 := hR.c6
 have cd7 := hR.c7
 have cd8 := hR.c8
 refine bodyPost_ret (v := .tuple #[.agg #[.int .i64 0, .int .u64 0, .int .u64 0, .int .u64 0, .int .u64 0, .int .u64 0, .int .u64 0, .int .u64 0, .slice none 0 0], .int .i64 3]) (by simp [results, Tryz.results7, go_sem, cd0, cd1, cd2, cd3, cd4, cd5, cd6, cd7, cd8]) rfl ?_
 exact ⟨rfl, hF.trans hP (fun q hq => .inr (by omega))⟩
def GivesIn (a : Option Addr) (n c : Nat) (b : Bytes) (w : World) (e : Ending) (w' : World) : Prop := ∃ a' n' c', e = .returned (.tuple #[.agg #[.int .i64 (kindB b), .int .u64 (W64 (wordB (innerB b) 1)), .int .u64 (W64 (wordB (innerB b) 0)), .int .u64 (W64 (wordB (innerB b) 2)), .int .u64 (W64 (wordB (innerB b) 3)), .int .u64 (W64 (wordB (innerB b) 4)), .int .u64 (W64 (wordB (innerB b) 5)), .int .u64 (W64 (wordB (innerB b) 6)), .slice a' n' c'], .int .i64 0]) ∧ (∀ w2, IsBytes w2 a n c b → IsBytes w2 a' n' c' ((innerB b).drop 58)) ∧ Fr No w w'
set_option maxHeartbeats 8000000 in
theorem Read_sum (a : Option Addr) (n c : Nat) (b : Bytes) (w : World) (hb : IsBytes w a n c b) (h1 : b.getD 0 0 = 104#8) (h2 : ¬ sizeN (B8 (b.getD 1 0)) = 0) (h3 : 62 ≤ n) (h4 : ¬ (openF b).2 = 0) (hr : n ≤ 100000) : Calls Tryz.prog 7 #[.slice a n c] w (GivesBad (openF b).2 w) := by
 have hHB := hb
 have hOp := fun w hb => refOpen_any a n c b w hb (by omega)
 unfold GivesOpenIn at hOp
 generalize openF b = r at hOp h4 ⊢
 obtain ⟨r1, z⟩ := r
 dsimp only at hOp h4 ⊢
 have hzn : (z != 0) = true := by simpa using h4
 obtain ⟨bb, off, rfl, hcell⟩ := hb.known (by omega)
 have c0 := hcell 0 (by omega)
 have c1 := hcell 1 (by omega)
 rw [Nat.add_zero] at c0
 clear hcell
 generalize b.getD 0 0 = y0 at c0 h1
 subst h1
 have e0 : B8 104#8 = 104 := by decide
 rw [e0] at c0
 clear e0
 obtain ⟨y1, hy1⟩ : ∃ y, Hid (y = b.getD 1 0) := ⟨_, Lib.hid rfl⟩
 rw [← hy1.out] at c1 h2
 have hS := refSize_any (B8 y1)
 generalize hsz : sizeN (B8 y1) = sz at hS h2
 clear hsz
 have e3 : (sz == 0) = false := by simpa using h2
 have i4 : ¬ (n : Int) < 62 := by omega
 have h : 2 ≤ n := by omega
 have hF := (Fr.refl No w).alloc (.cells #[.int .i64 0, .int .u64 0, .int .u64 0, .int .u64 0, .int .u64 0, .int .u64 0, .int .u64 0, .int .u64 0, .slice none 0 0] 33)
 replace c0 := hF.cell (fun h => h) c0
 replace c1 := hF.cell (fun h => h) c1
 have i1 : ¬ (n : Int) < 2 := by omega
 have i2 : (1 : Int) < (n : Int) := by omega
 have i3 : (0 : Int) < (n : Int) := by omega
 have hO := row9_new w 33 (.int .i64 0) (.int .u64 0) (.int .u64 0) (.int .u64 0) (.int .u64 0) (.int .u64 0) (.int .u64 0) (.int .u64 0) (.slice none 0 0)
 go_enter Tryz.func7, Tryz.ntmps7
 go_upto_region 1 with fail
 obtain ⟨ob, hob⟩ : ∃ ob, ob = w.heap.size := ⟨_, rfl⟩
 have hoe : w.heap.size ≤ ob := by omega
 rw [← hob] at hO ⊢
 clear hob
 generalize w.alloc (.cells #[.int .i64 0, .int .u64 0, .int .u64 0, .int .u64 0, .int .u64 0, .int .u64 0, .int .u64 0, .int .u64 0, .slice none 0 0] 33) = w1 at hO hF c0 c1 ⊢
 have hX := row9_new w1 33 (.int .i64 (B8 y1)) (.int .u64 0) (.int .u64 0) (.int .u64 0) (.int .u64 0) (.int .u64 0) (.int .u64 0) (.int .u64 0) (.slice none 0 0)
 have hA := (Fr.refl No w1).alloc (.cells #[.int .i64 (B8 y1), .int .u64 0, .int .u64 0, .int .u64 0, .int .u64 0, .int .u64 0, .int .u64 0, .int .u64 0, .slice none 0 0] 33)
 have hlo := hO.lt
 have hls := hF.size
 go_upto_region 6 with fail
 obtain ⟨xb, hxb⟩ : ∃ xb, xb = w1.heap.size := ⟨_, rfl⟩
 have hxe : w.heap.size ≤ xb := by omega
 have hxo : ob < xb := by omega
 rw [← hxb] at hX ⊢
 clear hxb hlo
 generalize w1.alloc (.cells #[.int .i64 (B8 y1), .int .u64 0, .int .u64 0, .int .u64 0, .int .u64 0, .int .u64 0, .int .u64 0, .int .u64 0, .slice none 0 0] 33) = w2 at hX hA ⊢
 have k0 := hX.c0
 go_wp2_with fail
 clear k0
 refine (hS _).mono ?_
 rintro e w3 ⟨rfl, hf3⟩
 replace hO := (hO.no hA).no hf3
 replace hF := (hF.no hA).no hf3
 replace hX := hX.no hf3
 go_wp2_with fail
 refine (hOp _ (hHB.no hF)).mono ?_
 rintro e w4 ⟨a4, n4, c4, rfl, hp4, hf4⟩
 replace hO := hO.no hf4
 replace hF := hF.no hf4
 replace hX := hX.no hf4
 clear hOp hS
 have z0 := hO.c0
 have g0 := hO.fz 0
 have z1 := hO.c1
 have g1 := hO.fz 1
 have z2 := hO.c2
 have g2 := hO.fz 2
 have z3 := hO.c3
 have g3 := hO.fz 3
 have z4 := hO.c4
 have g4 := hO.fz 4
 have z5 := hO.c5
 have g5 := hO.fz 5
 have z6 := hO.c6
 have g6 := hO.fz 6
 have z7 := hO.c7
 have g7 := hO.fz 7
 have z8 := hO.c8
 have g8 := hO.fz 8
 go_wp2_with fail
 have hR := row_put9 hO (.int .i64 0) (.int .u64 0) (.int .u64 0) (.int .u64 0) (.int .u64 0) (.int .u64 0) (.int .u64 0) (.int .u64 0) (.slice none 0 0)
 have hP := fr_put9 w4 ob (.int .i64 0) (.int .u64 0) (.int .u64 0) (.int .u64 0) (.int .u64 0) (.int .u64 0) (.int .u64 0) (.int .u64 0) (.slice none 0 0)
 have cd0 := hR.c0
 have cd1 := hR.c1
 have cd2 := hR.c2
 have cd3 := hR.c3
 have cd4 := hR.c4
 have cd5 := hR.c5
 have cd6 := hR.c6
 have cd7 := hR.c7
 have cd8 := hR.c8
 refine bodyPost_ret (v := .tuple #[.agg #[.int .i64 0, .int .u64 0, .int .u64 0, .int .u64 0, .int .u64 0, .int .u64 0, .int .u64 0, .int .u64 0, .slice none 0 0], .int .i64 z]) (by simp [results, Tryz.results7, go_sem, cd0, cd1, cd2, cd3, cd4, cd5, cd6, cd7, cd8]) rfl ?_
 exact ⟨rfl, hF.trans hP (fun q hq => .inr (by omega))⟩
set_option maxHeartbeats 8000000 in
theorem Read_check (a : Option Addr) (n c : Nat) (b : Bytes) (w : World) (hb : IsBytes w a n c b) (hf : Formed b) (hc : ¬ checkB b = 0) (hr : n ≤ 100000) : Calls Tryz.prog 7 #[.slice a n c] w (GivesBad (checkB b) w) := by
 have h1 := hf.head
 have h2 : ¬ sizeN (B8 (b.getD 1 0)) = 0 := hf.size
 have h3 : 62 ≤ n := by have := hf.len; have := hb.1; omega
 obtain ⟨_, _, hop1⟩ := openF_zero hf.opens
 have hil : (innerB b).length = n - 4 := by unfold innerB; rw [List.length_take]; have := hb.1; have := hf.len; omega
 have hkd : kindB b = B8 (b.getD 1 0) := rfl
 unfold checkB at hc ⊢
 rw [hkd] at hc ⊢
 clear hkd
 have hHB := hb
 have hOp := fun w hb => refOpen_any a n c b w hb (by omega)
 unfold GivesOpenIn at hOp
 rw [hf.opens, hop1] at hOp
 clear hop1 hf
 generalize innerB b = i at *
 have hx : lanesB i = (wordB i 2, wordB i 3, wordB i 4, wordB i 5) := rfl
 clear hx
 have hN : ∀ (j : Nat), j < 7 → ∀ a' n' c' w, IsBytes w a' n' c' i → Calls Tryz.prog 28 #[.slice a' n' c', .int .i64 (2 + 8 * (j : Int)), .int .i64 8] w (Gives (.int .u64 (W64 (wordB i j))) w) := fun j hj a' n' c' w hb => by
  have h := refNum_any a' n' c' i (2 + 8 * (j : Int)) 8 w hb (by omega) (by omega) (by omega) (by omega)
  rw [show (2 + 8 * (j : Int)).toNat = 2 + 8 * j by omega] at h
  exact h
 have hN0 := hN 0 (by omega)
 rw [show (2 + 8 * ((0 : Nat) : Int)) = 2 from rfl] at hN0
 have hN1 := hN 1 (by omega)
 rw [show (2 + 8 * ((1 : Nat) : Int)) = 10 from rfl] at hN1
 have hN2 := hN 2 (by omega)
 rw [show (2 + 8 * ((2 : Nat) : Int)) = 18 from rfl] at hN2
 have hN3 := hN 3 (by omega)
 rw [show (2 + 8 * ((3 : Nat) : Int)) = 26 from rfl] at hN3
 have hN4 := hN 4 (by omega)
 rw [show (2 + 8 * ((4 : Nat) : Int)) = 34 from rfl] at hN4
 have hN5 := hN 5 (by omega)
 rw [show (2 + 8 * ((5 : Nat) : Int)) = 42 from rfl] at hN5
 have hN6 := hN 6 (by omega)
 rw [show (2 + 8 * ((6 : Nat) : Int)) = 50 from rfl] at hN6
 clear hN
 generalize hx0 : wordB i 0 = x0 at hN0 hc ⊢
 generalize hx1 : wordB i 1 = x1 at hN1 hc ⊢
 generalize hx2 : wordB i 2 = x2 at hN2 hc ⊢
 generalize hx3 : wordB i 3 = x3 at hN3 hc ⊢
 generalize hx4 : wordB i 4 = x4 at hN4 hc ⊢
 generalize hx5 : wordB i 5 = x5 at hN5 hc ⊢
 generalize hx6 : wordB i 6 = x6 at hN6 hc ⊢
 clear hx0 hx1 hx2 hx3 hx4 hx5 hx6
 obtain ⟨bb, off, rfl, hcell⟩ := hb.known (by omega)
 have c0 := hcell 0 (by omega)
 have c1 := hcell 1 (by omega)
 rw [Nat.add_zero] at c0
 clear hcell
 generalize b.getD 0 0 = y0 at c0 h1
 subst h1
 have e0 : B8 104#8 = 104 := by decide
 rw [e0] at c0
 clear e0
 obtain ⟨y1, hy1⟩ : ∃ y, Hid (y = b.getD 1 0) := ⟨_, Lib.hid rfl⟩
 rw [← hy1.out] at c1 h2 hc ⊢
 have hS := refSize_any (B8 y1)
 generalize hsz : sizeN (B8 y1) = sz at hS h2
 clear hsz
 have e3 : (sz == 0) = false := by simpa using h2
 have i4 : ¬ (n : Int) < 62 := by omega
 have h : 2 ≤ n := by omega
 have hCk := refCheck_any (B8 y1) x1 x0
 generalize checkN (B8 y1) x1 x0 = z at hCk hc ⊢
 have hcn : (z != 0) = true := by simpa using hc
 have hF := (Fr.refl No w).alloc (.cells #[.int .i64 0, .int .u64 0, .int .u64 0, .int .u64 0, .int .u64 0, .int .u64 0, .int .u64 0, .int .u64 0, .slice none 0 0] 33)
 replace c0 := hF.cell (fun h => h) c0
 replace c1 := hF.cell (fun h => h) c1
 have i1 : ¬ (n : Int) < 2 := by omega
 have i2 : (1 : Int) < (n : Int) := by omega
 have i3 : (0 : Int) < (n : Int) := by omega
 have hO := row9_new w 33 (.int .i64 0) (.int .u64 0) (.int .u64 0) (.int .u64 0) (.int .u64 0) (.int .u64 0) (.int .u64 0) (.int .u64 0) (.slice none 0 0)
 go_enter Tryz.func7, Tryz.ntmps7
 go_upto_region 1 with fail
 obtain ⟨ob, hob⟩ : ∃ ob, ob = w.heap.size := ⟨_, rfl⟩
 have hoe : w.heap.size ≤ ob := by omega
 rw [← hob] at hO ⊢
 clear hob
 generalize w.alloc (.cells #[.int .i64 0, .int .u64 0, .int .u64 0, .int .u64 0, .int .u64 0, .int .u64 0, .int .u64 0, .int .u64 0, .slice none 0 0] 33) = w1 at hO hF c0 c1 ⊢
 have hX := row9_new w1 33 (.int .i64 (B8 y1)) (.int .u64 0) (.int .u64 0) (.int .u64 0) (.int .u64 0) (.int .u64 0) (.int .u64 0) (.int .u64 0) (.slice none 0 0)
 have hA := (Fr.refl No w1).alloc (.cells #[.int .i64 (B8 y1), .int .u64 0, .int .u64 0, .int .u64 0, .int .u64 0, .int .u64 0, .int .u64 0, .int .u64 0, .slice none 0 0] 33)
 have hlo := hO.lt
 have hls := hF.size
 go_upto_region 6 with fail
 obtain ⟨xb, hxb⟩ : ∃ xb, xb = w1.heap.size := ⟨_, rfl⟩
 have hxe : w.heap.size ≤ xb := by omega
 have hxo : ob < xb := by omega
 rw [← hxb] at hX ⊢
 clear hxb hlo
 generalize w1.alloc (.cells #[.int .i64 (B8 y1), .int .u64 0, .int .u64 0, .int .u64 0, .int .u64 0, .int .u64 0, .int .u64 0, .int .u64 0, .slice none 0 0] 33) = w2 at hX hA ⊢
 have k0 := hX.c0
 go_wp2_with fail
 clear k0
 refine (hS _).mono ?_
 rintro e w3 ⟨rfl, hf3⟩
 replace hO := (hO.no hA).no hf3
 replace hF := (hF.no hA).no hf3
 replace hX := hX.no hf3
 go_wp2_with fail
 refine (hOp _ (hHB.no hF)).mono ?_
 rintro e w4 ⟨a4, n4, c4, rfl, hp4, hf4⟩
 replace hO := hO.no hf4
 replace hF := hF.no hf4
 replace hX := hX.no hf4
 clear hOp hS
 have hi4 := hp4 _ (hHB.no hF)
 have hn4 : n4 = n - 4 := by rw [← hil]; exact hi4.1.symm
 have i58 : 58 ≤ n4 := by omega
 have j58 : (58 : Int) ≤ (n4 : Int) := by omega
 have hnc4 : n4 ≤ c4 := hi4.2.1
 clear hn4
 have s0 := hX.c0
 have t0 := hX.fz 0
 have s1 := hX.c1
 have t1 := hX.fz 1
 have s2 := hX.c2
 have t2 := hX.fz 2
 have s3 := hX.c3
 have t3 := hX.fz 3
 have s4 := hX.c4
 have t4 := hX.fz 4
 have s5 := hX.c5
 have t5 := hX.fz 5
 have s6 := hX.c6
 have t6 := hX.fz 6
 have s7 := hX.c7
 have t7 := hX.fz 7
 have s8 := hX.c8
 have t8 := hX.fz 8
 go_wp2_with fail
 refine (hN1 _ _ _ _ hi4).mono ?_
 rintro e w' ⟨rfl, rfl⟩
 go_wp2_with fail
 refine (hN0 _ _ _ _ hi4).mono ?_
 rintro e w' ⟨rfl, rfl⟩
 go_upto_region 14 with fail
 clear s0 t0 s1 t1 s2 t2 s3 t3 s4 t4 s5 t5 s6 t6 s7 t7 s8 t8
 replace hX := ((hX.put1 (.int .u64 (W64 x1))).put2 (.int .u64 (W64 x0)))
 have hP := (((Fr.refl (fun q => q = xb) w4).setCell (p := ⟨xb, 1, none⟩) (.inl rfl) (.int .u64 (W64 x1))).setCell (p := ⟨xb, 2, none⟩) (.inl rfl) (.int .u64 (W64 x0)))
 replace hF := hF.trans hP (fun q hq => .inr (by omega))
 replace hO := hO.fr hP (by omega)
 clear hP
 generalize (w4.setCell ⟨xb, 1, none⟩ (.int .u64 (W64 x1))).setCell ⟨xb, 2, none⟩ (.int .u64 (W64 x0)) = w5 at hX hF hO ⊢
 have hiw5 := hp4 _ (hHB.no hF)
 have s0 := hX.c0
 have t0 := hX.fz 0
 have s1 := hX.c1
 have t1 := hX.fz 1
 have s2 := hX.c2
 have t2 := hX.fz 2
 have s3 := hX.c3
 have t3 := hX.fz 3
 have s4 := hX.c4
 have t4 := hX.fz 4
 have s5 := hX.c5
 have t5 := hX.fz 5
 have s6 := hX.c6
 have t6 := hX.fz 6
 have s7 := hX.c7
 have t7 := hX.fz 7
 have s8 := hX.c8
 have t8 := hX.fz 8
 go_wp2_with fail
 refine wp_loop_rounds 5 ?_
 rw [rounds_succ]
 go_wp2_with fail
 refine (hN2 _ _ _ _ hiw5).mono ?_
 rintro e w' ⟨rfl, rfl⟩
 go_wp2_with fail
 clear s0 t0 s1 t1 s2 t2 s3 t3 s4 t4 s5 t5 s6 t6 s7 t7 s8 t8
 replace hX := (hX.put3 (.int .u64 (W64 x2)))
 have hP := ((Fr.refl (fun q => q = xb) w5).setCell (p := ⟨xb, 3, none⟩) (.inl rfl) (.int .u64 (W64 x2)))
 replace hF := hF.trans hP (fun q hq => .inr (by omega))
 replace hO := hO.fr hP (by omega)
 clear hP
 generalize w5.setCell ⟨xb, 3, none⟩ (.int .u64 (W64 x2)) = w6 at hX hF hO ⊢
 have hiw6 := hp4 _ (hHB.no hF)
 have s0 := hX.c0
 have t0 := hX.fz 0
 have s1 := hX.c1
 have t1 := hX.fz 1
 have s2 := hX.c2
 have t2 := hX.fz 2
 have s3 := hX.c3
 have t3 := hX.fz 3
 have s4 := hX.c4
 have t4 := hX.fz 4
 have s5 := hX.c5
 have t5 := hX.fz 5
 have s6 := hX.c6
 have t6 := hX.fz 6
 have s7 := hX.c7
 have t7 := hX.fz 7
 have s8 := hX.c8
 have t8 := hX.fz 8
 rw [rounds_succ]
 go_wp2_with fail
 refine (hN3 _ _ _ _ hiw6).mono ?_
 rintro e w' ⟨rfl, rfl⟩
 go_wp2_with fail
 clear s0 t0 s1 t1 s2 t2 s3 t3 s4 t4 s5 t5 s6 t6 s7 t7 s8 t8
 replace hX := (hX.put4 (.int .u64 (W64 x3)))
 have hP := ((Fr.refl (fun q => q = xb) w6).setCell (p := ⟨xb, 4, none⟩) (.inl rfl) (.int .u64 (W64 x3)))
 replace hF := hF.trans hP (fun q hq => .inr (by omega))
 replace hO := hO.fr hP (by omega)
 clear hP
 generalize w6.setCell ⟨xb, 4, none⟩ (.int .u64 (W64 x3)) = w7 at hX hF hO ⊢
 have hiw7 := hp4 _ (hHB.no hF)
 have s0 := hX.c0
 have t0 := hX.fz 0
 have s1 := hX.c1
 have t1 := hX.fz 1
 have s2 := hX.c2
 have t2 := hX.fz 2
 have s3 := hX.c3
 have t3 := hX.fz 3
 have s4 := hX.c4
 have t4 := hX.fz 4
 have s5 := hX.c5
 have t5 := hX.fz 5
 have s6 := hX.c6
 have t6 := hX.fz 6
 have s7 := hX.c7
 have t7 := hX.fz 7
 have s8 := hX.c8
 have t8 := hX.fz 8
 rw [rounds_succ]
 go_wp2_with fail
 refine (hN4 _ _ _ _ hiw7).mono ?_
 rintro e w' ⟨rfl, rfl⟩
 go_wp2_with fail
 clear s0 t0 s1 t1 s2 t2 s3 t3 s4 t4 s5 t5 s6 t6 s7 t7 s8 t8
 replace hX := (hX.put5 (.int .u64 (W64 x4)))
 have hP := ((Fr.refl (fun q => q = xb) w7).setCell (p := ⟨xb, 5, none⟩) (.inl rfl) (.int .u64 (W64 x4)))
 replace hF := hF.trans hP (fun q hq => .inr (by omega))
 replace hO := hO.fr hP (by omega)
 clear hP
 generalize w7.setCell ⟨xb, 5, none⟩ (.int .u64 (W64 x4)) = w8 at hX hF hO ⊢
 have hiw8 := hp4 _ (hHB.no hF)
 have s0 := hX.c0
 have t0 := hX.fz 0
 have s1 := hX.c1
 have t1 := hX.fz 1
 have s2 := hX.c2
 have t2 := hX.fz 2
 have s3 := hX.c3
 have t3 := hX.fz 3
 have s4 := hX.c4
 have t4 := hX.fz 4
 have s5 := hX.c5
 have t5 := hX.fz 5
 have s6 := hX.c6
 have t6 := hX.fz 6
 have s7 := hX.c7
 have t7 := hX.fz 7
 have s8 := hX.c8
 have t8 := hX.fz 8
 rw [rounds_succ]
 go_wp2_with fail
 refine (hN5 _ _ _ _ hiw8).mono ?_
 rintro e w' ⟨rfl, rfl⟩
 go_wp2_with fail
 clear s0 t0 s1 t1 s2 t2 s3 t3 s4 t4 s5 t5 s6 t6 s7 t7 s8 t8
 replace hX := (hX.put6 (.int .u64 (W64 x5)))
 have hP := ((Fr.refl (fun q => q = xb) w8).setCell (p := ⟨xb, 6, none⟩) (.inl rfl) (.int .u64 (W64 x5)))
 replace hF := hF.trans hP (fun q hq => .inr (by omega))
 replace hO := hO.fr hP (by omega)
 clear hP
 generalize w8.setCell ⟨xb, 6, none⟩ (.int .u64 (W64 x5)) = w9 at hX hF hO ⊢
 have hiw9 := hp4 _ (hHB.no hF)
 have s0 := hX.c0
 have t0 := hX.fz 0
 have s1 := hX.c1
 have t1 := hX.fz 1
 have s2 := hX.c2
 have t2 := hX.fz 2
 have s3 := hX.c3
 have t3 := hX.fz 3
 have s4 := hX.c4
 have t4 := hX.fz 4
 have s5 := hX.c5
 have t5 := hX.fz 5
 have s6 := hX.c6
 have t6 := hX.fz 6
 have s7 := hX.c7
 have t7 := hX.fz 7
 have s8 := hX.c8
 have t8 := hX.fz 8
 rw [rounds_succ]
 go_wp2_with fail
 refine (hN6 _ _ _ _ hiw9).mono ?_
 rintro e w' ⟨rfl, rfl⟩
 go_upto_region 20 with fail
 clear s0 t0 s1 t1 s2 t2 s3 t3 s4 t4 s5 t5 s6 t6 s7 t7 s8 t8
 replace hX := ((hX.put7 (.int .u64 (W64 x6))).put8 (.slice (subAddr a4 58 c4 1) (n4 - 58) (c4 - 58)))
 have hP := (((Fr.refl (fun q => q = xb) w9).setCell (p := ⟨xb, 7, none⟩) (.inl rfl) (.int .u64 (W64 x6))).setCell (p := ⟨xb, 8, none⟩) (.inl rfl) (.slice (subAddr a4 58 c4 1) (n4 - 58) (c4 - 58)))
 replace hF := hF.trans hP (fun q hq => .inr (by omega))
 replace hO := hO.fr hP (by omega)
 clear hP
 generalize (w9.setCell ⟨xb, 7, none⟩ (.int .u64 (W64 x6))).setCell ⟨xb, 8, none⟩ (.slice (subAddr a4 58 c4 1) (n4 - 58) (c4 - 58)) = w10 at hX hF hO ⊢
 have hiw10 := hp4 _ (hHB.no hF)
 have s0 := hX.c0
 have t0 := hX.fz 0
 have s1 := hX.c1
 have t1 := hX.fz 1
 have s2 := hX.c2
 have t2 := hX.fz 2
 have s3 := hX.c3
 have t3 := hX.fz 3
 have s4 := hX.c4
 have t4 := hX.fz 4
 have s5 := hX.c5
 have t5 := hX.fz 5
 have s6 := hX.c6
 have t6 := hX.fz 6
 have s7 := hX.c7
 have t7 := hX.fz 7
 have s8 := hX.c8
 have t8 := hX.fz 8
 go_wp2_with fail
 refine (hCk _).mono ?_
 rintro e w11 ⟨rfl, hf11⟩
 replace hX := hX.no hf11
 replace hO := hO.no hf11
 replace hF := hF.no hf11
 clear s0 t0 s1 t1 s2 t2 s3 t3 s4 t4 s5 t5 s6 t6 s7 t7 s8 t8
 have z0 := hO.c0
 have g0 := hO.fz 0
 have z1 := hO.c1
 have g1 := hO.fz 1
 have z2 := hO.c2
 have g2 := hO.fz 2
 have z3 := hO.c3
 have g3 := hO.fz 3
 have z4 := hO.c4
 have g4 := hO.fz 4
 have z5 := hO.c5
 have g5 := hO.fz 5
 have z6 := hO.c6
 have g6 := hO.fz 6
 have z7 := hO.c7
 have g7 := hO.fz 7
 have z8 := hO.c8
 have g8 := hO.fz 8
 go_wp2_with fail
 have hR := row_put9 hO (.int .i64 0) (.int .u64 0) (.int .u64 0) (.int .u64 0) (.int .u64 0) (.int .u64 0) (.int .u64 0) (.int .u64 0) (.slice none 0 0)
 have hP := fr_put9 w11 ob (.int .i64 0) (.int .u64 0) (.int .u64 0) (.int .u64 0) (.int .u64 0) (.int .u64 0) (.int .u64 0) (.int .u64 0) (.slice none 0 0)
 have cd0 := hR.c0
 have cd1 := hR.c1
 have cd2 := hR.c2
 have cd3 := hR.c3
 have cd4 := hR.c4
 have cd5 := hR.c5
 have cd6 := hR.c6
 have cd7 := hR.c7
 have cd8 := hR.c8
 refine bodyPost_ret (v := .tuple #[.agg #[.int .i64 0, .int .u64 0, .int .u64 0, .int .u64 0, .int .u64 0, .int .u64 0, .int .u64 0, .int .u64 0, .slice none 0 0], .int .i64 z]) (by simp [results, Tryz.results7, go_sem, cd0, cd1, cd2, cd3, cd4, cd5, cd6, cd7, cd8]) rfl ?_
 exact ⟨rfl, hF.trans hP (fun q hq => .inr (by omega))⟩
set_option maxHeartbeats 8000000 in
theorem Read_wrong (a : Option Addr) (n c : Nat) (b : Bytes) (w : World) (hb : IsBytes w a n c b) (hf : Formed b) (hc : checkB b = 0) (hR : ¬ RightB b) (hr : n ≤ 100000) : Calls Tryz.prog 7 #[.slice a n c] w (GivesBad 5 w) := by
 have h1 := hf.head
 have h2 : ¬ sizeN (B8 (b.getD 1 0)) = 0 := hf.size
 have h3 : 62 ≤ n := by have := hf.len; have := hb.1; omega
 obtain ⟨_, _, hop1⟩ := openF_zero hf.opens
 have hil : (innerB b).length = n - 4 := by unfold innerB; rw [List.length_take]; have := hb.1; have := hf.len; omega
 have hkd : kindB b = B8 (b.getD 1 0) := rfl
 unfold checkB at hc
 unfold RightB at hR
 rw [hkd] at hc hR
 clear hkd
 have hHB := hb
 have hOp := fun w hb => refOpen_any a n c b w hb (by omega)
 unfold GivesOpenIn at hOp
 rw [hf.opens, hop1] at hOp
 clear hop1 hf
 generalize innerB b = i at *
 have hx : lanesB i = (wordB i 2, wordB i 3, wordB i 4, wordB i 5) := rfl
 rw [hx] at hR
 clear hx
 have hN : ∀ (j : Nat), j < 7 → ∀ a' n' c' w, IsBytes w a' n' c' i → Calls Tryz.prog 28 #[.slice a' n' c', .int .i64 (2 + 8 * (j : Int)), .int .i64 8] w (Gives (.int .u64 (W64 (wordB i j))) w) := fun j hj a' n' c' w hb => by
  have h := refNum_any a' n' c' i (2 + 8 * (j : Int)) 8 w hb (by omega) (by omega) (by omega) (by omega)
  rw [show (2 + 8 * (j : Int)).toNat = 2 + 8 * j by omega] at h
  exact h
 have hN0 := hN 0 (by omega)
 rw [show (2 + 8 * ((0 : Nat) : Int)) = 2 from rfl] at hN0
 have hN1 := hN 1 (by omega)
 rw [show (2 + 8 * ((1 : Nat) : Int)) = 10 from rfl] at hN1
 have hN2 := hN 2 (by omega)
 rw [show (2 + 8 * ((2 : Nat) : Int)) = 18 from rfl] at hN2
 have hN3 := hN 3 (by omega)
 rw [show (2 + 8 * ((3 : Nat) : Int)) = 26 from rfl] at hN3
 have hN4 := hN 4 (by omega)
 rw [show (2 + 8 * ((4 : Nat) : Int)) = 34 from rfl] at hN4
 have hN5 := hN 5 (by omega)
 rw [show (2 + 8 * ((5 : Nat) : Int)) = 42 from rfl] at hN5
 have hN6 := hN 6 (by omega)
 rw [show (2 + 8 * ((6 : Nat) : Int)) = 50 from rfl] at hN6
 clear hN
 generalize hx0 : wordB i 0 = x0 at hN0 hc hR
 generalize hx1 : wordB i 1 = x1 at hN1 hc hR
 generalize hx2 : wordB i 2 = x2 at hN2 hc hR
 generalize hx3 : wordB i 3 = x3 at hN3 hc hR
 generalize hx4 : wordB i 4 = x4 at hN4 hc hR
 generalize hx5 : wordB i 5 = x5 at hN5 hc hR
 generalize hx6 : wordB i 6 = x6 at hN6 hc hR
 clear hx0 hx1 hx2 hx3 hx4 hx5 hx6
 obtain ⟨bb, off, rfl, hcell⟩ := hb.known (by omega)
 have c0 := hcell 0 (by omega)
 have c1 := hcell 1 (by omega)
 rw [Nat.add_zero] at c0
 clear hcell
 generalize b.getD 0 0 = y0 at c0 h1
 subst h1
 have e0 : B8 104#8 = 104 := by decide
 rw [e0] at c0
 clear e0
 obtain ⟨y1, hy1⟩ : ∃ y, Hid (y = b.getD 1 0) := ⟨_, Lib.hid rfl⟩
 rw [← hy1.out] at c1 h2 hc hR
 have hS := refSize_any (B8 y1)
 generalize hsz : sizeN (B8 y1) = sz at hS h2
 clear hsz
 have e3 : (sz == 0) = false := by simpa using h2
 have i4 : ¬ (n : Int) < 62 := by omega
 have h : 2 ≤ n := by omega
 have hCk := refCheck_any (B8 y1) x1 x0
 have hk := check_ok hc
 rw [hc] at hCk
 have hRt := fun a' n' c' w (hl : n' = (i.drop 58).length) => refRight_all hk (x2, x3, x4, x5) x6 a' n' c' false (by rw [hl]; simp only [Bool.false_eq_true, false_iff]; exact hR) w
 clear hc hR hk
 have hF := (Fr.refl No w).alloc (.cells #[.int .i64 0, .int .u64 0, .int .u64 0, .int .u64 0, .int .u64 0, .int .u64 0, .int .u64 0, .int .u64 0, .slice none 0 0] 33)
 replace c0 := hF.cell (fun h => h) c0
 replace c1 := hF.cell (fun h => h) c1
 have i1 : ¬ (n : Int) < 2 := by omega
 have i2 : (1 : Int) < (n : Int) := by omega
 have i3 : (0 : Int) < (n : Int) := by omega
 have hO := row9_new w 33 (.int .i64 0) (.int .u64 0) (.int .u64 0) (.int .u64 0) (.int .u64 0) (.int .u64 0) (.int .u64 0) (.int .u64 0) (.slice none 0 0)
 go_enter Tryz.func7, Tryz.ntmps7
 go_upto_region 1 with fail
 obtain ⟨ob, hob⟩ : ∃ ob, ob = w.heap.size := ⟨_, rfl⟩
 have hoe : w.heap.size ≤ ob := by omega
 rw [← hob] at hO ⊢
 clear hob
 generalize w.alloc (.cells #[.int .i64 0, .int .u64 0, .int .u64 0, .int .u64 0, .int .u64 0, .int .u64 0, .int .u64 0, .int .u64 0, .slice none 0 0] 33) = w1 at hO hF c0 c1 ⊢
 have hX := row9_new w1 33 (.int .i64 (B8 y1)) (.int .u64 0) (.int .u64 0) (.int .u64 0) (.int .u64 0) (.int .u64 0) (.int .u64 0) (.int .u64 0) (.slice none 0 0)
 have hA := (Fr.refl No w1).alloc (.cells #[.int .i64 (B8 y1), .int .u64 0, .int .u64 0, .int .u64 0, .int .u64 0, .int .u64 0, .int .u64 0, .int .u64 0, .slice none 0 0] 33)
 have hlo := hO.lt
 have hls := hF.size
 go_upto_region 6 with fail
 obtain ⟨xb, hxb⟩ : ∃ xb, xb = w1.heap.size := ⟨_, rfl⟩
 have hxe : w.heap.size ≤ xb := by omega
 have hxo : ob < xb := by omega
 rw [← hxb] at hX ⊢
 clear hxb hlo
 generalize w1.alloc (.cells #[.int .i64 (B8 y1), .int .u64 0, .int .u64 0, .int .u64 0, .int .u64 0, .int .u64 0, .int .u64 0, .int .u64 0, .slice none 0 0] 33) = w2 at hX hA ⊢
 have k0 := hX.c0
 go_wp2_with fail
 clear k0
 refine (hS _).mono ?_
 rintro e w3 ⟨rfl, hf3⟩
 replace hO := (hO.no hA).no hf3
 replace hF := (hF.no hA).no hf3
 replace hX := hX.no hf3
 go_wp2_with fail
 refine (hOp _ (hHB.no hF)).mono ?_
 rintro e w4 ⟨a4, n4, c4, rfl, hp4, hf4⟩
 replace hO := hO.no hf4
 replace hF := hF.no hf4
 replace hX := hX.no hf4
 clear hOp hS
 have hi4 := hp4 _ (hHB.no hF)
 have hn4 : n4 = n - 4 := by rw [← hil]; exact hi4.1.symm
 have i58 : 58 ≤ n4 := by omega
 have j58 : (58 : Int) ≤ (n4 : Int) := by omega
 have hnc4 : n4 ≤ c4 := hi4.2.1
 clear hn4
 have s0 := hX.c0
 have t0 := hX.fz 0
 have s1 := hX.c1
 have t1 := hX.fz 1
 have s2 := hX.c2
 have t2 := hX.fz 2
 have s3 := hX.c3
 have t3 := hX.fz 3
 have s4 := hX.c4
 have t4 := hX.fz 4
 have s5 := hX.c5
 have t5 := hX.fz 5
 have s6 := hX.c6
 have t6 := hX.fz 6
 have s7 := hX.c7
 have t7 := hX.fz 7
 have s8 := hX.c8
 have t8 := hX.fz 8
 go_wp2_with fail
 refine (hN1 _ _ _ _ hi4).mono ?_
 rintro e w' ⟨rfl, rfl⟩
 go_wp2_with fail
 refine (hN0 _ _ _ _ hi4).mono ?_
 rintro e w' ⟨rfl, rfl⟩
 go_upto_region 14 with fail
 clear s0 t0 s1 t1 s2 t2 s3 t3 s4 t4 s5 t5 s6 t6 s7 t7 s8 t8
 replace hX := ((hX.put1 (.int .u64 (W64 x1))).put2 (.int .u64 (W64 x0)))
 have hP := (((Fr.refl (fun q => q = xb) w4).setCell (p := ⟨xb, 1, none⟩) (.inl rfl) (.int .u64 (W64 x1))).setCell (p := ⟨xb, 2, none⟩) (.inl rfl) (.int .u64 (W64 x0)))
 replace hF := hF.trans hP (fun q hq => .inr (by omega))
 replace hO := hO.fr hP (by omega)
 clear hP
 generalize (w4.setCell ⟨xb, 1, none⟩ (.int .u64 (W64 x1))).setCell ⟨xb, 2, none⟩ (.int .u64 (W64 x0)) = w5 at hX hF hO ⊢
 have hiw5 := hp4 _ (hHB.no hF)
 have s0 := hX.c0
 have t0 := hX.fz 0
 have s1 := hX.c1
 have t1 := hX.fz 1
 have s2 := hX.c2
 have t2 := hX.fz 2
 have s3 := hX.c3
 have t3 := hX.fz 3
 have s4 := hX.c4
 have t4 := hX.fz 4
 have s5 := hX.c5
 have t5 := hX.fz 5
 have s6 := hX.c6
 have t6 := hX.fz 6
 have s7 := hX.c7
 have t7 := hX.fz 7
 have s8 := hX.c8
 have t8 := hX.fz 8
 go_wp2_with fail
 refine wp_loop_rounds 5 ?_
 rw [rounds_succ]
 go_wp2_with fail
 refine (hN2 _ _ _ _ hiw5).mono ?_
 rintro e w' ⟨rfl, rfl⟩
 go_wp2_with fail
 clear s0 t0 s1 t1 s2 t2 s3 t3 s4 t4 s5 t5 s6 t6 s7 t7 s8 t8
 replace hX := (hX.put3 (.int .u64 (W64 x2)))
 have hP := ((Fr.refl (fun q => q = xb) w5).setCell (p := ⟨xb, 3, none⟩) (.inl rfl) (.int .u64 (W64 x2)))
 replace hF := hF.trans hP (fun q hq => .inr (by omega))
 replace hO := hO.fr hP (by omega)
 clear hP
 generalize w5.setCell ⟨xb, 3, none⟩ (.int .u64 (W64 x2)) = w6 at hX hF hO ⊢
 have hiw6 := hp4 _ (hHB.no hF)
 have s0 := hX.c0
 have t0 := hX.fz 0
 have s1 := hX.c1
 have t1 := hX.fz 1
 have s2 := hX.c2
 have t2 := hX.fz 2
 have s3 := hX.c3
 have t3 := hX.fz 3
 have s4 := hX.c4
 have t4 := hX.fz 4
 have s5 := hX.c5
 have t5 := hX.fz 5
 have s6 := hX.c6
 have t6 := hX.fz 6
 have s7 := hX.c7
 have t7 := hX.fz 7
 have s8 := hX.c8
 have t8 := hX.fz 8
 rw [rounds_succ]
 go_wp2_with fail
 refine (hN3 _ _ _ _ hiw6).mono ?_
 rintro e w' ⟨rfl, rfl⟩
 go_wp2_with fail
 clear s0 t0 s1 t1 s2 t2 s3 t3 s4 t4 s5 t5 s6 t6 s7 t7 s8 t8
 replace hX := (hX.put4 (.int .u64 (W64 x3)))
 have hP := ((Fr.refl (fun q => q = xb) w6).setCell (p := ⟨xb, 4, none⟩) (.inl rfl) (.int .u64 (W64 x3)))
 replace hF := hF.trans hP (fun q hq => .inr (by omega))
 replace hO := hO.fr hP (by omega)
 clear hP
 generalize w6.setCell ⟨xb, 4, none⟩ (.int .u64 (W64 x3)) = w7 at hX hF hO ⊢
 have hiw7 := hp4 _ (hHB.no hF)
 have s0 := hX.c0
 have t0 := hX.fz 0
 have s1 := hX.c1
 have t1 := hX.fz 1
 have s2 := hX.c2
 have t2 := hX.fz 2
 have s3 := hX.c3
 have t3 := hX.fz 3
 have s4 := hX.c4
 have t4 := hX.fz 4
 have s5 := hX.c5
 have t5 := hX.fz 5
 have s6 := hX.c6
 have t6 := hX.fz 6
 have s7 := hX.c7
 have t7 := hX.fz 7
 have s8 := hX.c8
 have t8 := hX.fz 8
 rw [rounds_succ]
 go_wp2_with fail
 refine (hN4 _ _ _ _ hiw7).mono ?_
 rintro e w' ⟨rfl, rfl⟩
 go_wp2_with fail
 clear s0 t0 s1 t1 s2 t2 s3 t3 s4 t4 s5 t5 s6 t6 s7 t7 s8 t8
 replace hX := (hX.put5 (.int .u64 (W64 x4)))
 have hP := ((Fr.refl (fun q => q = xb) w7).setCell (p := ⟨xb, 5, none⟩) (.inl rfl) (.int .u64 (W64 x4)))
 replace hF := hF.trans hP (fun q hq => .inr (by omega))
 replace hO := hO.fr hP (by omega)
 clear hP
 generalize w7.setCell ⟨xb, 5, none⟩ (.int .u64 (W64 x4)) = w8 at hX hF hO ⊢
 have hiw8 := hp4 _ (hHB.no hF)
 have s0 := hX.c0
 have t0 := hX.fz 0
 have s1 := hX.c1
 have t1 := hX.fz 1
 have s2 := hX.c2
 have t2 := hX.fz 2
 have s3 := hX.c3
 have t3 := hX.fz 3
 have s4 := hX.c4
 have t4 := hX.fz 4
 have s5 := hX.c5
 have t5 := hX.fz 5
 have s6 := hX.c6
 have t6 := hX.fz 6
 have s7 := hX.c7
 have t7 := hX.fz 7
 have s8 := hX.c8
 have t8 := hX.fz 8
 rw [rounds_succ]
 go_wp2_with fail
 refine (hN5 _ _ _ _ hiw8).mono ?_
 rintro e w' ⟨rfl, rfl⟩
 go_wp2_with fail
 clear s0 t0 s1 t1 s2 t2 s3 t3 s4 t4 s5 t5 s6 t6 s7 t7 s8 t8
 replace hX := (hX.put6 (.int .u64 (W64 x5)))
 have hP := ((Fr.refl (fun q => q = xb) w8).setCell (p := ⟨xb, 6, none⟩) (.inl rfl) (.int .u64 (W64 x5)))
 replace hF := hF.trans hP (fun q hq => .inr (by omega))
 replace hO := hO.fr hP (by omega)
 clear hP
 generalize w8.setCell ⟨xb, 6, none⟩ (.int .u64 (W64 x5)) = w9 at hX hF hO ⊢
 have hiw9 := hp4 _ (hHB.no hF)
 have s0 := hX.c0
 have t0 := hX.fz 0
 have s1 := hX.c1
 have t1 := hX.fz 1
 have s2 := hX.c2
 have t2 := hX.fz 2
 have s3 := hX.c3
 have t3 := hX.fz 3
 have s4 := hX.c4
 have t4 := hX.fz 4
 have s5 := hX.c5
 have t5 := hX.fz 5
 have s6 := hX.c6
 have t6 := hX.fz 6
 have s7 := hX.c7
 have t7 := hX.fz 7
 have s8 := hX.c8
 have t8 := hX.fz 8
 rw [rounds_succ]
 go_wp2_with fail
 refine (hN6 _ _ _ _ hiw9).mono ?_
 rintro e w' ⟨rfl, rfl⟩
 go_upto_region 20 with fail
 clear s0 t0 s1 t1 s2 t2 s3 t3 s4 t4 s5 t5 s6 t6 s7 t7 s8 t8
 replace hX := ((hX.put7 (.int .u64 (W64 x6))).put8 (.slice (subAddr a4 58 c4 1) (n4 - 58) (c4 - 58)))
 have hP := (((Fr.refl (fun q => q = xb) w9).setCell (p := ⟨xb, 7, none⟩) (.inl rfl) (.int .u64 (W64 x6))).setCell (p := ⟨xb, 8, none⟩) (.inl rfl) (.slice (subAddr a4 58 c4 1) (n4 - 58) (c4 - 58)))
 replace hF := hF.trans hP (fun q hq => .inr (by omega))
 replace hO := hO.fr hP (by omega)
 clear hP
 generalize (w9.setCell ⟨xb, 7, none⟩ (.int .u64 (W64 x6))).setCell ⟨xb, 8, none⟩ (.slice (subAddr a4 58 c4 1) (n4 - 58) (c4 - 58)) = w10 at hX hF hO ⊢
 have hiw10 := hp4 _ (hHB.no hF)
 have s0 := hX.c0
 have t0 := hX.fz 0
 have s1 := hX.c1
 have t1 := hX.fz 1
 have s2 := hX.c2
 have t2 := hX.fz 2
 have s3 := hX.c3
 have t3 := hX.fz 3
 have s4 := hX.c4
 have t4 := hX.fz 4
 have s5 := hX.c5
 have t5 := hX.fz 5
 have s6 := hX.c6
 have t6 := hX.fz 6
 have s7 := hX.c7
 have t7 := hX.fz 7
 have s8 := hX.c8
 have t8 := hX.fz 8
 go_wp2_with fail
 refine (hCk _).mono ?_
 rintro e w11 ⟨rfl, hf11⟩
 replace hX := hX.no hf11
 replace hO := hO.no hf11
 replace hF := hF.no hf11
 clear s0 t0 s1 t1 s2 t2 s3 t3 s4 t4 s5 t5 s6 t6 s7 t7 s8 t8
 have s0 := hX.c0
 have t0 := hX.fz 0
 have s1 := hX.c1
 have t1 := hX.fz 1
 have s2 := hX.c2
 have t2 := hX.fz 2
 have s3 := hX.c3
 have t3 := hX.fz 3
 have s4 := hX.c4
 have t4 := hX.fz 4
 have s5 := hX.c5
 have t5 := hX.fz 5
 have s6 := hX.c6
 have t6 := hX.fz 6
 have s7 := hX.c7
 have t7 := hX.fz 7
 have s8 := hX.c8
 have t8 := hX.fz 8
 go_wp2_with fail
 have hil2 : n4 - 58 = (i.drop 58).length := by have := hi4.1; rw [List.length_drop]; omega
 refine (hRt _ _ _ _ hil2).mono ?_
 rintro e w12 ⟨rfl, hf12⟩
 clear hil2 hil
 replace hX := hX.no hf12
 replace hO := hO.no hf12
 replace hF := hF.no hf12
 clear s0 t0 s1 t1 s2 t2 s3 t3 s4 t4 s5 t5 s6 t6 s7 t7 s8 t8
 have z0 := hO.c0
 have g0 := hO.fz 0
 have z1 := hO.c1
 have g1 := hO.fz 1
 have z2 := hO.c2
 have g2 := hO.fz 2
 have z3 := hO.c3
 have g3 := hO.fz 3
 have z4 := hO.c4
 have g4 := hO.fz 4
 have z5 := hO.c5
 have g5 := hO.fz 5
 have z6 := hO.c6
 have g6 := hO.fz 6
 have z7 := hO.c7
 have g7 := hO.fz 7
 have z8 := hO.c8
 have g8 := hO.fz 8
 go_wp2_with fail
 have hR := row_put9 hO (.int .i64 0) (.int .u64 0) (.int .u64 0) (.int .u64 0) (.int .u64 0) (.int .u64 0) (.int .u64 0) (.int .u64 0) (.slice none 0 0)
 have hP := fr_put9 w12 ob (.int .i64 0) (.int .u64 0) (.int .u64 0) (.int .u64 0) (.int .u64 0) (.int .u64 0) (.int .u64 0) (.int .u64 0) (.slice none 0 0)
 have cd0 := hR.c0
 have cd1 := hR.c1
 have cd2 := hR.c2
 have cd3 := hR.c3
 have cd4 := hR.c4
 have cd5 := hR.c5
 have cd6 := hR.c6
 have cd7 := hR.c7
 have cd8 := hR.c8
 refine bodyPost_ret (v := .tuple #[.agg #[.int .i64 0, .int .u64 0, .int .u64 0, .int .u64 0, .int .u64 0, .int .u64 0, .int .u64 0, .int .u64 0, .slice none 0 0], .int .i64 5]) (by simp [results, Tryz.results7, go_sem, cd0, cd1, cd2, cd3, cd4, cd5, cd6, cd7, cd8]) rfl ?_
 exact ⟨rfl, hF.trans hP (fun q hq => .inr (by omega))⟩
set_option maxHeartbeats 8000000 in
theorem Read_right (a : Option Addr) (n c : Nat) (b : Bytes) (w : World) (hb : IsBytes w a n c b) (hf : Formed b) (hc : checkB b = 0) (hR : RightB b) (hr : n ≤ 100000) : Calls Tryz.prog 7 #[.slice a n c] w (GivesIn a n c b w) := by
 have h1 := hf.head
 have h2 : ¬ sizeN (B8 (b.getD 1 0)) = 0 := hf.size
 have h3 : 62 ≤ n := by have := hf.len; have := hb.1; omega
 obtain ⟨_, _, hop1⟩ := openF_zero hf.opens
 have hil : (innerB b).length = n - 4 := by unfold innerB; rw [List.length_take]; have := hb.1; have := hf.len; omega
 have hkd : kindB b = B8 (b.getD 1 0) := rfl
 unfold checkB at hc
 unfold RightB at hR
 unfold GivesIn
 rw [hkd] at hc hR ⊢
 clear hkd
 have hHB := hb
 have hOp := fun w hb => refOpen_any a n c b w hb (by omega)
 unfold GivesOpenIn at hOp
 rw [hf.opens, hop1] at hOp
 clear hop1 hf
 generalize innerB b = i at *
 have hx : lanesB i = (wordB i 2, wordB i 3, wordB i 4, wordB i 5) := rfl
 rw [hx] at hR
 clear hx
 have hN : ∀ (j : Nat), j < 7 → ∀ a' n' c' w, IsBytes w a' n' c' i → Calls Tryz.prog 28 #[.slice a' n' c', .int .i64 (2 + 8 * (j : Int)), .int .i64 8] w (Gives (.int .u64 (W64 (wordB i j))) w) := fun j hj a' n' c' w hb => by
  have h := refNum_any a' n' c' i (2 + 8 * (j : Int)) 8 w hb (by omega) (by omega) (by omega) (by omega)
  rw [show (2 + 8 * (j : Int)).toNat = 2 + 8 * j by omega] at h
  exact h
 have hN0 := hN 0 (by omega)
 rw [show (2 + 8 * ((0 : Nat) : Int)) = 2 from rfl] at hN0
 have hN1 := hN 1 (by omega)
 rw [show (2 + 8 * ((1 : Nat) : Int)) = 10 from rfl] at hN1
 have hN2 := hN 2 (by omega)
 rw [show (2 + 8 * ((2 : Nat) : Int)) = 18 from rfl] at hN2
 have hN3 := hN 3 (by omega)
 rw [show (2 + 8 * ((3 : Nat) : Int)) = 26 from rfl] at hN3
 have hN4 := hN 4 (by omega)
 rw [show (2 + 8 * ((4 : Nat) : Int)) = 34 from rfl] at hN4
 have hN5 := hN 5 (by omega)
 rw [show (2 + 8 * ((5 : Nat) : Int)) = 42 from rfl] at hN5
 have hN6 := hN 6 (by omega)
 rw [show (2 + 8 * ((6 : Nat) : Int)) = 50 from rfl] at hN6
 clear hN
 generalize hx0 : wordB i 0 = x0 at hN0 hc hR ⊢
 generalize hx1 : wordB i 1 = x1 at hN1 hc hR ⊢
 generalize hx2 : wordB i 2 = x2 at hN2 hc hR ⊢
 generalize hx3 : wordB i 3 = x3 at hN3 hc hR ⊢
 generalize hx4 : wordB i 4 = x4 at hN4 hc hR ⊢
 generalize hx5 : wordB i 5 = x5 at hN5 hc hR ⊢
 generalize hx6 : wordB i 6 = x6 at hN6 hc hR ⊢
 clear hx0 hx1 hx2 hx3 hx4 hx5 hx6
 obtain ⟨bb, off, rfl, hcell⟩ := hb.known (by omega)
 have c0 := hcell 0 (by omega)
 have c1 := hcell 1 (by omega)
 rw [Nat.add_zero] at c0
 clear hcell
 generalize b.getD 0 0 = y0 at c0 h1
 subst h1
 have e0 : B8 104#8 = 104 := by decide
 rw [e0] at c0
 clear e0
 obtain ⟨y1, hy1⟩ : ∃ y, Hid (y = b.getD 1 0) := ⟨_, Lib.hid rfl⟩
 rw [← hy1.out] at c1 h2 hc hR ⊢
 have hS := refSize_any (B8 y1)
 generalize hsz : sizeN (B8 y1) = sz at hS h2
 clear hsz
 have e3 : (sz == 0) = false := by simpa using h2
 have i4 : ¬ (n : Int) < 62 := by omega
 have h : 2 ≤ n := by omega
 have hCk := refCheck_any (B8 y1) x1 x0
 have hk := check_ok hc
 rw [hc] at hCk
 have hRt := fun a' n' c' w (hl : n' = (i.drop 58).length) => refRight_all hk (x2, x3, x4, x5) x6 a' n' c' true (by rw [hl]; simp only [true_iff]; exact hR) w
 clear hc hR hk
 have hF := (Fr.refl No w).alloc (.cells #[.int .i64 0, .int .u64 0, .int .u64 0, .int .u64 0, .int .u64 0, .int .u64 0, .int .u64 0, .int .u64 0, .slice none 0 0] 33)
 replace c0 := hF.cell (fun h => h) c0
 replace c1 := hF.cell (fun h => h) c1
 have i1 : ¬ (n : Int) < 2 := by omega
 have i2 : (1 : Int) < (n : Int) := by omega
 have i3 : (0 : Int) < (n : Int) := by omega
 have hO := row9_new w 33 (.int .i64 0) (.int .u64 0) (.int .u64 0) (.int .u64 0) (.int .u64 0) (.int .u64 0) (.int .u64 0) (.int .u64 0) (.slice none 0 0)
 go_enter Tryz.func7, Tryz.ntmps7
 go_upto_region 1 with fail
 obtain ⟨ob, hob⟩ : ∃ ob, ob = w.heap.size := ⟨_, rfl⟩
 have hoe : w.heap.size ≤ ob := by omega
 rw [← hob] at hO ⊢
 clear hob
 generalize w.alloc (.cells #[.int .i64 0, .int .u64 0, .int .u64 0, .int .u64 0, .int .u64 0, .int .u64 0, .int .u64 0, .int .u64 0, .slice none 0 0] 33) = w1 at hO hF c0 c1 ⊢
 have hX := row9_new w1 33 (.int .i64 (B8 y1)) (.int .u64 0) (.int .u64 0) (.int .u64 0) (.int .u64 0) (.int .u64 0) (.int .u64 0) (.int .u64 0) (.slice none 0 0)
 have hA := (Fr.refl No w1).alloc (.cells #[.int .i64 (B8 y1), .int .u64 0, .int .u64 0, .int .u64 0, .int .u64 0, .int .u64 0, .int .u64 0, .int .u64 0, .slice none 0 0] 33)
 have hlo := hO.lt
 have hls := hF.size
 go_upto_region 6 with fail
 obtain ⟨xb, hxb⟩ : ∃ xb, xb = w1.heap.size := ⟨_, rfl⟩
 have hxe : w.heap.size ≤ xb := by omega
 have hxo : ob < xb := by omega
 rw [← hxb] at hX ⊢
 clear hxb hlo
 generalize w1.alloc (.cells #[.int .i64 (B8 y1), .int .u64 0, .int .u64 0, .int .u64 0, .int .u64 0, .int .u64 0, .int .u64 0, .int .u64 0, .slice none 0 0] 33) = w2 at hX hA ⊢
 have k0 := hX.c0
 go_wp2_with fail
 clear k0
 refine (hS _).mono ?_
 rintro e w3 ⟨rfl, hf3⟩
 replace hO := (hO.no hA).no hf3
 replace hF := (hF.no hA).no hf3
 replace hX := hX.no hf3
 go_wp2_with fail
 refine (hOp _ (hHB.no hF)).mono ?_
 rintro e w4 ⟨a4, n4, c4, rfl, hp4, hf4⟩
 replace hO := hO.no hf4
 replace hF := hF.no hf4
 replace hX := hX.no hf4
 clear hOp hS
 have hi4 := hp4 _ (hHB.no hF)
 have hn4 : n4 = n - 4 := by rw [← hil]; exact hi4.1.symm
 have i58 : 58 ≤ n4 := by omega
 have j58 : (58 : Int) ≤ (n4 : Int) := by omega
 have hnc4 : n4 ≤ c4 := hi4.2.1
 clear hn4
 have s0 := hX.c0
 have t0 := hX.fz 0
 have s1 := hX.c1
 have t1 := hX.fz 1
 have s2 := hX.c2
 have t2 := hX.fz 2
 have s3 := hX.c3
 have t3 := hX.fz 3
 have s4 := hX.c4
 have t4 := hX.fz 4
 have s5 := hX.c5
 have t5 := hX.fz 5
 have s6 := hX.c6
 have t6 := hX.fz 6
 have s7 := hX.c7
 have t7 := hX.fz 7
 have s8 := hX.c8
 have t8 := hX.fz 8
 go_wp2_with fail
 refine (hN1 _ _ _ _ hi4).mono ?_
 rintro e w' ⟨rfl, rfl⟩
 go_wp2_with fail
 refine (hN0 _ _ _ _ hi4).mono ?_
 rintro e w' ⟨rfl, rfl⟩
 go_upto_region 14 with fail
 clear s0 t0 s1 t1 s2 t2 s3 t3 s4 t4 s5 t5 s6 t6 s7 t7 s8 t8
 replace hX := ((hX.put1 (.int .u64 (W64 x1))).put2 (.int .u64 (W64 x0)))
 have hP := (((Fr.refl (fun q => q = xb) w4).setCell (p := ⟨xb, 1, none⟩) (.inl rfl) (.int .u64 (W64 x1))).setCell (p := ⟨xb, 2, none⟩) (.inl rfl) (.int .u64 (W64 x0)))
 replace hF := hF.trans hP (fun q hq => .inr (by omega))
 replace hO := hO.fr hP (by omega)
 clear hP
 generalize (w4.setCell ⟨xb, 1, none⟩ (.int .u64 (W64 x1))).setCell ⟨xb, 2, none⟩ (.int .u64 (W64 x0)) = w5 at hX hF hO ⊢
 have hiw5 := hp4 _ (hHB.no hF)
 have s0 := hX.c0
 have t0 := hX.fz 0
 have s1 := hX.c1
 have t1 := hX.fz 1
 have s2 := hX.c2
 have t2 := hX.fz 2
 have s3 := hX.c3
 have t3 := hX.fz 3
 have s4 := hX.c4
 have t4 := hX.fz 4
 have s5 := hX.c5
 have t5 := hX.fz 5
 have s6 := hX.c6
 have t6 := hX.fz 6
 have s7 := hX.c7
 have t7 := hX.fz 7
 have s8 := hX.c8
 have t8 := hX.fz 8
 go_wp2_with fail
 refine wp_loop_rounds 5 ?_
 rw [rounds_succ]
 go_wp2_with fail
 refine (hN2 _ _ _ _ hiw5).mono ?_
 rintro e w' ⟨rfl, rfl⟩
 go_wp2_with fail
 clear s0 t0 s1 t1 s2 t2 s3 t3 s4 t4 s5 t5 s6 t6 s7 t7 s8 t8
 replace hX := (hX.put3 (.int .u64 (W64 x2)))
 have hP := ((Fr.refl (fun q => q = xb) w5).setCell (p := ⟨xb, 3, none⟩) (.inl rfl) (.int .u64 (W64 x2)))
 replace hF := hF.trans hP (fun q hq => .inr (by omega))
 replace hO := hO.fr hP (by omega)
 clear hP
 generalize w5.setCell ⟨xb, 3, none⟩ (.int .u64 (W64 x2)) = w6 at hX hF hO ⊢
 have hiw6 := hp4 _ (hHB.no hF)
 have s0 := hX.c0
 have t0 := hX.fz 0
 have s1 := hX.c1
 have t1 := hX.fz 1
 have s2 := hX.c2
 have t2 := hX.fz 2
 have s3 := hX.c3
 have t3 := hX.fz 3
 have s4 := hX.c4
 have t4 := hX.fz 4
 have s5 := hX.c5
 have t5 := hX.fz 5
 have s6 := hX.c6
 have t6 := hX.fz 6
 have s7 := hX.c7
 have t7 := hX.fz 7
 have s8 := hX.c8
 have t8 := hX.fz 8
 rw [rounds_succ]
 go_wp2_with fail
 refine (hN3 _ _ _ _ hiw6).mono ?_
 rintro e w' ⟨rfl, rfl⟩
 go_wp2_with fail
 clear s0 t0 s1 t1 s2 t2 s3 t3 s4 t4 s5 t5 s6 t6 s7 t7 s8 t8
 replace hX := (hX.put4 (.int .u64 (W64 x3)))
 have hP := ((Fr.refl (fun q => q = xb) w6).setCell (p := ⟨xb, 4, none⟩) (.inl rfl) (.int .u64 (W64 x3)))
 replace hF := hF.trans hP (fun q hq => .inr (by omega))
 replace hO := hO.fr hP (by omega)
 clear hP
 generalize w6.setCell ⟨xb, 4, none⟩ (.int .u64 (W64 x3)) = w7 at hX hF hO ⊢
 have hiw7 := hp4 _ (hHB.no hF)
 have s0 := hX.c0
 have t0 := hX.fz 0
 have s1 := hX.c1
 have t1 := hX.fz 1
 have s2 := hX.c2
 have t2 := hX.fz 2
 have s3 := hX.c3
 have t3 := hX.fz 3
 have s4 := hX.c4
 have t4 := hX.fz 4
 have s5 := hX.c5
 have t5 := hX.fz 5
 have s6 := hX.c6
 have t6 := hX.fz 6
 have s7 := hX.c7
 have t7 := hX.fz 7
 have s8 := hX.c8
 have t8 := hX.fz 8
 rw [rounds_succ]
 go_wp2_with fail
 refine (hN4 _ _ _ _ hiw7).mono ?_
 rintro e w' ⟨rfl, rfl⟩
 go_wp2_with fail
 clear s0 t0 s1 t1 s2 t2 s3 t3 s4 t4 s5 t5 s6 t6 s7 t7 s8 t8
 replace hX := (hX.put5 (.int .u64 (W64 x4)))
 have hP := ((Fr.refl (fun q => q = xb) w7).setCell (p := ⟨xb, 5, none⟩) (.inl rfl) (.int .u64 (W64 x4)))
 replace hF := hF.trans hP (fun q hq => .inr (by omega))
 replace hO := hO.fr hP (by omega)
 clear hP
 generalize w7.setCell ⟨xb, 5, none⟩ (.int .u64 (W64 x4)) = w8 at hX hF hO ⊢
 have hiw8 := hp4 _ (hHB.no hF)
 have s0 := hX.c0
 have t0 := hX.fz 0
 have s1 := hX.c1
 have t1 := hX.fz 1
 have s2 := hX.c2
 have t2 := hX.fz 2
 have s3 := hX.c3
 have t3 := hX.fz 3
 have s4 := hX.c4
 have t4 := hX.fz 4
 have s5 := hX.c5
 have t5 := hX.fz 5
 have s6 := hX.c6
 have t6 := hX.fz 6
 have s7 := hX.c7
 have t7 := hX.fz 7
 have s8 := hX.c8
 have t8 := hX.fz 8
 rw [rounds_succ]
 go_wp2_with fail
 refine (hN5 _ _ _ _ hiw8).mono ?_
 rintro e w' ⟨rfl, rfl⟩
 go_wp2_with fail
 clear s0 t0 s1 t1 s2 t2 s3 t3 s4 t4 s5 t5 s6 t6 s7 t7 s8 t8
 replace hX := (hX.put6 (.int .u64 (W64 x5)))
 have hP := ((Fr.refl (fun q => q = xb) w8).setCell (p := ⟨xb, 6, none⟩) (.inl rfl) (.int .u64 (W64 x5)))
 replace hF := hF.trans hP (fun q hq => .inr (by omega))
 replace hO := hO.fr hP (by omega)
 clear hP
 generalize w8.setCell ⟨xb, 6, none⟩ (.int .u64 (W64 x5)) = w9 at hX hF hO ⊢
 have hiw9 := hp4 _ (hHB.no hF)
 have s0 := hX.c0
 have t0 := hX.fz 0
 have s1 := hX.c1
 have t1 := hX.fz 1
 have s2 := hX.c2
 have t2 := hX.fz 2
 have s3 := hX.c3
 have t3 := hX.fz 3
 have s4 := hX.c4
 have t4 := hX.fz 4
 have s5 := hX.c5
 have t5 := hX.fz 5
 have s6 := hX.c6
 have t6 := hX.fz 6
 have s7 := hX.c7
 have t7 := hX.fz 7
 have s8 := hX.c8
 have t8 := hX.fz 8
 rw [rounds_succ]
 go_wp2_with fail
 refine (hN6 _ _ _ _ hiw9).mono ?_
 rintro e w' ⟨rfl, rfl⟩
 go_upto_region 20 with fail
 clear s0 t0 s1 t1 s2 t2 s3 t3 s4 t4 s5 t5 s6 t6 s7 t7 s8 t8
 replace hX := ((hX.put7 (.int .u64 (W64 x6))).put8 (.slice (subAddr a4 58 c4 1) (n4 - 58) (c4 - 58)))
 have hP := (((Fr.refl (fun q => q = xb) w9).setCell (p := ⟨xb, 7, none⟩) (.inl rfl) (.int .u64 (W64 x6))).setCell (p := ⟨xb, 8, none⟩) (.inl rfl) (.slice (subAddr a4 58 c4 1) (n4 - 58) (c4 - 58)))
 replace hF := hF.trans hP (fun q hq => .inr (by omega))
 replace hO := hO.fr hP (by omega)
 clear hP
 generalize (w9.setCell ⟨xb, 7, none⟩ (.int .u64 (W64 x6))).setCell ⟨xb, 8, none⟩ (.slice (subAddr a4 58 c4 1) (n4 - 58) (c4 - 58)) = w10 at hX hF hO ⊢
 have hiw10 := hp4 _ (hHB.no hF)
 have s0 := hX.c0
 have t0 := hX.fz 0
 have s1 := hX.c1
 have t1 := hX.fz 1
 have s2 := hX.c2
 have t2 := hX.fz 2
 have s3 := hX.c3
 have t3 := hX.fz 3
 have s4 := hX.c4
 have t4 := hX.fz 4
 have s5 := hX.c5
 have t5 := hX.fz 5
 have s6 := hX.c6
 have t6 := hX.fz 6
 have s7 := hX.c7
 have t7 := hX.fz 7
 have s8 := hX.c8
 have t8 := hX.fz 8
 go_wp2_with fail
 refine (hCk _).mono ?_
 rintro e w11 ⟨rfl, hf11⟩
 replace hX := hX.no hf11
 replace hO := hO.no hf11
 replace hF := hF.no hf11
 clear s0 t0 s1 t1 s2 t2 s3 t3 s4 t4 s5 t5 s6 t6 s7 t7 s8 t8
 have s0 := hX.c0
 have t0 := hX.fz 0
 have s1 := hX.c1
 have t1 := hX.fz 1
 have s2 := hX.c2
 have t2 := hX.fz 2
 have s3 := hX.c3
 have t3 := hX.fz 3
 have s4 := hX.c4
 have t4 := hX.fz 4
 have s5 := hX.c5
 have t5 := hX.fz 5
 have s6 := hX.c6
 have t6 := hX.fz 6
 have s7 := hX.c7
 have t7 := hX.fz 7
 have s8 := hX.c8
 have t8 := hX.fz 8
 go_wp2_with fail
 have hil2 : n4 - 58 = (i.drop 58).length := by have := hi4.1; rw [List.length_drop]; omega
 refine (hRt _ _ _ _ hil2).mono ?_
 rintro e w12 ⟨rfl, hf12⟩
 clear hil2 hil
 replace hX := hX.no hf12
 replace hO := hO.no hf12
 replace hF := hF.no hf12
 clear s0 t0 s1 t1 s2 t2 s3 t3 s4 t4 s5 t5 s6 t6 s7 t7 s8 t8
 have s0 := hX.c0
 have t0 := hX.fz 0
 have s1 := hX.c1
 have t1 := hX.fz 1
 have s2 := hX.c2
 have t2 := hX.fz 2
 have s3 := hX.c3
 have t3 := hX.fz 3
 have s4 := hX.c4
 have t4 := hX.fz 4
 have s5 := hX.c5
 have t5 := hX.fz 5
 have s6 := hX.c6
 have t6 := hX.fz 6
 have s7 := hX.c7
 have t7 := hX.fz 7
 have s8 := hX.c8
 have t8 := hX.fz 8
 have z0 := hO.c0
 have g0 := hO.fz 0
 have z1 := hO.c1
 have g1 := hO.fz 1
 have z2 := hO.c2
 have g2 := hO.fz 2
 have z3 := hO.c3
 have g3 := hO.fz 3
 have z4 := hO.c4
 have g4 := hO.fz 4
 have z5 := hO.c5
 have g5 := hO.fz 5
 have z6 := hO.c6
 have g6 := hO.fz 6
 have z7 := hO.c7
 have g7 := hO.fz 7
 have z8 := hO.c8
 have g8 := hO.fz 8
 go_wp2_with fail
 have hR := row_put9 hO (.int .i64 (B8 y1)) (.int .u64 (W64 x1)) (.int .u64 (W64 x0)) (.int .u64 (W64 x2)) (.int .u64 (W64 x3)) (.int .u64 (W64 x4)) (.int .u64 (W64 x5)) (.int .u64 (W64 x6)) (.slice (subAddr a4 58 c4 1) (n4 - 58) (c4 - 58))
 have hP := fr_put9 w12 ob (.int .i64 (B8 y1)) (.int .u64 (W64 x1)) (.int .u64 (W64 x0)) (.int .u64 (W64 x2)) (.int .u64 (W64 x3)) (.int .u64 (W64 x4)) (.int .u64 (W64 x5)) (.int .u64 (W64 x6)) (.slice (subAddr a4 58 c4 1) (n4 - 58) (c4 - 58))
 have cd0 := hR.c0
 have cd1 := hR.c1
 have cd2 := hR.c2
 have cd3 := hR.c3
 have cd4 := hR.c4
 have cd5 := hR.c5
 have cd6 := hR.c6
 have cd7 := hR.c7
 have cd8 := hR.c8
 refine bodyPost_ret (v := .tuple #[.agg #[.int .i64 (B8 y1), .int .u64 (W64 x1), .int .u64 (W64 x0), .int .u64 (W64 x2), .int .u64 (W64 x3), .int .u64 (W64 x4), .int .u64 (W64 x5), .int .u64 (W64 x6), .slice (subAddr a4 58 c4 1) (n4 - 58) (c4 - 58)], .int .i64 0]) (by simp [results, Tryz.results7, go_sem, cd0, cd1, cd2, cd3, cd4, cd5, cd6, cd7, cd8]) rfl ?_
 exact ⟨_, _, _, rfl, fun w2 h2 => (hp4 w2 h2).cut_to_end 58 i58 rfl rfl, hF.trans hP (fun q hq => .inr (by omega))⟩
end Go.Proofs.YtidlpihoafnobaaGreatDoor
