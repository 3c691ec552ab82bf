/- A block of four cells: what stands there, and a store of all four. No program in sight. -/
import Derived.Test.YtcbbllfgelnpjaaBytes
namespace Go.Proofs.Ytcbbllfgelnpjaa
set_option linter.unusedVariables false
set_option linter.unusedSimpArgs false
open Go.RowKit

def Row4 (w : World) (b : Nat) (T : TypeId) (v0 v1 v2 v3 : Value) : Prop := w.heap[b]? = some (.cells #[v0, v1, v2, v3] T (0, 0))
section
variable {w w' : World} {b : Nat} {T : TypeId} {v0 v1 v2 v3 : Value}
theorem Row4.c0 (h : Row4 w b T v0 v1 v2 v3) : w.cell? ⟨b, 0, none⟩ = some v0 := by rw [cell_of_row w b 0 _ _ _ h]; rfl
theorem Row4.c1 (h : Row4 w b T v0 v1 v2 v3) : w.cell? ⟨b, 1, none⟩ = some v1 := by rw [cell_of_row w b 1 _ _ _ h]; rfl
theorem Row4.c2 (h : Row4 w b T v0 v1 v2 v3) : w.cell? ⟨b, 2, none⟩ = some v2 := by rw [cell_of_row w b 2 _ _ _ h]; rfl
theorem Row4.c3 (h : Row4 w b T v0 v1 v2 v3) : w.cell? ⟨b, 3, none⟩ = some v3 := by rw [cell_of_row w b 3 _ _ _ h]; rfl
theorem Row4.fz (h : Row4 w b T v0 v1 v2 v3) (k : Nat) : w.frozen? ⟨b, k, none⟩ = false := frozen_of_row w b k _ _ h
theorem Row4.lt (h : Row4 w b T v0 v1 v2 v3) : b < w.heap.size := (Array.getElem?_eq_some_iff.1 h).1
theorem Row4.fr {F : Nat → Prop} (h : Row4 w b T v0 v1 v2 v3) (k : Fr F w w') (hF : ¬ F b) : Row4 w' b T v0 v1 v2 v3 := k.heap hF h
theorem Row4.no (h : Row4 w b T v0 v1 v2 v3) (k : Fr No w w') : Row4 w' b T v0 v1 v2 v3 := k.heap (fun h => h) h
theorem Row4.put0 (h : Row4 w b T v0 v1 v2 v3) (x : Value) : Row4 (w.setCell ⟨b, 0, none⟩ x) b T x v1 v2 v3 := by unfold Row4; rw [heap_setCell_same w b 0 _ _ x h]; rfl
theorem Row4.put1 (h : Row4 w b T v0 v1 v2 v3) (x : Value) : Row4 (w.setCell ⟨b, 1, none⟩ x) b T v0 x v2 v3 := by unfold Row4; rw [heap_setCell_same w b 1 _ _ x h]; rfl
theorem Row4.put2 (h : Row4 w b T v0 v1 v2 v3) (x : Value) : Row4 (w.setCell ⟨b, 2, none⟩ x) b T v0 v1 x v3 := by unfold Row4; rw [heap_setCell_same w b 2 _ _ x h]; rfl
theorem Row4.put3 (h : Row4 w b T v0 v1 v2 v3) (x : Value) : Row4 (w.setCell ⟨b, 3, none⟩ x) b T v0 v1 v2 x := by unfold Row4; rw [heap_setCell_same w b 3 _ _ x h]; rfl
theorem row_put4 (h : Row4 w b T v0 v1 v2 v3) (x0 x1 x2 x3 : Value) : Row4 ((((w.setCell ⟨b, 0, none⟩ x0).setCell ⟨b, 1, none⟩ x1).setCell ⟨b, 2, none⟩ x2).setCell ⟨b, 3, none⟩ x3) b T x0 x1 x2 x3 :=
  (((h.put0 x0).put1 x1).put2 x2).put3 x3
theorem fr_put4 (w : World) (b : Nat) (x0 x1 x2 x3 : Value) : Fr (fun x => x = b) w ((((w.setCell ⟨b, 0, none⟩ x0).setCell ⟨b, 1, none⟩ x1).setCell ⟨b, 2, none⟩ x2).setCell ⟨b, 3, none⟩ x3) :=
  ((((Fr.refl (fun x => x = b) w).setCell (p := ⟨b, 0, none⟩) (.inl rfl) _).setCell (p := ⟨b, 1, none⟩) (.inl rfl) _).setCell (p := ⟨b, 2, none⟩) (.inl rfl) _).setCell (p := ⟨b, 3, none⟩) (.inl rfl) _
theorem row4_new (w : World) (T : TypeId) (v0 v1 v2 v3 : Value) : Row4 (w.alloc (.cells #[v0, v1, v2, v3] T)) w.heap.size T v0 v1 v2 v3 := heap_alloc_new w _
end
end Go.Proofs.Ytcbbllfgelnpjaa
