/- A block of two cells: what stands there, and a store of both. No program in sight. -/
import Derived.Test.YtcbbllfgelnpjaaBytes
namespace Go.Proofs.Ytcbbllfgelnpjaa
set_option linter.unusedVariables false
set_option linter.unusedSimpArgs false
open Go.RowKit

def Row2 (w : World) (b : Nat) (T : TypeId) (v0 v1 : Value) : Prop := w.heap[b]? = some (.cells #[v0, v1] T (0, 0))
section
variable {w w' : World} {b : Nat} {T : TypeId} {v0 v1 : Value}
theorem Row2.c0 (h : Row2 w b T v0 v1) : w.cell? ⟨b, 0, none⟩ = some v0 := by rw [cell_of_row w b 0 _ _ _ h]; rfl
theorem Row2.c1 (h : Row2 w b T v0 v1) : w.cell? ⟨b, 1, none⟩ = some v1 := by rw [cell_of_row w b 1 _ _ _ h]; rfl
theorem Row2.fz (h : Row2 w b T v0 v1) (k : Nat) : w.frozen? ⟨b, k, none⟩ = false := frozen_of_row w b k _ _ h
theorem Row2.lt (h : Row2 w b T v0 v1) : b < w.heap.size := (Array.getElem?_eq_some_iff.1 h).1
theorem Row2.fr {F : Nat → Prop} (h : Row2 w b T v0 v1) (k : Fr F w w') (hF : ¬ F b) : Row2 w' b T v0 v1 := k.heap hF h
theorem Row2.no (h : Row2 w b T v0 v1) (k : Fr No w w') : Row2 w' b T v0 v1 := k.heap (fun h => h) h
theorem Row2.put0 (h : Row2 w b T v0 v1) (x : Value) : Row2 (w.setCell ⟨b, 0, none⟩ x) b T x v1 := by unfold Row2; rw [heap_setCell_same w b 0 _ _ x h]; rfl
theorem Row2.put1 (h : Row2 w b T v0 v1) (x : Value) : Row2 (w.setCell ⟨b, 1, none⟩ x) b T v0 x := by unfold Row2; rw [heap_setCell_same w b 1 _ _ x h]; rfl
theorem row_put2 (h : Row2 w b T v0 v1) (x0 x1 : Value) : Row2 ((w.setCell ⟨b, 0, none⟩ x0).setCell ⟨b, 1, none⟩ x1) b T x0 x1 := (h.put0 x0).put1 x1
theorem fr_put1 (w : World) (b k : Nat) (x : Value) : Fr (fun y => y = b) w (w.setCell ⟨b, k, none⟩ x) := (Fr.refl (fun x => x = b) w).setCell (p := ⟨b, k, none⟩) (.inl rfl) _
theorem fr_put2 (w : World) (b : Nat) (x0 x1 : Value) : Fr (fun x => x = b) w ((w.setCell ⟨b, 0, none⟩ x0).setCell ⟨b, 1, none⟩ x1) :=
  ((Fr.refl (fun x => x = b) w).setCell (p := ⟨b, 0, none⟩) (.inl rfl) _).setCell (p := ⟨b, 1, none⟩) (.inl rfl) _
theorem row2_new (w : World) (T : TypeId) (v0 v1 : Value) : Row2 (w.alloc (.cells #[v0, v1] T)) w.heap.size T v0 v1 := heap_alloc_new w _
end
end Go.Proofs.Ytcbbllfgelnpjaa
