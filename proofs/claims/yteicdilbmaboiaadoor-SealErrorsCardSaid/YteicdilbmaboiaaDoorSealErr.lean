/- seal.Wrap, Errno, At. -/
import Derived.Test.YteicdilbmaboiaaDoorAs
import Derived.Test.YteicdilbmaboiaaDoorSeal
namespace Go.Proofs.YteicdilbmaboiaaDoor
set_option maxRecDepth 100000
set_option linter.unusedVariables false
set_option linter.unusedSimpArgs false
open Go.RowKit

/-- An error at a place lies in block b. -/
def Placed (w : World) (b : Nat) (e at_ : Int) : Prop := w.heap[b]? = some (.cells #[.iface 51 (.int .i64 e), .int .i64 at_] 53 (0, 0))
section
variable {w w' : World} {b : Nat} {e at_ : Int}
theorem Placed.c0 (h : Placed w b e at_) : w.cell? ⟨b, 0, none⟩ = some (.iface 51 (.int .i64 e)) := by rw [cell_of_row w b 0 _ _ _ h]; rfl
theorem Placed.c1 (h : Placed w b e at_) : w.cell? ⟨b, 1, none⟩ = some (.int .i64 at_) := by rw [cell_of_row w b 1 _ _ _ h]; rfl
theorem Placed.no (h : Placed w b e at_) (k : Fr No w w') : Placed w' b e at_ := k.heap (fun h => h) h
theorem Placed.fr {F : Nat → Prop} (h : Placed w b e at_) (k : Fr F w w') (hF : ¬ F b) : Placed w' b e at_ := k.heap hF h
theorem Placed.lt (h : Placed w b e at_) : b < w.heap.size := (Array.getElem?_eq_some_iff.1 h).1
end
/-- A block of one cell. -/
def Row1 (w : World) (b : Nat) (T : TypeId) (v : Value) : Prop := w.heap[b]? = some (.cells #[v] T (0, 0))
theorem Row1.c0 {w : World} {b : Nat} {T : TypeId} {v : Value} (h : Row1 w b T v) : w.cell? ⟨b, 0, none⟩ = some v := by rw [cell_of_row w b 0 _ _ _ h]; rfl
theorem Row1.fz {w : World} {b : Nat} {T : TypeId} {v : Value} (h : Row1 w b T v) : w.frozen? ⟨b, 0, none⟩ = false := frozen_of_row w b 0 _ _ h
theorem Row1.lt {w : World} {b : Nat} {T : TypeId} {v : Value} (h : Row1 w b T v) : b < w.heap.size := (Array.getElem?_eq_some_iff.1 h).1
theorem Row1.no {w w' : World} {b : Nat} {T : TypeId} {v : Value} (h : Row1 w b T v) (k : Fr No w w') : Row1 w' b T v := k.heap (fun h => h) h
theorem Row1.put {w : World} {b : Nat} {T : TypeId} {v : Value} (h : Row1 w b T v) (x : Value) : Row1 (w.setCell ⟨b, 0, none⟩ x) b T x := by unfold Row1; rw [heap_setCell_same w b 0 _ _ x h]; rfl
theorem row1_new (w : World) (T : TypeId) (v : Value) : Row1 (w.alloc (.cells #[v] T)) w.heap.size T v := heap_alloc_new w _
/-- errors.As found it: the target holds it. -/
def Found (tb : Nat) (T : TypeId) (v : Value) (w : World) (e : Ending) (w' : World) : Prop := e = .returned (.bool true) ∧ Row1 w' tb T v ∧ Fr (fun x => x = tb) w w'
theorem as_toldF {w : World} {pb : Nat} {e at_ : Int} (hp : Placed w pb e at_) (hg : ErrT w) (tb : Nat) (T : TypeId) (old : Value) (ht : Row1 w tb T old) :
    Calls Tryd.prog 26 #[.iface 50 (.pointer (some ⟨pb, 0, none⟩)), .iface 55 (.pointer (some ⟨tb, 0, none⟩))] w (Found tb T (.int .i64 e) w) := by
  refine (as_told pb e ⟨tb, 0, none⟩ old w hp.c0 hg ht.c0 ht.fz).mono ?_
  rintro ev w' ⟨rfl, rfl⟩
  have hf := (((((Fr.refl No w).alloc _).alloc _).alloc _).alloc _ : Fr No w ((((w.alloc (.cells #[.pointer (some ⟨tb, 0, none⟩)] 55)).alloc (.cells #[.pointer (some ⟨4, 55, none⟩), .pointer (some ⟨w.heap.size, 0, none⟩), .int .u64 150] 68)).alloc (.cells #[.pointer (some ⟨4, 55, none⟩), .pointer (some ⟨w.heap.size, 0, none⟩), .int .u64 150] 68)).alloc (.cells #[.int .i64 e] 51)))
  exact ⟨rfl, (ht.no hf).put _, (hf.mono (G := fun x => x = tb) (fun _ _ f => f.elim)).setCell (p := ⟨tb, 0, none⟩) (.inl rfl) _⟩
theorem as_placedF {w : World} {pb : Nat} (hg : ErrT w) (tb : Nat) (T : TypeId) (old : Value) (ht : Row1 w tb T old) :
    Calls Tryd.prog 26 #[.iface 50 (.pointer (some ⟨pb, 0, none⟩)), .iface 56 (.pointer (some ⟨tb, 0, none⟩))] w (Found tb T (.pointer (some ⟨pb, 0, none⟩)) w) := by
  refine (as_placed ⟨pb, 0, none⟩ ⟨tb, 0, none⟩ old w hg ht.c0 ht.fz).mono ?_
  rintro ev w' ⟨rfl, rfl⟩
  have hf := (((((Fr.refl No w).alloc _).alloc _).alloc _).alloc _ : Fr No w ((((w.alloc (.cells #[.pointer (some ⟨tb, 0, none⟩)] 56)).alloc (.cells #[.pointer (some ⟨4, 56, none⟩), .pointer (some ⟨w.heap.size, 0, none⟩), .int .u64 150] 68)).alloc (.cells #[.pointer (some ⟨4, 56, none⟩), .pointer (some ⟨w.heap.size, 0, none⟩), .int .u64 150] 68)).alloc (.cells #[.pointer (some ⟨pb, 0, none⟩)] 50)))
  exact ⟨rfl, (ht.no hf).put _, (hf.mono (G := fun x => x = tb) (fun _ _ f => f.elim)).setCell (p := ⟨tb, 0, none⟩) (.inl rfl) _⟩
/-- It returns an error at a place. -/
def GivesErr (e at_ : Int) (w : World) (ev : Ending) (w' : World) : Prop := ∃ b, ev = .returned (.iface 50 (.pointer (some ⟨b, 0, none⟩))) ∧ Placed w' b e at_ ∧ w.heap.size ≤ b ∧ Fr No w w'
theorem Wrap_any (e at_ : Int) (he : e ≠ 0) (w : World) : Calls Tryd.prog 14 #[.int .i64 e, .int .i64 at_] w (GivesErr e at_ w) := by
  go_enter Tryd.func14, Tryd.ntmps14
  go_wp2
  go_ret
  exact ⟨w.heap.size, rfl, heap_alloc_new w _, Nat.le_refl _, (Fr.refl No w).alloc _⟩
theorem Wrap_ok (at_ : Int) (w : World) : Calls Tryd.prog 14 #[.int .i64 0, .int .i64 at_] w (Gives .nilIface w) := by
  go_enter Tryd.func14, Tryd.ntmps14
  go_wp2
  go_ret
  exact ⟨rfl, rfl⟩
theorem Errno_any {w : World} {b : Nat} {e at_ : Int} (h : Placed w b e at_) (hg : ErrT w) : Calls Tryd.prog 15 #[.iface 50 (.pointer (some ⟨b, 0, none⟩))] w (GivesNew (.int .i64 e) w) := by
  have hf : Fr No w (w.alloc (.cells #[.int .i64 0] 51)) := (Fr.refl No w).alloc _
  have ht := row1_new w 51 (.int .i64 0)
  have h1 := h.no hf
  have g1 := hg.no hf
  go_enter Tryd.func15, Tryd.ntmps15
  go_wp2_with fail
  obtain ⟨tb, htb⟩ : ∃ tb, tb = w.heap.size := ⟨_, rfl⟩
  have hge : w.heap.size ≤ tb := by omega
  rw [← htb] at ht ⊢
  clear htb
  generalize w.alloc (.cells #[.int .i64 0] 51) = w1 at hf ht h1 g1 ⊢
  refine (as_toldF h1 g1 tb _ _ ht).mono ?_
  rintro ev w2 ⟨rfl, hr, hf2⟩
  have c0 := hr.c0
  go_wp2_with fail
  go_ret
  exact ⟨rfl, hf.trans hf2 (fun x hx => .inr (by omega))⟩
theorem Errno_nil (w : World) : Calls Tryd.prog 15 #[.nilIface] w (GivesNew (.int .i64 0) w) := by
  go_enter Tryd.func15, Tryd.ntmps15
  go_wp2
  go_ret
  exact ⟨rfl, (Fr.refl No w).alloc _⟩
theorem At_any {w : World} {b : Nat} {e at_ : Int} (h : Placed w b e at_) (hg : ErrT w) : Calls Tryd.prog 16 #[.iface 50 (.pointer (some ⟨b, 0, none⟩))] w (GivesNew (.int .i64 at_) w) := by
  have hf : Fr No w (w.alloc (.cells #[.pointer none] 50)) := (Fr.refl No w).alloc _
  have ht := row1_new w 50 (.pointer none)
  have h1 := h.no hf
  have g1 := hg.no hf
  have hlt := h.lt
  go_enter Tryd.func16, Tryd.ntmps16
  go_wp2_with fail
  obtain ⟨tb, htb⟩ : ∃ tb, tb = w.heap.size := ⟨_, rfl⟩
  have hge : w.heap.size ≤ tb := by omega
  rw [← htb] at ht ⊢
  clear htb
  generalize w.alloc (.cells #[.pointer none] 50) = w1 at hf ht h1 g1 ⊢
  refine (as_placedF g1 tb _ _ ht).mono ?_
  rintro ev w2 ⟨rfl, hr, hf2⟩
  have c0 := hr.c0
  have c1 := (h1.fr hf2 (by omega)).c1
  go_wp2_with fail
  go_ret
  exact ⟨rfl, hf.trans hf2 (fun x hx => .inr (by omega))⟩
theorem At_nil (w : World) : Calls Tryd.prog 16 #[.nilIface] w (GivesNew (.int .i64 (-1)) w) := by
  go_enter Tryd.func16, Tryd.ntmps16
  go_wp2_with fail
  refine (as_nil _ _).mono ?_
  rintro ev w' ⟨rfl, rfl⟩
  go_wp2_with fail
  go_ret
  exact ⟨rfl, (Fr.refl No w).alloc _⟩
theorem awake16_yes (w : World) (hg : ErrT w) : Calls Tryd.prog 6 #[] w (Yes w) := by
  go_enter Tryd.func6, Tryd.ntmps6
  go_wp2_with fail
  refine (Wrap_any 4 3 (by omega) _).mono ?_
  rintro ev w1 ⟨b, rfl, hp, _, hf1⟩
  have g1 := hg.no hf1
  go_wp2_with fail
  refine (Errno_any hp g1).mono ?_
  rintro ev w2 ⟨rfl, hf2⟩
  have hp2 := hp.no hf2
  have g2 := g1.no hf2
  go_wp2_with fail
  refine (At_any hp2 g2).mono ?_
  rintro ev w3 ⟨rfl, hf3⟩
  go_wp2_with fail
  refine (Seal_any none 0 0 [] _ (IsBytes.nil _) (by omega)).mono ?_
  rintro ev w4 ⟨v, rfl, ho, hf4⟩
  obtain ⟨a4, c4, rfl, _, _⟩ := ho.bytes
  have hl : (sealF []).length = 4 := by rw [sealF_length]; rfl
  rw [hl]
  clear hl ho
  go_wp2_with fail
  go_ret
  exact ⟨rfl, ((hf1.no hf2).no hf3).no hf4⟩
end Go.Proofs.YteicdilbmaboiaaDoor
