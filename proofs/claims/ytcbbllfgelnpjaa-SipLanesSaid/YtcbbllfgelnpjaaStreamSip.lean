/- block.Stream[[4]uint64] and block.Fold[[4]uint64]: what they give, by any step. -/
import Derived.Test.YtcbbllfgelnpjaaClone
import Derived.Test.YtcbbllfgelnpjaaOrder
import Derived.Test.YtcbbllfgelnpjaaFold
import Derived.Deep.RegionHeld3
import Derived.Deep.QuietTactic
namespace Go.Proofs.Ytcbbllfgelnpjaa.StSip
set_option linter.unusedVariables false
set_option linter.unusedSimpArgs false
open Go.RowKit

abbrev ST := BitVec 64 × BitVec 64 × BitVec 64 × BitVec 64
/-- the state's cells -/
def cS (s : ST) (i : Nat) : Value := match i with | 0 => .int .u64 (W64 s.1) | 1 => .int .u64 (W64 s.2.1) | 2 => .int .u64 (W64 s.2.2.1) | _ => .int .u64 (W64 s.2.2.2)
theorem cS_one (s : ST) (i : Nat) : (cS s i).oneCell' = true := by unfold cS; (try split) <;> rfl
@[go_sem] theorem run_store_cS (w : World) (a : Addr) (s : ST) (i : Nat) (md : Mode) : (store a (cS s i) md).run Try.prog w = stored Try.prog w a (cS s i) md := run_store Try.prog w a _ md (cS_one s i)
def valS (s : ST) : Value := .agg #[cS s 0, cS s 1, cS s 2, cS s 3]
/-- the step, as a value -/
def fvS (q : Nat) : Value := (.func (.func 45) #[] #[.pointer (some ⟨q, 0, none⟩)])
def stCells (size : Int) (f s : ST) (q : Nat) (tv : Value) (lo : BitVec 64) : List Value := [.int .i64 size, cS f 0, cS f 1, cS f 2, cS f 3, cS s 0, cS s 1, cS s 2, cS s 3, fvS q, tv, .int .u64 (W64 lo)]
/-- In block sb lies a stream. -/
def StreamAt (w : World) (sb : Nat) (size : Int) (f s : ST) (q : Nat) (tv : Value) (lo : BitVec 64) : Prop := w.heap[sb]? = some (.cells (stCells size f s q tv lo).toArray 78 (0, 0))
/-- It returns the state s; what was there is as it was. -/
def GivesS (s : ST) (w : World) (e : Ending) (w' : World) : Prop := e = .returned (.agg #[cS s 0, cS s 1, cS s 2, cS s 3]) ∧ Fr No w w'

theorem neq_fv (q : Nat) (w : World) : (binOp .neq 55 ((.func (.func 45) #[] #[.pointer (some ⟨q, 0, none⟩)])) .nilFunc).run Try.prog w = .ok (.bool true) w := by kernel_rfl
theorem stepped_any (q : Nat) (w : World) : Calls Try.prog 43 #[(.func (.func 45) #[] #[.pointer (some ⟨q, 0, none⟩)])] w (Gives ((.func (.func 45) #[] #[.pointer (some ⟨q, 0, none⟩)])) w) := by
  have hq := neq_fv q
  go_enter Try.func43, Try.ntmps43
  go_wp2
  go_ret
  exact ⟨rfl, rfl⟩

/-- It returns a pointer to a new stream. -/
def GivesStream (size : Int) (f s : ST) (q : Nat) (w : World) (e : Ending) (w' : World) : Prop := ∃ sb, e = .returned (.pointer (some ⟨sb, 0, none⟩)) ∧ w.heap.size ≤ sb ∧ sb < w'.heap.size ∧ StreamAt w' sb size f s q (.slice none 0 0) 0#64 ∧ Fr No w w'
set_option maxHeartbeats 1000000 in
theorem New_any (size : Int) (f : ST) (q : Nat) (w : World) (h1 : -9223372036854775808 ≤ size) (h2 : size ≤ 9223372036854775807) :
    Calls Try.prog 29 #[.int .i64 size, .agg #[cS f 0, cS f 1, cS f 2, cS f 3], (.func (.func 45) #[] #[.pointer (some ⟨q, 0, none⟩)])] w (GivesStream (sizeOk size) f f q w) := by
  have hq := sizeOk_bd size
  go_enter Try.func29, Try.ntmps29
  go_wp2
  go_region_held3 (fun w' => w'.cell? ⟨w.heap.size, 0, none⟩ = some (cS f 0) ∧ w'.cell? ⟨w.heap.size, 1, none⟩ = some (cS f 1) ∧ w'.cell? ⟨w.heap.size, 2, none⟩ = some (cS f 2) ∧ w'.cell? ⟨w.heap.size, 3, none⟩ = some (cS f 3)) (go_keep) (first | (go_at_call 42; refine (sized_any _ _ h1 h2).mono ?_; rintro e w' ⟨rfl, rfl⟩) | (go_at_call 43; refine (stepped_any q _).mono ?_; rintro e w' ⟨rfl, rfl⟩))
  all_goals go_wp2
  all_goals go_ret
  all_goals exact ⟨w.heap.size + 1, rfl, by omega, by simp, heap_alloc2_new w _ _, (((Fr.refl _ _).alloc _).alloc _).drew⟩

theorem StreamAt.cell {w : World} {sb : Nat} {size : Int} {f s : ST} {q : Nat} {tv : Value} {lo : BitVec 64} (h : StreamAt w sb size f s q tv lo) (k : Nat) {v : Value} (hk : (stCells size f s q tv lo)[k]? = some v) : w.cell? ⟨sb, k, none⟩ = some v := by
  rw [cell_of_row w sb k _ _ _ h, List.getElem?_toArray]; exact hk
theorem StreamAt.frozen {w : World} {sb : Nat} {size : Int} {f s : ST} {q : Nat} {tv : Value} {lo : BitVec 64} (h : StreamAt w sb size f s q tv lo) (k : Nat) : w.frozen? ⟨sb, k, none⟩ = false := frozen_of_row w sb k _ _ h
theorem StreamAt.lt {w : World} {sb : Nat} {size : Int} {f s : ST} {q : Nat} {tv : Value} {lo : BitVec 64} (h : StreamAt w sb size f s q tv lo) : sb < w.heap.size := (Array.getElem?_eq_some_iff.1 h).1
theorem StreamAt.fr {F : Nat → Prop} {w w' : World} {sb : Nat} {size : Int} {f s : ST} {q : Nat} {tv : Value} {lo : BitVec 64} (h : StreamAt w sb size f s q tv lo) (k : Fr F w w') (hF : ¬ F sb) : StreamAt w' sb size f s q tv lo := k.heap hF h
theorem StreamAt.apart {w : World} {sb : Nat} {size : Int} {f s : ST} {q : Nat} {tv v : Value} {lo : BitVec 64} {base : Nat} {l : Bytes} (h : StreamAt w sb size f s q tv lo) (ho : Owns w base v l) : v.ownBlock ≠ some sb := fun e => by
  rcases ho.2 with ⟨rfl, _⟩ | ⟨g, cap, cur, rfl, _, hg, _⟩
  · simp [Value.ownBlock] at e
  · simp [Value.ownBlock] at e
    subst e
    rw [h] at hg
    simp at hg
theorem row_put {w : World} {sb : Nat} {cs : List Value} (h : w.heap[sb]? = some (.cells cs.toArray 78 (0, 0))) (k : Nat) (v : Value) : (w.setCell ⟨sb, k, none⟩ v).heap[sb]? = some (.cells (cs.set k v).toArray 78 (0, 0)) := by
  rw [heap_setCell_same w sb k _ _ v h, List.setIfInBounds_toArray]
theorem StreamAt.put {w : World} {sb : Nat} {size : Int} {f s s' : ST} {q : Nat} {tv tv' : Value} {lo lo' : BitVec 64} (h : StreamAt w sb size f s q tv lo) (k : Nat) (v : Value) (he : (stCells size f s q tv lo).set k v = stCells size f s' q tv' lo') : StreamAt (w.setCell ⟨sb, k, none⟩ v) sb size f s' q tv' lo' := by
  unfold StreamAt
  rw [heap_setCell_same w sb k _ _ v h]
  simp only [List.setIfInBounds_toArray, he]

theorem ownBlock_len (a : Option Addr) (n m c : Nat) : (Value.slice a n c).ownBlock = (Value.slice a m c).ownBlock := by cases a <;> rfl
theorem take_over {tl l : Bytes} {k z size : Nat} (hk : tl.length = k) (h : z + k = size) : (tl ++ l).take size = tl ++ l.take z ∧ (tl ++ l).drop size = l.drop z := by
  have : size = tl.length + z := by omega
  subst this
  exact ⟨List.take_length_add_append z, List.drop_length_add_append z⟩
/-- The footprint of a stream: its own block, and its tail's. -/
def Foot (sb : Nat) (tv : Value) (x : Nat) : Prop := x = sb ∨ tv.ownBlock = some x
/-- What a write leaves. -/
def Wrote (base sb : Nat) (size : Int) (f : ST) (q : Nat) (tv : Value) (r : ST × Bytes) (lo : BitVec 64) (w : World) (e : Ending) (w' : World) : Prop :=
  e = .returned (.tuple #[]) ∧ ∃ tv', StreamAt w' sb size f r.1 q tv' lo ∧ Owns w' base tv' r.2 ∧ (tv'.ownBlock = tv.ownBlock ∨ ∀ x, tv'.ownBlock = some x → w.heap.size ≤ x) ∧ Fr (Foot sb tv) w w'

theorem made_any {w : World} {sb : Nat} {size : Int} {f s : ST} {q : Nat} {tv : Value} {lo : BitVec 64} (h : StreamAt w sb size f s q tv lo) : Calls Try.prog 50 #[.pointer (some ⟨sb, 0, none⟩)] w (Gives (.bool true) w) := by
  have cst : w.cell? ⟨sb, 9, none⟩ = some ((.func (.func 45) #[] #[.pointer (some ⟨q, 0, none⟩)])) := h.cell 9 rfl
  have hq := neq_fv q
  go_enter Try.func50, Try.ntmps50
  go_wp2
  go_ret
  exact ⟨rfl, rfl⟩
/-- The step's contract: in every world that meets E. -/
def Steps (E : World → Prop) (G : ST → Bytes → ST) (size q : Nat) : Prop := ∀ (w : World) (s : ST) (a : Option Addr) (n c : Nat) (l : Bytes), E w → IsBytes w a n c l → l.length = size →
  Calls Try.prog 45 #[.agg #[cS s 0, cS s 1, cS s 2, cS s 3], .slice a n c, .pointer (some ⟨q, 0, none⟩)] w (GivesS (G s l) w)
/-- At the head of the loop that steps block by block. -/
def LoopAt (E : World → Prop) (G : ST → Bytes → ST) (base sb size : Nat) (f : ST) (q : Nat) (tv0 : Value) (w0 : World) (r : ST × Bytes) (lo : BitVec 64) (v : Value) (wr : World) (n : Nat) : Prop :=
  ∃ a c l s tv, v = .slice a n c ∧ IsBytes wr a n c l ∧ Apart (Foot sb tv0) a n ∧ n ≤ 1099511627776 ∧ StreamAt wr sb size f s q tv lo ∧ Owns wr base tv [] ∧ base ≤ wr.heap.size ∧ E wr ∧ foldF G size s l = r ∧
    (tv.ownBlock = tv0.ownBlock ∨ ∀ x, tv.ownBlock = some x → w0.heap.size ≤ x) ∧ Fr (Foot sb tv0) w0 wr


end Go.Proofs.Ytcbbllfgelnpjaa.StSip