/- block.Stream[[4]uint64]: State, Tail, Long, Reset, Clone. -/
import Derived.Test.YtcbbllfgelnpjaaFoldSip
namespace Go.Proofs.Ytcbbllfgelnpjaa.StSip
set_option linter.unusedVariables false
set_option linter.unusedSimpArgs false
open Go.RowKit

theorem Long_any {w : World} {sb : Nat} {size : Int} {f s : ST} {q : Nat} {tv : Value} {lo : BitVec 64} (hst : StreamAt w sb size f s q tv lo) : Calls Try.prog 33 #[.pointer (some ⟨sb, 0, none⟩)] w (Gives (.int .u64 (W64 lo)) w) := by
  have clo : w.cell? ⟨sb, 11, none⟩ = some (.int .u64 (W64 lo)) := hst.cell 11 rfl
  go_enter Try.func33, Try.ntmps33
  go_wp2_with (go_at_call 50; refine (made_any hst).mono ?_; rintro e w' ⟨rfl, rfl⟩)
  go_ret
  exact ⟨rfl, rfl⟩
theorem Tail_any {w : World} {sb : Nat} {size : Int} {f s : ST} {q : Nat} {tv : Value} {lo : BitVec 64} {base : Nat} {tl : Bytes} (hst : StreamAt w sb size f s q tv lo) (ho : Owns w base tv tl) (hl : tl.length ≤ 1099511627776) : Calls Try.prog 32 #[.pointer (some ⟨sb, 0, none⟩)] w (GivesBytes tl w) := by
  obtain ⟨ta, tc, rfl, hb, _⟩ := ho.bytes
  have ctl : w.cell? ⟨sb, 10, none⟩ = some (.slice ta tl.length tc) := hst.cell 10 rfl
  go_enter Try.func32, Try.ntmps32
  go_wp2_with (first | (go_at_call 50; refine (made_any hst).mono ?_; rintro e w' ⟨rfl, rfl⟩) | (go_at_call 44; refine (Clone_any _ _ _ tl _ hb (by omega)).mono ?_; rintro e w2 ⟨v2, rfl, ho2, hf2⟩))
  go_ret
  exact ⟨v2, rfl, ho2, hf2⟩
theorem State_any {w : World} {sb : Nat} {size : Int} {f s : ST} {q : Nat} {tv : Value} {lo : BitVec 64} (hst0 : StreamAt w sb size f s q tv lo) : Calls Try.prog 31 #[.pointer (some ⟨sb, 0, none⟩)] w (GivesS s w) := by
  have hst : StreamAt (w.alloc (.cells ([.int .u64 0, .int .u64 0, .int .u64 0, .int .u64 0]).toArray 38)) sb size f s q tv lo := hst0.fr ((Fr.refl No w).alloc _) (fun h => h)
  have cn0 : (w.alloc (.cells #[.int .u64 0, .int .u64 0, .int .u64 0, .int .u64 0] 38)).cell? ⟨sb, 5, none⟩ = some (cS s 0) := hst.cell 5 rfl
  have cn1 : (w.alloc (.cells #[.int .u64 0, .int .u64 0, .int .u64 0, .int .u64 0] 38)).cell? ⟨sb, 6, none⟩ = some (cS s 1) := hst.cell 6 rfl
  have cn2 : (w.alloc (.cells #[.int .u64 0, .int .u64 0, .int .u64 0, .int .u64 0] 38)).cell? ⟨sb, 7, none⟩ = some (cS s 2) := hst.cell 7 rfl
  have cn3 : (w.alloc (.cells #[.int .u64 0, .int .u64 0, .int .u64 0, .int .u64 0] 38)).cell? ⟨sb, 8, none⟩ = some (cS s 3) := hst.cell 8 rfl
  go_enter Try.func31, Try.ntmps31
  go_wp2_with (go_at_call 50; refine (made_any hst).mono ?_; rintro e w' ⟨rfl, rfl⟩)
  have hB : BoxAt (w.alloc (.cells (boxCells s).toArray 38)) w.heap.size s := heap_alloc_new w _
  have cd0 : (w.alloc (.cells #[cS s 0, cS s 1, cS s 2, cS s 3] 38)).cell? ⟨w.heap.size, 0, none⟩ = some (cS s 0) := hB.cell 0 rfl
  have cd1 : (w.alloc (.cells #[cS s 0, cS s 1, cS s 2, cS s 3] 38)).cell? ⟨w.heap.size, 1, none⟩ = some (cS s 1) := hB.cell 1 rfl
  have cd2 : (w.alloc (.cells #[cS s 0, cS s 1, cS s 2, cS s 3] 38)).cell? ⟨w.heap.size, 2, none⟩ = some (cS s 2) := hB.cell 2 rfl
  have cd3 : (w.alloc (.cells #[cS s 0, cS s 1, cS s 2, cS s 3] 38)).cell? ⟨w.heap.size, 3, none⟩ = some (cS s 3) := hB.cell 3 rfl
  exact bodyPost_ret (v := .agg #[cS s 0, cS s 1, cS s 2, cS s 3]) (by simp [results, Try.results31, go_sem, cd0, cd1, cd2, cd3]) rfl ⟨rfl, (Fr.refl No w).alloc _⟩
/-- What a reset leaves. -/
def Resets (base sb : Nat) (size : Int) (f : ST) (q : Nat) (tv : Value) (w : World) (e : Ending) (w' : World) : Prop :=
  e = .returned (.tuple #[]) ∧ StreamAt w' sb size f f q (.slice none 0 0) 0#64 ∧ Fr (fun x => x = sb) w w'
theorem Reset_any {w : World} {sb : Nat} {size : Int} {f s : ST} {q : Nat} {tv : Value} {lo : BitVec 64} (base : Nat) (hst : StreamAt w sb size f s q tv lo) : Calls Try.prog 35 #[.pointer (some ⟨sb, 0, none⟩)] w (Resets base sb size f q tv w) := by
  have cf0 : w.cell? ⟨sb, 1, none⟩ = some (cS f 0) := hst.cell 1 rfl
  have cf1 : w.cell? ⟨sb, 2, none⟩ = some (cS f 1) := hst.cell 2 rfl
  have cf2 : w.cell? ⟨sb, 3, none⟩ = some (cS f 2) := hst.cell 3 rfl
  have cf3 : w.cell? ⟨sb, 4, none⟩ = some (cS f 3) := hst.cell 4 rfl
  have cn0 : w.cell? ⟨sb, 5, none⟩ = some (cS s 0) := hst.cell 5 rfl
  have cn1 : w.cell? ⟨sb, 6, none⟩ = some (cS s 1) := hst.cell 6 rfl
  have cn2 : w.cell? ⟨sb, 7, none⟩ = some (cS s 2) := hst.cell 7 rfl
  have cn3 : w.cell? ⟨sb, 8, none⟩ = some (cS s 3) := hst.cell 8 rfl
  have ctl : w.cell? ⟨sb, 10, none⟩ = some (tv) := hst.cell 10 rfl
  have clo : w.cell? ⟨sb, 11, none⟩ = some (.int .u64 (W64 lo)) := hst.cell 11 rfl
  have fz5 := hst.frozen 5
  have fz6 := hst.frozen 6
  have fz7 := hst.frozen 7
  have fz8 := hst.frozen 8
  have fz9 := hst.frozen 9
  have fz10 := hst.frozen 10
  have fz11 := hst.frozen 11
  go_enter Try.func35, Try.ntmps35
  go_wp2_with (go_at_call 50; refine (made_any hst).mono ?_; rintro e w' ⟨rfl, rfl⟩)
  go_end0
  exact ⟨rfl, (row_put (row_put (row_put (row_put (row_put (row_put hst 5 (cS f 0)) 6 (cS f 1)) 7 (cS f 2)) 8 (cS f 3)) 10 (.slice none 0 0)) 11 (.int .u64 0)), ((((((Fr.refl (fun x => x = sb) w).setCell (p := ⟨sb, 5, none⟩) (.inl rfl) _).setCell (p := ⟨sb, 6, none⟩) (.inl rfl) _).setCell (p := ⟨sb, 7, none⟩) (.inl rfl) _).setCell (p := ⟨sb, 8, none⟩) (.inl rfl) _).setCell (p := ⟨sb, 10, none⟩) (.inl rfl) _).setCell (p := ⟨sb, 11, none⟩) (.inl rfl) _⟩
/-- It returns a stream of its own, that is as the one at hand. -/
def Clones (size : Int) (f s : ST) (q : Nat) (tl : Bytes) (lo : BitVec 64) (w : World) (e : Ending) (w' : World) : Prop :=
  ∃ sb tv, e = .returned (.pointer (some ⟨sb, 0, none⟩)) ∧ w.heap.size ≤ sb ∧ StreamAt w' sb size f s q tv lo ∧ Owns w' w.heap.size tv tl ∧ Fr No w w'
@[go_sem] theorem run_store_fv (k : Nat) (x y : Array Value) (w : World) (a : Addr) (md : Mode) : (store a (.func (.func k) x y) md).run Try.prog w = stored Try.prog w a (.func (.func k) x y) md := run_store Try.prog w a _ md rfl
set_option maxHeartbeats 1000000 in
theorem Clone_yes {w : World} {sb : Nat} {size : Int} {f s : ST} {q : Nat} {tv : Value} {lo : BitVec 64} {base : Nat} {tl : Bytes} (hst : StreamAt w sb size f s q tv lo) (ho : Owns w base tv tl) (hl : tl.length ≤ 1099511627776) : Calls Try.prog 38 #[.pointer (some ⟨sb, 0, none⟩)] w (Clones size f s q tl lo w) := by
  obtain ⟨ta, tc, rfl, hb, _⟩ := ho.bytes
  have cz : w.cell? ⟨sb, 0, none⟩ = some (.int .i64 size) := hst.cell 0 rfl
  have cf0 : w.cell? ⟨sb, 1, none⟩ = some (cS f 0) := hst.cell 1 rfl
  have cf1 : w.cell? ⟨sb, 2, none⟩ = some (cS f 1) := hst.cell 2 rfl
  have cf2 : w.cell? ⟨sb, 3, none⟩ = some (cS f 2) := hst.cell 3 rfl
  have cf3 : w.cell? ⟨sb, 4, none⟩ = some (cS f 3) := hst.cell 4 rfl
  have cn0 : w.cell? ⟨sb, 5, none⟩ = some (cS s 0) := hst.cell 5 rfl
  have cn1 : w.cell? ⟨sb, 6, none⟩ = some (cS s 1) := hst.cell 6 rfl
  have cn2 : w.cell? ⟨sb, 7, none⟩ = some (cS s 2) := hst.cell 7 rfl
  have cn3 : w.cell? ⟨sb, 8, none⟩ = some (cS s 3) := hst.cell 8 rfl
  have cst : w.cell? ⟨sb, 9, none⟩ = some ((.func (.func 45) #[] #[.pointer (some ⟨q, 0, none⟩)])) := hst.cell 9 rfl
  have ctl : w.cell? ⟨sb, 10, none⟩ = some (.slice ta tl.length tc) := hst.cell 10 rfl
  have clo : w.cell? ⟨sb, 11, none⟩ = some (.int .u64 (W64 lo)) := hst.cell 11 rfl
  have hmade := hst
  have hN : StreamAt (w.alloc (.cells (stCells size f s q (.slice ta tl.length tc) lo).toArray 78)) w.heap.size size f s q (.slice ta tl.length tc) lo := heap_alloc_new w _
  have hF1 : Fr No w (w.alloc (.cells (stCells size f s q (.slice ta tl.length tc) lo).toArray 78)) := (Fr.refl No w).alloc _
  have hlt := hst.lt
  go_enter Try.func38, Try.ntmps38
  go_wp2_with (go_at_call 50; refine (made_any hmade).mono ?_; rintro e w' ⟨rfl, rfl⟩)
  have ctl1 := (hst.fr hF1 (fun h => h)).cell 10 rfl
  have hb1 := hb.no hF1
  simp only [stCells, fvS] at ctl1 hN hF1 hb1
  go_wp2_with fail
  refine (Clone_any _ _ _ tl _ hb1 (by omega)).mono ?_
  rintro e w2 ⟨v2, rfl, ho2, hf2⟩
  obtain ⟨a2, c2, rfl, _, _⟩ := ho2.bytes
  have hN2 := StreamAt.fr hN hf2 (fun h => h)
  have ctl2 := hN2.cell 10 rfl
  have fz2 := hN2.frozen 10
  go_wp2_with fail
  go_ret
  exact ⟨w.heap.size, _, rfl, Nat.le_refl _, hN2.put 10 _ rfl, (ho2.fr ((Fr.refl (fun x => x = w.heap.size) w2).setCell (p := ⟨w.heap.size, 10, none⟩) (.inl rfl) _) (fun x hx e => hN2.apart ho2 (by rw [hx, e]))).mono hF1.size, (hF1.no hf2).trans ((Fr.refl (fun x => x = w.heap.size) w2).setCell (p := ⟨w.heap.size, 10, none⟩) (.inl rfl) _) (fun x hx => .inr (by omega))⟩

end Go.Proofs.Ytcbbllfgelnpjaa.StSip