/- block.Stream[astragal/astragalref28.State]: State, Tail, Long, Reset, Clone. -/
import Derived.Test.YthjpnkjbkkeoaaaFoldS28
namespace Go.Proofs.Ythjpnkjbkkeoaaa.StS28
set_option linter.unusedVariables false
set_option linter.unusedSimpArgs false
open Go.RowKit

theorem Long_any {w : World} {sb : Nat} {size : Int} {f s : ST} {q : Nat} {tv : Value} {lo : BitVec 64} (hst : StreamAt w sb size f s q tv lo) : Calls Try.prog 15 #[.pointer (some ⟨sb, 0, none⟩)] w (Gives (.int .u64 (W64 lo)) w) := by
  have clo : w.cell? ⟨sb, 7, none⟩ = some (.int .u64 (W64 lo)) := hst.cell 7 rfl
  go_enter Try.func15, Try.ntmps15
  go_wp2_with (go_at_call 31; refine (made_any hst).mono ?_; rintro e w' ⟨rfl, rfl⟩)
  go_ret
  exact ⟨rfl, rfl⟩
theorem Tail_any {w : World} {sb : Nat} {size : Int} {f s : ST} {q : Nat} {tv : Value} {lo : BitVec 64} {base : Nat} {tl : Bytes} (hst : StreamAt w sb size f s q tv lo) (ho : Owns w base tv tl) (hl : tl.length ≤ 1099511627776) : Calls Try.prog 14 #[.pointer (some ⟨sb, 0, none⟩)] w (GivesBytes tl w) := by
  obtain ⟨ta, tc, rfl, hb, _⟩ := ho.bytes
  have ctl : w.cell? ⟨sb, 6, none⟩ = some (.slice ta tl.length tc) := hst.cell 6 rfl
  go_enter Try.func14, Try.ntmps14
  go_wp2_with (first | (go_at_call 31; refine (made_any hst).mono ?_; rintro e w' ⟨rfl, rfl⟩) | (go_at_call 32; refine (Clone_any _ _ _ tl _ hb (by omega)).mono ?_; rintro e w2 ⟨v2, rfl, ho2, hf2⟩))
  go_ret
  exact ⟨v2, rfl, ho2, hf2⟩
theorem State_any {w : World} {sb : Nat} {size : Int} {f s : ST} {q : Nat} {tv : Value} {lo : BitVec 64} (hst0 : StreamAt w sb size f s q tv lo) : Calls Try.prog 12 #[.pointer (some ⟨sb, 0, none⟩)] w (GivesS s w) := by
  have hst : StreamAt (w.alloc (.cells ([.int .u64 0, .int .i64 0]).toArray 27)) sb size f s q tv lo := hst0.fr ((Fr.refl No w).alloc _) (fun h => h)
  have cn0 : (w.alloc (.cells #[.int .u64 0, .int .i64 0] 27)).cell? ⟨sb, 3, none⟩ = some (cS s 0) := hst.cell 3 rfl
  have cn1 : (w.alloc (.cells #[.int .u64 0, .int .i64 0] 27)).cell? ⟨sb, 4, none⟩ = some (cS s 1) := hst.cell 4 rfl
  go_enter Try.func12, Try.ntmps12
  go_wp2_with (go_at_call 31; refine (made_any hst).mono ?_; rintro e w' ⟨rfl, rfl⟩)
  have hB : BoxAt (w.alloc (.cells (boxCells s).toArray 27)) w.heap.size s := heap_alloc_new w _
  have cd0 : (w.alloc (.cells #[cS s 0, cS s 1] 27)).cell? ⟨w.heap.size, 0, none⟩ = some (cS s 0) := hB.cell 0 rfl
  have cd1 : (w.alloc (.cells #[cS s 0, cS s 1] 27)).cell? ⟨w.heap.size, 1, none⟩ = some (cS s 1) := hB.cell 1 rfl
  exact bodyPost_ret (v := .agg #[cS s 0, cS s 1]) (by simp [results, Try.results12, go_sem, cd0, cd1]) rfl ⟨rfl, (Fr.refl No w).alloc _⟩
/-- What a reset leaves. -/
def Resets (base sb : Nat) (size : Int) (f : ST) (q : Nat) (tv : Value) (w : World) (e : Ending) (w' : World) : Prop :=
  e = .returned (.tuple #[]) ∧ StreamAt w' sb size f f q (.slice none 0 0) 0#64 ∧ Fr (fun x => x = sb) w w'
theorem Reset_any {w : World} {sb : Nat} {size : Int} {f s : ST} {q : Nat} {tv : Value} {lo : BitVec 64} (base : Nat) (hst : StreamAt w sb size f s q tv lo) : Calls Try.prog 19 #[.pointer (some ⟨sb, 0, none⟩)] w (Resets base sb size f q tv w) := by
  have cf0 : w.cell? ⟨sb, 1, none⟩ = some (cS f 0) := hst.cell 1 rfl
  have cf1 : w.cell? ⟨sb, 2, none⟩ = some (cS f 1) := hst.cell 2 rfl
  have cn0 : w.cell? ⟨sb, 3, none⟩ = some (cS s 0) := hst.cell 3 rfl
  have cn1 : w.cell? ⟨sb, 4, none⟩ = some (cS s 1) := hst.cell 4 rfl
  have ctl : w.cell? ⟨sb, 6, none⟩ = some (tv) := hst.cell 6 rfl
  have clo : w.cell? ⟨sb, 7, none⟩ = some (.int .u64 (W64 lo)) := hst.cell 7 rfl
  have fz3 := hst.frozen 3
  have fz4 := hst.frozen 4
  have fz5 := hst.frozen 5
  have fz6 := hst.frozen 6
  have fz7 := hst.frozen 7
  go_enter Try.func19, Try.ntmps19
  go_wp2_with (go_at_call 31; refine (made_any hst).mono ?_; rintro e w' ⟨rfl, rfl⟩)
  go_end0
  exact ⟨rfl, (row_put (row_put (row_put (row_put hst 3 (cS f 0)) 4 (cS f 1)) 6 (.slice none 0 0)) 7 (.int .u64 0)), ((((Fr.refl (fun x => x = sb) w).setCell (p := ⟨sb, 3, none⟩) (.inl rfl) _).setCell (p := ⟨sb, 4, none⟩) (.inl rfl) _).setCell (p := ⟨sb, 6, none⟩) (.inl rfl) _).setCell (p := ⟨sb, 7, none⟩) (.inl rfl) _⟩
/-- It returns a stream of its own, that is as the one at hand. -/
def Clones (size : Int) (f s : ST) (q : Nat) (tl : Bytes) (lo : BitVec 64) (w : World) (e : Ending) (w' : World) : Prop :=
  ∃ sb tv, e = .returned (.pointer (some ⟨sb, 0, none⟩)) ∧ w.heap.size ≤ sb ∧ StreamAt w' sb size f s q tv lo ∧ Owns w' w.heap.size tv tl ∧ Fr No w w'
@[go_sem] theorem run_store_fv (k : Nat) (x y : Array Value) (w : World) (a : Addr) (md : Mode) : (store a (.func (.func k) x y) md).run Try.prog w = stored Try.prog w a (.func (.func k) x y) md := run_store Try.prog w a _ md rfl
set_option maxHeartbeats 1000000 in
theorem Clone_yes {w : World} {sb : Nat} {size : Int} {f s : ST} {q : Nat} {tv : Value} {lo : BitVec 64} {base : Nat} {tl : Bytes} (hst : StreamAt w sb size f s q tv lo) (ho : Owns w base tv tl) (hl : tl.length ≤ 1099511627776) : Calls Try.prog 17 #[.pointer (some ⟨sb, 0, none⟩)] w (Clones size f s q tl lo w) := by
  obtain ⟨ta, tc, rfl, hb, _⟩ := ho.bytes
  have cz : w.cell? ⟨sb, 0, none⟩ = some (.int .i64 size) := hst.cell 0 rfl
  have cf0 : w.cell? ⟨sb, 1, none⟩ = some (cS f 0) := hst.cell 1 rfl
  have cf1 : w.cell? ⟨sb, 2, none⟩ = some (cS f 1) := hst.cell 2 rfl
  have cn0 : w.cell? ⟨sb, 3, none⟩ = some (cS s 0) := hst.cell 3 rfl
  have cn1 : w.cell? ⟨sb, 4, none⟩ = some (cS s 1) := hst.cell 4 rfl
  have cst : w.cell? ⟨sb, 5, none⟩ = some ((.func (.func 8) #[] #[])) := hst.cell 5 rfl
  have ctl : w.cell? ⟨sb, 6, none⟩ = some (.slice ta tl.length tc) := hst.cell 6 rfl
  have clo : w.cell? ⟨sb, 7, none⟩ = some (.int .u64 (W64 lo)) := hst.cell 7 rfl
  have hmade := hst
  have hN : StreamAt (w.alloc (.cells (stCells size f s q (.slice ta tl.length tc) lo).toArray 54)) w.heap.size size f s q (.slice ta tl.length tc) lo := heap_alloc_new w _
  have hF1 : Fr No w (w.alloc (.cells (stCells size f s q (.slice ta tl.length tc) lo).toArray 54)) := (Fr.refl No w).alloc _
  have hlt := hst.lt
  go_enter Try.func17, Try.ntmps17
  go_wp2_with (go_at_call 31; refine (made_any hmade).mono ?_; rintro e w' ⟨rfl, rfl⟩)
  have ctl1 := (hst.fr hF1 (fun h => h)).cell 6 rfl
  have hb1 := hb.no hF1
  simp only [stCells, fvS] at ctl1 hN hF1 hb1
  go_wp2_with fail
  refine (Clone_any _ _ _ tl _ hb1 (by omega)).mono ?_
  rintro e w2 ⟨v2, rfl, ho2, hf2⟩
  obtain ⟨a2, c2, rfl, _, _⟩ := ho2.bytes
  have hN2 := StreamAt.fr hN hf2 (fun h => h)
  have ctl2 := hN2.cell 6 rfl
  have fz2 := hN2.frozen 6
  go_wp2_with fail
  go_ret
  exact ⟨w.heap.size, _, rfl, Nat.le_refl _, hN2.put 6 _ rfl, (ho2.fr ((Fr.refl (fun x => x = w.heap.size) w2).setCell (p := ⟨w.heap.size, 6, none⟩) (.inl rfl) _) (fun x hx e => hN2.apart ho2 (by rw [hx, e]))).mono hF1.size, (hF1.no hf2).trans ((Fr.refl (fun x => x = w.heap.size) w2).setCell (p := ⟨w.heap.size, 6, none⟩) (.inl rfl) _) (fun x hx => .inr (by omega))⟩

end Go.Proofs.Ythjpnkjbkkeoaaa.StS28