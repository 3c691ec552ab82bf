/- Bytes StreamG32 StreamM64 StreamG64 RestM64 RestG64 RestG32 StreamM32 FoldM32 RestM32 Con HashM32 HashM64 HashX32 HashSip HashX64 HashM86 StrPlain StrAny -/
import Derived.Deep.QuietTactic
import Derived.Deep.RegionHeld3
import Derived.Laws.CopyOwn
import Derived.Test.YtidlpihoafnobaaGreatPStrEnd
set_option linter.unusedVariables false
set_option linter.unusedSimpArgs false
namespace Go.Proofs.YtidlpihoafnobaaGreat
set_option maxRecDepth 100000
open Go.RowKit
theorem subAddr_block {a : Option Addr} {l m s : Nat} {x : Addr} (h : subAddr a l m s = some x) : ∃ y, a = some y ∧ y.block = x.block := by
 unfold subAddr at h
 split at h
 · exact ⟨x, h, rfl⟩
 · cases a with
   | none => cases h
   | some y =>
    simp at h
    subst h
    refine ⟨y, rfl, ?_⟩
    unfold Addr.add
    split <;> rfl
theorem Apart.sub {F : Nat → Prop} {a : Option Addr} {n n' : Nat} (h : Apart F a n) (hn : n' ≤ n) (l m s : Nat) : Apart F (subAddr a l m s) n' := fun x h0 hx => by
 obtain ⟨y, e, hb⟩ := subAddr_block hx
 rw [← hb]; exact h y (by omega) e
end Go.Proofs.YtidlpihoafnobaaGreat
namespace Go.Proofs.YtidlpihoafnobaaGreat.StG32
set_option maxRecDepth 100000
open Go.RowKit
theorem row_put {w : World} {sb : Nat} {cs : List Value} (h : w.heap[sb]? = some (.cells cs.toArray 209 (0, 0))) (k : Nat) (v : Value) : (w.setCell ⟨sb, k, none⟩ v).heap[sb]? = some (.cells (cs.set k v).toArray 209 (0, 0)) := by
 rw [heap_setCell_same w sb k _ _ v h, List.setIfInBounds_toArray]
end Go.Proofs.YtidlpihoafnobaaGreat.StG32
namespace Go.Proofs.YtidlpihoafnobaaGreat.StM64
set_option maxRecDepth 100000
open Go.RowKit
theorem row_put {w : World} {sb : Nat} {cs : List Value} (h : w.heap[sb]? = some (.cells cs.toArray 213 (0, 0))) (k : Nat) (v : Value) : (w.setCell ⟨sb, k, none⟩ v).heap[sb]? = some (.cells (cs.set k v).toArray 213 (0, 0)) := by
 rw [heap_setCell_same w sb k _ _ v h, List.setIfInBounds_toArray]
end Go.Proofs.YtidlpihoafnobaaGreat.StM64
namespace Go.Proofs.YtidlpihoafnobaaGreat.StG64
set_option maxRecDepth 100000
open Go.RowKit
theorem row_put {w : World} {sb : Nat} {cs : List Value} (h : w.heap[sb]? = some (.cells cs.toArray 245 (0, 0))) (k : Nat) (v : Value) : (w.setCell ⟨sb, k, none⟩ v).heap[sb]? = some (.cells (cs.set k v).toArray 245 (0, 0)) := by
 rw [heap_setCell_same w sb k _ _ v h, List.setIfInBounds_toArray]
end Go.Proofs.YtidlpihoafnobaaGreat.StG64
namespace Go.Proofs.YtidlpihoafnobaaGreat.StM64
set_option maxRecDepth 100000
open Go.RowKit
theorem Long_any {w : World} {sb : Nat} {size : Int} {f s : ST} {q : Nat} {tv : Value} {lo : BitVec 64} (hst : StreamAt w sb size f s q tv lo) : Calls Tryz.prog 139 #[.pointer (some ⟨sb, 0, none⟩)] w (Gives (.int .u64 (W64 lo)) w) := by
 have clo : w.cell? ⟨sb, 7, none⟩ = some (.int .u64 (W64 lo)) := hst.cell 7 rfl
 go_enter Tryz.func139, Tryz.ntmps139
 go_wp2_with (go_at_call 198; refine (made_any hst).mono ?_; rintro e w' ⟨rfl, rfl⟩)
 go_ret
 exact ⟨rfl, rfl⟩
theorem State_any {w : World} {sb : Nat} {size : Int} {f s : ST} {q : Nat} {tv : Value} {lo : BitVec 64} (hst0 : StreamAt w sb size f s q tv lo) : Calls Tryz.prog 137 #[.pointer (some ⟨sb, 0, none⟩)] w (GivesS s w) := by
 have hst : StreamAt (w.alloc (.cells ([.int .u64 0, .int .u64 0]).toArray 160)) sb size f s q tv lo := hst0.fr ((Fr.refl No w).alloc _) (fun h => h)
 have cn0 : (w.alloc (.cells #[.int .u64 0, .int .u64 0] 160)).cell? ⟨sb, 3, none⟩ = some (cS s 0) := hst.cell 3 rfl
 have cn1 : (w.alloc (.cells #[.int .u64 0, .int .u64 0] 160)).cell? ⟨sb, 4, none⟩ = some (cS s 1) := hst.cell 4 rfl
 go_enter Tryz.func137, Tryz.ntmps137
 go_wp2_with (go_at_call 198; refine (made_any hst).mono ?_; rintro e w' ⟨rfl, rfl⟩)
 have hB : BoxAt (w.alloc (.cells (boxCells s).toArray 160)) w.heap.size s := heap_alloc_new w _
 have cd0 : (w.alloc (.cells #[cS s 0, cS s 1] 160)).cell? ⟨w.heap.size, 0, none⟩ = some (cS s 0) := hB.cell 0 rfl
 have cd1 : (w.alloc (.cells #[cS s 0, cS s 1] 160)).cell? ⟨w.heap.size, 1, none⟩ = some (cS s 1) := hB.cell 1 rfl
 exact bodyPost_ret (v := .agg #[cS s 0, cS s 1]) (by simp [results, Tryz.results137, go_sem, cd0, cd1]) rfl ⟨rfl, (Fr.refl No w).alloc _⟩
end Go.Proofs.YtidlpihoafnobaaGreat.StM64
namespace Go.Proofs.YtidlpihoafnobaaGreat.StG64
set_option maxRecDepth 100000
open Go.RowKit
theorem Long_any {w : World} {sb : Nat} {size : Int} {f s : ST} {q : QT} {tv : Value} {lo : BitVec 64} (hst : StreamAt w sb size f s q tv lo) : Calls Tryz.prog 212 #[.pointer (some ⟨sb, 0, none⟩)] w (Gives (.int .u64 (W64 lo)) w) := by
 have clo : w.cell? ⟨sb, 11, none⟩ = some (.int .u64 (W64 lo)) := hst.cell 11 rfl
 go_enter Tryz.func212, Tryz.ntmps212
 go_wp2_with (go_at_call 234; refine (made_any hst).mono ?_; rintro e w' ⟨rfl, rfl⟩)
 go_ret
 exact ⟨rfl, rfl⟩
theorem State_any {w : World} {sb : Nat} {size : Int} {f s : ST} {q : QT} {tv : Value} {lo : BitVec 64} (hst0 : StreamAt w sb size f s q tv lo) : Calls Tryz.prog 210 #[.pointer (some ⟨sb, 0, none⟩)] w (GivesS s w) := by
 have hst : StreamAt (w.alloc (.cells ([.int .u64 0, .int .u64 0, .int .u64 0, .int .u64 0]).toArray 49)) sb size f s q tv lo := hst0.fr ((Fr.refl No w).alloc _) (fun h => h)
 have cn0 : (w.alloc (.cells #[.int .u64 0, .int .u64 0, .int .u64 0, .int .u64 0] 49)).cell? ⟨sb, 5, none⟩ = some (cS s 0) := hst.cell 5 rfl
 have cn1 : (w.alloc (.cells #[.int .u64 0, .int .u64 0, .int .u64 0, .int .u64 0] 49)).cell? ⟨sb, 6, none⟩ = some (cS s 1) := hst.cell 6 rfl
 have cn2 : (w.alloc (.cells #[.int .u64 0, .int .u64 0, .int .u64 0, .int .u64 0] 49)).cell? ⟨sb, 7, none⟩ = some (cS s 2) := hst.cell 7 rfl
 have cn3 : (w.alloc (.cells #[.int .u64 0, .int .u64 0, .int .u64 0, .int .u64 0] 49)).cell? ⟨sb, 8, none⟩ = some (cS s 3) := hst.cell 8 rfl
 go_enter Tryz.func210, Tryz.ntmps210
 go_wp2_with (go_at_call 234; refine (made_any hst).mono ?_; rintro e w' ⟨rfl, rfl⟩)
 have hB : BoxAt (w.alloc (.cells (boxCells s).toArray 49)) w.heap.size s := heap_alloc_new w _
 have cd0 : (w.alloc (.cells #[cS s 0, cS s 1, cS s 2, cS s 3] 49)).cell? ⟨w.heap.size, 0, none⟩ = some (cS s 0) := hB.cell 0 rfl
 have cd1 : (w.alloc (.cells #[cS s 0, cS s 1, cS s 2, cS s 3] 49)).cell? ⟨w.heap.size, 1, none⟩ = some (cS s 1) := hB.cell 1 rfl
 have cd2 : (w.alloc (.cells #[cS s 0, cS s 1, cS s 2, cS s 3] 49)).cell? ⟨w.heap.size, 2, none⟩ = some (cS s 2) := hB.cell 2 rfl
 have cd3 : (w.alloc (.cells #[cS s 0, cS s 1, cS s 2, cS s 3] 49)).cell? ⟨w.heap.size, 3, none⟩ = some (cS s 3) := hB.cell 3 rfl
 exact bodyPost_ret (v := .agg #[cS s 0, cS s 1, cS s 2, cS s 3]) (by simp [results, Tryz.results210, go_sem, cd0, cd1, cd2, cd3]) rfl ⟨rfl, (Fr.refl No w).alloc _⟩
end Go.Proofs.YtidlpihoafnobaaGreat.StG64
namespace Go.Proofs.YtidlpihoafnobaaGreat.StG32
set_option maxRecDepth 100000
open Go.RowKit
theorem Long_any {w : World} {sb : Nat} {size : Int} {f s : ST} {q : QT} {tv : Value} {lo : BitVec 64} (hst : StreamAt w sb size f s q tv lo) : Calls Tryz.prog 126 #[.pointer (some ⟨sb, 0, none⟩)] w (Gives (.int .u64 (W64 lo)) w) := by
 have clo : w.cell? ⟨sb, 11, none⟩ = some (.int .u64 (W64 lo)) := hst.cell 11 rfl
 go_enter Tryz.func126, Tryz.ntmps126
 go_wp2_with (go_at_call 190; refine (made_any hst).mono ?_; rintro e w' ⟨rfl, rfl⟩)
 go_ret
 exact ⟨rfl, rfl⟩
theorem State_any {w : World} {sb : Nat} {size : Int} {f s : ST} {q : QT} {tv : Value} {lo : BitVec 64} (hst0 : StreamAt w sb size f s q tv lo) : Calls Tryz.prog 124 #[.pointer (some ⟨sb, 0, none⟩)] w (GivesS s w) := by
 have hst : StreamAt (w.alloc (.cells ([.int .u32 0, .int .u32 0, .int .u32 0, .int .u32 0]).toArray 122)) sb size f s q tv lo := hst0.fr ((Fr.refl No w).alloc _) (fun h => h)
 have cn0 : (w.alloc (.cells #[.int .u32 0, .int .u32 0, .int .u32 0, .int .u32 0] 122)).cell? ⟨sb, 5, none⟩ = some (cS s 0) := hst.cell 5 rfl
 have cn1 : (w.alloc (.cells #[.int .u32 0, .int .u32 0, .int .u32 0, .int .u32 0] 122)).cell? ⟨sb, 6, none⟩ = some (cS s 1) := hst.cell 6 rfl
 have cn2 : (w.alloc (.cells #[.int .u32 0, .int .u32 0, .int .u32 0, .int .u32 0] 122)).cell? ⟨sb, 7, none⟩ = some (cS s 2) := hst.cell 7 rfl
 have cn3 : (w.alloc (.cells #[.int .u32 0, .int .u32 0, .int .u32 0, .int .u32 0] 122)).cell? ⟨sb, 8, none⟩ = some (cS s 3) := hst.cell 8 rfl
 go_enter Tryz.func124, Tryz.ntmps124
 go_wp2_with (go_at_call 190; refine (made_any hst).mono ?_; rintro e w' ⟨rfl, rfl⟩)
 have hB : BoxAt (w.alloc (.cells (boxCells s).toArray 122)) w.heap.size s := heap_alloc_new w _
 have cd0 : (w.alloc (.cells #[cS s 0, cS s 1, cS s 2, cS s 3] 122)).cell? ⟨w.heap.size, 0, none⟩ = some (cS s 0) := hB.cell 0 rfl
 have cd1 : (w.alloc (.cells #[cS s 0, cS s 1, cS s 2, cS s 3] 122)).cell? ⟨w.heap.size, 1, none⟩ = some (cS s 1) := hB.cell 1 rfl
 have cd2 : (w.alloc (.cells #[cS s 0, cS s 1, cS s 2, cS s 3] 122)).cell? ⟨w.heap.size, 2, none⟩ = some (cS s 2) := hB.cell 2 rfl
 have cd3 : (w.alloc (.cells #[cS s 0, cS s 1, cS s 2, cS s 3] 122)).cell? ⟨w.heap.size, 3, none⟩ = some (cS s 3) := hB.cell 3 rfl
 exact bodyPost_ret (v := .agg #[cS s 0, cS s 1, cS s 2, cS s 3]) (by simp [results, Tryz.results124, go_sem, cd0, cd1, cd2, cd3]) rfl ⟨rfl, (Fr.refl No w).alloc _⟩
end Go.Proofs.YtidlpihoafnobaaGreat.StG32
namespace Go.Proofs.YtidlpihoafnobaaGreat.StM32
set_option maxRecDepth 100000
open Go.RowKit
theorem row_put {w : World} {sb : Nat} {cs : List Value} (h : w.heap[sb]? = some (.cells cs.toArray 197 (0, 0))) (k : Nat) (v : Value) : (w.setCell ⟨sb, k, none⟩ v).heap[sb]? = some (.cells (cs.set k v).toArray 197 (0, 0)) := by
 rw [heap_setCell_same w sb k _ _ v h, List.setIfInBounds_toArray]
end Go.Proofs.YtidlpihoafnobaaGreat.StM32
namespace Go.Proofs.YtidlpihoafnobaaGreat.StM32
set_option maxRecDepth 100000
open Go.RowKit
theorem own_ge {w : World} {base : Nat} {v : Value} {l : Bytes} (h : Owns w base v l) {x : Nat} (hx : v.ownBlock = some x) : base ≤ x := by
 rcases h.2 with ⟨rfl, _⟩ | ⟨g, cap, cur, rfl, hb, _⟩
 · simp [Value.ownBlock] at hx
 · simp [Value.ownBlock] at hx; omega
end Go.Proofs.YtidlpihoafnobaaGreat.StM32
namespace Go.Proofs.YtidlpihoafnobaaGreat.StM32
set_option maxRecDepth 100000
open Go.RowKit
theorem Long_any {w : World} {sb : Nat} {size : Int} {f s : ST} {q : Nat} {tv : Value} {lo : BitVec 64} (hst : StreamAt w sb size f s q tv lo) : Calls Tryz.prog 114 #[.pointer (some ⟨sb, 0, none⟩)] w (Gives (.int .u64 (W64 lo)) w) := by
 have clo : w.cell? ⟨sb, 5, none⟩ = some (.int .u64 (W64 lo)) := hst.cell 5 rfl
 go_enter Tryz.func114, Tryz.ntmps114
 go_wp2_with (go_at_call 177; refine (made_any hst).mono ?_; rintro e w' ⟨rfl, rfl⟩)
 go_ret
 exact ⟨rfl, rfl⟩
theorem State_any {w : World} {sb : Nat} {size : Int} {f s : ST} {q : Nat} {tv : Value} {lo : BitVec 64} (hst : StreamAt w sb size f s q tv lo) : Calls Tryz.prog 112 #[.pointer (some ⟨sb, 0, none⟩)] w (GivesS s w) := by
 have cn0 : w.cell? ⟨sb, 2, none⟩ = some (.int .u32 (W32 s)) := hst.cell 2 rfl
 go_enter Tryz.func112, Tryz.ntmps112
 go_wp2_with (go_at_call 177; refine (made_any hst).mono ?_; rintro e w' ⟨rfl, rfl⟩)
 go_ret
 exact ⟨rfl, Fr.refl _ _⟩
end Go.Proofs.YtidlpihoafnobaaGreat.StM32
namespace Go.Proofs.YtidlpihoafnobaaGreat
set_option maxRecDepth 100000
open Go.RowKit
theorem Keeps.sub {w : World} {F G : Nat → Prop} (h : Keeps w F) (hG : ∀ x, G x → F x) : Keeps w G := fun x o ho hc g => h x o ho hc (hG x g)
end Go.Proofs.YtidlpihoafnobaaGreat
namespace Go.Proofs.YtidlpihoafnobaaGreat.StM32
set_option maxRecDepth 100000
open Go.RowKit
theorem made_h {w0 w : World} {hb sb : Nat} {sd : BitVec 32} {s : ST} {tl : Bytes} {lo : BitVec 64} {tv : Value} (h : HLive w0 w hb sb sd s tl lo tv) : Calls Tryz.prog 111 #[.pointer (some ⟨hb, 0, none⟩)] w (Gives (.bool true) w) := by
 have cc := h.cell
 go_enter Tryz.func111, Tryz.ntmps111
 go_wp2
 go_ret
 exact ⟨rfl, rfl⟩
end Go.Proofs.YtidlpihoafnobaaGreat.StM32
namespace Go.Proofs.YtidlpihoafnobaaGreat.StM64
set_option maxRecDepth 100000
open Go.RowKit
theorem made_h {w0 w : World} {hb sb : Nat} {sd : BitVec 32} {s : ST} {tl : Bytes} {lo : BitVec 64} {tv : Value} (h : HLive w0 w hb sb sd s tl lo tv) : Calls Tryz.prog 136 #[.pointer (some ⟨hb, 0, none⟩)] w (Gives (.bool true) w) := by
 have cc := h.cell
 go_enter Tryz.func136, Tryz.ntmps136
 go_wp2
 go_ret
 exact ⟨rfl, rfl⟩
end Go.Proofs.YtidlpihoafnobaaGreat.StM64
namespace Go.Proofs.YtidlpihoafnobaaGreat.StX32
set_option maxRecDepth 100000
open Go.Proofs.YtidlpihoafnobaaGreat.StG32
open Go.RowKit
section
variable {w0 w w' : World} {hb sb : Nat} {sd : BitVec 32} {s : ST} {tl : Bytes} {lo : BitVec 64} {tv : Value}
theorem HLive.cell0 (h : HLive w0 w hb sb sd s tl lo tv) : w.cell? ⟨hb, 0, none⟩ = some (.int .u32 (W32 sd)) := by rw [cell_of_row w hb 0 _ _ _ h.hc]; rfl
end
theorem made_h {w0 w : World} {hb sb : Nat} {sd : BitVec 32} {s : ST} {tl : Bytes} {lo : BitVec 64} {tv : Value} (h : HLive w0 w hb sb sd s tl lo tv) : Calls Tryz.prog 147 #[.pointer (some ⟨hb, 0, none⟩)] w (Gives (.bool true) w) := by
 have cc := h.cell
 go_enter Tryz.func147, Tryz.ntmps147
 go_wp2
 go_ret
 exact ⟨rfl, rfl⟩
end Go.Proofs.YtidlpihoafnobaaGreat.StX32
namespace Go.Proofs.YtidlpihoafnobaaGreat.StSip
set_option maxRecDepth 100000
open Go.Proofs.YtidlpihoafnobaaGreat.StG64
open Go.RowKit
section
variable {w0 w w' : World} {hb sb : Nat} {kd : Int} {kh kl : BitVec 64} {q : Nat} {s : ST} {tl : Bytes} {lo : BitVec 64} {tv : Value}
theorem HLive.cell0 (h : HLive w0 w hb sb kd kh kl q s tl lo tv) : w.cell? ⟨hb, 0, none⟩ = some (.int .i64 kd) := by rw [cell_of_row w hb 0 _ _ _ h.hc]; rfl
end
theorem made_h {w0 w : World} {hb sb : Nat} {kd : Int} {kh kl : BitVec 64} {q : Nat} {s : ST} {tl : Bytes} {lo : BitVec 64} {tv : Value} (h : HLive w0 w hb sb kd kh kl q s tl lo tv) : Calls Tryz.prog 220 #[.pointer (some ⟨hb, 0, none⟩)] w (Gives (.bool true) w) := by
 have cc := h.cell
 go_enter Tryz.func220, Tryz.ntmps220
 go_wp2
 go_ret
 exact ⟨rfl, rfl⟩
end Go.Proofs.YtidlpihoafnobaaGreat.StSip
namespace Go.Proofs.YtidlpihoafnobaaGreat.StX64
set_option maxRecDepth 100000
open Go.Proofs.YtidlpihoafnobaaGreat.StG64
open Go.RowKit
section
variable {w0 w w' : World} {hb sb : Nat} {sd : BitVec 64} {s : ST} {tl : Bytes} {lo : BitVec 64} {tv : Value}
theorem HLive.cell0 (h : HLive w0 w hb sb sd s tl lo tv) : w.cell? ⟨hb, 0, none⟩ = some (.int .u64 (W64 sd)) := by rw [cell_of_row w hb 0 _ _ _ h.hc]; rfl
end
theorem made_h {w0 w : World} {hb sb : Nat} {sd : BitVec 64} {s : ST} {tl : Bytes} {lo : BitVec 64} {tv : Value} (h : HLive w0 w hb sb sd s tl lo tv) : Calls Tryz.prog 209 #[.pointer (some ⟨hb, 0, none⟩)] w (Gives (.bool true) w) := by
 have cc := h.cell
 go_enter Tryz.func209, Tryz.ntmps209
 go_wp2
 go_ret
 exact ⟨rfl, rfl⟩
end Go.Proofs.YtidlpihoafnobaaGreat.StX64
namespace Go.Proofs.YtidlpihoafnobaaGreat.StM86
set_option maxRecDepth 100000
open Go.Proofs.YtidlpihoafnobaaGreat.StG32
open Go.RowKit
theorem made_h {w0 w : World} {hb sb : Nat} {sd : BitVec 32} {s : ST} {tl : Bytes} {lo : BitVec 64} {tv : Value} (h : HLive w0 w hb sb sd s tl lo tv) : Calls Tryz.prog 123 #[.pointer (some ⟨hb, 0, none⟩)] w (Gives (.bool true) w) := by
 have cc := h.cell
 go_enter Tryz.func123, Tryz.ntmps123
 go_wp2
 go_ret
 exact ⟨rfl, rfl⟩
end Go.Proofs.YtidlpihoafnobaaGreat.StM86
namespace Go.Proofs.YtidlpihoafnobaaGreat
set_option maxRecDepth 100000
open Go.RowKit
theorem fold_nil (k : Int) (s : HSt) : foldS k s [] = (s, []) := by
 cases s with
 | m32 s => show (HSt.m32 _, _) = _; rw [foldF_short (by simp)]
 | m86 s => show (HSt.m86 _, _) = _; rw [foldF_short (by simp)]
 | m64 s => show (HSt.m64 _, _) = _; rw [foldF_short (by simp)]
 | x32 s => show (HSt.x32 _, _) = _; rw [foldF_short (by simp)]
 | x64 s => show (HSt.x64 _, _) = _; rw [foldF_short (by simp)]
 | sip s => show (HSt.sip _, _) = _; rw [foldF_short (by simp)]
end Go.Proofs.YtidlpihoafnobaaGreat
namespace Go.Proofs.YtidlpihoafnobaaGreat
set_option maxRecDepth 100000
open Go.RowKit
theorem HDone_nil {w0 w : World} {hb : Nat} {F : Nat → Prop} {k : Int} {kh kl : BitVec 64} (h : HSAny w0 w hb F k kh kl (firstS k kh kl) [] 0#64) : HDone w0 w hb F k kh kl [] := by
 unfold HDone
 rw [fold_nil]
 exact h
end Go.Proofs.YtidlpihoafnobaaGreat
