/- EndM64 CodeX32 -/
import Derived.Test.YtidlpihoafnobaaGreatPStrAny
set_option linter.unusedVariables false
set_option linter.unusedSimpArgs false
namespace Go.Proofs.YtidlpihoafnobaaGreat.StM64
set_option maxRecDepth 100000
open Go.RowKit
theorem four_any (s : ST) (w : World) : Calls Tryz.prog 280 #[.agg #[cS s 0, cS s 1]] w (GivesNew (lanesV s) w) := by
 rw [cS0, cS1]
 have hF : Fr No w ((w.alloc (.cells #[.int .u64 (W64 (s.1)), .int .u64 (W64 (s.2))] 160)).alloc (.cells #[.int .u64 (W64 (s.1)), .int .u64 (W64 (s.2)), .int .u64 0, .int .u64 0] 49)) := ((Fr.refl No w).alloc _).alloc _
 have hN : ((w.alloc (.cells #[.int .u64 (W64 (s.1)), .int .u64 (W64 (s.2))] 160)).alloc (.cells #[.int .u64 (W64 (s.1)), .int .u64 (W64 (s.2)), .int .u64 0, .int .u64 0] 49)).heap[w.heap.size + 1]? = some (.cells #[.int .u64 (W64 (s.1)), .int .u64 (W64 (s.2)), .int .u64 0, .int .u64 0] 49 (0, 0)) := heap_alloc2_new w _ _
 go_enter Tryz.func280, Tryz.ntmps280
 go_wp2_with fail
 generalize ((w.alloc (.cells #[.int .u64 (W64 (s.1)), .int .u64 (W64 (s.2))] 160)).alloc (.cells #[.int .u64 (W64 (s.1)), .int .u64 (W64 (s.2)), .int .u64 0, .int .u64 0] 49)) = w3 at hF hN ⊢
 have cd0 : w3.cell? ⟨w.heap.size + 1, 0, none⟩ = some (.int .u64 (W64 (s.1))) := by rw [cell_of_row w3 _ 0 _ _ _ hN]; rfl
 have cd1 : w3.cell? ⟨w.heap.size + 1, 1, none⟩ = some (.int .u64 (W64 (s.2))) := by rw [cell_of_row w3 _ 1 _ _ _ hN]; rfl
 have cd2 : w3.cell? ⟨w.heap.size + 1, 2, none⟩ = some (.int .u64 0) := by rw [cell_of_row w3 _ 2 _ _ _ hN]; rfl
 have cd3 : w3.cell? ⟨w.heap.size + 1, 3, none⟩ = some (.int .u64 0) := by rw [cell_of_row w3 _ 3 _ _ _ hN]; rfl
 exact bodyPost_ret (v := .agg #[.int .u64 (W64 (s.1)), .int .u64 (W64 (s.2)), .int .u64 0, .int .u64 0]) (by simp [results, Tryz.results280, go_sem, cd0, cd1, cd2, cd3]) rfl ⟨rfl, hF⟩
end Go.Proofs.YtidlpihoafnobaaGreat.StM64
namespace Go.Proofs.YtidlpihoafnobaaGreat.StX32
set_option maxRecDepth 100000
open Go.Proofs.YtidlpihoafnobaaGreat.StG32
open Go.RowKit
set_option maxHeartbeats 400000 in
theorem wide_any (s : ST) (w : World) : Calls Tryz.prog 289 #[.agg #[.int .u32 (W32 s.1), .int .u32 (W32 s.2.1), .int .u32 (W32 s.2.2.1), .int .u32 (W32 s.2.2.2)]] w (GivesNew (lanesV s) w) := by
 have hR := row4_new w 122 (.int .u32 (W32 s.1)) (.int .u32 (W32 s.2.1)) (.int .u32 (W32 s.2.2.1)) (.int .u32 (W32 s.2.2.2))
 have hF := (Fr.refl No w).alloc (.cells #[.int .u32 (W32 s.1), .int .u32 (W32 s.2.1), .int .u32 (W32 s.2.2.1), .int .u32 (W32 s.2.2.2)] 122)
 have hR2 : Row4 ((w.alloc (.cells #[.int .u32 (W32 s.1), .int .u32 (W32 s.2.1), .int .u32 (W32 s.2.2.1), .int .u32 (W32 s.2.2.2)] 122)).alloc (.cells #[.int .u64 (W64 (s.1.setWidth 64)), .int .u64 (W64 (s.2.1.setWidth 64)), .int .u64 (W64 (s.2.2.1.setWidth 64)), .int .u64 (W64 (s.2.2.2.setWidth 64))] 49)) (w.heap.size + 1) 49 (.int .u64 (W64 (s.1.setWidth 64))) (.int .u64 (W64 (s.2.1.setWidth 64))) (.int .u64 (W64 (s.2.2.1.setWidth 64))) (.int .u64 (W64 (s.2.2.2.setWidth 64))) := heap_alloc2_new w _ _
 have hF2 := hF.alloc (.cells #[.int .u64 (W64 (s.1.setWidth 64)), .int .u64 (W64 (s.2.1.setWidth 64)), .int .u64 (W64 (s.2.2.1.setWidth 64)), .int .u64 (W64 (s.2.2.2.setWidth 64))] 49)
 go_enter Tryz.func289, Tryz.ntmps289
 go_wp2
 generalize ((w.alloc (.cells #[.int .u32 (W32 s.1), .int .u32 (W32 s.2.1), .int .u32 (W32 s.2.2.1), .int .u32 (W32 s.2.2.2)] 122)).alloc (.cells #[.int .u64 (W64 (s.1.setWidth 64)), .int .u64 (W64 (s.2.1.setWidth 64)), .int .u64 (W64 (s.2.2.1.setWidth 64)), .int .u64 (W64 (s.2.2.2.setWidth 64))] 49)) = w3 at hR2 hF2 ⊢
 have cd0 := hR2.c0
 have cd1 := hR2.c1
 have cd2 := hR2.c2
 have cd3 := hR2.c3
 exact bodyPost_ret (v := lanesV s) (by simp [results, Tryz.results289, go_sem, cd0, cd1, cd2, cd3, lanesV]) rfl ⟨rfl, hF2⟩
end Go.Proofs.YtidlpihoafnobaaGreat.StX32
