/- The reference of xx32: Blocks, End, One. -/
import Derived.Test.YtdemhnkkohnflabRefEndX32
namespace Go.Proofs.Ytdemhnkkohnflab.StX32
set_option linter.unusedVariables false
set_option linter.unusedSimpArgs false
open Go.RowKit
theorem back32 (x : BitVec 32) : BitVec.setWidth 32 (BitVec.setWidth 64 x) = x := by simp
theorem first_add (sd : BitVec 32) : sd + 2654435761#32 + 2246822519#32 = sd + 606290984#32 := by rw [BitVec.add_assoc]; rfl
set_option maxHeartbeats 1000000 in
theorem refBlocks_any (sd : BitVec 32) (a : Option Addr) (n c : Nat) (l : Bytes) (w : World) (h : IsBytes w a n c l) (hn : n ≤ 1099511627776) :
    Calls Try.prog 16 #[.int .u32 (W32 sd), .slice a n c] w (GivesLanes a n c l (foldF stepG 16 (firstF sd) l) w) := by
  have hF1 := (Fr.refl No w).alloc (.cells #[.int .u64 0, .int .u64 0, .int .u64 0, .int .u64 0] 36)
  have hA := row4_new w 36 (.int .u64 0) (.int .u64 0) (.int .u64 0) (.int .u64 0)
  have hpl : w.heap.size < (w.alloc (.cells #[.int .u64 0, .int .u64 0, .int .u64 0, .int .u64 0] 36)).heap.size := hA.lt
  generalize hr : foldF stepG 16 (firstF sd) l = r
  have HR := Lib.hid hr
  clear hr
  go_enter Try.func16, Try.ntmps16
  go_wp2_with fail
  have hF2 : Fr No w ((w.alloc (.cells #[.int .u64 0, .int .u64 0, .int .u64 0, .int .u64 0] 36)).alloc (.cells #[.int .u32 (W32 (sd + 2654435761#32 + 2246822519#32)), .int .u32 (W32 (sd + 2246822519#32)), .int .u32 (W32 sd), .int .u32 (W32 (sd - 2654435761#32))] 49)) := hF1.alloc _
  have hA2 := hA.no ((Fr.refl No (w.alloc (.cells #[.int .u64 0, .int .u64 0, .int .u64 0, .int .u64 0] 36))).alloc (.cells #[.int .u32 (W32 (sd + 2654435761#32 + 2246822519#32)), .int .u32 (W32 (sd + 2246822519#32)), .int .u32 (W32 sd), .int .u32 (W32 (sd - 2654435761#32))] 49))
  have h1 := h.no hF2
  have hs : Hid (firstF sd = (BitVec.setWidth 32 (BitVec.setWidth 64 (sd + 2654435761#32 + 2246822519#32)), BitVec.setWidth 32 (BitVec.setWidth 64 (sd + 2246822519#32)), BitVec.setWidth 32 (BitVec.setWidth 64 sd), BitVec.setWidth 32 (BitVec.setWidth 64 (sd - 2654435761#32)))) := by
    show _ = _
    simp only [back32, first_add, firstF]
  generalize (w.alloc (.cells #[.int .u64 0, .int .u64 0, .int .u64 0, .int .u64 0] 36)).alloc (.cells #[.int .u32 (W32 (sd + 2654435761#32 + 2246822519#32)), .int .u32 (W32 (sd + 2246822519#32)), .int .u32 (W32 sd), .int .u32 (W32 (sd - 2654435761#32))] 49) = w1 at hF2 hA2 h1 ⊢
  refine (refFrom_any _ _ _ _ (firstF sd) _ _ _ l _ hs h1 hn).mono ?_
  rintro e w2 ⟨a', n', c', rfl, hb, hst, hf⟩
  rw [HR.out] at hb hst ⊢
  have hR := hA2.no hf
  have hF := hF2.no hf
  clear hf h1 hA hA2 hF1 hF2 hpl hs
  have cr0 := hR.c0
  have cr1 := hR.c1
  have cr2 := hR.c2
  have cr3 := hR.c3
  have fr0 := hR.fz 0
  have fr1 := hR.fz 1
  have fr2 := hR.fz 2
  have fr3 := hR.fz 3
  unfold lanesV
  go_wp2_with fail
  have hF3 := fr_put4 w2 w.heap.size (.int .u64 (W64 (r.1.1.setWidth 64))) (.int .u64 (W64 (r.1.2.1.setWidth 64))) (.int .u64 (W64 (r.1.2.2.1.setWidth 64))) (.int .u64 (W64 (r.1.2.2.2.setWidth 64)))
  have hR3 := row_put4 hR (.int .u64 (W64 (r.1.1.setWidth 64))) (.int .u64 (W64 (r.1.2.1.setWidth 64))) (.int .u64 (W64 (r.1.2.2.1.setWidth 64))) (.int .u64 (W64 (r.1.2.2.2.setWidth 64)))
  clear cr0 cr1 cr2 cr3 fr0 fr1 fr2 fr3
  generalize (((w2.setCell ⟨w.heap.size, 0, none⟩ (.int .u64 (W64 (r.1.1.setWidth 64)))).setCell ⟨w.heap.size, 1, none⟩ (.int .u64 (W64 (r.1.2.1.setWidth 64)))).setCell ⟨w.heap.size, 2, none⟩ (.int .u64 (W64 (r.1.2.2.1.setWidth 64)))).setCell ⟨w.heap.size, 3, none⟩ (.int .u64 (W64 (r.1.2.2.2.setWidth 64))) = w3 at hF3 hR3 ⊢
  have cd0 := hR3.c0
  have cd1 := hR3.c1
  have cd2 := hR3.c2
  have cd3 := hR3.c3
  have hFe : Fr No w w3 := hF.trans hF3 (fun x hx => .inr (by omega))
  refine bodyPost_ret (v := .tuple #[lanesV r.1, .slice a' n' c']) (by simp [results, Try.results16, go_sem, cd0, cd1, cd2, cd3, lanesV]) rfl ?_
  exact ⟨a', n', c', rfl, (hst _ (h.no hFe)), hst, hFe⟩
set_option maxHeartbeats 400000 in
theorem refOne_any (sd : BitVec 32) (a : Option Addr) (n c : Nat) (l : Bytes) (w : World) (h : IsBytes w a n c l) (hn : n ≤ 1099511627776) :
    Calls Try.prog 9 #[.int .u32 (W32 sd), .slice a n c] w (GivesNew (.int .u32 (W32 (oneF sd l))) w) := by
  have hlen := Lib.hid h.1
  unfold oneF
  rw [hlen.out]
  generalize hr : foldF stepG 16 (firstF sd) l = r
  have HR := Lib.hid hr
  clear hr
  go_enter Try.func9, Try.ntmps9
  go_wp2_with fail
  refine (refBlocks_any sd _ _ _ l _ h hn).mono ?_
  rw [HR.out]
  rintro e w2 ⟨a', n', c', rfl, hb, hst, hf⟩
  have hF2 := hf.alloc (.cells #[.int .u64 (W64 (r.1.1.setWidth 64)), .int .u64 (W64 (r.1.2.1.setWidth 64)), .int .u64 (W64 (r.1.2.2.1.setWidth 64)), .int .u64 (W64 (r.1.2.2.2.setWidth 64))] 36)
  have hs : Hid (r.1 = (BitVec.setWidth 32 (BitVec.setWidth 64 r.1.1), BitVec.setWidth 32 (BitVec.setWidth 64 r.1.2.1), BitVec.setWidth 32 (BitVec.setWidth 64 r.1.2.2.1), BitVec.setWidth 32 (BitVec.setWidth 64 r.1.2.2.2))) := by
    show _ = _
    simp only [back32]
  have hb2 := hst _ (h.no hF2)
  unfold lanesV
  go_wp2_with fail
  refine (refEnd_any sd _ _ _ _ r.1 _ _ _ r.2 _ _ hs hb2).mono ?_
  rintro e w3 ⟨rfl, hf3⟩
  go_wp2_with fail
  go_ret
  exact ⟨rfl, hF2.no hf3⟩
end Go.Proofs.Ytdemhnkkohnflab.StX32
