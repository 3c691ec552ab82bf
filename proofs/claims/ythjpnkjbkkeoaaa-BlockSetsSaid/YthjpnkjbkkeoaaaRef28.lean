/- astragalref28: Step, Size, Fold. -/
import Derived.Test.YthjpnkjbkkeoaaaWriteS28
import Derived.Test.YthjpnkjbkkeoaaaLePlain
namespace Go.Proofs.Ythjpnkjbkkeoaaa.StS28
set_option linter.unusedVariables false
set_option linter.unusedSimpArgs false
open Go.RowKit

def stepX (x : BitVec 64) (l : Bytes) : BitVec 64 := l.foldl (fun x c => x * 257#64 + c.setWidth 64 + 1#64) x
theorem stepX_take (x : BitVec 64) (l : Bytes) (i : Nat) (h : i < l.length) : stepX x (l.take (i + 1)) = stepX x (l.take i) * 257#64 + (l.getD i 0).setWidth 64 + 1#64 := by
  unfold stepX
  rw [List.take_add_one, List.foldl_append, List.getD_eq_getElem?_getD, List.getElem?_eq_getElem h]
  rfl
/-- A block more. -/
def stepG (s : ST) (l : Bytes) : ST := (stepX s.1 l, wrap64 (s.2 + 1))
theorem Size_any (n : Int) (w : World) (h1 : -9223372036854775808 ≤ n) (h2 : n ≤ 9223372036854775807) :
    Calls Try.prog 20 #[.int .i64 n] w (Gives (.int .i64 (sizeOk n)) w) := by
  rcases (show n < 1 ∨ (1 ≤ n ∧ n ≤ 64) ∨ 64 < n by omega) with h | ⟨h, h'⟩ | h
  · rw [show sizeOk n = 1 by unfold sizeOk; rw [if_pos h]]
    go_enter Try.func20, Try.ntmps20
    go_wp2
    all_goals (go_ret; exact ⟨rfl, rfl⟩)
  · rw [show sizeOk n = n by unfold sizeOk; rw [if_neg (by omega), if_neg (by omega)]]
    go_enter Try.func20, Try.ntmps20
    go_wp2
    all_goals (go_ret; exact ⟨rfl, rfl⟩)
  · rw [show sizeOk n = 64 by unfold sizeOk; rw [if_neg (by omega), if_pos h]]
    go_enter Try.func20, Try.ntmps20
    go_wp2
    all_goals (go_ret; exact ⟨rfl, rfl⟩)
abbrev zero28 : List Value := [.int .u64 0, .int .i64 0]
set_option maxHeartbeats 1000000 in
theorem Step_any (s : ST) (a : Option Addr) (n c : Nat) (l : Bytes) (w : World) (h : IsBytes w a n c l) (hn : n ≤ 1099511627776) :
    Calls Try.prog 8 #[.agg #[cS s 0, cS s 1], .slice a n c] w (GivesS (stepG s l) w) := by
  have hlen := h.1
  have hA : BoxAt (w.alloc (.cells (boxCells s).toArray 27)) w.heap.size s := heap_alloc_new w _
  have hbox : BoxAt ((w.alloc (.cells (boxCells s).toArray 27)).alloc (.cells zero28.toArray 27)) w.heap.size s := hA.fr ((Fr.refl No _).alloc _) (fun h => h)
  have hres : ((w.alloc (.cells (boxCells s).toArray 27)).alloc (.cells zero28.toArray 27)).heap[w.heap.size + 1]? = some (.cells zero28.toArray 27 (0, 0)) := heap_alloc2_new w _ _
  have hfr := ((Fr.refl No w).alloc (.cells (boxCells s).toArray 27)).alloc (.cells zero28.toArray 27)
  go_enter Try.func8, Try.ntmps8
  go_wp2
  go_loopw [9] (fun i wr => ∃ k : Nat, k ≤ n ∧ i = .int .i64 k ∧ BoxAt wr w.heap.size (stepX s.1 (l.take k), s.2) ∧ wr.heap[w.heap.size + 1]? = some (.cells zero28.toArray 27 (0, 0)) ∧ Fr No w wr) (fun i _ => n - (intOf i).toNat)
  case atStart => exact ⟨0, by omega, rfl, hbox, hres, hfr⟩
  case round =>
    obtain ⟨k, hk, rfl, hb, hr, hf⟩ := hrel
    clear hA hbox hres hfr
    have cb0 : wr.cell? ⟨w.heap.size, 0, none⟩ = some (.int .u64 (W64 (stepX s.1 (l.take k)))) := hb.cell 0 rfl
    have cb1 : wr.cell? ⟨w.heap.size, 1, none⟩ = some (.int .i64 s.2) := hb.cell 1 rfl
    have fz0 := hb.frozen 0
    by_cases hlt : k < n
    · obtain ⟨b, off, rfl, hc⟩ := (h.no hf).known (by omega)
      have hck := hc k hlt
      have hs := Lib.hid (stepX_take s.1 l k (by omega))
      generalize l.getD k 0 = z at hck hs
      generalize stepX s.1 (l.take k) = x at hb cb0 hs
      clear hc h hlen
      go_wp2
      go_roundw
      case rel => exact ⟨k + 1, by omega, by simp, by rw [hs.out]; exact box_put hb 0 _, ((Fr.refl (fun x => x = w.heap.size) wr).setCell (p := ⟨w.heap.size, 0, none⟩) (.inl rfl) _).heap (by omega) hr, hf.trans ((Fr.refl (fun x => x = w.heap.size) wr).setCell (p := ⟨w.heap.size, 0, none⟩) (.inl rfl) _) (fun x hx => .inr (by omega))⟩
      case measure => simp [intOf]; omega
    · obtain rfl : k = n := by omega
      have cr0 : wr.cell? ⟨w.heap.size + 1, 0, none⟩ = some (.int .u64 0) := by rw [cell_of_row wr _ 0 _ _ _ hr]; rfl
      have cr1 : wr.cell? ⟨w.heap.size + 1, 1, none⟩ = some (.int .i64 0) := by rw [cell_of_row wr _ 1 _ _ _ hr]; rfl
      have fr0 := frozen_of_row wr (w.heap.size + 1) 0 _ _ hr
      have fr1 := frozen_of_row wr (w.heap.size + 1) 1 _ _ hr
      have htk : l.take k = l := List.take_of_length_le (by omega)
      rw [htk] at cb0 hb
      have hS3 := box_put (box_put hr 0 (.int .u64 (W64 (stepX s.1 l)))) 1 (.int .i64 (wrap64 (s.2 + 1)))
      have hF3 := ((Fr.refl (fun x => x = w.heap.size + 1) wr).setCell (p := ⟨w.heap.size + 1, 0, none⟩) (.inl rfl) (.int .u64 (W64 (stepX s.1 l)))).setCell (p := ⟨w.heap.size + 1, 1, none⟩) (.inl rfl) (.int .i64 (wrap64 (s.2 + 1)))
      clear h hlen hb htk hr
      go_wp2
      generalize (wr.setCell ⟨w.heap.size + 1, 0, none⟩ (.int .u64 (W64 (stepX s.1 l)))).setCell ⟨w.heap.size + 1, 1, none⟩ (.int .i64 (wrap64 (s.2 + 1))) = w3 at hS3 hF3 ⊢
      have cd0 : w3.cell? ⟨w.heap.size + 1, 0, none⟩ = some (.int .u64 (W64 (stepX s.1 l))) := by rw [cell_of_row w3 _ 0 _ _ _ hS3]; rfl
      have cd1 : w3.cell? ⟨w.heap.size + 1, 1, none⟩ = some (.int .i64 (wrap64 (s.2 + 1))) := by rw [cell_of_row w3 _ 1 _ _ _ hS3]; rfl
      exact bodyPost_ret (v := .agg #[cS (stepG s l) 0, cS (stepG s l) 1]) (by simp [results, Try.results8, go_sem, cd0, cd1]; exact ⟨rfl, rfl⟩) rfl ⟨rfl, hf.trans hF3 (fun x hx => .inr (by omega))⟩
end Go.Proofs.Ythjpnkjbkkeoaaa.StS28
