/- StrHasher StrCaps SealPlain Seal As SealErr -/
import Derived.LaidEql
import Derived.RowKitTokens
import Derived.Stop.Asserts
import Derived.Stop.IfaceNil
import Derived.Test.YtidlpihoafnobaaGreatDoorProg
import Derived.WalkKit
import Derived.Test.YtidlpihoafnobaaGreatDoorPHashM32
set_option linter.unusedVariables false
set_option linter.unusedSimpArgs false
namespace Go.Proofs.YtidlpihoafnobaaGreatDoor
set_option maxRecDepth 100000
open Go.RowKit
def HRow (w : World) (hb : Nat) (k : Int) (kh kl : BitVec 64) (iv sv tv : Value) : Prop := w.heap[hb]? = some (.cells #[.int .i64 k, .int .u64 (W64 kh), .int .u64 (W64 kl), iv, sv, tv] 78 (0, 0))
section
variable {w : World} {hb : Nat} {k : Int} {kh kl : BitVec 64} {iv sv tv : Value}
theorem HRow.c0 (h : HRow w hb k kh kl iv sv tv) : w.cell? ⟨hb, 0, none⟩ = some (.int .i64 k) := by rw [cell_of_row w hb 0 _ _ _ h]; rfl
theorem HRow.c1 (h : HRow w hb k kh kl iv sv tv) : w.cell? ⟨hb, 1, none⟩ = some (.int .u64 (W64 kh)) := by rw [cell_of_row w hb 1 _ _ _ h]; rfl
theorem HRow.c2 (h : HRow w hb k kh kl iv sv tv) : w.cell? ⟨hb, 2, none⟩ = some (.int .u64 (W64 kl)) := by rw [cell_of_row w hb 2 _ _ _ h]; rfl
theorem HRow.c3 (h : HRow w hb k kh kl iv sv tv) : w.cell? ⟨hb, 3, none⟩ = some (iv) := by rw [cell_of_row w hb 3 _ _ _ h]; rfl
theorem HRow.c4 (h : HRow w hb k kh kl iv sv tv) : w.cell? ⟨hb, 4, none⟩ = some (sv) := by rw [cell_of_row w hb 4 _ _ _ h]; rfl
theorem HRow.c5 (h : HRow w hb k kh kl iv sv tv) : w.cell? ⟨hb, 5, none⟩ = some (tv) := by rw [cell_of_row w hb 5 _ _ _ h]; rfl
theorem HRow.con (h : HRow w hb k kh kl iv sv tv) : ∃ o, w.heap[hb]? = some o ∧ Con o := ⟨_, h, _, _, rfl, by decide⟩
theorem HRow.fr {F : Nat → Prop} {w' : World} (h : HRow w hb k kh kl iv sv tv) (f : Fr F w w') (c : Keeps w F) : HRow w' hb k kh kl iv sv tv := c.fr f h ⟨_, _, rfl, by decide⟩
theorem HRow.no {w' : World} (h : HRow w hb k kh kl iv sv tv) (f : Fr No w w') : HRow w' hb k kh kl iv sv tv := f.heap (fun h => h) h
theorem HRow.lt (h : HRow w hb k kh kl iv sv tv) : hb < w.heap.size := (Array.getElem?_eq_some_iff.1 h).1
end
theorem neq_iface (T : TypeId) (v : Value) (w : World) : (binOp .neq 74 (.iface T v) .nilIface).run Tryz.prog w = .ok (.bool true) w := by
 exact run_neq_iface_nil w _ (by kernel_rfl) T v
theorem hmade_yes {w : World} {hb : Nat} {T : TypeId} {v : Value} (h : w.cell? ⟨hb, 3, none⟩ = some (.iface T v)) : Calls Tryz.prog 33 #[.pointer (some ⟨hb, 0, none⟩)] w (Gives (.bool true) w) := by
 have hq := neq_iface T v
 go_enter Tryz.func33, Tryz.ntmps33
 go_wp2
 go_ret
 exact ⟨rfl, rfl⟩
theorem hKind_yes {w : World} {hb : Nat} {T : TypeId} {v : Value} (h3 : w.cell? ⟨hb, 3, none⟩ = some (.iface T v)) {k : Int} (h0 : w.cell? ⟨hb, 0, none⟩ = some (.int .i64 k)) : Calls Tryz.prog 15 #[.pointer (some ⟨hb, 0, none⟩)] w (Gives (.int .i64 k) w) := by
 go_enter Tryz.func15, Tryz.ntmps15
 go_wp2_with (go_at_call 33; refine (hmade_yes h3).mono ?_; rintro e w' ⟨rfl, rfl⟩)
 go_ret
 exact ⟨rfl, rfl⟩
theorem hSum_of {w : World} {hb : Nat} {T : TypeId} {v : Value} (h3 : w.cell? ⟨hb, 3, none⟩ = some (.iface T v)) (f : FuncId) (cs : Array Value) (h4 : w.cell? ⟨hb, 4, none⟩ = some (.func (.func f) #[] cs)) (he : ∀ (args : Array Value) (W : World), Sem.run Tryz.prog (callFunc f args) W = .ok (.enter f args) W) {l : Bytes} (hc : Calls Tryz.prog f cs w (GivesBytes l w)) :
 Calls Tryz.prog 9 #[.pointer (some ⟨hb, 0, none⟩)] w (fun e w' => ∃ v, e = .returned (.tuple #[v, .int .i64 0]) ∧ Owns w' w.heap.size v l ∧ Fr No w w') := by
 go_enter Tryz.func9, Tryz.ntmps9
 go_wp2_with (go_at_call 33; refine (hmade_yes h3).mono ?_; rintro e w' ⟨rfl, rfl⟩)
 refine hc.mono ?_
 rintro e w1 ⟨v1, rfl, hO, hf⟩
 obtain ⟨a1, c1, rfl, hb1, _⟩ := hO.bytes
 go_wp2_with fail
 go_ret2
 exact ⟨_, rfl, hO, hf⟩
theorem own_ge {w : World} {base : Nat} {v : Value} {l : Bytes} (h : Owns w base v l) {x : Nat} (hx : v.ownBlock = some x) : base ≤ x := by
 rcases h.2 with ⟨rfl, _⟩ | ⟨b, cap, cur, rfl, hb, _⟩
 · simp [Value.ownBlock] at hx
 · simp [Value.ownBlock] at hx
   omega
theorem hLanes_of {w : World} {hb : Nat} {T : TypeId} {v : Value} (h3 : w.cell? ⟨hb, 3, none⟩ = some (.iface T v)) (f : FuncId) (hm : ∀ W, (Go.method 428 T v "Lanes").run Tryz.prog W = .ok (f, v) W) (he : ∀ (args : Array Value) (W : World), Sem.run Tryz.prog (callFunc f args) W = .ok (.enter f args) W) (x0 x1 x2 x3 lo : BitVec 64) {l : Bytes} (hc : ∀ W, Fr No w W → Calls Tryz.prog f #[v] W (fun e w' => ∃ v, e = .returned (.tuple #[.agg #[.int .u64 (W64 x0), .int .u64 (W64 x1), .int .u64 (W64 x2), .int .u64 (W64 x3)], .int .u64 (W64 lo), v]) ∧ Owns w' W.heap.size v l ∧ Fr No W w')) :
 Calls Tryz.prog 30 #[.pointer (some ⟨hb, 0, none⟩)] w (fun e w' => ∃ v, e = .returned (.tuple #[.agg #[.int .u64 (W64 x0), .int .u64 (W64 x1), .int .u64 (W64 x2), .int .u64 (W64 x3)], .int .u64 (W64 lo), v]) ∧ Owns w' w.heap.size v l ∧ Fr No w w') := by
 have hF := (Fr.refl No w).alloc (.cells #[.int .u64 0, .int .u64 0, .int .u64 0, .int .u64 0] 31)
 have hA := row4_new w 31 (.int .u64 0) (.int .u64 0) (.int .u64 0) (.int .u64 0)
 have h3' := hF.cell (fun h => h) h3
 have hlt := hF.size
 clear h3
 have h3 := h3'
 clear h3'
 go_enter Tryz.func30, Tryz.ntmps30
 go_wp2_with (go_at_call 33; refine (hmade_yes h3).mono ?_; rintro e w' ⟨rfl, rfl⟩)
 obtain ⟨ab, hab⟩ : ∃ ab, ab = w.heap.size := ⟨_, rfl⟩
 have hge : w.heap.size ≤ ab := by omega
 rw [← hab] at hA ⊢
 clear hab
 generalize w.alloc (.cells #[.int .u64 0, .int .u64 0, .int .u64 0, .int .u64 0] 31) = w1 at hF hA h3 hlt ⊢
 refine (hc _ hF).mono ?_
 rintro e w2 ⟨v2, rfl, hO, hf⟩
 obtain ⟨a2, c2, rfl, hb2, hnew⟩ := hO.bytes
 have hA2 := hA.no hf
 have ca0 := hA2.c0
 have ca1 := hA2.c1
 have ca2 := hA2.c2
 have ca3 := hA2.c3
 have fa0 := hA2.fz 0
 have fa1 := hA2.fz 1
 have fa2 := hA2.fz 2
 have fa3 := hA2.fz 3
 go_wp2_with fail
 have hF3 := fr_put4 w2 ab (.int .u64 (W64 x0)) (.int .u64 (W64 x1)) (.int .u64 (W64 x2)) (.int .u64 (W64 x3))
 have hR3 := row_put4 hA2 (.int .u64 (W64 x0)) (.int .u64 (W64 x1)) (.int .u64 (W64 x2)) (.int .u64 (W64 x3))
 have hlt1 := hA.lt
 have cd0 := hR3.c0
 have cd1 := hR3.c1
 have cd2 := hR3.c2
 have cd3 := hR3.c3
 refine bodyPost_ret (v := .tuple #[.agg #[.int .u64 (W64 x0), .int .u64 (W64 x1), .int .u64 (W64 x2), .int .u64 (W64 x3)], .int .u64 (W64 lo), .slice a2 l.length c2]) (by simp [results, Tryz.results30, go_sem, cd0, cd1, cd2, cd3]) rfl ?_
 exact ⟨_, rfl, (hO.fr hF3 (fun x hx e => by have := own_ge hO hx; omega)).mono hlt, (hF.no hf).trans hF3 (fun x hx => .inr (by omega))⟩
theorem hSet_of {w : World} {hb : Nat} {T : TypeId} {v : Value} (h3 : w.cell? ⟨hb, 3, none⟩ = some (.iface T v)) (f : FuncId) (hm : ∀ W, (Go.method 428 T v "Set").run Tryz.prog W = .ok (f, v) W) (he : ∀ (args : Array Value) (W : World), Sem.run Tryz.prog (callFunc f args) W = .ok (.enter f args) W) (x0 x1 x2 x3 lo : BitVec 64) (a : Option Addr) (n c : Nat) (b : Bool) {F : Nat → Prop} {Q : World → Prop} (hFb : ¬ F hb) (hFl : ∀ x, F x → x < w.heap.size)
 (hc : ∀ W, Fr No w W → Calls Tryz.prog f #[v, .agg #[.int .u64 (W64 x0), .int .u64 (W64 x1), .int .u64 (W64 x2), .int .u64 (W64 x3)], .int .u64 (W64 lo), .slice a n c] W (fun e w' => e = .returned (.bool b) ∧ Q w' ∧ Fr F W w')) :
 Calls Tryz.prog 25 #[.pointer (some ⟨hb, 0, none⟩), .agg #[.int .u64 (W64 x0), .int .u64 (W64 x1), .int .u64 (W64 x2), .int .u64 (W64 x3)], .int .u64 (W64 lo), .slice a n c] w (fun e w' => e = .returned (.int .i64 (if b then 0 else 5)) ∧ Q w') := by
 have hF := (Fr.refl No w).alloc (.cells #[.int .u64 (W64 x0), .int .u64 (W64 x1), .int .u64 (W64 x2), .int .u64 (W64 x3)] 31)
 have hA := row4_new w 31 (.int .u64 (W64 x0)) (.int .u64 (W64 x1)) (.int .u64 (W64 x2)) (.int .u64 (W64 x3))
 have hFa : ¬ F w.heap.size := fun h => by have := hFl _ h; omega
 have h3' := hF.cell (fun h => h) h3
 clear h3
 have h3 := h3'
 clear h3'
 go_enter Tryz.func25, Tryz.ntmps25
 go_wp2_with (go_at_call 33; refine (hmade_yes h3).mono ?_; rintro e w' ⟨rfl, rfl⟩)
 generalize w.heap.size = ab at hA hFa ⊢
 generalize w.alloc (.cells #[.int .u64 (W64 x0), .int .u64 (W64 x1), .int .u64 (W64 x2), .int .u64 (W64 x3)] 31) = w1 at hF hA h3 ⊢
 refine wp_region_seq (by kernel_rfl) (fun w' => Fr F w1 w') (fun _ => false) [(0, 1), (1, 1), (2, 1), (3, 1), (4, 1), (5, 1), (6, 1), (7, 0), (8, 1), (9, 1)] (by kernel_rfl) (Fr.refl F w1).drew ?_
 have hS0 : Fr F w1 w1.drew := (Fr.refl F w1).drew
 iterate 7 refine tq _ rfl rfl (by intro w9 h9; have q3 := h9.cell hFb h3; have r0 := (hA.fr h9 hFa).c0; have r1 := (hA.fr h9 hFa).c1; have r2 := (hA.fr h9 hFa).c2; have r3 := (hA.fr h9 hFa).c3; clear h9; go_simp; try with_reducible rfl) ?_; simp only [es1, es2, es3]
 have hW : Fr No w w1.drew := hF.drew
 refine wpSeq_next rfl rfl (fun K hK => ?_)
 go_wp2_with fail
 refine (hc _ hW).mono ?_
 rintro e w2 ⟨rfl, hQ, hf⟩
 have hf2 : Fr F w1 w2 := hS0.trans hf (fun x hx => .inl hx)
 refine hK.out _ _ (fun _ => hf2) ?_
 clear hK K
 iterate 2 refine tp _ rfl rfl ?_; simp only [es1, es2, es3]
 refine wpSeq_done ?_
 cases b
 · go_wp2_with fail
   go_ret
   exact ⟨rfl, hQ⟩
 · go_wp2_with fail
   go_ret
   exact ⟨rfl, hQ⟩
theorem hKey_yes {w : World} {hb : Nat} {T : TypeId} {v : Value} (h3 : w.cell? ⟨hb, 3, none⟩ = some (.iface T v)) {kh kl : BitVec 64} (h1 : w.cell? ⟨hb, 1, none⟩ = some (.int .u64 (W64 kh))) (h2 : w.cell? ⟨hb, 2, none⟩ = some (.int .u64 (W64 kl))) : Calls Tryz.prog 16 #[.pointer (some ⟨hb, 0, none⟩)] w (GivesNew (.agg #[.int .u64 (W64 kh), .int .u64 (W64 kl)]) w) := by
 have hF := (Fr.refl No w).alloc (.cells #[.int .u64 0, .int .u64 0] 30)
 have hA := row2_new w 30 (.int .u64 0) (.int .u64 0)
 have h3' := hF.cell (fun h => h) h3
 have h1' := hF.cell (fun h => h) h1
 have h2' := hF.cell (fun h => h) h2
 clear h3 h1 h2
 have h3 := h3'
 clear h3'
 go_enter Tryz.func16, Tryz.ntmps16
 go_wp2_with (go_at_call 33; refine (hmade_yes h3).mono ?_; rintro e w' ⟨rfl, rfl⟩)
 have hR := row2_new w 30 (.int .u64 (W64 kh)) (.int .u64 (W64 kl))
 have hF1 := (Fr.refl No w).alloc (.cells #[.int .u64 (W64 kh), .int .u64 (W64 kl)] 30)
 clear hA hF h3 h1' h2'
 generalize w.alloc (.cells #[.int .u64 (W64 kh), .int .u64 (W64 kl)] 30) = w1 at hF1 hR ⊢
 have cd0 := hR.c0
 have cd1 := hR.c1
 refine bodyPost_ret (v := .agg #[.int .u64 (W64 kh), .int .u64 (W64 kl)]) (by simp [results, Tryz.results16, go_sem, cd0, cd1]) rfl ?_
 exact ⟨rfl, hF1⟩
end Go.Proofs.YtidlpihoafnobaaGreatDoor
namespace Go.Proofs.YtidlpihoafnobaaGreatDoor
set_option maxRecDepth 100000
open Go.RowKit
def Row1 (w : World) (b : Nat) (T : TypeId) (v : Value) : Prop := w.heap[b]? = some (.cells #[v] T (0, 0))
section
variable {w w' : World} {b : Nat} {T : TypeId} {v v0 v1 : Value}
theorem Row1.c0 (h : Row1 w b T v) : w.cell? ⟨b, 0, none⟩ = some v := by rw [cell_of_row w b 0 _ _ _ h]; rfl
theorem Row1.no (h : Row1 w b T v) (k : Fr No w w') : Row1 w' b T v := k.heap (fun h => h) h
theorem Row1.con {F : Nat → Prop} (h : Row1 w b T v) (k : Fr F w w') (c : Keeps w F) (hT : wrT.contains T = false) : Row1 w' b T v := c.fr k h ⟨_, _, rfl, hT⟩
theorem Row2.con {F : Nat → Prop} (h : Row2 w b T v0 v1) (k : Fr F w w') (c : Keeps w F) (hT : wrT.contains T = false) : Row2 w' b T v0 v1 := c.fr k h ⟨_, _, rfl, hT⟩
theorem row1_new (w : World) (T : TypeId) (v : Value) : Row1 (w.alloc (.cells #[v] T)) w.heap.size T v := heap_alloc_new w _
theorem Row1.up (h : Row1 w b T v) (o : Obj) : Row1 (w.alloc o) b T v := h.no ((Fr.refl No w).alloc o)
theorem Row2.up (h : Row2 w b T v0 v1) (o : Obj) : Row2 (w.alloc o) b T v0 v1 := h.no ((Fr.refl No w).alloc o)
end
def Row6 (w : World) (b : Nat) (T : TypeId) (v0 v1 v2 v3 v4 v5 : Value) : Prop := w.heap[b]? = some (.cells #[v0, v1, v2, v3, v4, v5] T (0, 0))
section
variable {w w' : World} {b : Nat} {T : TypeId} {v0 v1 v2 v3 v4 v5 : Value}
theorem Row6.c0 (h : Row6 w b T v0 v1 v2 v3 v4 v5) : w.cell? ⟨b, 0, none⟩ = some v0 := by rw [cell_of_row w b 0 _ _ _ h]; rfl
theorem Row6.c1 (h : Row6 w b T v0 v1 v2 v3 v4 v5) : w.cell? ⟨b, 1, none⟩ = some v1 := by rw [cell_of_row w b 1 _ _ _ h]; rfl
theorem Row6.c2 (h : Row6 w b T v0 v1 v2 v3 v4 v5) : w.cell? ⟨b, 2, none⟩ = some v2 := by rw [cell_of_row w b 2 _ _ _ h]; rfl
theorem Row6.c3 (h : Row6 w b T v0 v1 v2 v3 v4 v5) : w.cell? ⟨b, 3, none⟩ = some v3 := by rw [cell_of_row w b 3 _ _ _ h]; rfl
theorem Row6.c4 (h : Row6 w b T v0 v1 v2 v3 v4 v5) : w.cell? ⟨b, 4, none⟩ = some v4 := by rw [cell_of_row w b 4 _ _ _ h]; rfl
theorem Row6.c5 (h : Row6 w b T v0 v1 v2 v3 v4 v5) : w.cell? ⟨b, 5, none⟩ = some v5 := by rw [cell_of_row w b 5 _ _ _ h]; rfl
theorem Row6.fz (h : Row6 w b T v0 v1 v2 v3 v4 v5) (k : Nat) : w.frozen? ⟨b, k, none⟩ = false := frozen_of_row w b k _ _ h
theorem Row6.put0 (h : Row6 w b T v0 v1 v2 v3 v4 v5) (x : Value) : Row6 (w.setCell ⟨b, 0, none⟩ x) b T x v1 v2 v3 v4 v5 := by unfold Row6; rw [heap_setCell_same w b 0 _ _ x h]; rfl
theorem Row6.put1 (h : Row6 w b T v0 v1 v2 v3 v4 v5) (x : Value) : Row6 (w.setCell ⟨b, 1, none⟩ x) b T v0 x v2 v3 v4 v5 := by unfold Row6; rw [heap_setCell_same w b 1 _ _ x h]; rfl
theorem Row6.put2 (h : Row6 w b T v0 v1 v2 v3 v4 v5) (x : Value) : Row6 (w.setCell ⟨b, 2, none⟩ x) b T v0 v1 x v3 v4 v5 := by unfold Row6; rw [heap_setCell_same w b 2 _ _ x h]; rfl
theorem Row6.put3 (h : Row6 w b T v0 v1 v2 v3 v4 v5) (x : Value) : Row6 (w.setCell ⟨b, 3, none⟩ x) b T v0 v1 v2 x v4 v5 := by unfold Row6; rw [heap_setCell_same w b 3 _ _ x h]; rfl
theorem Row6.put4 (h : Row6 w b T v0 v1 v2 v3 v4 v5) (x : Value) : Row6 (w.setCell ⟨b, 4, none⟩ x) b T v0 v1 v2 v3 x v5 := by unfold Row6; rw [heap_setCell_same w b 4 _ _ x h]; rfl
theorem Row6.put5 (h : Row6 w b T v0 v1 v2 v3 v4 v5) (x : Value) : Row6 (w.setCell ⟨b, 5, none⟩ x) b T v0 v1 v2 v3 v4 x := by unfold Row6; rw [heap_setCell_same w b 5 _ _ x h]; rfl
theorem row_put6 (h : Row6 w b T v0 v1 v2 v3 v4 v5) (x0 x1 x2 x3 x4 x5 : Value) : Row6 ((((((w.setCell ⟨b, 0, none⟩ x0).setCell ⟨b, 1, none⟩ x1).setCell ⟨b, 2, none⟩ x2).setCell ⟨b, 3, none⟩ x3).setCell ⟨b, 4, none⟩ x4).setCell ⟨b, 5, none⟩ x5) b T x0 x1 x2 x3 x4 x5 := ((((((h.put0 x0).put1 x1).put2 x2).put3 x3).put4 x4).put5 x5)
theorem fr_put6 (w : World) (b : Nat) (x0 x1 x2 x3 x4 x5 : Value) : Fr (fun x => x = b) w ((((((w.setCell ⟨b, 0, none⟩ x0).setCell ⟨b, 1, none⟩ x1).setCell ⟨b, 2, none⟩ x2).setCell ⟨b, 3, none⟩ x3).setCell ⟨b, 4, none⟩ x4).setCell ⟨b, 5, none⟩ x5) := (((((((Fr.refl (fun x => x = b) w).setCell (p := ⟨b, 0, none⟩) (.inl rfl) x0).setCell (p := ⟨b, 1, none⟩) (.inl rfl) x1).setCell (p := ⟨b, 2, none⟩) (.inl rfl) x2).setCell (p := ⟨b, 3, none⟩) (.inl rfl) x3).setCell (p := ⟨b, 4, none⟩) (.inl rfl) x4).setCell (p := ⟨b, 5, none⟩) (.inl rfl) x5)
theorem row6_new (w : World) (T : TypeId) (v0 v1 v2 v3 v4 v5 : Value) : Row6 (w.alloc (.cells #[v0, v1, v2, v3, v4, v5] T)) w.heap.size T v0 v1 v2 v3 v4 v5 := heap_alloc_new w _
end
theorem Row1.past {w w' : World} {c b : Nat} {T U : TypeId} {v v0 v1 v2 v3 v4 v5 : Value} (h : Row1 w c T v) (hk : Row6 w b U v0 v1 v2 v3 v4 v5) (f : Fr (fun x => x = b) w w') : Row1 w' c T v :=
 f.heap (fun e => by subst e; unfold Row1 at h; unfold Row6 at hk; rw [hk] at h; simp at h) h
structure Caps (w : World) (Th Ts Tb Tc : TypeId) (k : Int) (kh kl : BitVec 64) (ib : Nat) (sf bf cf : Value) (c6 c7 c8 c9 c10 c11 : Nat) : Prop where
 k6 : Row1 w c6 3 (.int .i64 k)
 k7 : Row2 w c7 30 (.int .u64 (W64 kh)) (.int .u64 (W64 kl))
 k8 : Row1 w c8 Th (.pointer (some ⟨ib, 0, none⟩))
 k9 : Row1 w c9 Ts sf
 k10 : Row1 w c10 Tb bf
 k11 : Row1 w c11 Tc cf
section
variable {w w' : World} {Th Ts Tb Tc : TypeId} {k : Int} {kh kl : BitVec 64} {ib : Nat} {sf bf cf : Value} {c6 c7 c8 c9 c10 c11 : Nat}
theorem Caps.no (h : Caps w Th Ts Tb Tc k kh kl ib sf bf cf c6 c7 c8 c9 c10 c11) (f : Fr No w w') : Caps w' Th Ts Tb Tc k kh kl ib sf bf cf c6 c7 c8 c9 c10 c11 := ⟨h.k6.no f, h.k7.no f, h.k8.no f, h.k9.no f, h.k10.no f, h.k11.no f⟩
theorem Caps.fr {F : Nat → Prop} (h : Caps w Th Ts Tb Tc k kh kl ib sf bf cf c6 c7 c8 c9 c10 c11) (f : Fr F w w') (c : Keeps w F) (hT : (wrT.contains Th || wrT.contains Ts || wrT.contains Tb || wrT.contains Tc) = false) : Caps w' Th Ts Tb Tc k kh kl ib sf bf cf c6 c7 c8 c9 c10 c11 := by
 simp only [Bool.or_eq_false_iff] at hT
 obtain ⟨⟨⟨a, b⟩, d⟩, e⟩ := hT
 exact ⟨h.k6.con f c (by decide), h.k7.con f c (by decide), h.k8.con f c a, h.k9.con f c b, h.k10.con f c d, h.k11.con f c e⟩
end
theorem calls_enter {P : Program} {f : FuncId} {fn : Func} (hf : P.funcs[f]? = some fn) (hname : (fn.name == "runtime.NumGoroutine") = false) (hb : fn.body.isSome = true) (args : Array Value) (w : World) : Sem.run P (callFunc f args) w = .ok (.enter f args) w := by
 obtain ⟨c, hc⟩ := Option.isSome_iff_exists.1 hb
 have h1 : fn.name ≠ "runtime.NumGoroutine" := by simpa using hname
 simp [callFunc, hf, h1, hc, mark]
end Go.Proofs.YtidlpihoafnobaaGreatDoor
namespace Go.Proofs.YtidlpihoafnobaaGreatDoor
set_option maxRecDepth 100000
def sumStep (h : BitVec 32) (x : BitVec 8) : BitVec 32 := fmix32 (h ^^^ x.setWidth 32) + 1#32
theorem sumStep_def (h : BitVec 32) (x : BitVec 8) : fmix32 (h ^^^ BitVec.setWidth 32 x) + 1#32 = sumStep h x := rfl
def sumF (l : Bytes) : BitVec 32 := l.foldl sumStep (BitVec.ofNat 32 l.length)
def sealF (l : Bytes) : Bytes := l ++ leb ((sumF l).setWidth 64) 4
theorem sealF_length (l : Bytes) : (sealF l).length = l.length + 4 := by unfold sealF; rw [List.length_append, leb_length]
def sealedB (l : Bytes) : Bool := sumF (l.take (l.length - 4)) == (le ((l.drop (l.length - 4)).take 4)).setWidth 32
theorem leb_consS (x : BitVec 64) (k : Nat) : leb x (k + 1) = x.setWidth 8 :: leb (x >>> 8) k := by
 unfold leb
 rw [List.range_succ_eq_map, List.map_cons, List.map_map]
 congr 1
 apply List.map_congr_left
 intro i _
 simp only [Function.comp_def, ← BitVec.shiftRight_add]
 congr 2; omega
theorem le_ltS : ∀ (l : Bytes), l.length ≤ 4 → (le l).toNat < 256 ^ l.length
 | [], _ => by simp [le]
 | b :: r, h => by
  have ih := le_ltS r (by simp at h; omega)
  have hb := b.isLt
  have hp : 256 ^ (b :: r).length = 256 * 256 ^ r.length := by rw [List.length_cons, Nat.pow_succ, Nat.mul_comm]
  have hr : 256 ^ r.length ≤ 256 ^ 3 := Nat.pow_le_pow_right (by decide) (by simp at h; omega)
  rw [le, BitVec.toNat_add, BitVec.toNat_mul, BitVec.toNat_setWidth, hp]
  have e : (256#64).toNat = 256 := rfl
  rw [e]
  omega
theorem leb_le : ∀ (l : Bytes), l.length ≤ 4 → leb (le l) l.length = l
 | [], _ => by simp [leb]
 | b :: r, h => by
  have hlt := le_ltS r (by simp at h; omega)
  have hr : 256 ^ r.length ≤ 256 ^ 3 := Nat.pow_le_pow_right (by decide) (by simp at h; omega)
  have hb := b.isLt
  have e : (256#64).toNat = 256 := rfl
  have hn : (le (b :: r)).toNat = b.toNat + (le r).toNat * 256 := by
   rw [le, BitVec.toNat_add, BitVec.toNat_mul, BitVec.toNat_setWidth, e]
   omega
  have h1 : (le (b :: r)).setWidth 8 = b := by
   apply BitVec.eq_of_toNat_eq
   rw [BitVec.toNat_setWidth, hn]
   omega
  have h2 : le (b :: r) >>> 8 = le r := by
   apply BitVec.eq_of_toNat_eq
   rw [BitVec.toNat_ushiftRight, hn, Nat.shiftRight_eq_div_pow]
   omega
  rw [List.length_cons, leb_consS, h1, h2, leb_le r (by simp at h; omega)]
theorem le_leb4S (x : BitVec 32) : (le (leb (x.setWidth 64) 4)).setWidth 32 = x := by
 have h : ∀ k : Nat, ∀ (x : BitVec 64), k ≤ 8 → (le (leb x k)).toNat = x.toNat % 2 ^ (8 * k) := by
  intro k
  induction k with
  | zero => intro x _; simp [leb, le, Nat.mod_one]
  | succ k ih =>
   intro x hk
   rw [leb_consS, le, BitVec.toNat_add, BitVec.toNat_mul, ih (x >>> 8) (by omega), BitVec.toNat_ushiftRight, Nat.shiftRight_eq_div_pow, BitVec.toNat_setWidth, BitVec.toNat_setWidth]
   have h1 : 2 ^ (8 * (k + 1)) = 2 ^ 8 * 2 ^ (8 * k) := by rw [← Nat.pow_add]; congr 1; omega
   have h2 : x.toNat % 2 ^ (8 * (k + 1)) < 2 ^ 64 := Nat.lt_of_le_of_lt (Nat.mod_le _ _) x.isLt
   rw [h1, Nat.mod_mul] at h2 ⊢
   have e : (256#64).toNat = 2 ^ 8 := rfl
   rw [e]
   omega
 apply BitVec.eq_of_toNat_eq
 rw [BitVec.toNat_setWidth, h 4 _ (by omega), BitVec.toNat_setWidth]
 have := x.isLt
 omega
theorem leb4_iff (s : BitVec 32) (d : Bytes) (hd : d.length = 4) : leb (s.setWidth 64) 4 = d ↔ s = (le d).setWidth 32 := by
 constructor
 · intro h; rw [← h, le_leb4S]
 · intro h
   have h1 := leb_le d (by omega)
   rw [hd] at h1
   have h2 : BitVec.setWidth 64 (BitVec.setWidth 32 (le d)) = le d := by
    have h := le_ltS d (by omega)
    rw [hd] at h
    apply BitVec.eq_of_toNat_eq
    rw [BitVec.toNat_setWidth, BitVec.toNat_setWidth]
    omega
   rw [h, h2, h1]
theorem sealed_iff (l : Bytes) (hl : 4 ≤ l.length) : sealF (l.take (l.length - 4)) = l ↔ sealedB l = true := by
 have hd : (l.drop (l.length - 4)).length = 4 := by rw [List.length_drop]; omega
 have ht : (l.drop (l.length - 4)).take 4 = l.drop (l.length - 4) := List.take_of_length_le (by omega)
 unfold sealF sealedB
 rw [ht, beq_iff_eq, ← leb4_iff _ _ hd]
 constructor
 · intro h
   have h2 := h.trans (List.take_append_drop (l.length - 4) l).symm
   exact List.append_cancel_left h2
 · intro h
   rw [h, List.take_append_drop]
end Go.Proofs.YtidlpihoafnobaaGreatDoor
namespace Go.Proofs.YtidlpihoafnobaaGreatDoor
set_option maxRecDepth 100000
open Go.RowKit
def openF (l : Bytes) : Bytes × Int := if l.length < 4 then ([], 3) else if sealedB l then (l.take (l.length - 4), 0) else ([], 14)
theorem openF_short {l : Bytes} (h : l.length < 4) : openF l = ([], 3) := by unfold openF; rw [if_pos h]
theorem openF_yes {l : Bytes} (h : ¬ l.length < 4) (k : sealedB l = true) : openF l = (l.take (l.length - 4), 0) := by unfold openF; rw [if_neg h, if_pos k]
theorem openF_no {l : Bytes} (h : ¬ l.length < 4) (k : sealedB l = false) : openF l = ([], 14) := by unfold openF; rw [if_neg h, if_neg (by simp [k])]
set_option maxHeartbeats 1000000 in
theorem Sum_any (a : Option Addr) (n c : Nat) (l : Bytes) (w : World) (h : IsBytes w a n c l) : Calls Tryz.prog 53 #[.slice a n c] w (Gives (.int .u32 (W32 (sumF l))) w) := by
 have hlen := Lib.hid h.1
 unfold sumF
 rw [hlen.out]
 generalize hr : l.foldl sumStep (BitVec.ofNat 32 n) = r
 have HR := Lib.hid hr
 clear hr
 have hc : n ≤ c := h.2.1
 have hc2 : c ≤ 9223372036854775807 := h.2.2.1
 go_enter Tryz.func53, Tryz.ntmps53
 go_wp2
 go_loop [3, 11] (fun u i => ∃ (k : Nat) (g : BitVec 32), k ≤ n ∧ i = .int .i64 k ∧ u = .int .u32 (W32 g) ∧ Hid ((l.drop k).foldl sumStep g = r)) (fun _ i => n - (intOf i).toNat)
 case atStart => exact ⟨0, _, by omega, rfl, rfl, HR⟩
 case round =>
  obtain ⟨k, g, hk, rfl, rfl, hg⟩ := hrel
  by_cases hkn : k < n
  · have i4 : (k : Int) < (n : Int) := by omega
    have hkl : k < l.length := by rw [hlen.out]; exact hkn
    obtain ⟨b, off, hbo, hcell⟩ := h.known (by omega)
    have hc0 := hcell k hkn
    have hd := Lib.hid (List.drop_eq_getElem_cons hkl)
    rw [hbo]
    clear hcell hbo
    go_wp2_with fail
    refine (Fmix32_any _ _).mono ?_
    rintro e w' ⟨rfl, rfl⟩
    go_wp2_with fail
    refine ⟨⟨k + 1, sumStep g (l[k]'hkl), by omega, rfl, ?_, ?_⟩, by simp [intOf]; omega⟩
    · rw [sumStep_def]
    · show _ = _
      rw [← hg.out, hd.out, List.foldl_cons]
  · have hkm2 : k = n := by omega
    have i4 : ¬ (k : Int) < (n : Int) := by omega
    have hh : g = r := by have := hg.out; rw [List.drop_eq_nil_of_le (by rw [hlen.out]; omega)] at this; exact this
    rw [hh]
    clear hh hg
    go_wp2_with fail
    go_ret
    exact ⟨rfl, rfl⟩
theorem Seal_any (a : Option Addr) (n c : Nat) (l : Bytes) (w : World) (h : IsBytes w a n c l) (hr : n + 8 ≤ 140737488355328) : Calls Tryz.prog 32 #[.slice a n c] w (GivesBytes (sealF l) w) := by
 go_enter Tryz.func32, Tryz.ntmps32
 go_wp2_with fail
 refine (Sum_any _ _ _ l _ h).mono ?_
 rintro e w' ⟨rfl, rfl⟩
 go_wp2_with fail
 refine (Put32_any _ _ _ l (sumF l) _ h hr).mono ?_
 rintro e w' ⟨v, rfl, ho, hf⟩
 go_wp2_with fail
 go_ret
 exact ⟨v, rfl, ho, hf⟩
def GivesOpen (l : Bytes) (w : World) (e : Ending) (w' : World) : Prop := ∃ v, e = .returned (.tuple #[v, .int .i64 (openF l).2]) ∧ Owns w' w.heap.size v (openF l).1 ∧ Fr No w w'
set_option maxHeartbeats 1000000 in
theorem Open_any (a : Option Addr) (n c : Nat) (l : Bytes) (w : World) (h : IsBytes w a n c l) (hr : n ≤ 140737488355328) : Calls Tryz.prog 23 #[.slice a n c] w (GivesOpen l w) := by
 have hlen := Lib.hid h.1
 have hc : n ≤ c := h.2.1
 have hc2 : c ≤ 9223372036854775807 := h.2.2.1
 by_cases h4 : n < 4
 · have HO := Lib.hid (openF_short (l := l) (by rw [hlen.out]; exact h4))
   go_enter Tryz.func23, Tryz.ntmps23
   go_wp2_with fail
   refine (Le32_no _ _ _ _ _ (by omega) (by omega) (by omega)).mono ?_
   rintro e w' ⟨rfl, rfl⟩
   go_wp2_with fail
   go_ret2
   exact ⟨_, by rw [HO.out] <;> rfl, by rw [HO.out]; exact Owns.nil _ _, Fr.refl _ _⟩
 · obtain ⟨p, rfl⟩ : ∃ p, n = p + 4 := ⟨n - 4, by omega⟩
   have e0 : ((p + 4 : Nat) : Int) - 4 = (p : Int) := by omega
   have hcut := h.head p c (n' := p) (c' := c) (by omega) (by omega) (Nat.le_refl _) rfl rfl
   have HT : Hid (l.take (l.length - 4) = l.take p) := by show _ = _; rw [hlen.out]; rfl
   have i1 : (p : Int) ≤ (c : Int) := by omega
   cases hs : sealedB l with
   | true =>
    have HO := Lib.hid (openF_yes (l := l) (by rw [hlen.out]; omega) hs)
    have HE : Hid (sumF (l.take p) = BitVec.setWidth 32 (le ((l.drop p).take 4))) := by
     show _ = _
     unfold sealedB at hs
     rw [beq_iff_eq, HT.out, hlen.out] at hs
     exact hs
    clear hs
    go_enter Tryz.func23, Tryz.ntmps23
    go_wp2_with fail
    try rw [e0]
    refine (Le32_yes _ _ _ l p _ h (by omega) (by omega)).mono ?_
    rintro e w' ⟨rfl, rfl⟩
    rw [Int.toNat_natCast]
    go_wp2_with fail
    refine (Sum_any _ _ _ (l.take p) _ hcut).mono ?_
    rw [HE.out]
    rintro e w' ⟨rfl, rfl⟩
    generalize BitVec.setWidth 32 (le ((l.drop p).take 4)) = y
    go_wp2_with (refine wpList_append_bytes _ _ _ _ _ _ w.heap.size _ [] rfl (Owns.nil _ _) _ _ _ (l.take p) rfl hcut (by simp; omega) (Nat.le_refl _) ?_; intro v1 w1 hown1 hfr1 _)
    go_ret2
    exact ⟨_, by rw [HO.out] <;> rfl, by rw [HO.out, HT.out]; exact hown1, (Fr.refl No w).append hfr1 (Owns.nil w w.heap.size) (Nat.le_refl _)⟩
   | false =>
    have HO := Lib.hid (openF_no (l := l) (by rw [hlen.out]; omega) hs)
    have HE : Hid ((sumF (l.take p) == BitVec.setWidth 32 (le ((l.drop p).take 4))) = false) := by
     show _ = _
     unfold sealedB at hs
     rw [HT.out, hlen.out] at hs
     exact hs
    clear hs
    go_enter Tryz.func23, Tryz.ntmps23
    go_wp2_with fail
    try rw [e0]
    refine (Le32_yes _ _ _ l p _ h (by omega) (by omega)).mono ?_
    rintro e w' ⟨rfl, rfl⟩
    rw [Int.toNat_natCast]
    go_wp2_with fail
    refine (Sum_any _ _ _ (l.take p) _ hcut).mono ?_
    rintro e w' ⟨rfl, rfl⟩
    have hne := HE.out
    generalize BitVec.setWidth 32 (le ((l.drop p).take 4)) = y at hne ⊢
    generalize sumF (l.take p) = z at hne ⊢
    have hne2 : (z != y) = true := by simp [bne, hne]
    go_wp2_with fail
    go_ret2
    exact ⟨_, by rw [HO.out] <;> rfl, by rw [HO.out]; exact Owns.nil _ _, Fr.refl _ _⟩
end Go.Proofs.YtidlpihoafnobaaGreatDoor
namespace Go.Proofs.YtidlpihoafnobaaGreatDoor
set_option maxRecDepth 100000
open Go.RowKit Go.Extern.Stop Go.Stop Go.Extern
theorem as_nil (t : Value) (w : World) : Calls Tryz.prog 20 #[.nilIface, t] w fun e w' => e = .returned (.bool false) ∧ w = w' := by
 go_enter Tryz.func20, Tryz.ntmps20
 go_wp2
 go_ret
 exact ⟨rfl, rfl⟩
def ErrT (w : World) : Prop := w.cell? ⟨0, 0, none⟩ = some (.iface 167 (.agg #[.pointer (some ⟨1, 51, none⟩)]))
theorem ErrT.lt {w : World} (h : ErrT w) : 0 < w.heap.size := by
 rcases Nat.lt_or_ge 0 w.heap.size with h0 | h0
 · exact h0
 · unfold ErrT at h; simp [World.cell?, Array.getElem?_eq_none h0] at h
theorem ErrT.fr {F : Nat → Prop} {w w' : World} (h : ErrT w) (k : Fr F w w') (hF : ¬ F 0) : ErrT w' := k.cell hF h
theorem ErrT.no {w w' : World} (h : ErrT w) (k : Fr No w w') : ErrT w' := k.cell (fun h => h) h
end Go.Proofs.YtidlpihoafnobaaGreatDoor
namespace Go.Proofs.YtidlpihoafnobaaGreatDoor
set_option maxRecDepth 100000
open Go.RowKit
def Placed (w : World) (b : Nat) (e at_ : Int) : Prop := w.heap[b]? = some (.cells #[.iface 110 (.int .i64 e), .int .i64 at_] 244 (0, 0))
section
variable {w w' : World} {b : Nat} {e at_ : Int}
theorem Placed.c0 (h : Placed w b e at_) : w.cell? ⟨b, 0, none⟩ = some (.iface 110 (.int .i64 e)) := by rw [cell_of_row w b 0 _ _ _ h]; rfl
theorem Placed.c1 (h : Placed w b e at_) : w.cell? ⟨b, 1, none⟩ = some (.int .i64 at_) := by rw [cell_of_row w b 1 _ _ _ h]; rfl
theorem Placed.no (h : Placed w b e at_) (k : Fr No w w') : Placed w' b e at_ := k.heap (fun h => h) h
theorem Placed.fr {F : Nat → Prop} (h : Placed w b e at_) (k : Fr F w w') (hF : ¬ F b) : Placed w' b e at_ := k.heap hF h
theorem Placed.lt (h : Placed w b e at_) : b < w.heap.size := (Array.getElem?_eq_some_iff.1 h).1
end
theorem Row1.fz {w : World} {b : Nat} {T : TypeId} {v : Value} (h : Row1 w b T v) : w.frozen? ⟨b, 0, none⟩ = false := frozen_of_row w b 0 _ _ h
theorem Row1.lt {w : World} {b : Nat} {T : TypeId} {v : Value} (h : Row1 w b T v) : b < w.heap.size := (Array.getElem?_eq_some_iff.1 h).1
theorem Row1.put {w : World} {b : Nat} {T : TypeId} {v : Value} (h : Row1 w b T v) (x : Value) : Row1 (w.setCell ⟨b, 0, none⟩ x) b T x := by unfold Row1; rw [heap_setCell_same w b 0 _ _ x h]; rfl
def GivesErr (e at_ : Int) (w : World) (ev : Ending) (w' : World) : Prop := ∃ b, ev = .returned (.iface 242 (.pointer (some ⟨b, 0, none⟩))) ∧ Placed w' b e at_ ∧ w.heap.size ≤ b ∧ Fr No w w'
theorem Wrap_any (e at_ : Int) (he : e ≠ 0) (w : World) : Calls Tryz.prog 103 #[.int .i64 e, .int .i64 at_] w (GivesErr e at_ w) := by
 go_enter Tryz.func103, Tryz.ntmps103
 go_wp2
 go_ret
 exact ⟨w.heap.size, rfl, heap_alloc_new w _, Nat.le_refl _, (Fr.refl No w).alloc _⟩
theorem Wrap_ok (at_ : Int) (w : World) : Calls Tryz.prog 103 #[.int .i64 0, .int .i64 at_] w (Gives .nilIface w) := by
 go_enter Tryz.func103, Tryz.ntmps103
 go_wp2
 go_ret
 exact ⟨rfl, rfl⟩
end Go.Proofs.YtidlpihoafnobaaGreatDoor
