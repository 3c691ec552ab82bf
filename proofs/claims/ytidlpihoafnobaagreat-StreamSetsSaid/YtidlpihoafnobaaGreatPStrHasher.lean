/- Seq Row2 StrTell Row4 StrHasher -/
import Derived.Stop.IfaceNil
import Derived.Test.YtidlpihoafnobaaGreatPLiveM64
set_option linter.unusedVariables false
set_option linter.unusedSimpArgs false
namespace Go.Proofs.YtidlpihoafnobaaGreat
set_option maxRecDepth 100000
open Go
section
variable {P : Program} {ops : Array Oper} {Q : Exit → Act → World → Prop} {S : World → Prop} {late : Nat → Bool}
def okSeg (ops : Array Oper) (late : Nat → Bool) : List (Nat × Nat) → Array Bool → Array Bool → Bool
 | [], listed, goal => listed == goal
 | (i, 0) :: l, listed, goal => Region.ready .any ops listed == [i] && (!late i || l.all (fun x => x.2 != 1)) && okSeg ops late l (listed.setIfInBounds i true) goal
 | (i, 1) :: l, listed, goal => !late i && Region.free .any ops listed i && (Region.ready .any ops listed).contains i && okSeg ops late l (listed.setIfInBounds i true) goal
 | (i, _ + 2) :: l, listed, goal => late i && Region.free .any ops listed i && (Region.ready .any ops listed).contains i && okSeg ops late l (listed.setIfInBounds i true) goal
def okPart (ops : Array Oper) (late : Nat → Bool) (l : List (Nat × Nat)) (listed goal : Array Bool) : Bool :=
 Region.noSelect ops && lateWaits ops late && okSeg ops late l listed goal
def okRegion (ops : Array Oper) (late : Nat → Bool) (l : List (Nat × Nat)) : Bool :=
 okPart ops late l (Array.replicate ops.size false) (Array.replicate ops.size true) && decide (l.length = ops.size) && (Region.ready .any ops (Array.replicate ops.size true)).isEmpty
def wpSeq (P : Program) (ops : Array Oper) (Q : Exit → Act → World → Prop) (S : World → Prop) (late : Nat → Bool) (R : Act → World → Prop) : List (Nat × Nat) → Act → World → Prop
 | [], a, w => R a w
 | (i, 0) :: l, a, w => ∃ o, ops[i]? = some o ∧ ∀ K : Act → World → Prop, Shut (∀ a' w', (late i = false → S w') → wpSeq P ops Q S late R l a' w' → K a' w') →
  if Region.wanted o (yielded ops a.tmps) then o.wp P a w K Q else K (a.put o.dst undef) w
 | (i, 1) :: l, a, w => ∃ o v, ops[i]? = some o ∧ (∀ c a w, Q (.panic c) (a.put o.dst v) w → Q (.panic c) a w) ∧ YieldsIf P ops S o v a ∧ wpSeq P ops Q S late R l (a.put o.dst v) w
 | (i, _ + 2) :: l, a, w => ∃ o v, ops[i]? = some o ∧ (∀ c a w, Q (.panic c) (a.put o.dst v) w → Q (.panic c) a w) ∧ YieldsIf P ops (fun _ => True) o v a ∧ wpSeq P ops Q S late R l (a.put o.dst v) w
theorem wpLate_of_seg (hs : Region.noSelect ops = true) (hl : lateWaits ops late = true) (fuel : Nat) (goal : Array Bool) : ∀ (l : List (Nat × Nat)) (listed : Array Bool) (a : Act) (w : World), okSeg ops late l listed goal = true →
 ((∃ x ∈ l, x.2 = 1) → S w) → wpSeq P ops Q S late (wpLate P ops Q S late fuel goal) l a w → wpLate P ops Q S late (l.length + fuel) listed a w := by
 intro l
 induction l with
 | nil =>
  intro listed a w hok _ h
  have : listed = goal := by simpa [okSeg] using hok
  subst this
  simpa [wpSeq] using h
 | cons x l ih =>
  intro listed a w hok hS h
  obtain ⟨i, t⟩ := x
  rw [show ((i, t) :: l).length + fuel = (l.length + fuel) + 1 by simp; omega]
  match t, hok, h, hS with
  | 0, hok, h, hS =>
   simp only [okSeg, Bool.and_eq_true, beq_iff_eq] at hok
   obtain ⟨⟨hr, hlt⟩, hok⟩ := hok
   obtain ⟨o, ho, h⟩ := h
   refine ⟨fun h0 => absurd (hr ▸ h0) (by simp), ?_⟩
   rw [hr]
   intro j hj
   obtain rfl : j = i := by simpa using hj
   refine wpOp_step ho fun K hK => ?_
   refine h K (show Shut _ from fun a' w' hS' h' => hK a' w' ⟨hS', ih _ _ _ hok (fun hx => ?_) h'⟩)
   obtain ⟨x, hx, hx1⟩ := hx
   cases hlate : late j with
   | false => exact hS' hlate
   | true =>
    rw [hlate] at hlt
    simp at hlt
    exact absurd hx1 (hlt x.1 x.2 hx)
  | 1, hok, h, hS =>
   simp only [okSeg, Bool.and_eq_true, Bool.not_eq_true'] at hok
   obtain ⟨⟨⟨hlt, hfr⟩, hr⟩, hok⟩ := hok
   obtain ⟨o, v, ho, hQ, hy, h⟩ := h
   exact wpLate_take ho hs hl hlt hfr hr hQ hy (hS ⟨_, List.mem_cons_self, rfl⟩) (ih _ _ _ hok (fun ⟨x, hx, h1⟩ => hS ⟨x, List.mem_cons_of_mem _ hx, h1⟩) h)
  | t + 2, hok, h, hS =>
   simp only [okSeg, Bool.and_eq_true] at hok
   obtain ⟨⟨⟨hlt, hfr⟩, hr⟩, hok⟩ := hok
   obtain ⟨o, v, ho, hQ, hy, h⟩ := h
   exact wpLate_take' ho hs hlt hfr hr hQ hy (ih _ _ _ hok (fun ⟨x, hx, h1⟩ => hS ⟨x, List.mem_cons_of_mem _ hx, h1⟩) h)
theorem wpSeq_mono {R R' : Act → World → Prop} (hR : ∀ a w, R a w → R' a w) : ∀ (l : List (Nat × Nat)) (a : Act) (w : World), wpSeq P ops Q S late R l a w → wpSeq P ops Q S late R' l a w
 | [], a, w, h => hR a w h
 | (i, 0) :: l, a, w, ⟨o, ho, h⟩ => ⟨o, ho, fun K hK => h K (show Shut _ from fun a' w' hS h' => hK.out a' w' hS (wpSeq_mono hR l a' w' h'))⟩
 | (i, 1) :: l, a, w, ⟨o, v, ho, hQ, hy, h⟩ => ⟨o, v, ho, hQ, hy, wpSeq_mono hR l _ _ h⟩
 | (i, _ + 2) :: l, a, w, ⟨o, v, ho, hQ, hy, h⟩ => ⟨o, v, ho, hQ, hy, wpSeq_mono hR l _ _ h⟩
theorem wpLate_seg {a : Act} {w : World} {n : Nat} {listed : Array Bool} (l : List (Nat × Nat)) (fuel : Nat) (goal : Array Bool) (hok : okPart ops late l listed goal = true) (hn : n = l.length + fuel) (hS : S w)
 (h : wpSeq P ops Q S late (wpLate P ops Q S late fuel goal) l a w) : wpLate P ops Q S late n listed a w := by
 subst hn
 simp only [okPart, Bool.and_eq_true] at hok
 obtain ⟨⟨h1, h2⟩, h4⟩ := hok
 exact wpLate_of_seg h1 h2 _ _ _ _ _ _ h4 (fun _ => hS) h
theorem wp_region_seq {id : Nat} {a : Act} {w : World} (hm : P.follows .mixedOrders = true) (S : World → Prop) (late : Nat → Bool) (l : List (Nat × Nat)) (hok : okRegion ops late l = true) (hS : S w.drew)
 (h : wpSeq P ops Q S late (Q .normal) l a w.drew) : (Code.region id ops true).wp P Q a w := by
 simp only [okRegion, Bool.and_eq_true, decide_eq_true_eq] at hok
 obtain ⟨⟨h1, h2⟩, h3⟩ := hok
 refine wp_region_late hm S late hS fun _ => wpLate_seg l 0 (Array.replicate ops.size true) h1 (by omega) hS ?_
 exact wpSeq_mono (fun a w h => wpLate_done (by simpa using h3) h _) l _ _ h
theorem wpSeq_take {R : Act → World → Prop} {i : Nat} {o : Oper} {v : Value} {l : List (Nat × Nat)} {tmps : Array Value} {ds : List Deferred} {w : World} (d : Tmp) (ho : ops[i]? = some o) (hd : o.dst = some d) (hQ : ∀ c a w, Q (.panic c) (a.put o.dst v) w → Q (.panic c) a w) (hy : YieldsIf P ops S o v ⟨tmps, ds⟩)
 (h : wpSeq P ops Q S late R l ⟨tmps.setIfInBounds d v, ds⟩ w) : wpSeq P ops Q S late R ((i, 1) :: l) ⟨tmps, ds⟩ w := ⟨o, v, ho, hQ, hy, by simpa only [Act.put, hd] using h⟩
theorem tp {R : Act → World → Prop} {i : Nat} {o : Oper} {v : Value} {l : List (Nat × Nat)} {tmps : Array Value} {ds : List Deferred} {w : World} (d : Tmp) (ho : ops[i]? = some o) (hd : o.dst = some d)
 (h : wpSeq P ops Q S late R l ⟨tmps.setIfInBounds d v, ds⟩ w) (hQ : ∀ c a w, Q (.panic c) (a.put o.dst v) w → Q (.panic c) a w := by exact fun _ _ _ h => h) (hg : Region.wanted o (yielded ops tmps) = true := by rfl) (hy : ∀ w, S w → (execOp (Act.eval ⟨tmps, ds⟩) o).run P w = .ok (.value v) w := by intro w9 h9; go_simp; try with_reducible rfl) : wpSeq P ops Q S late R ((i, 1) :: l) ⟨tmps, ds⟩ w := wpSeq_take d ho hd hQ (.inl ⟨hg, hy⟩) h
theorem tq {R : Act → World → Prop} {i : Nat} {o : Oper} {v : Value} {l : List (Nat × Nat)} {tmps : Array Value} {ds : List Deferred} {w : World} (d : Tmp) (ho : ops[i]? = some o) (hd : o.dst = some d) (hy : ∀ w, S w → (execOp (Act.eval ⟨tmps, ds⟩) o).run P w = .ok (.value v) w)
 (h : wpSeq P ops Q S late R l ⟨tmps.setIfInBounds d v, ds⟩ w) (hQ : ∀ c a w, Q (.panic c) (a.put o.dst v) w → Q (.panic c) a w := by exact fun _ _ _ h => h) (hg : Region.wanted o (yielded ops tmps) = true := by rfl) : wpSeq P ops Q S late R ((i, 1) :: l) ⟨tmps, ds⟩ w := wpSeq_take d ho hd hQ (.inl ⟨hg, hy⟩) h
theorem rsq {id : Nat} {a : Act} {w : World} (hm : P.follows .mixedOrders = true) (l : List (Nat × Nat)) (hok : okRegion ops (fun _ => false) l = true)
 (h : wpSeq P ops Q (fun w' => Fr No w w') (fun _ => false) (Q .normal) l a w.drew) : (Code.region id ops true).wp P Q a w := wp_region_seq hm (fun w' => Fr No w w') (fun _ => false) l hok (Fr.refl No w).drew h
theorem wpSeq_next {R : Act → World → Prop} {i : Nat} {o : Oper} {l : List (Nat × Nat)} {a : Act} {w : World} (ho : ops[i]? = some o) (hg : Region.wanted o (yielded ops a.tmps) = true)
 (h : ∀ K : Act → World → Prop, Shut (∀ a' w', (late i = false → S w') → wpSeq P ops Q S late R l a' w' → K a' w') → Oper.wp P o a w K Q) : wpSeq P ops Q S late R ((i, 0) :: l) a w :=
 ⟨o, ho, fun K hK => by rw [if_pos hg]; exact h K hK⟩
theorem wpSeq_done {R : Act → World → Prop} {a : Act} {w : World} (h : R a w) : wpSeq P ops Q S late R [] a w := h
end
end Go.Proofs.YtidlpihoafnobaaGreat
namespace Go.Proofs.YtidlpihoafnobaaGreat
set_option maxRecDepth 100000
open Go.RowKit
def Row2 (w : World) (b : Nat) (T : TypeId) (v0 v1 : Value) : Prop := w.heap[b]? = some (.cells #[v0, v1] T (0, 0))
section
variable {w w' : World} {b : Nat} {T : TypeId} {v0 v1 : Value}
theorem Row2.c0 (h : Row2 w b T v0 v1) : w.cell? ⟨b, 0, none⟩ = some v0 := by rw [cell_of_row w b 0 _ _ _ h]; rfl
theorem Row2.c1 (h : Row2 w b T v0 v1) : w.cell? ⟨b, 1, none⟩ = some v1 := by rw [cell_of_row w b 1 _ _ _ h]; rfl
theorem Row2.fz (h : Row2 w b T v0 v1) (k : Nat) : w.frozen? ⟨b, k, none⟩ = false := frozen_of_row w b k _ _ h
theorem Row2.lt (h : Row2 w b T v0 v1) : b < w.heap.size := (Array.getElem?_eq_some_iff.1 h).1
theorem Row2.fr {F : Nat → Prop} (h : Row2 w b T v0 v1) (k : Fr F w w') (hF : ¬ F b) : Row2 w' b T v0 v1 := k.heap hF h
theorem Row2.no (h : Row2 w b T v0 v1) (k : Fr No w w') : Row2 w' b T v0 v1 := k.heap (fun h => h) h
theorem Row2.put0 (h : Row2 w b T v0 v1) (x : Value) : Row2 (w.setCell ⟨b, 0, none⟩ x) b T x v1 := by unfold Row2; rw [heap_setCell_same w b 0 _ _ x h]; rfl
theorem Row2.put1 (h : Row2 w b T v0 v1) (x : Value) : Row2 (w.setCell ⟨b, 1, none⟩ x) b T v0 x := by unfold Row2; rw [heap_setCell_same w b 1 _ _ x h]; rfl
theorem row_put2 (h : Row2 w b T v0 v1) (x0 x1 : Value) : Row2 ((w.setCell ⟨b, 0, none⟩ x0).setCell ⟨b, 1, none⟩ x1) b T x0 x1 := (h.put0 x0).put1 x1
theorem fr_put1 (w : World) (b k : Nat) (x : Value) : Fr (fun y => y = b) w (w.setCell ⟨b, k, none⟩ x) := (Fr.refl (fun x => x = b) w).setCell (p := ⟨b, k, none⟩) (.inl rfl) _
theorem fr_put2 (w : World) (b : Nat) (x0 x1 : Value) : Fr (fun x => x = b) w ((w.setCell ⟨b, 0, none⟩ x0).setCell ⟨b, 1, none⟩ x1) :=
 ((Fr.refl (fun x => x = b) w).setCell (p := ⟨b, 0, none⟩) (.inl rfl) _).setCell (p := ⟨b, 1, none⟩) (.inl rfl) _
theorem row2_new (w : World) (T : TypeId) (v0 v1 : Value) : Row2 (w.alloc (.cells #[v0, v1] T)) w.heap.size T v0 v1 := heap_alloc_new w _
end
end Go.Proofs.YtidlpihoafnobaaGreat
namespace Go.Proofs.YtidlpihoafnobaaGreat
set_option maxRecDepth 100000
open Go.RowKit
theorem four_any (x : BitVec 32) (w : World) : Calls Tryz.prog 62 #[.int .u32 (W32 x)] w (GivesBytes (leb (x.setWidth 64) 4) w) := by
 go_enter Tryz.func62, Tryz.ntmps62
 go_wp2_with fail
 refine (Put32_any _ _ _ [] x _ (IsBytes.nil _) (by omega)).mono ?_
 rintro e w2 ⟨v2, rfl, hO, hf⟩
 obtain ⟨a2, c2, rfl, hb2, _⟩ := hO.bytes
 go_wp2_with fail
 go_ret
 exact ⟨_, rfl, hO, hf⟩
theorem eight_any (x : BitVec 64) (w : World) : Calls Tryz.prog 149 #[.int .u64 (W64 x)] w (GivesBytes (leb x 8) w) := by
 go_enter Tryz.func149, Tryz.ntmps149
 go_wp2_with fail
 refine (Put64_any _ _ _ [] x _ (IsBytes.nil _) (by omega)).mono ?_
 rintro e w2 ⟨v2, rfl, hO, hf⟩
 obtain ⟨a2, c2, rfl, hb2, _⟩ := hO.bytes
 go_wp2_with fail
 go_ret
 exact ⟨_, rfl, hO, hf⟩
theorem sixteen_any (kh kl : BitVec 64) (w : World) : Calls Tryz.prog 68 #[.agg #[.int .u64 (W64 kh), .int .u64 (W64 kl)]] w (GivesBytes (leb kl 8 ++ leb kh 8) w) := by
 have hA := row2_new w 24 (.int .u64 (W64 kh)) (.int .u64 (W64 kl))
 have hF := (Fr.refl No w).alloc (.cells #[.int .u64 (W64 kh), .int .u64 (W64 kl)] 24)
 have hlt := hF.size
 go_enter Tryz.func68, Tryz.ntmps68
 go_wp2_with fail
 generalize w.heap.size = ab at hA ⊢
 generalize w.alloc (.cells #[.int .u64 (W64 kh), .int .u64 (W64 kl)] 24) = w1 at hF hA hlt ⊢
 refine rsq (by kernel_rfl) [(0, 1), (1, 1), (3, 1), (4, 1), (2, 0), (5, 0), (6, 1)] (by kernel_rfl) ?_
 have hS0 : Fr No w1 w1.drew := (Fr.refl No w1).drew
 iterate 4 refine tq _ rfl rfl (by intro w9 h9; have q0 := (hA.no h9).c0; have q1 := (hA.no h9).c1; clear h9; go_simp; try with_reducible rfl) ?_; simp only [es1, es2, es3]
 refine wpSeq_next rfl rfl (fun K hK => ?_)
 go_wp2_with fail
 refine (Put64_any _ _ _ [] kl _ (IsBytes.nil _) (by omega)).mono ?_
 rintro e w2 ⟨v2, rfl, hO2, hf2⟩
 rw [List.nil_append] at hO2
 obtain ⟨a2, c2, rfl, hb2, _⟩ := hO2.bytes
 have hl2 : (leb kl 8).length = 8 := leb_length _ _
 have hs2 : Fr No w1 w2 := (hS0).no hf2
 refine hK.out _ _ (fun _ => hs2) ?_
 clear hK K
 refine wpSeq_next rfl rfl (fun K hK => ?_)
 go_wp2_with fail
 refine (Put64_any _ _ _ (leb kl 8) kh _ hb2 (by omega)).mono ?_
 rintro e w3 ⟨v3, rfl, hO3, hf3⟩
 obtain ⟨a3, c3, rfl, hb3, _⟩ := hO3.bytes
 have hs3 : Fr No w1 w3 := (hs2).no hf3
 refine hK.out _ _ (fun _ => hs3) ?_
 clear hK K
 refine tp _ rfl rfl ?_; simp only [es1, es2, es3]
 refine wpSeq_done ?_
 go_wp2_with fail
 go_ret
 exact ⟨_, rfl, hO3.mono (by have := hs2.size; omega), hF.no hs3⟩
end Go.Proofs.YtidlpihoafnobaaGreat
namespace Go.Proofs.YtidlpihoafnobaaGreat
set_option maxRecDepth 100000
open Go.RowKit
def Row4 (w : World) (b : Nat) (T : TypeId) (v0 v1 v2 v3 : Value) : Prop := w.heap[b]? = some (.cells #[v0, v1, v2, v3] T (0, 0))
section
variable {w w' : World} {b : Nat} {T : TypeId} {v0 v1 v2 v3 : Value}
theorem Row4.c0 (h : Row4 w b T v0 v1 v2 v3) : w.cell? ⟨b, 0, none⟩ = some v0 := by rw [cell_of_row w b 0 _ _ _ h]; rfl
theorem Row4.c1 (h : Row4 w b T v0 v1 v2 v3) : w.cell? ⟨b, 1, none⟩ = some v1 := by rw [cell_of_row w b 1 _ _ _ h]; rfl
theorem Row4.c2 (h : Row4 w b T v0 v1 v2 v3) : w.cell? ⟨b, 2, none⟩ = some v2 := by rw [cell_of_row w b 2 _ _ _ h]; rfl
theorem Row4.c3 (h : Row4 w b T v0 v1 v2 v3) : w.cell? ⟨b, 3, none⟩ = some v3 := by rw [cell_of_row w b 3 _ _ _ h]; rfl
theorem Row4.fz (h : Row4 w b T v0 v1 v2 v3) (k : Nat) : w.frozen? ⟨b, k, none⟩ = false := frozen_of_row w b k _ _ h
theorem Row4.lt (h : Row4 w b T v0 v1 v2 v3) : b < w.heap.size := (Array.getElem?_eq_some_iff.1 h).1
theorem Row4.fr {F : Nat → Prop} (h : Row4 w b T v0 v1 v2 v3) (k : Fr F w w') (hF : ¬ F b) : Row4 w' b T v0 v1 v2 v3 := k.heap hF h
theorem Row4.no (h : Row4 w b T v0 v1 v2 v3) (k : Fr No w w') : Row4 w' b T v0 v1 v2 v3 := k.heap (fun h => h) h
theorem Row4.put0 (h : Row4 w b T v0 v1 v2 v3) (x : Value) : Row4 (w.setCell ⟨b, 0, none⟩ x) b T x v1 v2 v3 := by unfold Row4; rw [heap_setCell_same w b 0 _ _ x h]; rfl
theorem Row4.put1 (h : Row4 w b T v0 v1 v2 v3) (x : Value) : Row4 (w.setCell ⟨b, 1, none⟩ x) b T v0 x v2 v3 := by unfold Row4; rw [heap_setCell_same w b 1 _ _ x h]; rfl
theorem Row4.put2 (h : Row4 w b T v0 v1 v2 v3) (x : Value) : Row4 (w.setCell ⟨b, 2, none⟩ x) b T v0 v1 x v3 := by unfold Row4; rw [heap_setCell_same w b 2 _ _ x h]; rfl
theorem Row4.put3 (h : Row4 w b T v0 v1 v2 v3) (x : Value) : Row4 (w.setCell ⟨b, 3, none⟩ x) b T v0 v1 v2 x := by unfold Row4; rw [heap_setCell_same w b 3 _ _ x h]; rfl
theorem row_put4 (h : Row4 w b T v0 v1 v2 v3) (x0 x1 x2 x3 : Value) : Row4 ((((w.setCell ⟨b, 0, none⟩ x0).setCell ⟨b, 1, none⟩ x1).setCell ⟨b, 2, none⟩ x2).setCell ⟨b, 3, none⟩ x3) b T x0 x1 x2 x3 :=
 (((h.put0 x0).put1 x1).put2 x2).put3 x3
theorem fr_put4 (w : World) (b : Nat) (x0 x1 x2 x3 : Value) : Fr (fun x => x = b) w ((((w.setCell ⟨b, 0, none⟩ x0).setCell ⟨b, 1, none⟩ x1).setCell ⟨b, 2, none⟩ x2).setCell ⟨b, 3, none⟩ x3) :=
 ((((Fr.refl (fun x => x = b) w).setCell (p := ⟨b, 0, none⟩) (.inl rfl) _).setCell (p := ⟨b, 1, none⟩) (.inl rfl) _).setCell (p := ⟨b, 2, none⟩) (.inl rfl) _).setCell (p := ⟨b, 3, none⟩) (.inl rfl) _
theorem row4_new (w : World) (T : TypeId) (v0 v1 v2 v3 : Value) : Row4 (w.alloc (.cells #[v0, v1, v2, v3] T)) w.heap.size T v0 v1 v2 v3 := heap_alloc_new w _
end
end Go.Proofs.YtidlpihoafnobaaGreat
namespace Go.Proofs.YtidlpihoafnobaaGreat
set_option maxRecDepth 100000
open Go.RowKit
def HRow (w : World) (hb : Nat) (k : Int) (kh kl : BitVec 64) (iv sv tv : Value) : Prop := w.heap[hb]? = some (.cells #[.int .i64 k, .int .u64 (W64 kh), .int .u64 (W64 kl), iv, sv, tv] 74 (0, 0))
section
variable {w : World} {hb : Nat} {k : Int} {kh kl : BitVec 64} {iv sv tv : Value}
theorem HRow.c0 (h : HRow w hb k kh kl iv sv tv) : w.cell? ⟨hb, 0, none⟩ = some (.int .i64 k) := by rw [cell_of_row w hb 0 _ _ _ h]; rfl
theorem HRow.c1 (h : HRow w hb k kh kl iv sv tv) : w.cell? ⟨hb, 1, none⟩ = some (.int .u64 (W64 kh)) := by rw [cell_of_row w hb 1 _ _ _ h]; rfl
theorem HRow.c2 (h : HRow w hb k kh kl iv sv tv) : w.cell? ⟨hb, 2, none⟩ = some (.int .u64 (W64 kl)) := by rw [cell_of_row w hb 2 _ _ _ h]; rfl
theorem HRow.c3 (h : HRow w hb k kh kl iv sv tv) : w.cell? ⟨hb, 3, none⟩ = some (iv) := by rw [cell_of_row w hb 3 _ _ _ h]; rfl
theorem HRow.c4 (h : HRow w hb k kh kl iv sv tv) : w.cell? ⟨hb, 4, none⟩ = some (sv) := by rw [cell_of_row w hb 4 _ _ _ h]; rfl
theorem HRow.c5 (h : HRow w hb k kh kl iv sv tv) : w.cell? ⟨hb, 5, none⟩ = some (tv) := by rw [cell_of_row w hb 5 _ _ _ h]; rfl
theorem HRow.con (h : HRow w hb k kh kl iv sv tv) : ∃ o, w.heap[hb]? = some o ∧ Con o := ⟨_, h, _, _, rfl, by decide⟩
theorem HRow.fr {F : Nat → Prop} {w' : World} (h : HRow w hb k kh kl iv sv tv) (f : Fr F w w') (c : Keeps w F) : HRow w' hb k kh kl iv sv tv := c.fr f h ⟨_, _, rfl, by decide⟩
theorem HRow.no {w' : World} (h : HRow w hb k kh kl iv sv tv) (f : Fr No w w') : HRow w' hb k kh kl iv sv tv := f.heap (fun h => h) h
theorem HRow.lt (h : HRow w hb k kh kl iv sv tv) : hb < w.heap.size := (Array.getElem?_eq_some_iff.1 h).1
end
theorem neq_iface (T : TypeId) (v : Value) (w : World) : (binOp .neq 71 (.iface T v) .nilIface).run Tryz.prog w = .ok (.bool true) w := by
 exact run_neq_iface_nil w _ (by kernel_rfl) T v
theorem hmade_yes {w : World} {hb : Nat} {T : TypeId} {v : Value} (h : w.cell? ⟨hb, 3, none⟩ = some (.iface T v)) : Calls Tryz.prog 38 #[.pointer (some ⟨hb, 0, none⟩)] w (Gives (.bool true) w) := by
 have hq := neq_iface T v
 go_enter Tryz.func38, Tryz.ntmps38
 go_wp2
 go_ret
 exact ⟨rfl, rfl⟩
theorem hKind_yes {w : World} {hb : Nat} {T : TypeId} {v : Value} (h3 : w.cell? ⟨hb, 3, none⟩ = some (.iface T v)) {k : Int} (h0 : w.cell? ⟨hb, 0, none⟩ = some (.int .i64 k)) : Calls Tryz.prog 21 #[.pointer (some ⟨hb, 0, none⟩)] w (Gives (.int .i64 k) w) := by
 go_enter Tryz.func21, Tryz.ntmps21
 go_wp2_with (go_at_call 38; refine (hmade_yes h3).mono ?_; rintro e w' ⟨rfl, rfl⟩)
 go_ret
 exact ⟨rfl, rfl⟩
theorem own_ge {w : World} {base : Nat} {v : Value} {l : Bytes} (h : Owns w base v l) {x : Nat} (hx : v.ownBlock = some x) : base ≤ x := by
 rcases h.2 with ⟨rfl, _⟩ | ⟨b, cap, cur, rfl, hb, _⟩
 · simp [Value.ownBlock] at hx
 · simp [Value.ownBlock] at hx
   omega
theorem hKey_yes {w : World} {hb : Nat} {T : TypeId} {v : Value} (h3 : w.cell? ⟨hb, 3, none⟩ = some (.iface T v)) {kh kl : BitVec 64} (h1 : w.cell? ⟨hb, 1, none⟩ = some (.int .u64 (W64 kh))) (h2 : w.cell? ⟨hb, 2, none⟩ = some (.int .u64 (W64 kl))) : Calls Tryz.prog 22 #[.pointer (some ⟨hb, 0, none⟩)] w (GivesNew (.agg #[.int .u64 (W64 kh), .int .u64 (W64 kl)]) w) := by
 have hF := (Fr.refl No w).alloc (.cells #[.int .u64 0, .int .u64 0] 24)
 have hA := row2_new w 24 (.int .u64 0) (.int .u64 0)
 have h3' := hF.cell (fun h => h) h3
 have h1' := hF.cell (fun h => h) h1
 have h2' := hF.cell (fun h => h) h2
 clear h3 h1 h2
 have h3 := h3'
 clear h3'
 go_enter Tryz.func22, Tryz.ntmps22
 go_wp2_with (go_at_call 38; refine (hmade_yes h3).mono ?_; rintro e w' ⟨rfl, rfl⟩)
 have hR := row2_new w 24 (.int .u64 (W64 kh)) (.int .u64 (W64 kl))
 have hF1 := (Fr.refl No w).alloc (.cells #[.int .u64 (W64 kh), .int .u64 (W64 kl)] 24)
 clear hA hF h3 h1' h2'
 generalize w.alloc (.cells #[.int .u64 (W64 kh), .int .u64 (W64 kl)] 24) = w1 at hF1 hR ⊢
 have cd0 := hR.c0
 have cd1 := hR.c1
 refine bodyPost_ret (v := .agg #[.int .u64 (W64 kh), .int .u64 (W64 kl)]) (by simp [results, Tryz.results22, go_sem, cd0, cd1]) rfl ?_
 exact ⟨rfl, hF1⟩
end Go.Proofs.YtidlpihoafnobaaGreat
