/- A region that draws its order, walked in one order that is given: that this order speaks for all of them is reckoned once a region. Over any program. -/
import Derived.Test.YtcbbllfgelnpjaaOrder
namespace Go.Proofs.Ytcbbllfgelnpjaa
set_option linter.unusedVariables false
set_option linter.unusedSimpArgs false
open Go

section
variable {P : Program} {ops : Array Oper} {Q : Exit → Act → World → Prop} {S : World → Prop} {late : Nat → Bool}
/-- Does the order l (a number; 0: it alone may come up, 1: it is taken first, 2: it is taken first and late) speak for all orders? It leads from 'listed' to 'goal'. -/
def okSeg (ops : Array Oper) (late : Nat → Bool) : List (Nat × Nat) → Array Bool → Array Bool → Bool
  | [], listed, goal => listed == goal
  | (i, 0) :: l, listed, goal => Region.ready .any ops listed == [i] && (!late i || l.all (fun x => x.2 != 1)) && okSeg ops late l (listed.setIfInBounds i true) goal
  | (i, 1) :: l, listed, goal => !late i && Region.free .any ops listed i && (Region.ready .any ops listed).contains i && okSeg ops late l (listed.setIfInBounds i true) goal
  | (i, _ + 2) :: l, listed, goal => late i && Region.free .any ops listed i && (Region.ready .any ops listed).contains i && okSeg ops late l (listed.setIfInBounds i true) goal
def okPart (ops : Array Oper) (late : Nat → Bool) (l : List (Nat × Nat)) (listed goal : Array Bool) : Bool :=
  Region.noSelect ops && lateWaits ops late && okSeg ops late l listed goal
def okRegion (ops : Array Oper) (late : Nat → Bool) (l : List (Nat × Nat)) : Bool :=
  okPart ops late l (Array.replicate ops.size false) (Array.replicate ops.size true) && decide (l.length = ops.size) && (Region.ready .any ops (Array.replicate ops.size true)).isEmpty
/-- The walk in the order l; R: what is to be shown behind it. -/
def wpSeq (P : Program) (ops : Array Oper) (Q : Exit → Act → World → Prop) (S : World → Prop) (late : Nat → Bool) (R : Act → World → Prop) : List (Nat × Nat) → Act → World → Prop
  | [], a, w => R a w
  | (i, 0) :: l, a, w => ∃ o, ops[i]? = some o ∧ ∀ K : Act → World → Prop, Shut (∀ a' w', (late i = false → S w') → wpSeq P ops Q S late R l a' w' → K a' w') →
      if Region.wanted o (yielded ops a.tmps) then o.wp P a w K Q else K (a.put o.dst undef) w
  | (i, 1) :: l, a, w => ∃ o v, ops[i]? = some o ∧ (∀ c a w, Q (.panic c) (a.put o.dst v) w → Q (.panic c) a w) ∧ YieldsIf P ops S o v a ∧ wpSeq P ops Q S late R l (a.put o.dst v) w
  | (i, _ + 2) :: l, a, w => ∃ o v, ops[i]? = some o ∧ (∀ c a w, Q (.panic c) (a.put o.dst v) w → Q (.panic c) a w) ∧ YieldsIf P ops (fun _ => True) o v a ∧ wpSeq P ops Q S late R l (a.put o.dst v) w
theorem wpLate_of_seg (hs : Region.noSelect ops = true) (hl : lateWaits ops late = true) (fuel : Nat) (goal : Array Bool) : ∀ (l : List (Nat × Nat)) (listed : Array Bool) (a : Act) (w : World), okSeg ops late l listed goal = true →
    ((∃ x ∈ l, x.2 = 1) → S w) → wpSeq P ops Q S late (wpLate P ops Q S late fuel goal) l a w → wpLate P ops Q S late (l.length + fuel) listed a w := by
  intro l
  induction l with
  | nil =>
    intro listed a w hok _ h
    have : listed = goal := by simpa [okSeg] using hok
    subst this
    simpa [wpSeq] using h
  | cons x l ih =>
    intro listed a w hok hS h
    obtain ⟨i, t⟩ := x
    rw [show ((i, t) :: l).length + fuel = (l.length + fuel) + 1 by simp; omega]
    match t, hok, h, hS with
    | 0, hok, h, hS =>
      simp only [okSeg, Bool.and_eq_true, beq_iff_eq] at hok
      obtain ⟨⟨hr, hlt⟩, hok⟩ := hok
      obtain ⟨o, ho, h⟩ := h
      refine ⟨fun h0 => absurd (hr ▸ h0) (by simp), ?_⟩
      rw [hr]
      intro j hj
      obtain rfl : j = i := by simpa using hj
      refine wpOp_step ho fun K hK => ?_
      refine h K (show Shut _ from fun a' w' hS' h' => hK a' w' ⟨hS', ih _ _ _ hok (fun hx => ?_) h'⟩)
      obtain ⟨x, hx, hx1⟩ := hx
      cases hlate : late j with
      | false => exact hS' hlate
      | true =>
        rw [hlate] at hlt
        simp at hlt
        exact absurd hx1 (hlt x.1 x.2 hx)
    | 1, hok, h, hS =>
      simp only [okSeg, Bool.and_eq_true, Bool.not_eq_true'] at hok
      obtain ⟨⟨⟨hlt, hfr⟩, hr⟩, hok⟩ := hok
      obtain ⟨o, v, ho, hQ, hy, h⟩ := h
      exact wpLate_take ho hs hl hlt hfr hr hQ hy (hS ⟨_, List.mem_cons_self, rfl⟩) (ih _ _ _ hok (fun ⟨x, hx, h1⟩ => hS ⟨x, List.mem_cons_of_mem _ hx, h1⟩) h)
    | t + 2, hok, h, hS =>
      simp only [okSeg, Bool.and_eq_true] at hok
      obtain ⟨⟨⟨hlt, hfr⟩, hr⟩, hok⟩ := hok
      obtain ⟨o, v, ho, hQ, hy, h⟩ := h
      exact wpLate_take' ho hs hlt hfr hr hQ hy (ih _ _ _ hok (fun ⟨x, hx, h1⟩ => hS ⟨x, List.mem_cons_of_mem _ hx, h1⟩) h)
theorem wpSeq_mono {R R' : Act → World → Prop} (hR : ∀ a w, R a w → R' a w) : ∀ (l : List (Nat × Nat)) (a : Act) (w : World), wpSeq P ops Q S late R l a w → wpSeq P ops Q S late R' l a w
  | [], a, w, h => hR a w h
  | (i, 0) :: l, a, w, ⟨o, ho, h⟩ => ⟨o, ho, fun K hK => h K (show Shut _ from fun a' w' hS h' => hK.out a' w' hS (wpSeq_mono hR l a' w' h'))⟩
  | (i, 1) :: l, a, w, ⟨o, v, ho, hQ, hy, h⟩ => ⟨o, v, ho, hQ, hy, wpSeq_mono hR l _ _ h⟩
  | (i, _ + 2) :: l, a, w, ⟨o, v, ho, hQ, hy, h⟩ => ⟨o, v, ho, hQ, hy, wpSeq_mono hR l _ _ h⟩
/-- A part of a region's order. -/
theorem wpLate_seg {a : Act} {w : World} {n : Nat} {listed : Array Bool} (l : List (Nat × Nat)) (fuel : Nat) (goal : Array Bool) (hok : okPart ops late l listed goal = true) (hn : n = l.length + fuel) (hS : S w)
    (h : wpSeq P ops Q S late (wpLate P ops Q S late fuel goal) l a w) : wpLate P ops Q S late n listed a w := by
  subst hn
  simp only [okPart, Bool.and_eq_true] at hok
  obtain ⟨⟨h1, h2⟩, h4⟩ := hok
  exact wpLate_of_seg h1 h2 _ _ _ _ _ _ h4 (fun _ => hS) h
/-- A region's whole order. -/
theorem wp_region_seq {id : Nat} {a : Act} {w : World} (hm : P.follows .mixedOrders = true) (S : World → Prop) (late : Nat → Bool) (l : List (Nat × Nat)) (hok : okRegion ops late l = true) (hS : S w.drew)
    (h : wpSeq P ops Q S late (Q .normal) l a w.drew) : (Code.region id ops true).wp P Q a w := by
  simp only [okRegion, Bool.and_eq_true, decide_eq_true_eq] at hok
  obtain ⟨⟨h1, h2⟩, h3⟩ := hok
  refine wp_region_late hm S late hS fun _ => wpLate_seg l 0 (Array.replicate ops.size true) h1 (by omega) hS ?_
  exact wpSeq_mono (fun a w h => wpLate_done (by simpa using h3) h _) l _ _ h
theorem wpSeq_take {R : Act → World → Prop} {i : Nat} {o : Oper} {v : Value} {l : List (Nat × Nat)} {tmps : Array Value} {ds : List Deferred} {w : World} (d : Tmp) (ho : ops[i]? = some o) (hd : o.dst = some d) (hQ : ∀ c a w, Q (.panic c) (a.put o.dst v) w → Q (.panic c) a w) (hy : YieldsIf P ops S o v ⟨tmps, ds⟩)
    (h : wpSeq P ops Q S late R l ⟨tmps.setIfInBounds d v, ds⟩ w) : wpSeq P ops Q S late R ((i, 1) :: l) ⟨tmps, ds⟩ w := ⟨o, v, ho, hQ, hy, by simpa only [Act.put, hd] using h⟩
theorem wpSeq_take' {R : Act → World → Prop} {i : Nat} {o : Oper} {v : Value} {l : List (Nat × Nat)} {tmps : Array Value} {ds : List Deferred} {w : World} (d : Tmp) (ho : ops[i]? = some o) (hd : o.dst = some d) (hQ : ∀ c a w, Q (.panic c) (a.put o.dst v) w → Q (.panic c) a w) (hy : YieldsIf P ops (fun _ => True) o v ⟨tmps, ds⟩)
    (h : wpSeq P ops Q S late R l ⟨tmps.setIfInBounds d v, ds⟩ w) : wpSeq P ops Q S late R ((i, 2) :: l) ⟨tmps, ds⟩ w := ⟨o, v, ho, hQ, hy, by simpa only [Act.put, hd] using h⟩
theorem wpSeq_next {R : Act → World → Prop} {i : Nat} {o : Oper} {l : List (Nat × Nat)} {a : Act} {w : World} (ho : ops[i]? = some o) (hg : Region.wanted o (yielded ops a.tmps) = true)
    (h : ∀ K : Act → World → Prop, Shut (∀ a' w', (late i = false → S w') → wpSeq P ops Q S late R l a' w' → K a' w') → Oper.wp P o a w K Q) : wpSeq P ops Q S late R ((i, 0) :: l) a w :=
  ⟨o, ho, fun K hK => by rw [if_pos hg]; exact h K hK⟩
/-- It is guarded, and not wanted. -/
theorem wpSeq_not {R : Act → World → Prop} {i : Nat} {o : Oper} {l : List (Nat × Nat)} {tmps : Array Value} {ds : List Deferred} {w : World} (d : Tmp) (ho : ops[i]? = some o) (hd : o.dst = some d) (hg : Region.wanted o (yielded ops tmps) = false) (hS : late i = false → S w)
    (h : wpSeq P ops Q S late R l ⟨tmps.setIfInBounds d undef, ds⟩ w) : wpSeq P ops Q S late R ((i, 0) :: l) ⟨tmps, ds⟩ w :=
  ⟨o, ho, fun K hK => by rw [if_neg (by simp [hg])]; refine hK.out _ _ hS ?_; simpa only [Act.put, hd] using h⟩
theorem wpSeq_done {R : Act → World → Prop} {a : Act} {w : World} (h : R a w) : wpSeq P ops Q S late R [] a w := h
/-- Two may come up. -/
theorem wpLate_two {i j : Nat} {oi oj : Oper} {fuel : Nat} {listed : Array Bool} {a : Act} {w : World} (hr : Region.ready .any ops listed = [i, j])
    (hi : ops[i]? = some oi) (hgi : Region.wanted oi (yielded ops a.tmps) = true) (hj : ops[j]? = some oj) (hgj : Region.wanted oj (yielded ops a.tmps) = true)
    (h1 : ∀ K : Act → World → Prop, Shut (∀ a w, (late i = false → S w) → wpLate P ops Q S late fuel (listed.setIfInBounds i true) a w → K a w) → Oper.wp P oi a w K Q)
    (h2 : ∀ K : Act → World → Prop, Shut (∀ a w, (late j = false → S w) → wpLate P ops Q S late fuel (listed.setIfInBounds j true) a w → K a w) → Oper.wp P oj a w K Q) :
    wpLate P ops Q S late (fuel + 1) listed a w := by
  refine ⟨fun h0 => absurd (hr ▸ h0) (by simp), ?_⟩
  rw [hr]
  intro k hk
  have hk : k = i ∨ k = j := by simpa using hk
  rcases hk with rfl | rfl
  · refine wpOp_step hi fun K hK => ?_
    rw [if_pos hgi]
    exact h1 K (show Shut _ from fun a w hS hW => hK a w ⟨hS, hW⟩)
  · refine wpOp_step hj fun K hK => ?_
    rw [if_pos hgj]
    exact h2 K (show Shut _ from fun a w hS hW => hK a w ⟨hS, hW⟩)
end
end Go.Proofs.Ytcbbllfgelnpjaa
