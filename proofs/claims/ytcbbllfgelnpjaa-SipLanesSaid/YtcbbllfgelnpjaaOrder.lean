/- A region that draws its order, and stores last into a cell that it has loaded: the operations that come last ('late': the stores) wait for all others, so what the loads read need not hold behind them. Over any program. -/
import Derived.OrdersHeld
import Derived.Deep.RegionHeld
import Derived.WalkKit
namespace Go.Proofs.Ytcbbllfgelnpjaa
set_option linter.unusedVariables false
set_option linter.unusedSimpArgs false
open Go

section
variable {P : Program} {ops : Array Oper} {Q : Exit → Act → World → Prop} {S : World → Prop} {late : Nat → Bool}

/-- Whatever order is picked from here on; S holds behind every operation that is not late. -/
def wpLate (P : Program) (ops : Array Oper) (Q : Exit → Act → World → Prop) (S : World → Prop) (late : Nat → Bool) : Nat → Array Bool → Act → World → Prop
  | 0, listed, a, w => Region.ready .any ops listed = [] ∧ Q .normal a w
  | fuel + 1, listed, a, w =>
    (Region.ready .any ops listed = [] → Q .normal a w) ∧
    ∀ i ∈ Region.ready .any ops listed, wpOp P ops Q i (fun a' w' => (late i = false → S w') ∧ wpLate P ops Q S late fuel (listed.setIfInBounds i true) a' w') a w
theorem wpLate_any : ∀ (fuel : Nat) (listed : Array Bool) (a : Act) (w : World), wpLate P ops Q S late fuel listed a w → wpAny P .any ops Q fuel listed a w
  | 0, _, _, _, h => h
  | fuel + 1, _, _, _, h => ⟨h.1, fun i hi => wpOp_mono (fun a' w' h' => wpLate_any fuel _ a' w' h'.2) (h.2 i hi)⟩
/-- Every late operation waits for every one that is not late. -/
def lateWaits (ops : Array Oper) (late : Nat → Bool) : Bool :=
  (List.range ops.size).all fun j => !late j || (match ops[j]? with
    | some o => (List.range ops.size).all fun i => late i || o.after.any (fun e => Region.binds .any e && e.on == i)
    | none => true)
theorem lateWaits_spec (h : lateWaits ops late = true) {i j : Nat} {oi oj : Oper} (hi : ops[i]? = some oi) (hj : ops[j]? = some oj) (li : late i = false) (lj : late j = true) :
    ∃ e ∈ oj.after, Region.binds .any e = true ∧ e.on = i := by
  have hi' := (Array.getElem?_eq_some_iff.1 hi).1
  have hj' := (Array.getElem?_eq_some_iff.1 hj).1
  have h1 := List.all_eq_true.1 h j (List.mem_range.2 hj')
  simp only [lj, Bool.not_true, Bool.false_or, hj] at h1
  have h2 := List.all_eq_true.1 h1 i (List.mem_range.2 hi')
  simp only [li, Bool.false_or] at h2
  obtain ⟨e, he, hb⟩ := Array.any_eq_true'.1 h2
  simp only [Bool.and_eq_true, beq_iff_eq] at hb
  exact ⟨e, he, hb.1, hb.2⟩
theorem not_late_of_ready (hl : lateWaits ops late = true) {i j : Nat} {oi : Oper} {listed : Array Bool} (hi : ops[i]? = some oi) (li : late i = false)
    (hr : i ∈ Region.ready .any ops listed) (hj : j ∈ Region.ready .any ops listed) : late j = false := by
  cases lj : late j with
  | false => rfl
  | true =>
    obtain ⟨_, oj, hoj, hall⟩ := mem_ready.1 hj
    obtain ⟨e, he, hb, heq⟩ := lateWaits_spec hl hi hoj li lj
    have h1 := hall e he hb
    have h0 := (mem_ready.1 hr).1
    rw [heq] at h1
    rcases Nat.lt_or_ge i listed.size with h' | h'
    · simp [h'] at h0 h1; rw [h0] at h1; cases h1
    · simp [Array.getElem?_eq_none h'] at h1
/-- T: what the operation's value leans on: S for one that is not late, nothing for one that is. -/
theorem wpLate_first {T : World → Prop} {i : Nat} {oi : Oper} {v : Value} (hi : ops[i]? = some oi) (hsel : ∀ (j : Nat) (o : Oper) cs b, ops[j]? = some o → o.op ≠ .select cs b)
    (hQ : ∀ c a w, Q (.panic c) (a.put oi.dst v) w → Q (.panic c) a w)
    (hT : ∀ (listed : Array Bool) j w, i ∈ Region.ready .any ops listed → j ∈ Region.ready .any ops listed → (late j = false → S w) → T w) (hTS : ∀ w, T w → late i = false → S w) :
    ∀ (fuel : Nat) (listed : Array Bool) (a : Act) (w : World),
      (∀ j oj, ops[j]? = some oj → j ≠ i → listed.getD j true = false → (∀ e ∈ oj.after, Region.binds .any e = true → e.on ≠ i) → oi.apart ops oj = true) →
      i ∈ Region.ready .any ops listed → YieldsIf P ops T oi v a → T w →
      wpLate P ops Q S late fuel (listed.setIfInBounds i true) (a.put oi.dst v) w → wpLate P ops Q S late (fuel + 1) listed a w := by
  intro fuel
  induction fuel with
  | zero =>
    intro listed a w _ hr hy hS H
    refine ⟨fun h => (by rw [h] at hr; cases hr), fun j hj => ?_⟩
    by_cases hji : j = i
    · subst hji; exact hy.wpOp hi hS ⟨hTS w hS, H⟩
    · have := ready_mono hj hji
      rw [H.1] at this
      cases this
  | succ fuel ih =>
    intro listed a w hfree hr hy hS H
    refine ⟨fun h => (by rw [h] at hr; cases hr), fun j hj => ?_⟩
    by_cases hji : j = i
    · subst hji; exact hy.wpOp hi hS ⟨hTS w hS, H⟩
    · have h1 := H.2 j (ready_mono hj hji)
      obtain ⟨hjun, oj, hoj, hall⟩ := mem_ready.1 hj
      have hnot : ∀ e ∈ oj.after, Region.binds .any e = true → e.on ≠ i := fun e he hb heq => by
        have h1 := hall e he hb
        have h0 := (mem_ready.1 hr).1
        rw [heq] at h1
        rcases Nat.lt_or_ge i listed.size with h' | h'
        · simp [h'] at h0 h1; rw [h0] at h1; cases h1
        · simp [Array.getElem?_eq_none h'] at h1
      have h2 := wpOp_putIf hoj (hfree j oj hoj hji hjun hnot) (fun cs b => hsel i oi cs b hi) (fun cs b => hsel j oj cs b hoj) hQ hy h1
      have hfree' : ∀ k ok, ops[k]? = some ok → k ≠ i → (listed.setIfInBounds j true).getD k true = false →
          (∀ e ∈ ok.after, Region.binds .any e = true → e.on ≠ i) → oi.apart ops ok = true := fun k ok hk hki hun hno => by
        refine hfree k ok hk hki ?_ hno
        by_cases hjk : j = k
        · subst hjk; exact hjun
        · rw [getD_set_ne true hjk] at hun; exact hun
      refine wpOp_mono (fun a' w' h3 => ⟨h3.2.1, ih (listed.setIfInBounds j true) a' w' hfree' (ready_mono hr (Ne.symm hji)) h3.1 (hT listed j w' hr hj h3.2.1) ?_⟩) h2
      rw [Array.setIfInBounds_comm _ _ hji]
      exact h3.2.2
/-- Take number i, not late, first: it yields v in every world that meets S. -/
theorem wpLate_take {i : Nat} {oi : Oper} {v : Value} {fuel : Nat} {listed : Array Bool} {a : Act} {w : World} (hi : ops[i]? = some oi)
    (hs : Region.noSelect ops = true) (hl : lateWaits ops late = true) (li : late i = false) (hf : Region.free .any ops listed i = true) (hr : (Region.ready .any ops listed).contains i = true)
    (hQ : ∀ c a w, Q (.panic c) (a.put oi.dst v) w → Q (.panic c) a w) (hy : YieldsIf P ops S oi v a) (hS : S w)
    (h : wpLate P ops Q S late fuel (listed.setIfInBounds i true) (a.put oi.dst v) w) : wpLate P ops Q S late (fuel + 1) listed a w :=
  wpLate_first hi (Region.noSelect_spec hs) hQ (fun listed j w hr hj hw => hw (not_late_of_ready hl hi li hr hj)) (fun _ h _ => h) fuel listed a w (Region.free_spec hi hf) (by simpa using hr) hy hS h
/-- Take a late one that yields v in whatever world. -/
theorem wpLate_take' {i : Nat} {oi : Oper} {v : Value} {fuel : Nat} {listed : Array Bool} {a : Act} {w : World} (hi : ops[i]? = some oi)
    (hs : Region.noSelect ops = true) (li : late i = true) (hf : Region.free .any ops listed i = true) (hr : (Region.ready .any ops listed).contains i = true)
    (hQ : ∀ c a w, Q (.panic c) (a.put oi.dst v) w → Q (.panic c) a w) (hy : YieldsIf P ops (fun _ => True) oi v a)
    (h : wpLate P ops Q S late fuel (listed.setIfInBounds i true) (a.put oi.dst v) w) : wpLate P ops Q S late (fuel + 1) listed a w :=
  wpLate_first (T := fun _ => True) hi (Region.noSelect_spec hs) hQ (fun _ _ _ _ _ _ => trivial) (fun _ _ h => by rw [li] at h; cases h) fuel listed a w (Region.free_spec hi hf) (by simpa using hr) hy trivial h
/-- Only number k may come up. -/
theorem wpLate_next {k : Nat} {o : Oper} {fuel : Nat} {listed : Array Bool} {a : Act} {w : World} (hr : Region.ready .any ops listed = [k]) (ho : ops[k]? = some o) (hg : o.guard = none)
    (h : ∀ K : Act → World → Prop, Shut (∀ a w, (late k = false → S w) → wpLate P ops Q S late fuel (listed.setIfInBounds k true) a w → K a w) → Oper.wp P o a w K Q) :
    wpLate P ops Q S late (fuel + 1) listed a w := by
  refine ⟨fun h0 => absurd (hr ▸ h0) (by simp), ?_⟩
  rw [hr]
  intro j hj
  obtain rfl : j = k := by simpa using hj
  refine wpOp_step ho fun K hK => ?_
  rw [if_pos (by simp [Region.wanted, hg])]
  exact h K (fun a w hS hW => hK a w ⟨hS, hW⟩)
theorem wpLate_done {listed : Array Bool} {a : Act} {w : World} (hr : Region.ready .any ops listed = []) (h : Q .normal a w) : ∀ fuel, wpLate P ops Q S late fuel listed a w
  | 0 => ⟨hr, h⟩
  | _ + 1 => ⟨fun _ => h, by rw [hr]; simp⟩
theorem wp_region_late {id : Nat} {a : Act} {w : World} (hm : P.follows .mixedOrders = true) (S : World → Prop) (late : Nat → Bool) (hS : S w.drew)
    (h : S w.drew → wpLate P ops Q S late ops.size (Array.replicate ops.size false) a w.drew) : (Code.region id ops true).wp P Q a w :=
  wp_region_any hm (wpLate_any _ _ _ _ (h hS))
end
end Go.Proofs.Ytcbbllfgelnpjaa
