/- Order Fold XxPlain StreamM64 WriteAM64 -/
import Derived.Deep.QuietTactic
import Derived.Deep.RegionHeld
import Derived.Deep.RegionHeld3
import Derived.OrdersHeld
import Derived.WalkKit
import Derived.Test.YtidlpihoafnobaaGreatDoorPMix
set_option linter.unusedVariables false
set_option linter.unusedSimpArgs false
namespace Go.Proofs.YtidlpihoafnobaaGreatDoor
set_option maxRecDepth 100000
open Go
theorem es1 {α : Type _} (l : List α) (i : Nat) (a : α) : l.toArray.setIfInBounds i a = (l.set i a).toArray := List.setIfInBounds_toArray ..
theorem es2 {α : Type _} (x y : α) (l : List α) : (x :: l).set 0 y = y :: l := rfl
theorem es3 {α : Type _} (x y : α) (l : List α) (i : Nat) : (x :: l).set (i + 1) y = x :: l.set i y := rfl
section
variable {P : Program} {ops : Array Oper} {Q : Exit → Act → World → Prop} {S : World → Prop} {late : Nat → Bool}
def wpLate (P : Program) (ops : Array Oper) (Q : Exit → Act → World → Prop) (S : World → Prop) (late : Nat → Bool) : Nat → Array Bool → Act → World → Prop
 | 0, listed, a, w => Region.ready .any ops listed = [] ∧ Q .normal a w
 | fuel + 1, listed, a, w =>
  (Region.ready .any ops listed = [] → Q .normal a w) ∧
  ∀ i ∈ Region.ready .any ops listed, wpOp P ops Q i (fun a' w' => (late i = false → S w') ∧ wpLate P ops Q S late fuel (listed.setIfInBounds i true) a' w') a w
theorem wpLate_any : ∀ (fuel : Nat) (listed : Array Bool) (a : Act) (w : World), wpLate P ops Q S late fuel listed a w → wpAny P .any ops Q fuel listed a w
 | 0, _, _, _, h => h
 | fuel + 1, _, _, _, h => ⟨h.1, fun i hi => wpOp_mono (fun a' w' h' => wpLate_any fuel _ a' w' h'.2) (h.2 i hi)⟩
def lateWaits (ops : Array Oper) (late : Nat → Bool) : Bool :=
 (List.range ops.size).all fun j => !late j || (match ops[j]? with
  | some o => (List.range ops.size).all fun i => late i || o.after.any (fun e => Region.binds .any e && e.on == i)
  | none => true)
theorem lateWaits_spec (h : lateWaits ops late = true) {i j : Nat} {oi oj : Oper} (hi : ops[i]? = some oi) (hj : ops[j]? = some oj) (li : late i = false) (lj : late j = true) :
 ∃ e ∈ oj.after, Region.binds .any e = true ∧ e.on = i := by
 have hi' := (Array.getElem?_eq_some_iff.1 hi).1
 have hj' := (Array.getElem?_eq_some_iff.1 hj).1
 have h1 := List.all_eq_true.1 h j (List.mem_range.2 hj')
 simp only [lj, Bool.not_true, Bool.false_or, hj] at h1
 have h2 := List.all_eq_true.1 h1 i (List.mem_range.2 hi')
 simp only [li, Bool.false_or] at h2
 obtain ⟨e, he, hb⟩ := Array.any_eq_true'.1 h2
 simp only [Bool.and_eq_true, beq_iff_eq] at hb
 exact ⟨e, he, hb.1, hb.2⟩
theorem not_late_of_ready (hl : lateWaits ops late = true) {i j : Nat} {oi : Oper} {listed : Array Bool} (hi : ops[i]? = some oi) (li : late i = false)
 (hr : i ∈ Region.ready .any ops listed) (hj : j ∈ Region.ready .any ops listed) : late j = false := by
 cases lj : late j with
 | false => rfl
 | true =>
  obtain ⟨_, oj, hoj, hall⟩ := mem_ready.1 hj
  obtain ⟨e, he, hb, heq⟩ := lateWaits_spec hl hi hoj li lj
  have h1 := hall e he hb
  have h0 := (mem_ready.1 hr).1
  rw [heq] at h1
  rcases Nat.lt_or_ge i listed.size with h' | h'
  · simp [h'] at h0 h1; rw [h0] at h1; cases h1
  · simp [Array.getElem?_eq_none h'] at h1
theorem wpLate_first {T : World → Prop} {i : Nat} {oi : Oper} {v : Value} (hi : ops[i]? = some oi) (hsel : ∀ (j : Nat) (o : Oper) cs b, ops[j]? = some o → o.op ≠ .select cs b)
 (hQ : ∀ c a w, Q (.panic c) (a.put oi.dst v) w → Q (.panic c) a w)
 (hT : ∀ (listed : Array Bool) j w, i ∈ Region.ready .any ops listed → j ∈ Region.ready .any ops listed → (late j = false → S w) → T w) (hTS : ∀ w, T w → late i = false → S w) :
 ∀ (fuel : Nat) (listed : Array Bool) (a : Act) (w : World),
  (∀ j oj, ops[j]? = some oj → j ≠ i → listed.getD j true = false → (∀ e ∈ oj.after, Region.binds .any e = true → e.on ≠ i) → oi.apart ops oj = true) →
  i ∈ Region.ready .any ops listed → YieldsIf P ops T oi v a → T w →
  wpLate P ops Q S late fuel (listed.setIfInBounds i true) (a.put oi.dst v) w → wpLate P ops Q S late (fuel + 1) listed a w := by
 intro fuel
 induction fuel with
 | zero =>
  intro listed a w _ hr hy hS H
  refine ⟨fun h => (by rw [h] at hr; cases hr), fun j hj => ?_⟩
  by_cases hji : j = i
  · subst hji; exact hy.wpOp hi hS ⟨hTS w hS, H⟩
  · have := ready_mono hj hji
    rw [H.1] at this
    cases this
 | succ fuel ih =>
  intro listed a w hfree hr hy hS H
  refine ⟨fun h => (by rw [h] at hr; cases hr), fun j hj => ?_⟩
  by_cases hji : j = i
  · subst hji; exact hy.wpOp hi hS ⟨hTS w hS, H⟩
  · have h1 := H.2 j (ready_mono hj hji)
    obtain ⟨hjun, oj, hoj, hall⟩ := mem_ready.1 hj
    have hnot : ∀ e ∈ oj.after, Region.binds .any e = true → e.on ≠ i := fun e he hb heq => by
     have h1 := hall e he hb
     have h0 := (mem_ready.1 hr).1
     rw [heq] at h1
     rcases Nat.lt_or_ge i listed.size with h' | h'
     · simp [h'] at h0 h1; rw [h0] at h1; cases h1
     · simp [Array.getElem?_eq_none h'] at h1
    have h2 := wpOp_putIf hoj (hfree j oj hoj hji hjun hnot) (fun cs b => hsel i oi cs b hi) (fun cs b => hsel j oj cs b hoj) hQ hy h1
    have hfree' : ∀ k ok, ops[k]? = some ok → k ≠ i → (listed.setIfInBounds j true).getD k true = false →
     (∀ e ∈ ok.after, Region.binds .any e = true → e.on ≠ i) → oi.apart ops ok = true := fun k ok hk hki hun hno => by
     refine hfree k ok hk hki ?_ hno
     by_cases hjk : j = k
     · subst hjk; exact hjun
     · rw [getD_set_ne true hjk] at hun; exact hun
    refine wpOp_mono (fun a' w' h3 => ⟨h3.2.1, ih (listed.setIfInBounds j true) a' w' hfree' (ready_mono hr (Ne.symm hji)) h3.1 (hT listed j w' hr hj h3.2.1) ?_⟩) h2
    rw [Array.setIfInBounds_comm _ _ hji]
    exact h3.2.2
theorem wpLate_take {i : Nat} {oi : Oper} {v : Value} {fuel : Nat} {listed : Array Bool} {a : Act} {w : World} (hi : ops[i]? = some oi)
 (hs : Region.noSelect ops = true) (hl : lateWaits ops late = true) (li : late i = false) (hf : Region.free .any ops listed i = true) (hr : (Region.ready .any ops listed).contains i = true)
 (hQ : ∀ c a w, Q (.panic c) (a.put oi.dst v) w → Q (.panic c) a w) (hy : YieldsIf P ops S oi v a) (hS : S w)
 (h : wpLate P ops Q S late fuel (listed.setIfInBounds i true) (a.put oi.dst v) w) : wpLate P ops Q S late (fuel + 1) listed a w :=
 wpLate_first hi (Region.noSelect_spec hs) hQ (fun listed j w hr hj hw => hw (not_late_of_ready hl hi li hr hj)) (fun _ h _ => h) fuel listed a w (Region.free_spec hi hf) (by simpa using hr) hy hS h
theorem wpLate_take' {i : Nat} {oi : Oper} {v : Value} {fuel : Nat} {listed : Array Bool} {a : Act} {w : World} (hi : ops[i]? = some oi)
 (hs : Region.noSelect ops = true) (li : late i = true) (hf : Region.free .any ops listed i = true) (hr : (Region.ready .any ops listed).contains i = true)
 (hQ : ∀ c a w, Q (.panic c) (a.put oi.dst v) w → Q (.panic c) a w) (hy : YieldsIf P ops (fun _ => True) oi v a)
 (h : wpLate P ops Q S late fuel (listed.setIfInBounds i true) (a.put oi.dst v) w) : wpLate P ops Q S late (fuel + 1) listed a w :=
 wpLate_first (T := fun _ => True) hi (Region.noSelect_spec hs) hQ (fun _ _ _ _ _ _ => trivial) (fun _ _ h => by rw [li] at h; cases h) fuel listed a w (Region.free_spec hi hf) (by simpa using hr) hy trivial h
def okTake (ops : Array Oper) (late : Nat → Bool) (i : Nat) (listed : Array Bool) : Bool := Region.noSelect ops && lateWaits ops late && !late i && Region.free .any ops listed i && (Region.ready .any ops listed).contains i
theorem lp (i : Nat) {oi : Oper} {v : Value} {fuel : Nat} {listed : Array Bool} {a : Act} {w : World} (hi : ops[i]? = some oi) (hS : S w)
 (h : wpLate P ops Q S late fuel (listed.setIfInBounds i true) (a.put oi.dst v) w) (hok : okTake ops late i listed = true := by kernel_rfl)
 (hQ : ∀ c a w, Q (.panic c) (a.put oi.dst v) w → Q (.panic c) a w := by exact fun _ _ _ h => h) (hg : Region.wanted oi (yielded ops a.tmps) = true := by rfl) (hy : ∀ w, S w → (execOp a.eval oi).run P w = .ok (.value v) w := by intro w9 h9; go_simp; try with_reducible rfl) : wpLate P ops Q S late (fuel + 1) listed a w := by
 simp only [okTake, Bool.and_eq_true, Bool.not_eq_true'] at hok
 obtain ⟨⟨⟨⟨h1, h2⟩, h3⟩, h4⟩, h5⟩ := hok
 exact wpLate_take hi h1 h2 h3 h4 h5 hQ (.inl ⟨hg, hy⟩) hS h
theorem lk (i : Nat) {oi : Oper} {v : Value} {fuel : Nat} {listed : Array Bool} {a : Act} {w : World} (hi : ops[i]? = some oi) (hok : okTake ops late i listed = true)
 (hQ : ∀ c a w, Q (.panic c) (a.put oi.dst v) w → Q (.panic c) a w) (hg : Region.wanted oi (yielded ops a.tmps) = true) (hy : ∀ w, S w → (execOp a.eval oi).run P w = .ok (.value v) w) (hS : S w)
 (h : wpLate P ops Q S late fuel (listed.setIfInBounds i true) (a.put oi.dst v) w) : wpLate P ops Q S late (fuel + 1) listed a w := by
 simp only [okTake, Bool.and_eq_true, Bool.not_eq_true'] at hok
 obtain ⟨⟨⟨⟨h1, h2⟩, h3⟩, h4⟩, h5⟩ := hok
 exact wpLate_take hi h1 h2 h3 h4 h5 hQ (.inl ⟨hg, hy⟩) hS h
def okTake' (ops : Array Oper) (late : Nat → Bool) (i : Nat) (listed : Array Bool) : Bool := Region.noSelect ops && late i && Region.free .any ops listed i && (Region.ready .any ops listed).contains i
theorem lk' (i : Nat) {oi : Oper} {v : Value} {fuel : Nat} {listed : Array Bool} {a : Act} {w : World} (hi : ops[i]? = some oi) (hok : okTake' ops late i listed = true)
 (hQ : ∀ c a w, Q (.panic c) (a.put oi.dst v) w → Q (.panic c) a w) (hg : Region.wanted oi (yielded ops a.tmps) = true) (hy : ∀ w, True → (execOp a.eval oi).run P w = .ok (.value v) w)
 (h : wpLate P ops Q S late fuel (listed.setIfInBounds i true) (a.put oi.dst v) w) : wpLate P ops Q S late (fuel + 1) listed a w := by
 simp only [okTake', Bool.and_eq_true] at hok
 obtain ⟨⟨⟨h1, h3⟩, h4⟩, h5⟩ := hok
 exact wpLate_take' hi h1 h3 h4 h5 hQ (.inl ⟨hg, hy⟩) h
theorem wpLate_next {k : Nat} {o : Oper} {fuel : Nat} {listed : Array Bool} {a : Act} {w : World} (hr : Region.ready .any ops listed = [k]) (ho : ops[k]? = some o) (hg : o.guard = none)
 (h : ∀ K : Act → World → Prop, Shut (∀ a w, (late k = false → S w) → wpLate P ops Q S late fuel (listed.setIfInBounds k true) a w → K a w) → Oper.wp P o a w K Q) :
 wpLate P ops Q S late (fuel + 1) listed a w := by
 refine ⟨fun h0 => absurd (hr ▸ h0) (by simp), ?_⟩
 rw [hr]
 intro j hj
 obtain rfl : j = k := by simpa using hj
 refine wpOp_step ho fun K hK => ?_
 rw [if_pos (by simp [Region.wanted, hg])]
 exact h K (fun a w hS hW => hK a w ⟨hS, hW⟩)
theorem wpLate_done {listed : Array Bool} {a : Act} {w : World} (hr : Region.ready .any ops listed = []) (h : Q .normal a w) : ∀ fuel, wpLate P ops Q S late fuel listed a w
 | 0 => ⟨hr, h⟩
 | _ + 1 => ⟨fun _ => h, by rw [hr]; simp⟩
theorem wp_region_late {id : Nat} {a : Act} {w : World} (hm : P.follows .mixedOrders = true) (S : World → Prop) (late : Nat → Bool) (hS : S w.drew)
 (h : S w.drew → wpLate P ops Q S late ops.size (Array.replicate ops.size false) a w.drew) : (Code.region id ops true).wp P Q a w :=
 wp_region_any hm (wpLate_any _ _ _ _ (h hS))
end
end Go.Proofs.YtidlpihoafnobaaGreatDoor
namespace Go.Proofs.YtidlpihoafnobaaGreatDoor
set_option maxRecDepth 100000
section
variable {σ : Type}
def foldN (F : σ → Bytes → σ) (size : Nat) : Nat → σ → Bytes → σ × Bytes
 | 0, s, l => (s, l)
 | k + 1, s, l => if size ≤ l.length then foldN F size k (F s (l.take size)) (l.drop size) else (s, l)
def foldF (F : σ → Bytes → σ) (size : Nat) (s : σ) (l : Bytes) : σ × Bytes := foldN F size l.length s l
variable {F : σ → Bytes → σ} {size : Nat}
theorem foldN_fuel (h1 : 1 ≤ size) : ∀ (k m : Nat) (s : σ) (l : Bytes), l.length ≤ k → l.length ≤ m → foldN F size k s l = foldN F size m s l := by
 intro k
 induction k with
 | zero =>
  intro m s l hk hm
  obtain rfl : l = [] := List.eq_nil_of_length_eq_zero (by omega)
  cases m with
  | zero => rfl
  | succ m => rw [foldN, foldN, if_neg (by simp; omega)]
 | succ k ih =>
  intro m s l hk hm
  cases m with
  | zero =>
   obtain rfl : l = [] := List.eq_nil_of_length_eq_zero (by omega)
   rw [foldN, foldN, if_neg (by simp; omega)]
  | succ m =>
   rw [foldN, foldN]
   by_cases h : size ≤ l.length
   · rw [if_pos h, if_pos h]
     exact ih m _ _ (by rw [List.length_drop]; omega) (by rw [List.length_drop]; omega)
   · rw [if_neg h, if_neg h]
theorem foldF_short {s : σ} {l : Bytes} (h : l.length < size) : foldF F size s l = (s, l) := by
 unfold foldF
 cases hl : l.length with
 | zero => rfl
 | succ k => rw [foldN, if_neg (by omega)]
theorem foldF_step (h1 : 1 ≤ size) {s : σ} {l : Bytes} (h : size ≤ l.length) : foldF F size s l = foldF F size (F s (l.take size)) (l.drop size) := by
 unfold foldF
 cases hl : l.length with
 | zero => omega
 | succ k =>
  rw [foldN, if_pos (by omega)]
  exact foldN_fuel h1 _ _ _ _ (by rw [List.length_drop]; omega) (Nat.le_refl _)
theorem foldF_ind (h1 : 1 ≤ size) (C : σ → Bytes → Prop) (hs : ∀ s l, l.length < size → C s l) (hstep : ∀ s l, size ≤ l.length → C (F s (l.take size)) (l.drop size) → C s l) : ∀ (s : σ) (l : Bytes), C s l := by
 have key : ∀ (k : Nat) (s : σ) (l : Bytes), l.length ≤ k → C s l := by
  intro k
  induction k with
  | zero => intro s l hl; exact hs s l (by omega)
  | succ k ih =>
   intro s l hl
   by_cases h : size ≤ l.length
   · exact hstep s l h (ih _ _ (by rw [List.length_drop]; omega))
   · exact hs s l (by omega)
 intro s l
 exact key l.length s l (Nat.le_refl _)
theorem foldF_append (h1 : 1 ≤ size) (b : Bytes) (s : σ) (a : Bytes) : foldF F size s (a ++ b) = foldF F size (foldF F size s a).1 ((foldF F size s a).2 ++ b) := by
 refine foldF_ind h1 (F := F) (fun s a => foldF F size s (a ++ b) = foldF F size (foldF F size s a).1 ((foldF F size s a).2 ++ b)) ?_ ?_ s a
 · intro s l hl; rw [foldF_short hl]
 · intro s l hl ih
   have e : foldF F size s (l ++ b) = foldF F size (F s (l.take size)) (l.drop size ++ b) := by
    rw [foldF_step h1 (l := l ++ b) (by rw [List.length_append]; omega), List.take_append_of_le_length hl, List.drop_append_of_le_length hl]
   rw [e, foldF_step h1 hl]
   exact ih
theorem foldF_lt (h1 : 1 ≤ size) (s : σ) (l : Bytes) : (foldF F size s l).2.length < size := by
 refine foldF_ind h1 (F := F) (fun s l => (foldF F size s l).2.length < size) ?_ ?_ s l
 · intro s l hl; rw [foldF_short hl]; exact hl
 · intro s l hl ih; rw [foldF_step h1 hl]; exact ih
theorem foldF_mod (h1 : 1 ≤ size) (s : σ) (l : Bytes) : (foldF F size s l).2.length = l.length % size := by
 refine foldF_ind h1 (F := F) (fun s l => (foldF F size s l).2.length = l.length % size) ?_ ?_ s l
 · intro s l hl; rw [foldF_short hl, Nat.mod_eq_of_lt hl]
 · intro s l hl ih; rw [foldF_step h1 hl, ih, List.length_drop, Nat.mod_eq_sub_mod hl]
end
end Go.Proofs.YtidlpihoafnobaaGreatDoor
namespace Go.Proofs.YtidlpihoafnobaaGreatDoor.StX32
set_option maxRecDepth 100000
abbrev S4 := BitVec 32 × BitVec 32 × BitVec 32 × BitVec 32
def roundF (v k : BitVec 32) : BitVec 32 := rotl32 (v + k * 2246822519#32) 13 * 2654435761#32
def num4 (l : Bytes) (i : Nat) : BitVec 32 := (le ((l.drop i).take 4)).setWidth 32
theorem roundF_def (v k : BitVec 32) : rotl32 (v + k * 2246822519#32) 13 * 2654435761#32 = roundF v k := rfl
theorem num4_def (l : Bytes) (i : Nat) : BitVec.setWidth 32 (le (List.take 4 (List.drop i l))) = num4 l i := rfl
theorem num4_zero (l : Bytes) : BitVec.setWidth 32 (le (List.take 4 l)) = num4 l 0 := by unfold num4; rw [List.drop_zero]
def stepTo (s : S4) (l : Bytes) : Nat → S4
 | 0 => s
 | 1 => (roundF s.1 (num4 l 0), s.2.1, s.2.2.1, s.2.2.2)
 | 2 => (roundF s.1 (num4 l 0), roundF s.2.1 (num4 l 4), s.2.2.1, s.2.2.2)
 | 3 => (roundF s.1 (num4 l 0), roundF s.2.1 (num4 l 4), roundF s.2.2.1 (num4 l 8), s.2.2.2)
 | _ => (roundF s.1 (num4 l 0), roundF s.2.1 (num4 l 4), roundF s.2.2.1 (num4 l 8), roundF s.2.2.2 (num4 l 12))
def stepG (s : S4) (l : Bytes) : S4 := stepTo s l 4
def firstF (sd : BitVec 32) : S4 := (sd + 606290984#32, sd + 2246822519#32, sd, sd - 2654435761#32)
def sumF (s : S4) : BitVec 32 := rotl32 s.1 1 + rotl32 s.2.1 7 + rotl32 s.2.2.1 12 + rotl32 s.2.2.2 18
def g4 (h : BitVec 32) (l : Bytes) : BitVec 32 := rotl32 (h + (le (l.take 4)).setWidth 32 * 3266489917#32) 17 * 668265263#32
def g1 (h : BitVec 32) (b : BitVec 8) : BitVec 32 := rotl32 (h + b.setWidth 32 * 374761393#32) 11 * 2654435761#32
def restF (h : BitVec 32) (l : Bytes) : BitVec 32 := (foldF g4 4 h l).2.foldl g1 (foldF g4 4 h l).1
theorem restF_big {h : BitVec 32} {l : Bytes} (hl : 4 ≤ l.length) : restF h l = restF (g4 h (l.take 4)) (l.drop 4) := by unfold restF; rw [foldF_step (by omega) hl]
theorem restF_small {h : BitVec 32} {l : Bytes} (hl : l.length < 4) : restF h l = l.foldl g1 h := by unfold restF; rw [foldF_short hl]
theorem restF_one {h : BitVec 32} {b : BitVec 8} {r : Bytes} (hl : (b :: r).length < 4) : restF h (b :: r) = restF (g1 h b) r := by
 rw [restF_small hl, restF_small (by simp at hl ⊢; omega)]; rfl
theorem restF_nil (h : BitVec 32) : restF h [] = h := by rw [restF_small (by simp)]; rfl
def avalF (h : BitVec 32) : BitVec 32 :=
 ((h ^^^ h / 32768#32) * 2246822519#32 ^^^ (h ^^^ h / 32768#32) * 2246822519#32 / 8192#32) * 3266489917#32 ^^^
  ((h ^^^ h / 32768#32) * 2246822519#32 ^^^ (h ^^^ h / 32768#32) * 2246822519#32 / 8192#32) * 3266489917#32 / 65536#32
def headF (sd : BitVec 32) (s : S4) (lo : BitVec 64) : BitVec 32 := if 16 ≤ W64 lo then sumF s else sd + 374761393#32
def endF (sd : BitVec 32) (s : S4) (l : Bytes) (lo : BitVec 64) : BitVec 32 := avalF (restF (headF sd s lo + lo.setWidth 32) l)
def oneF (sd : BitVec 32) (l : Bytes) : BitVec 32 := endF sd (foldF stepG 16 (firstF sd) l).1 (foldF stepG 16 (firstF sd) l).2 (BitVec.ofNat 64 l.length)
theorem g4_take (h : BitVec 32) (l : Bytes) : g4 h (l.take 4) = g4 h l := by unfold g4; rw [List.take_take, show min 4 4 = 4 from rfl]
theorem cons_of {l : Bytes} {n : Nat} (h : l.length = n + 1) : ∃ b r, l = b :: r ∧ r.length = n := by
 cases l with
 | nil => simp at h
 | cons b r => exact ⟨b, r, rfl, by simpa using h⟩
theorem num4_take (l : Bytes) (i : Nat) (h : i + 4 ≤ 16) : num4 (l.take 16) i = num4 l i := by
 unfold num4
 rw [List.drop_take, List.take_take, show min 4 (16 - i) = 4 by omega]
theorem stepG_take (s : S4) (l : Bytes) : stepG s (l.take 16) = stepTo s l 4 := by
 unfold stepG stepTo
 simp only [num4_take l 0 (by omega), num4_take l 4 (by omega), num4_take l 8 (by omega), num4_take l 12 (by omega)]
end Go.Proofs.YtidlpihoafnobaaGreatDoor.StX32
namespace Go.Proofs.YtidlpihoafnobaaGreatDoor.StM64
set_option maxRecDepth 100000
open Go.RowKit
abbrev ST := BitVec 64 × BitVec 64
def cS (s : ST) (i : Nat) : Value := match i with | 0 => .int .u64 (W64 s.1) | _ => .int .u64 (W64 s.2)
theorem cS_one (s : ST) (i : Nat) : (cS s i).oneCell' = true := by unfold cS; (try split) <;> rfl
@[go_sem] theorem run_store_cS (w : World) (a : Addr) (s : ST) (i : Nat) (md : Mode) : (store a (cS s i) md).run Tryz.prog w = stored Tryz.prog w a (cS s i) md := run_store Tryz.prog w a _ md (cS_one s i)
def fvS (q : Nat) : Value := (.func (.func 141) #[] #[])
def stCells (size : Int) (f s : ST) (q : Nat) (tv : Value) (lo : BitVec 64) : List Value := [.int .i64 size, cS f 0, cS f 1, cS s 0, cS s 1, fvS q, tv, .int .u64 (W64 lo)]
def StreamAt (w : World) (sb : Nat) (size : Int) (f s : ST) (q : Nat) (tv : Value) (lo : BitVec 64) : Prop := w.heap[sb]? = some (.cells (stCells size f s q tv lo).toArray 264 (0, 0))
def GivesS (s : ST) (w : World) (e : Ending) (w' : World) : Prop := e = .returned (.agg #[cS s 0, cS s 1]) ∧ Fr No w w'
theorem neq_fv (q : Nat) (w : World) : (binOp .neq 212 ((.func (.func 141) #[] #[])) .nilFunc).run Tryz.prog w = .ok (.bool true) w := by kernel_rfl
theorem stepped_any (q : Nat) (w : World) : Calls Tryz.prog 201 #[(.func (.func 141) #[] #[])] w (Gives ((.func (.func 141) #[] #[])) w) := by
 have hq := neq_fv q
 go_enter Tryz.func201, Tryz.ntmps201
 go_wp2
 go_ret
 exact ⟨rfl, rfl⟩
def GivesStream (size : Int) (f s : ST) (q : Nat) (w : World) (e : Ending) (w' : World) : Prop := ∃ sb, e = .returned (.pointer (some ⟨sb, 0, none⟩)) ∧ w.heap.size ≤ sb ∧ sb < w'.heap.size ∧ StreamAt w' sb size f s q (.slice none 0 0) 0#64 ∧ Fr No w w'
set_option maxHeartbeats 1000000 in
theorem New_any (size : Int) (f : ST) (q : Nat) (w : World) (h1 : -9223372036854775808 ≤ size) (h2 : size ≤ 9223372036854775807) :
 Calls Tryz.prog 143 #[.int .i64 size, .agg #[cS f 0, cS f 1], (.func (.func 141) #[] #[])] w (GivesStream (sizeOk size) f f q w) := by
 have hq := sizeOk_bd size
 go_enter Tryz.func143, Tryz.ntmps143
 go_wp2
 go_region_held3 (fun w' => w'.cell? ⟨w.heap.size, 0, none⟩ = some (cS f 0) ∧ w'.cell? ⟨w.heap.size, 1, none⟩ = some (cS f 1)) (go_keep) (first | (go_at_call 180; refine (sized_any _ _ h1 h2).mono ?_; rintro e w' ⟨rfl, rfl⟩) | (go_at_call 201; refine (stepped_any q _).mono ?_; rintro e w' ⟨rfl, rfl⟩))
 all_goals go_wp2
 all_goals go_ret
 all_goals exact ⟨w.heap.size + 1, rfl, by omega, by simp, heap_alloc2_new w _ _, (((Fr.refl _ _).alloc _).alloc _).drew⟩
theorem StreamAt.cell {w : World} {sb : Nat} {size : Int} {f s : ST} {q : Nat} {tv : Value} {lo : BitVec 64} (h : StreamAt w sb size f s q tv lo) (k : Nat) {v : Value} (hk : (stCells size f s q tv lo)[k]? = some v) : w.cell? ⟨sb, k, none⟩ = some v := by
 rw [cell_of_row w sb k _ _ _ h, List.getElem?_toArray]; exact hk
theorem StreamAt.frozen {w : World} {sb : Nat} {size : Int} {f s : ST} {q : Nat} {tv : Value} {lo : BitVec 64} (h : StreamAt w sb size f s q tv lo) (k : Nat) : w.frozen? ⟨sb, k, none⟩ = false := frozen_of_row w sb k _ _ h
theorem StreamAt.lt {w : World} {sb : Nat} {size : Int} {f s : ST} {q : Nat} {tv : Value} {lo : BitVec 64} (h : StreamAt w sb size f s q tv lo) : sb < w.heap.size := (Array.getElem?_eq_some_iff.1 h).1
theorem StreamAt.fr {F : Nat → Prop} {w w' : World} {sb : Nat} {size : Int} {f s : ST} {q : Nat} {tv : Value} {lo : BitVec 64} (h : StreamAt w sb size f s q tv lo) (k : Fr F w w') (hF : ¬ F sb) : StreamAt w' sb size f s q tv lo := k.heap hF h
theorem StreamAt.apart {w : World} {sb : Nat} {size : Int} {f s : ST} {q : Nat} {tv v : Value} {lo : BitVec 64} {base : Nat} {l : Bytes} (h : StreamAt w sb size f s q tv lo) (ho : Owns w base v l) : v.ownBlock ≠ some sb := fun e => by
 rcases ho.2 with ⟨rfl, _⟩ | ⟨g, cap, cur, rfl, _, hg, _⟩
 · simp [Value.ownBlock] at e
 · simp [Value.ownBlock] at e
   subst e
   rw [h] at hg
   simp at hg
theorem row_put {w : World} {sb : Nat} {cs : List Value} (h : w.heap[sb]? = some (.cells cs.toArray 264 (0, 0))) (k : Nat) (v : Value) : (w.setCell ⟨sb, k, none⟩ v).heap[sb]? = some (.cells (cs.set k v).toArray 264 (0, 0)) := by
 rw [heap_setCell_same w sb k _ _ v h, List.setIfInBounds_toArray]
theorem StreamAt.put {w : World} {sb : Nat} {size : Int} {f s s' : ST} {q : Nat} {tv tv' : Value} {lo lo' : BitVec 64} (h : StreamAt w sb size f s q tv lo) (k : Nat) (v : Value) (he : (stCells size f s q tv lo).set k v = stCells size f s' q tv' lo') : StreamAt (w.setCell ⟨sb, k, none⟩ v) sb size f s' q tv' lo' := by
 unfold StreamAt
 rw [heap_setCell_same w sb k _ _ v h]
 simp only [List.setIfInBounds_toArray, he]
theorem ownBlock_len (a : Option Addr) (n m c : Nat) : (Value.slice a n c).ownBlock = (Value.slice a m c).ownBlock := by cases a <;> rfl
theorem take_over {tl l : Bytes} {k z size : Nat} (hk : tl.length = k) (h : z + k = size) : (tl ++ l).take size = tl ++ l.take z ∧ (tl ++ l).drop size = l.drop z := by
 have : size = tl.length + z := by omega
 subst this
 exact ⟨List.take_length_add_append z, List.drop_length_add_append z⟩
def Foot (sb : Nat) (tv : Value) (x : Nat) : Prop := x = sb ∨ tv.ownBlock = some x
def Wrote (base sb : Nat) (size : Int) (f : ST) (q : Nat) (tv : Value) (r : ST × Bytes) (lo : BitVec 64) (w : World) (e : Ending) (w' : World) : Prop :=
 e = .returned (.tuple #[]) ∧ ∃ tv', StreamAt w' sb size f r.1 q tv' lo ∧ Owns w' base tv' r.2 ∧ (tv'.ownBlock = tv.ownBlock ∨ ∀ x, tv'.ownBlock = some x → w.heap.size ≤ x) ∧ Fr (Foot sb tv) w w'
theorem made_any {w : World} {sb : Nat} {size : Int} {f s : ST} {q : Nat} {tv : Value} {lo : BitVec 64} (h : StreamAt w sb size f s q tv lo) : Calls Tryz.prog 206 #[.pointer (some ⟨sb, 0, none⟩)] w (Gives (.bool true) w) := by
 have cst : w.cell? ⟨sb, 5, none⟩ = some ((.func (.func 141) #[] #[])) := h.cell 5 rfl
 have hq := neq_fv q
 go_enter Tryz.func206, Tryz.ntmps206
 go_wp2
 go_ret
 exact ⟨rfl, rfl⟩
def Steps (E : World → Prop) (G : ST → Bytes → ST) (size q : Nat) : Prop := ∀ (w : World) (s : ST) (a : Option Addr) (n c : Nat) (l : Bytes), E w → IsBytes w a n c l → l.length = size →
 Calls Tryz.prog 141 #[.agg #[cS s 0, cS s 1], .slice a n c] w (GivesS (G s l) w)
def LoopAt (E : World → Prop) (G : ST → Bytes → ST) (base sb size : Nat) (f : ST) (q : Nat) (tv0 : Value) (w0 : World) (r : ST × Bytes) (lo : BitVec 64) (v : Value) (wr : World) (n : Nat) : Prop :=
 ∃ a c l s tv, v = .slice a n c ∧ IsBytes wr a n c l ∧ Apart (Foot sb tv0) a n ∧ n ≤ 1099511627776 ∧ StreamAt wr sb size f s q tv lo ∧ Owns wr base tv [] ∧ base ≤ wr.heap.size ∧ E wr ∧ foldF G size s l = r ∧
  (tv.ownBlock = tv0.ownBlock ∨ ∀ x, tv.ownBlock = some x → w0.heap.size ≤ x) ∧ Fr (Foot sb tv0) w0 wr
end Go.Proofs.YtidlpihoafnobaaGreatDoor.StM64
namespace Go.Proofs.YtidlpihoafnobaaGreatDoor.StM64
set_option maxRecDepth 100000
open Go.RowKit
set_option maxHeartbeats 4000000 in
theorem Write_empty (E : World → Prop) (base sb : Nat) (size : Nat) (f s : ST) (q : Nat) (ta : Option Addr) (tc : Nat) (lo0 : BitVec 64) (a : Option Addr) (n c : Nat) (l : Bytes) (w : World) (G : ST → Bytes → ST)
 (hE : E w) (hkeep : ∀ w', Fr (Foot sb (.slice ta 0 tc)) w w' → E w') (hstep : Hid (Steps E G size q))
 (hst : StreamAt w sb size f s q (.slice ta 0 tc) lo0) (ho : Owns w base (.slice ta 0 tc) []) (hb : base ≤ w.heap.size) (hz1 : 1 ≤ size) (hz2 : size ≤ 64) (h : IsBytes w a n c l) (hap : Apart (Foot sb (.slice ta 0 tc)) a n) (hn : n ≤ 1099511627776) :
 Calls Tryz.prog 293 #[.pointer (some ⟨sb, 0, none⟩), .slice a n c] w (Wrote base sb size f q (.slice ta 0 tc) (foldF G size s l) (lo0 + BitVec.ofNat 64 n) w) := by
 obtain ⟨lo, hlo⟩ : ∃ lo, lo = lo0 + BitVec.ofNat 64 n := ⟨_, rfl⟩
 have hst1 : StreamAt (w.setCell ⟨sb, 7, none⟩ (.int .u64 (W64 (lo0 + BitVec.ofNat 64 n)))) sb size f s q (.slice ta 0 tc) lo := by rw [hlo]; exact hst.put _ _ rfl
 have hfr1 : Fr (Foot sb (.slice ta 0 tc)) w (w.setCell ⟨sb, 7, none⟩ (.int .u64 (W64 (lo0 + BitVec.ofNat 64 n)))) := (Fr.refl _ w).setCell (.inl (.inl rfl)) _
 have hapo := hst.apart ho
 obtain ⟨r, hr⟩ : ∃ r, r = foldF G size s l := ⟨_, rfl⟩
 have hloop : LoopAt E G base sb size f q (.slice ta 0 tc) w r lo (.slice a n c) (w.setCell ⟨sb, 7, none⟩ (.int .u64 (W64 (lo0 + BitVec.ofNat 64 n)))) n :=
  ⟨a, c, l, s, (.slice ta 0 tc), rfl, h.fr hfr1 hap, hap, hn, hst1, ho.fr ((Fr.refl (fun x => x = sb) w).setCell (p := ⟨sb, 7, none⟩) (.inl rfl) _) (fun x hx e => hapo (by rw [hx, e])), by simpa using hb, hkeep _ hfr1, hr.symm, .inl rfl, hfr1⟩
 rw [← hr, ← hlo]
 have cz : w.cell? ⟨sb, 0, none⟩ = some (.int .i64 size) := hst.cell 0 rfl
 have cst : w.cell? ⟨sb, 5, none⟩ = some ((.func (.func 141) #[] #[])) := hst.cell 5 rfl
 have ctl : w.cell? ⟨sb, 6, none⟩ = some (.slice ta 0 tc) := hst.cell 6 rfl
 have clo : w.cell? ⟨sb, 7, none⟩ = some (.int .u64 (W64 lo0)) := hst.cell 7 rfl
 have fzl := hst.frozen 7
 have HL := Lib.hid hlo
 clear hlo hr
 go_enter Tryz.func293, Tryz.ntmps293
 go_wp2_with (go_at_call 206; refine (made_any hst).mono ?_; rintro e w' ⟨rfl, rfl⟩)
 go_loopw [1] (fun v wr => ∃ m, LoopAt E G base sb size f q (.slice ta 0 tc) w r lo v wr m) (fun v _ => match v with | .slice _ m _ => m | _ => 0)
 case atStart => exact ⟨_, hloop⟩
 case round =>
  obtain ⟨m, a', c', l', s', tv', rfl, hb', hap', hm', hst', ho', hbs', hE', hr', hnew', hfr'⟩ := hrel
  clear hloop
  have hlen' := Lib.hid hb'.1
  have hc' : m ≤ c' := hb'.2.1
  have hc'' : c' ≤ 9223372036854775807 := hb'.2.2.1
  have cz : wr.cell? ⟨sb, 0, none⟩ = some (.int .i64 size) := hst'.cell 0 rfl
  have cn0 : wr.cell? ⟨sb, 3, none⟩ = some (cS s' 0) := hst'.cell 3 rfl
  have cn1 : wr.cell? ⟨sb, 4, none⟩ = some (cS s' 1) := hst'.cell 4 rfl
  have cst : wr.cell? ⟨sb, 5, none⟩ = some ((.func (.func 141) #[] #[])) := hst'.cell 5 rfl
  have ctl : wr.cell? ⟨sb, 6, none⟩ = some (tv') := hst'.cell 6 rfl
  by_cases hlt : size ≤ m
  · have i1 : (size : Int) ≤ (m : Int) := by omega
    have i2 : (size : Int) ≤ (c' : Int) := by omega
    go_wp2_with fail
    have hcut := Lib.hid (hb'.head size size (n' := size) (c' := size) hlt (Nat.le_refl _) (by omega) rfl rfl)
    have hS0 : StreamAt wr.drew sb size f s' q tv' lo := hst'
    refine wp_region_late (by kernel_rfl) (fun w' => StreamAt w' sb size f s' q tv' lo) (fun i => decide (21 ≤ i)) hS0 (fun _ => ?_)
    refine lp 0 rfl hS0 ?_; simp only [Act.put, es1, es2, es3]
    refine lp 1 rfl hS0 ?_; simp only [Act.put, es1, es2, es3]
    refine lp 2 rfl hS0 ?_; simp only [Act.put, es1, es2, es3]
    refine lp 3 rfl hS0 ?_; simp only [Act.put, es1, es2, es3]
    refine lk 4 rfl (by kernel_rfl) (fun _ _ _ h => h) rfl (by intro w9 h9; have cst : w9.cell? ⟨sb, 5, none⟩ = some ((.func (.func 141) #[] #[])) := h9.cell 5 rfl; clear h9; go_simp; try with_reducible rfl) hS0 ?_; simp only [Act.put, es1, es2, es3]
    refine lp 5 rfl hS0 ?_; simp only [Act.put, es1, es2, es3]
    refine lp 6 rfl hS0 ?_; simp only [Act.put, es1, es2, es3]
    refine lp 7 rfl hS0 ?_; simp only [Act.put, es1, es2, es3]
    refine lk 8 rfl (by kernel_rfl) (fun _ _ _ h => h) rfl (by intro w9 h9; have cn0 : w9.cell? ⟨sb, 3, none⟩ = some (cS s' 0) := h9.cell 3 rfl; have cn1 : w9.cell? ⟨sb, 4, none⟩ = some (cS s' 1) := h9.cell 4 rfl; clear h9; go_simp; try with_reducible rfl) hS0 ?_; simp only [Act.put, es1, es2, es3]
    refine lp 9 rfl hS0 ?_; simp only [Act.put, es1, es2, es3]
    refine lp 10 rfl hS0 ?_; simp only [Act.put, es1, es2, es3]
    refine lp 11 rfl hS0 ?_; simp only [Act.put, es1, es2, es3]
    refine lp 12 rfl hS0 ?_; simp only [Act.put, es1, es2, es3]
    refine lk 13 rfl (by kernel_rfl) (fun _ _ _ h => h) rfl (by intro w9 h9; have cz : w9.cell? ⟨sb, 0, none⟩ = some (.int .i64 size) := h9.cell 0 rfl; clear h9; go_simp; try with_reducible rfl) hS0 ?_; simp only [Act.put, es1, es2, es3]
    refine lp 14 rfl hS0 ?_; simp only [Act.put, es1, es2, es3]
    refine lp 15 rfl hS0 ?_; simp only [Act.put, es1, es2, es3]
    refine lp 16 rfl hS0 ?_; simp only [Act.put, es1, es2, es3]
    refine lk 17 rfl (by kernel_rfl) (fun _ _ _ h => h) rfl (by intro w9 h9; have cz : w9.cell? ⟨sb, 0, none⟩ = some (.int .i64 size) := h9.cell 0 rfl; clear h9; go_simp; try with_reducible rfl) hS0 ?_; simp only [Act.put, es1, es2, es3]
    refine lp 18 rfl hS0 ?_; simp only [Act.put, es1, es2, es3]
    refine wpLate_next (k := 19) (by kernel_rfl) rfl rfl (fun K hK => ?_)
    go_wp2_with fail
    refine (Clone_any _ _ _ (l'.take size) _ (hcut.out.no (Fr.refl No wr).drew) (by omega)).mono ?_
    rintro e w2 ⟨v2, rfl, ho2, hf2d⟩
    have hf2 : Fr No wr w2 := (Fr.refl No wr).drew.no hf2d
    clear hf2d
    obtain ⟨a2, c2, rfl, hb2, _⟩ := ho2.bytes
    have hl2 : (l'.take size).length = size := by rw [List.length_take, hlen'.out]; omega
    rw [hl2] at hb2 ⊢
    have hS2 : StreamAt w2 sb size f s' q tv' lo := hst'.fr hf2 (fun h => h)
    have hE2 : E w2 := hkeep w2 (hfr'.no hf2)
    refine hK.out _ _ (fun _ => hS2) ?_
    clear hK K ho2 hS0
    refine wpLate_next (k := 20) (by kernel_rfl) rfl rfl (fun K hK => ?_)
    go_wp2_with fail
    refine (hstep.out _ _ _ _ _ _ hE2 hb2 hl2).mono ?_
    rintro e w3 ⟨rfl, hf3⟩
    have hS3 : StreamAt w3 sb size f s' q tv' lo := hS2.fr hf3 (fun h => h)
    refine hK.out _ _ (fun _ => hS3) ?_
    clear hK K hE2 hb2 hl2 hS2
    refine lk' 21 rfl (by kernel_rfl) (fun _ _ _ h => h) rfl (by intro w9 h9; go_simp; try with_reducible rfl) ?_; simp only [Act.put, es1, es2, es3]
    refine lk' 22 rfl (by kernel_rfl) (fun _ _ _ h => h) rfl (by intro w9 h9; go_simp; try with_reducible rfl) ?_; simp only [Act.put, es1, es2, es3]
    have cn0 : w3.cell? ⟨sb, 3, none⟩ = some (cS s' 0) := hS3.cell 3 rfl
    have cn1 : w3.cell? ⟨sb, 4, none⟩ = some (cS s' 1) := hS3.cell 4 rfl
    have fz0 := hS3.frozen 3
    have fz1 := hS3.frozen 4
    refine wpLate_next (k := 23) (by kernel_rfl) rfl rfl (fun K hK => ?_)
    go_wp2_with fail
    refine hK.out _ _ (fun h => by simp at h) ?_
    clear hK K
    refine wpLate_done (by kernel_rfl) ?_ _
    have hS4 : StreamAt (World.setCell (World.setCell w3 ⟨sb, 3, none⟩ (cS (G s' (l'.take size)) 0)) ⟨sb, 4, none⟩ (cS (G s' (l'.take size)) 1)) sb size f (G s' (l'.take size)) q tv' lo := (row_put (row_put hS3 3 (cS (G s' (l'.take size)) 0)) 4 (cS (G s' (l'.take size)) 1))
    have hF4 : Fr (fun x => x = sb) w3 (World.setCell (World.setCell w3 ⟨sb, 3, none⟩ (cS (G s' (l'.take size)) 0)) ⟨sb, 4, none⟩ (cS (G s' (l'.take size)) 1)) := ((Fr.refl (fun x => x = sb) w3).setCell (p := ⟨sb, 3, none⟩) (.inl rfl) _).setCell (p := ⟨sb, 4, none⟩) (.inl rfl) _
    clear cn0 fz0 cn1 fz1 hS3
    generalize (World.setCell (World.setCell w3 ⟨sb, 3, none⟩ (cS (G s' (l'.take size)) 0)) ⟨sb, 4, none⟩ (cS (G s' (l'.take size)) 1)) = w4 at hS4 hF4 ⊢
    have hF34 : Fr (fun x => x = sb) wr w4 := ((hf2.no hf3).mono (fun _ _ f => f.elim)).trans hF4 (fun x h => .inl h)
    have cz4 : w4.cell? ⟨sb, 0, none⟩ = some (.int .i64 size) := hS4.cell 0 rfl
    clear cz cst ctl
    go_wp2_with fail
    have hcut2 := hb'.cut_to_end size (n' := m - size) (c' := c' - size) hlt rfl rfl
    have hap2 := hap'.sub (n' := m - size) (by omega) size c' 1
    have hfe := hfr'.trans hF34 (fun x h => .inl (.inl h))
    go_roundw
    case rel => exact ⟨m - size, _, _, _, _, tv', rfl, hcut2.fr hF34 (fun x hx e h => hap2 x hx e (.inl h)), hap2, by omega, hS4, ho'.fr hF34 (fun x hx e => hst'.apart ho' (by rw [hx, e])), Nat.le_trans hbs' hF34.size, hkeep _ hfe, by rw [← hr']; exact (foldF_step hz1 (by rw [hlen'.out]; exact hlt)).symm, hnew', hfe⟩
    case measure => simp; omega
  · have i1 : (m : Int) < (size : Int) := by omega
    obtain ⟨ta', tc', rfl, _, _⟩ := ho'.bytes
    have hne := hst'.apart ho'
    go_wp2_with (refine wpList_append_bytes _ _ _ _ _ _ base _ [] rfl ho' _ _ _ l' rfl hb' (by simp; omega) hbs' ?_; intro v2 w2 hown2 hfr2 hnew2; obtain ⟨a2, c2, rfl, _, _⟩ := hown2.bytes; have hst2 := hst'.fr hfr2 hne; have ctl2 := hst2.cell 6 rfl; have fz2 := hst2.frozen 6)
    go_end0
    have hsh : foldF G size s' l' = (s', l') := foldF_short (by rw [hlen'.out]; omega)
    refine ⟨rfl, .slice a2 (([] : Bytes) ++ l').length c2, ?_, ?_, ?_, ?_⟩
    · rw [← hr', hsh]; exact hst2.put 6 _ rfl
    · rw [← hr', hsh]; exact hown2.fr ((Fr.refl (fun x => x = sb) w2).setCell (p := ⟨sb, 6, none⟩) (.inl rfl) _) (fun x hx e => hst2.apart hown2 (by rw [hx, e]))
    · rcases hnew2 with e | e
      · rw [e]; exact hnew'
      · refine .inr fun x hx => ?_
        rw [e] at hx; cases hx; exact hfr'.size
    · exact (hfr'.trans hfr2 (fun x hx => by rcases hnew' with e | e; exact .inl (.inr (by rw [← e]; exact hx)); exact .inr (e x hx))).setCell (.inl (.inl rfl)) _
end Go.Proofs.YtidlpihoafnobaaGreatDoor.StM64
