/- Order Gives Pieces Clone Mix StreamM32 StreamG32 -/
import Derived.Deep.QuietTactic
import Derived.Deep.RegionHeld
import Derived.Deep.RegionHeld3
import Derived.OrdersHeld
import Derived.WalkKit
import Derived.Test.YtidlpihoafnobaaGreatDoorPM86Plain
set_option linter.unusedVariables false
set_option linter.unusedSimpArgs false
namespace Go.Proofs.YtidlpihoafnobaaGreatDoor
set_option maxRecDepth 100000
open Go
theorem es1 {α : Type _} (l : List α) (i : Nat) (a : α) : l.toArray.setIfInBounds i a = (l.set i a).toArray := List.setIfInBounds_toArray ..
theorem es2 {α : Type _} (x y : α) (l : List α) : (x :: l).set 0 y = y :: l := rfl
theorem es3 {α : Type _} (x y : α) (l : List α) (i : Nat) : (x :: l).set (i + 1) y = x :: l.set i y := rfl
section
variable {P : Program} {ops : Array Oper} {Q : Exit → Act → World → Prop} {S : World → Prop} {late : Nat → Bool}
def wpLate (P : Program) (ops : Array Oper) (Q : Exit → Act → World → Prop) (S : World → Prop) (late : Nat → Bool) : Nat → Array Bool → Act → World → Prop
 | 0, listed, a, w => Region.ready .any ops listed = [] ∧ Q .normal a w
 | fuel + 1, listed, a, w =>
  (Region.ready .any ops listed = [] → Q .normal a w) ∧
  ∀ i ∈ Region.ready .any ops listed, wpOp P ops Q i (fun a' w' => (late i = false → S w') ∧ wpLate P ops Q S late fuel (listed.setIfInBounds i true) a' w') a w
theorem wpLate_any : ∀ (fuel : Nat) (listed : Array Bool) (a : Act) (w : World), wpLate P ops Q S late fuel listed a w → wpAny P .any ops Q fuel listed a w
 | 0, _, _, _, h => h
 | fuel + 1, _, _, _, h => ⟨h.1, fun i hi => wpOp_mono (fun a' w' h' => wpLate_any fuel _ a' w' h'.2) (h.2 i hi)⟩
def lateWaits (ops : Array Oper) (late : Nat → Bool) : Bool :=
 (List.range ops.size).all fun j => !late j || (match ops[j]? with
  | some o => (List.range ops.size).all fun i => late i || o.after.any (fun e => Region.binds .any e && e.on == i)
  | none => true)
theorem lateWaits_spec (h : lateWaits ops late = true) {i j : Nat} {oi oj : Oper} (hi : ops[i]? = some oi) (hj : ops[j]? = some oj) (li : late i = false) (lj : late j = true) :
 ∃ e ∈ oj.after, Region.binds .any e = true ∧ e.on = i := by
 have hi' := (Array.getElem?_eq_some_iff.1 hi).1
 have hj' := (Array.getElem?_eq_some_iff.1 hj).1
 have h1 := List.all_eq_true.1 h j (List.mem_range.2 hj')
 simp only [lj, Bool.not_true, Bool.false_or, hj] at h1
 have h2 := List.all_eq_true.1 h1 i (List.mem_range.2 hi')
 simp only [li, Bool.false_or] at h2
 obtain ⟨e, he, hb⟩ := Array.any_eq_true'.1 h2
 simp only [Bool.and_eq_true, beq_iff_eq] at hb
 exact ⟨e, he, hb.1, hb.2⟩
theorem not_late_of_ready (hl : lateWaits ops late = true) {i j : Nat} {oi : Oper} {listed : Array Bool} (hi : ops[i]? = some oi) (li : late i = false)
 (hr : i ∈ Region.ready .any ops listed) (hj : j ∈ Region.ready .any ops listed) : late j = false := by
 cases lj : late j with
 | false => rfl
 | true =>
  obtain ⟨_, oj, hoj, hall⟩ := mem_ready.1 hj
  obtain ⟨e, he, hb, heq⟩ := lateWaits_spec hl hi hoj li lj
  have h1 := hall e he hb
  have h0 := (mem_ready.1 hr).1
  rw [heq] at h1
  rcases Nat.lt_or_ge i listed.size with h' | h'
  · simp [h'] at h0 h1; rw [h0] at h1; cases h1
  · simp [Array.getElem?_eq_none h'] at h1
theorem wpLate_first {T : World → Prop} {i : Nat} {oi : Oper} {v : Value} (hi : ops[i]? = some oi) (hsel : ∀ (j : Nat) (o : Oper) cs b, ops[j]? = some o → o.op ≠ .select cs b)
 (hQ : ∀ c a w, Q (.panic c) (a.put oi.dst v) w → Q (.panic c) a w)
 (hT : ∀ (listed : Array Bool) j w, i ∈ Region.ready .any ops listed → j ∈ Region.ready .any ops listed → (late j = false → S w) → T w) (hTS : ∀ w, T w → late i = false → S w) :
 ∀ (fuel : Nat) (listed : Array Bool) (a : Act) (w : World),
  (∀ j oj, ops[j]? = some oj → j ≠ i → listed.getD j true = false → (∀ e ∈ oj.after, Region.binds .any e = true → e.on ≠ i) → oi.apart ops oj = true) →
  i ∈ Region.ready .any ops listed → YieldsIf P ops T oi v a → T w →
  wpLate P ops Q S late fuel (listed.setIfInBounds i true) (a.put oi.dst v) w → wpLate P ops Q S late (fuel + 1) listed a w := by
 intro fuel
 induction fuel with
 | zero =>
  intro listed a w _ hr hy hS H
  refine ⟨fun h => (by rw [h] at hr; cases hr), fun j hj => ?_⟩
  by_cases hji : j = i
  · subst hji; exact hy.wpOp hi hS ⟨hTS w hS, H⟩
  · have := ready_mono hj hji
    rw [H.1] at this
    cases this
 | succ fuel ih =>
  intro listed a w hfree hr hy hS H
  refine ⟨fun h => (by rw [h] at hr; cases hr), fun j hj => ?_⟩
  by_cases hji : j = i
  · subst hji; exact hy.wpOp hi hS ⟨hTS w hS, H⟩
  · have h1 := H.2 j (ready_mono hj hji)
    obtain ⟨hjun, oj, hoj, hall⟩ := mem_ready.1 hj
    have hnot : ∀ e ∈ oj.after, Region.binds .any e = true → e.on ≠ i := fun e he hb heq => by
     have h1 := hall e he hb
     have h0 := (mem_ready.1 hr).1
     rw [heq] at h1
     rcases Nat.lt_or_ge i listed.size with h' | h'
     · simp [h'] at h0 h1; rw [h0] at h1; cases h1
     · simp [Array.getElem?_eq_none h'] at h1
    have h2 := wpOp_putIf hoj (hfree j oj hoj hji hjun hnot) (fun cs b => hsel i oi cs b hi) (fun cs b => hsel j oj cs b hoj) hQ hy h1
    have hfree' : ∀ k ok, ops[k]? = some ok → k ≠ i → (listed.setIfInBounds j true).getD k true = false →
     (∀ e ∈ ok.after, Region.binds .any e = true → e.on ≠ i) → oi.apart ops ok = true := fun k ok hk hki hun hno => by
     refine hfree k ok hk hki ?_ hno
     by_cases hjk : j = k
     · subst hjk; exact hjun
     · rw [getD_set_ne true hjk] at hun; exact hun
    refine wpOp_mono (fun a' w' h3 => ⟨h3.2.1, ih (listed.setIfInBounds j true) a' w' hfree' (ready_mono hr (Ne.symm hji)) h3.1 (hT listed j w' hr hj h3.2.1) ?_⟩) h2
    rw [Array.setIfInBounds_comm _ _ hji]
    exact h3.2.2
theorem wpLate_take {i : Nat} {oi : Oper} {v : Value} {fuel : Nat} {listed : Array Bool} {a : Act} {w : World} (hi : ops[i]? = some oi)
 (hs : Region.noSelect ops = true) (hl : lateWaits ops late = true) (li : late i = false) (hf : Region.free .any ops listed i = true) (hr : (Region.ready .any ops listed).contains i = true)
 (hQ : ∀ c a w, Q (.panic c) (a.put oi.dst v) w → Q (.panic c) a w) (hy : YieldsIf P ops S oi v a) (hS : S w)
 (h : wpLate P ops Q S late fuel (listed.setIfInBounds i true) (a.put oi.dst v) w) : wpLate P ops Q S late (fuel + 1) listed a w :=
 wpLate_first hi (Region.noSelect_spec hs) hQ (fun listed j w hr hj hw => hw (not_late_of_ready hl hi li hr hj)) (fun _ h _ => h) fuel listed a w (Region.free_spec hi hf) (by simpa using hr) hy hS h
theorem wpLate_take' {i : Nat} {oi : Oper} {v : Value} {fuel : Nat} {listed : Array Bool} {a : Act} {w : World} (hi : ops[i]? = some oi)
 (hs : Region.noSelect ops = true) (li : late i = true) (hf : Region.free .any ops listed i = true) (hr : (Region.ready .any ops listed).contains i = true)
 (hQ : ∀ c a w, Q (.panic c) (a.put oi.dst v) w → Q (.panic c) a w) (hy : YieldsIf P ops (fun _ => True) oi v a)
 (h : wpLate P ops Q S late fuel (listed.setIfInBounds i true) (a.put oi.dst v) w) : wpLate P ops Q S late (fuel + 1) listed a w :=
 wpLate_first (T := fun _ => True) hi (Region.noSelect_spec hs) hQ (fun _ _ _ _ _ _ => trivial) (fun _ _ h => by rw [li] at h; cases h) fuel listed a w (Region.free_spec hi hf) (by simpa using hr) hy trivial h
def okTake (ops : Array Oper) (late : Nat → Bool) (i : Nat) (listed : Array Bool) : Bool := Region.noSelect ops && lateWaits ops late && !late i && Region.free .any ops listed i && (Region.ready .any ops listed).contains i
theorem lp (i : Nat) {oi : Oper} {v : Value} {fuel : Nat} {listed : Array Bool} {a : Act} {w : World} (hi : ops[i]? = some oi) (hS : S w)
 (h : wpLate P ops Q S late fuel (listed.setIfInBounds i true) (a.put oi.dst v) w) (hok : okTake ops late i listed = true := by kernel_rfl)
 (hQ : ∀ c a w, Q (.panic c) (a.put oi.dst v) w → Q (.panic c) a w := by exact fun _ _ _ h => h) (hg : Region.wanted oi (yielded ops a.tmps) = true := by rfl) (hy : ∀ w, S w → (execOp a.eval oi).run P w = .ok (.value v) w := by intro w9 h9; go_simp; try with_reducible rfl) : wpLate P ops Q S late (fuel + 1) listed a w := by
 simp only [okTake, Bool.and_eq_true, Bool.not_eq_true'] at hok
 obtain ⟨⟨⟨⟨h1, h2⟩, h3⟩, h4⟩, h5⟩ := hok
 exact wpLate_take hi h1 h2 h3 h4 h5 hQ (.inl ⟨hg, hy⟩) hS h
theorem lk (i : Nat) {oi : Oper} {v : Value} {fuel : Nat} {listed : Array Bool} {a : Act} {w : World} (hi : ops[i]? = some oi) (hok : okTake ops late i listed = true)
 (hQ : ∀ c a w, Q (.panic c) (a.put oi.dst v) w → Q (.panic c) a w) (hg : Region.wanted oi (yielded ops a.tmps) = true) (hy : ∀ w, S w → (execOp a.eval oi).run P w = .ok (.value v) w) (hS : S w)
 (h : wpLate P ops Q S late fuel (listed.setIfInBounds i true) (a.put oi.dst v) w) : wpLate P ops Q S late (fuel + 1) listed a w := by
 simp only [okTake, Bool.and_eq_true, Bool.not_eq_true'] at hok
 obtain ⟨⟨⟨⟨h1, h2⟩, h3⟩, h4⟩, h5⟩ := hok
 exact wpLate_take hi h1 h2 h3 h4 h5 hQ (.inl ⟨hg, hy⟩) hS h
theorem wpLate_next {k : Nat} {o : Oper} {fuel : Nat} {listed : Array Bool} {a : Act} {w : World} (hr : Region.ready .any ops listed = [k]) (ho : ops[k]? = some o) (hg : o.guard = none)
 (h : ∀ K : Act → World → Prop, Shut (∀ a w, (late k = false → S w) → wpLate P ops Q S late fuel (listed.setIfInBounds k true) a w → K a w) → Oper.wp P o a w K Q) :
 wpLate P ops Q S late (fuel + 1) listed a w := by
 refine ⟨fun h0 => absurd (hr ▸ h0) (by simp), ?_⟩
 rw [hr]
 intro j hj
 obtain rfl : j = k := by simpa using hj
 refine wpOp_step ho fun K hK => ?_
 rw [if_pos (by simp [Region.wanted, hg])]
 exact h K (fun a w hS hW => hK a w ⟨hS, hW⟩)
theorem wpLate_done {listed : Array Bool} {a : Act} {w : World} (hr : Region.ready .any ops listed = []) (h : Q .normal a w) : ∀ fuel, wpLate P ops Q S late fuel listed a w
 | 0 => ⟨hr, h⟩
 | _ + 1 => ⟨fun _ => h, by rw [hr]; simp⟩
theorem wp_region_late {id : Nat} {a : Act} {w : World} (hm : P.follows .mixedOrders = true) (S : World → Prop) (late : Nat → Bool) (hS : S w.drew)
 (h : S w.drew → wpLate P ops Q S late ops.size (Array.replicate ops.size false) a w.drew) : (Code.region id ops true).wp P Q a w :=
 wp_region_any hm (wpLate_any _ _ _ _ (h hS))
end
end Go.Proofs.YtidlpihoafnobaaGreatDoor
namespace Go.Proofs.YtidlpihoafnobaaGreatDoor
set_option maxRecDepth 100000
open Go.RowKit
def Gives (v : Value) (w : World) (e : Ending) (w' : World) : Prop := e = .returned v ∧ w = w'
def GivesNew (v : Value) (w : World) (e : Ending) (w' : World) : Prop := e = .returned v ∧ Fr No w w'
def GivesBytes (l : Bytes) (w : World) (e : Ending) (w' : World) : Prop := ∃ v, e = .returned v ∧ Owns w' w.heap.size v l ∧ Fr No w w'
def Yes (w : World) (e : Ending) (w' : World) : Prop := e = .returned (.bool true) ∧ Fr No w w'
theorem ret_w32 {a b : BitVec 32} (h : a = b) : Ending.returned (.int .u32 (W32 a)) = .returned (.int .u32 (W32 b)) := by rw [h]
theorem ret_w64 {a b : BitVec 64} (h : a = b) : Ending.returned (.int .u64 (W64 a)) = .returned (.int .u64 (W64 b)) := by rw [h]
theorem ret_i64 {a b : Int} (h : a = b) : Ending.returned (.int .i64 a) = .returned (.int .i64 b) := by rw [h]
theorem ret_w32b {a b : BitVec 32} {p q : Bool} (h : a = b) (k : p = q) : Ending.returned (.tuple #[.int .u32 (W32 a), .bool p]) = .returned (.tuple #[.int .u32 (W32 b), .bool q]) := by rw [h, k]
theorem ret_w64b {a b : BitVec 64} {p q : Bool} (h : a = b) (k : p = q) : Ending.returned (.tuple #[.int .u64 (W64 a), .bool p]) = .returned (.tuple #[.int .u64 (W64 b), .bool q]) := by rw [h, k]
end Go.Proofs.YtidlpihoafnobaaGreatDoor
namespace Go.Proofs.YtidlpihoafnobaaGreatDoor
set_option maxRecDepth 100000
open Go.RowKit
def IsInts (w : World) (a : Option Addr) (n c : Nat) (l : List Int) : Prop :=
 l.length = n ∧ n ≤ c ∧ c ≤ 9223372036854775807 ∧ (a = none → c = 0) ∧ ∀ i, i < n → (∃ b off, a = some ⟨b, off, none⟩ ∧ w.cell? ⟨b, off + i, none⟩ = some (.int .i64 (l.getD i 0))) ∧ -9223372036854775808 ≤ l.getD i 0 ∧ l.getD i 0 ≤ 9223372036854775807
theorem IsInts.nil (w : World) : IsInts w none 0 0 [] := ⟨rfl, Nat.le_refl _, by omega, fun _ => rfl, fun i hi => absurd hi (Nat.not_lt_zero _)⟩
theorem IsInts.no {w w' : World} {a : Option Addr} {n c : Nat} {l : List Int} (h : IsInts w a n c l) (k : Fr No w w') : IsInts w' a n c l :=
 ⟨h.1, h.2.1, h.2.2.1, h.2.2.2.1, fun i hi => by
  obtain ⟨⟨b, off, e, hc⟩, h1, h2⟩ := h.2.2.2.2 i hi
  exact ⟨⟨b, off, e, k.cell (p := ⟨b, off + i, none⟩) (fun h => h) hc⟩, h1, h2⟩⟩
end Go.Proofs.YtidlpihoafnobaaGreatDoor
namespace Go.Proofs.YtidlpihoafnobaaGreatDoor
set_option maxRecDepth 100000
open Go.RowKit
theorem Owns.empty (w : World) : Owns (w.alloc (.cells #[] 5)) w.heap.size (.slice (some ⟨w.heap.size, 0, none⟩) 0 0) [] :=
 World.ownsRow_made w #[] 0 (Nat.le_refl _) (by unfold maxLen; omega) rfl
set_option maxHeartbeats 400000 in
theorem Clone_any (a : Option Addr) (n c : Nat) (l : Bytes) (w : World) (h : IsBytes w a n c l) (hn : n ≤ 140737488355328) :
 Calls Tryz.prog 182 #[.slice a n c] w (GivesBytes l w) := by
 have qT : ∀ (w : World) (a : Option Addr) (n c n' c' : Nat), (binOp .eql 22 (.slice a n c) (.slice none n' c')).run Tryz.prog w = .ok (.bool a.isNone) w := fun w a n c n' c' => Lib.run_eql_slice_nil w _ _ a n c n' c' Tryz.underlying22
 cases a with
 | none =>
  have hc : c = 0 := h.2.2.2.1 rfl
  have hm : n = 0 := by have := h.2.1; omega
  subst hm; subst hc
  obtain rfl : l = [] := List.eq_nil_of_length_eq_zero h.1
  go_enter Tryz.func182, Tryz.ntmps182
  go_wp2
  go_ret
  exact ⟨_, rfl, Owns.nil _ _, Fr.refl _ _⟩
 | some x =>
  have hal := h.no ((Fr.refl No w).alloc (.cells #[] 5))
  go_enter Tryz.func182, Tryz.ntmps182
  go_wp2_with (refine wpList_append_bytes _ _ _ _ _ _ w.heap.size _ [] rfl (Owns.empty w) _ _ _ l rfl hal (by simp; omega) (by simp) ?_; intro v1 w1 hown1 hfr1 _)
  go_ret
  exact ⟨_, rfl, hown1, ((Fr.refl No w).alloc _).append hfr1 (Owns.empty w) (Nat.le_refl _)⟩
def sizeOk (n : Int) : Int := if n < 1 then 1 else if 64 < n then 64 else n
theorem sizeOk_bd (n : Int) : 1 ≤ sizeOk n ∧ sizeOk n ≤ 64 := by unfold sizeOk; split <;> (try split) <;> omega
theorem sized_any (n : Int) (w : World) (h1 : -9223372036854775808 ≤ n) (h2 : n ≤ 9223372036854775807) :
 Calls Tryz.prog 180 #[.int .i64 n] w (Gives (.int .i64 (sizeOk n)) w) := by
 rcases (show n < 1 ∨ (1 ≤ n ∧ n ≤ 64) ∨ 64 < n by omega) with h | ⟨h, h'⟩ | h
 · rw [show sizeOk n = 1 by unfold sizeOk; rw [if_pos h]]
   go_enter Tryz.func180, Tryz.ntmps180
   go_wp2
   all_goals (go_ret; exact ⟨rfl, rfl⟩)
 · rw [show sizeOk n = n by unfold sizeOk; rw [if_neg (by omega), if_neg (by omega)]]
   rcases (show n = 1 ∨ n = 64 ∨ (1 < n ∧ n < 64) by omega) with rfl | rfl | ⟨g1, g2⟩
   all_goals
    go_enter Tryz.func180, Tryz.ntmps180
    go_wp2
    all_goals (go_ret; exact ⟨rfl, rfl⟩)
 · rw [show sizeOk n = 64 by unfold sizeOk; rw [if_neg (by omega), if_pos h]]
   go_enter Tryz.func180, Tryz.ntmps180
   go_wp2
   all_goals (go_ret; exact ⟨rfl, rfl⟩)
end Go.Proofs.YtidlpihoafnobaaGreatDoor
namespace Go.Proofs.YtidlpihoafnobaaGreatDoor
set_option maxRecDepth 100000
open Go.RowKit
theorem Fmix32_any (h : BitVec 32) (w : World) :
 Calls Tryz.prog 107 #[.int .u32 (W32 h)] w (Gives (.int .u32 (W32 (fmix32 h))) w) := by
 go_enter Tryz.func107, Tryz.ntmps107
 go_wp2
 go_ret
 exact ⟨rfl, rfl⟩
set_option maxHeartbeats 400000 in
theorem refFold7_any (z : BitVec 64) (n : Int) (k : Nat) (w : World) (hn : n = k) (h1 : 1 ≤ k) (h2 : k ≤ 63) :
 Calls Tryz.prog 109 #[.int .u64 (W64 z), .int .i64 n] w (Gives (.int .u64 (W64 (z ^^^ z >>> k))) w) := by
 subst hn
 have i1 : (1 : Int) ≤ (k : Int) := by omega
 have i2 : (k : Int) ≤ 63 := by omega
 go_enter Tryz.func109, Tryz.ntmps109
 go_wp2
 go_loop [5, 6] (fun y i => ∃ j : Nat, j ≤ 64 ∧ i = .int .i64 j ∧ y = .int .u64 (W64 (lowb (z ^^^ z >>> k) j))) (fun _ i => 64 - (intOf i).toNat)
 case atStart => exact ⟨0, by omega, rfl, by rw [lowb_zero]; rfl⟩
 case round =>
  obtain ⟨j, hj, rfl, rfl⟩ := hrel
  by_cases hlt : j < 64
  · have i3 : (j : Int) < 64 := by omega
    by_cases hs : j + k < 64
    · have HS := Lib.hid (fold_step2 z k j hs)
      have i4 : (j : Int) + (k : Int) < 64 := by omega
      generalize lowb (z ^^^ z >>> k) j = y at HS ⊢
      go_wp2
      exact ⟨⟨j + 1, by omega, rfl, by rw [← HS.out]⟩, by simp [intOf]; omega⟩
    · have HS := Lib.hid (fold_step1 z k j hlt (by omega))
      have i4 : ¬ (j : Int) + (k : Int) < 64 := by omega
      generalize lowb (z ^^^ z >>> k) j = y at HS ⊢
      go_wp2
      exact ⟨⟨j + 1, by omega, rfl, by rw [← HS.out]⟩, by simp [intOf]; omega⟩
  · obtain rfl : j = 64 := by omega
    rw [lowb_all]
    go_wp2
    go_ret
    exact ⟨rfl, rfl⟩
theorem refFmix32_any (h : BitVec 32) (w : World) :
 Calls Tryz.prog 63 #[.int .u32 (W32 h)] w (Gives (.int .u32 (W32 (fmix32 h))) w) := by
 go_enter Tryz.func63, Tryz.ntmps63
 go_wp2_with fail
 refine (refFold7_any _ 16 16 _ rfl (by omega) (by omega)).mono ?_
 rintro e w' ⟨rfl, rfl⟩
 have h1 := narrow_fold h 16 65536#32 rfl
 go_wp2_with fail
 clear h1
 refine (refFold7_any _ 13 13 _ rfl (by omega) (by omega)).mono ?_
 rintro e w' ⟨rfl, rfl⟩
 have h2 := narrow_fold ((h ^^^ h / 65536#32) * 2246822507#32) 13 8192#32 rfl
 go_wp2_with fail
 clear h2
 refine (refFold7_any _ 16 16 _ rfl (by omega) (by omega)).mono ?_
 rintro e w' ⟨rfl, rfl⟩
 have h3 := narrow_fold (((h ^^^ h / 65536#32) * 2246822507#32 ^^^ (h ^^^ h / 65536#32) * 2246822507#32 / 8192#32) * 3266489909#32) 16 65536#32 rfl
 go_wp2_with fail
 clear h3
 go_ret
 exact ⟨rfl, rfl⟩
end Go.Proofs.YtidlpihoafnobaaGreatDoor
namespace Go.Proofs.YtidlpihoafnobaaGreatDoor.StM32
set_option maxRecDepth 100000
open Go.RowKit
abbrev ST := BitVec 32
def cS (s : ST) (i : Nat) : Value := .int .u32 (W32 s)
theorem cS_one (s : ST) (i : Nat) : (cS s i).oneCell' = true := by unfold cS; (try split) <;> rfl
@[go_sem] theorem run_store_cS (w : World) (a : Addr) (s : ST) (i : Nat) (md : Mode) : (store a (cS s i) md).run Tryz.prog w = stored Tryz.prog w a (cS s i) md := run_store Tryz.prog w a _ md (cS_one s i)
@[go_sem ↓] theorem cS_cells (s : ST) (i : Nat) : (cS s i).cells = #[cS s i] := by unfold cS; (try split) <;> rfl
def fvS (q : Nat) : Value := (.func (.func 116) #[.agg #[]] #[])
def stCells (size : Int) (f s : ST) (q : Nat) (tv : Value) (lo : BitVec 64) : List Value := [.int .i64 size, .int .u32 (W32 f), .int .u32 (W32 s), fvS q, tv, .int .u64 (W64 lo)]
def StreamAt (w : World) (sb : Nat) (size : Int) (f s : ST) (q : Nat) (tv : Value) (lo : BitVec 64) : Prop := w.heap[sb]? = some (.cells (stCells size f s q tv lo).toArray 248 (0, 0))
def GivesS (s : ST) (w : World) (e : Ending) (w' : World) : Prop := e = .returned ((.int .u32 (W32 s))) ∧ Fr No w w'
theorem neq_fv (q : Nat) (w : World) : (binOp .neq 134 ((.func (.func 116) #[.agg #[]] #[])) .nilFunc).run Tryz.prog w = .ok (.bool true) w := by kernel_rfl
theorem stepped_any (q : Nat) (w : World) : Calls Tryz.prog 181 #[(.func (.func 116) #[.agg #[]] #[])] w (Gives ((.func (.func 116) #[.agg #[]] #[])) w) := by
 have hq := neq_fv q
 go_enter Tryz.func181, Tryz.ntmps181
 go_wp2
 go_ret
 exact ⟨rfl, rfl⟩
def GivesStream (size : Int) (f s : ST) (q : Nat) (w : World) (e : Ending) (w' : World) : Prop := ∃ sb, e = .returned (.pointer (some ⟨sb, 0, none⟩)) ∧ w.heap.size ≤ sb ∧ sb < w'.heap.size ∧ StreamAt w' sb size f s q (.slice none 0 0) 0#64 ∧ Fr No w w'
set_option maxHeartbeats 1000000 in
theorem New_any (size : Int) (f : ST) (q : Nat) (w : World) (h1 : -9223372036854775808 ≤ size) (h2 : size ≤ 9223372036854775807) :
 Calls Tryz.prog 118 #[.int .i64 size, (.int .u32 (W32 f)), (.func (.func 116) #[.agg #[]] #[])] w (GivesStream (sizeOk size) f f q w) := by
 have hq := sizeOk_bd size
 go_enter Tryz.func118, Tryz.ntmps118
 go_wp2_with (first | (go_at_call 180; refine (sized_any _ _ h1 h2).mono ?_; rintro e w' ⟨rfl, rfl⟩) | (go_at_call 181; refine (stepped_any q _).mono ?_; rintro e w' ⟨rfl, rfl⟩))
 go_ret
 exact ⟨w.heap.size, rfl, by omega, by simp, heap_alloc_new w _, (Fr.refl _ _).alloc _⟩
theorem StreamAt.cell {w : World} {sb : Nat} {size : Int} {f s : ST} {q : Nat} {tv : Value} {lo : BitVec 64} (h : StreamAt w sb size f s q tv lo) (k : Nat) {v : Value} (hk : (stCells size f s q tv lo)[k]? = some v) : w.cell? ⟨sb, k, none⟩ = some v := by
 rw [cell_of_row w sb k _ _ _ h, List.getElem?_toArray]; exact hk
theorem StreamAt.frozen {w : World} {sb : Nat} {size : Int} {f s : ST} {q : Nat} {tv : Value} {lo : BitVec 64} (h : StreamAt w sb size f s q tv lo) (k : Nat) : w.frozen? ⟨sb, k, none⟩ = false := frozen_of_row w sb k _ _ h
theorem StreamAt.lt {w : World} {sb : Nat} {size : Int} {f s : ST} {q : Nat} {tv : Value} {lo : BitVec 64} (h : StreamAt w sb size f s q tv lo) : sb < w.heap.size := (Array.getElem?_eq_some_iff.1 h).1
theorem StreamAt.fr {F : Nat → Prop} {w w' : World} {sb : Nat} {size : Int} {f s : ST} {q : Nat} {tv : Value} {lo : BitVec 64} (h : StreamAt w sb size f s q tv lo) (k : Fr F w w') (hF : ¬ F sb) : StreamAt w' sb size f s q tv lo := k.heap hF h
theorem StreamAt.apart {w : World} {sb : Nat} {size : Int} {f s : ST} {q : Nat} {tv v : Value} {lo : BitVec 64} {base : Nat} {l : Bytes} (h : StreamAt w sb size f s q tv lo) (ho : Owns w base v l) : v.ownBlock ≠ some sb := fun e => by
 rcases ho.2 with ⟨rfl, _⟩ | ⟨g, cap, cur, rfl, _, hg, _⟩
 · simp [Value.ownBlock] at e
 · simp [Value.ownBlock] at e
   subst e
   rw [h] at hg
   simp at hg
theorem row_put {w : World} {sb : Nat} {cs : List Value} (h : w.heap[sb]? = some (.cells cs.toArray 248 (0, 0))) (k : Nat) (v : Value) : (w.setCell ⟨sb, k, none⟩ v).heap[sb]? = some (.cells (cs.set k v).toArray 248 (0, 0)) := by
 rw [heap_setCell_same w sb k _ _ v h, List.setIfInBounds_toArray]
theorem StreamAt.put {w : World} {sb : Nat} {size : Int} {f s s' : ST} {q : Nat} {tv tv' : Value} {lo lo' : BitVec 64} (h : StreamAt w sb size f s q tv lo) (k : Nat) (v : Value) (he : (stCells size f s q tv lo).set k v = stCells size f s' q tv' lo') : StreamAt (w.setCell ⟨sb, k, none⟩ v) sb size f s' q tv' lo' := by
 unfold StreamAt
 rw [heap_setCell_same w sb k _ _ v h]
 simp only [List.setIfInBounds_toArray, he]
def Foot (sb : Nat) (tv : Value) (x : Nat) : Prop := x = sb ∨ tv.ownBlock = some x
theorem made_any {w : World} {sb : Nat} {size : Int} {f s : ST} {q : Nat} {tv : Value} {lo : BitVec 64} (h : StreamAt w sb size f s q tv lo) : Calls Tryz.prog 185 #[.pointer (some ⟨sb, 0, none⟩)] w (Gives (.bool true) w) := by
 have cst : w.cell? ⟨sb, 3, none⟩ = some ((.func (.func 116) #[.agg #[]] #[])) := h.cell 3 rfl
 have hq := neq_fv q
 go_enter Tryz.func185, Tryz.ntmps185
 go_wp2
 go_ret
 exact ⟨rfl, rfl⟩
def Steps (E : World → Prop) (G : ST → Bytes → ST) (size q : Nat) : Prop := ∀ (w : World) (s : ST) (a : Option Addr) (n c : Nat) (l : Bytes), E w → IsBytes w a n c l → l.length = size →
 Calls Tryz.prog 116 #[.agg #[], (.int .u32 (W32 s)), .slice a n c] w (GivesS (G s l) w)
end Go.Proofs.YtidlpihoafnobaaGreatDoor.StM32
namespace Go.Proofs.YtidlpihoafnobaaGreatDoor.StG32
set_option maxRecDepth 100000
open Go.RowKit
abbrev ST := BitVec 32 × BitVec 32 × BitVec 32 × BitVec 32
def cS (s : ST) (i : Nat) : Value := match i with | 0 => .int .u32 (W32 s.1) | 1 => .int .u32 (W32 s.2.1) | 2 => .int .u32 (W32 s.2.2.1) | _ => .int .u32 (W32 s.2.2.2)
theorem cS_one (s : ST) (i : Nat) : (cS s i).oneCell' = true := by unfold cS; (try split) <;> rfl
@[go_sem] theorem run_store_cS (w : World) (a : Addr) (s : ST) (i : Nat) (md : Mode) : (store a (cS s i) md).run Tryz.prog w = stored Tryz.prog w a (cS s i) md := run_store Tryz.prog w a _ md (cS_one s i)
abbrev QT := Nat × Array Value
def fvS (q : QT) : Value := (.func (.func q.1) #[] q.2)
def stCells (size : Int) (f s : ST) (q : QT) (tv : Value) (lo : BitVec 64) : List Value := [.int .i64 size, cS f 0, cS f 1, cS f 2, cS f 3, cS s 0, cS s 1, cS s 2, cS s 3, fvS q, tv, .int .u64 (W64 lo)]
def StreamAt (w : World) (sb : Nat) (size : Int) (f s : ST) (q : QT) (tv : Value) (lo : BitVec 64) : Prop := w.heap[sb]? = some (.cells (stCells size f s q tv lo).toArray 260 (0, 0))
def GivesS (s : ST) (w : World) (e : Ending) (w' : World) : Prop := e = .returned (.agg #[cS s 0, cS s 1, cS s 2, cS s 3]) ∧ Fr No w w'
theorem neq_fv (q : QT) (w : World) : (binOp .neq 199 ((.func (.func q.1) #[] q.2)) .nilFunc).run Tryz.prog w = .ok (.bool true) w := by kernel_rfl
theorem stepped_any (q : QT) (w : World) : Calls Tryz.prog 188 #[(.func (.func q.1) #[] q.2)] w (Gives ((.func (.func q.1) #[] q.2)) w) := by
 have hq := neq_fv q
 go_enter Tryz.func188, Tryz.ntmps188
 go_wp2
 go_ret
 exact ⟨rfl, rfl⟩
def GivesStream (size : Int) (f s : ST) (q : QT) (w : World) (e : Ending) (w' : World) : Prop := ∃ sb, e = .returned (.pointer (some ⟨sb, 0, none⟩)) ∧ w.heap.size ≤ sb ∧ sb < w'.heap.size ∧ StreamAt w' sb size f s q (.slice none 0 0) 0#64 ∧ Fr No w w'
set_option maxHeartbeats 1000000 in
theorem New_any (size : Int) (f : ST) (q : QT) (w : World) (h1 : -9223372036854775808 ≤ size) (h2 : size ≤ 9223372036854775807) :
 Calls Tryz.prog 130 #[.int .i64 size, .agg #[cS f 0, cS f 1, cS f 2, cS f 3], (.func (.func q.1) #[] q.2)] w (GivesStream (sizeOk size) f f q w) := by
 have hq := sizeOk_bd size
 go_enter Tryz.func130, Tryz.ntmps130
 go_wp2
 go_region_held3 (fun w' => w'.cell? ⟨w.heap.size, 0, none⟩ = some (cS f 0) ∧ w'.cell? ⟨w.heap.size, 1, none⟩ = some (cS f 1) ∧ w'.cell? ⟨w.heap.size, 2, none⟩ = some (cS f 2) ∧ w'.cell? ⟨w.heap.size, 3, none⟩ = some (cS f 3)) (go_keep) (first | (go_at_call 180; refine (sized_any _ _ h1 h2).mono ?_; rintro e w' ⟨rfl, rfl⟩) | (go_at_call 188; refine (stepped_any q _).mono ?_; rintro e w' ⟨rfl, rfl⟩))
 all_goals go_wp2
 all_goals go_ret
 all_goals exact ⟨w.heap.size + 1, rfl, by omega, by simp, heap_alloc2_new w _ _, (((Fr.refl _ _).alloc _).alloc _).drew⟩
theorem StreamAt.cell {w : World} {sb : Nat} {size : Int} {f s : ST} {q : QT} {tv : Value} {lo : BitVec 64} (h : StreamAt w sb size f s q tv lo) (k : Nat) {v : Value} (hk : (stCells size f s q tv lo)[k]? = some v) : w.cell? ⟨sb, k, none⟩ = some v := by
 rw [cell_of_row w sb k _ _ _ h, List.getElem?_toArray]; exact hk
theorem StreamAt.frozen {w : World} {sb : Nat} {size : Int} {f s : ST} {q : QT} {tv : Value} {lo : BitVec 64} (h : StreamAt w sb size f s q tv lo) (k : Nat) : w.frozen? ⟨sb, k, none⟩ = false := frozen_of_row w sb k _ _ h
theorem StreamAt.lt {w : World} {sb : Nat} {size : Int} {f s : ST} {q : QT} {tv : Value} {lo : BitVec 64} (h : StreamAt w sb size f s q tv lo) : sb < w.heap.size := (Array.getElem?_eq_some_iff.1 h).1
theorem StreamAt.fr {F : Nat → Prop} {w w' : World} {sb : Nat} {size : Int} {f s : ST} {q : QT} {tv : Value} {lo : BitVec 64} (h : StreamAt w sb size f s q tv lo) (k : Fr F w w') (hF : ¬ F sb) : StreamAt w' sb size f s q tv lo := k.heap hF h
theorem StreamAt.apart {w : World} {sb : Nat} {size : Int} {f s : ST} {q : QT} {tv v : Value} {lo : BitVec 64} {base : Nat} {l : Bytes} (h : StreamAt w sb size f s q tv lo) (ho : Owns w base v l) : v.ownBlock ≠ some sb := fun e => by
 rcases ho.2 with ⟨rfl, _⟩ | ⟨g, cap, cur, rfl, _, hg, _⟩
 · simp [Value.ownBlock] at e
 · simp [Value.ownBlock] at e
   subst e
   rw [h] at hg
   simp at hg
theorem row_put {w : World} {sb : Nat} {cs : List Value} (h : w.heap[sb]? = some (.cells cs.toArray 260 (0, 0))) (k : Nat) (v : Value) : (w.setCell ⟨sb, k, none⟩ v).heap[sb]? = some (.cells (cs.set k v).toArray 260 (0, 0)) := by
 rw [heap_setCell_same w sb k _ _ v h, List.setIfInBounds_toArray]
theorem StreamAt.put {w : World} {sb : Nat} {size : Int} {f s s' : ST} {q : QT} {tv tv' : Value} {lo lo' : BitVec 64} (h : StreamAt w sb size f s q tv lo) (k : Nat) (v : Value) (he : (stCells size f s q tv lo).set k v = stCells size f s' q tv' lo') : StreamAt (w.setCell ⟨sb, k, none⟩ v) sb size f s' q tv' lo' := by
 unfold StreamAt
 rw [heap_setCell_same w sb k _ _ v h]
 simp only [List.setIfInBounds_toArray, he]
def Foot (sb : Nat) (tv : Value) (x : Nat) : Prop := x = sb ∨ tv.ownBlock = some x
theorem made_any {w : World} {sb : Nat} {size : Int} {f s : ST} {q : QT} {tv : Value} {lo : BitVec 64} (h : StreamAt w sb size f s q tv lo) : Calls Tryz.prog 198 #[.pointer (some ⟨sb, 0, none⟩)] w (Gives (.bool true) w) := by
 have cst : w.cell? ⟨sb, 9, none⟩ = some ((.func (.func q.1) #[] q.2)) := h.cell 9 rfl
 have hq := neq_fv q
 go_enter Tryz.func198, Tryz.ntmps198
 go_wp2
 go_ret
 exact ⟨rfl, rfl⟩
def Steps (E : World → Prop) (G : ST → Bytes → ST) (size : Nat) (q : QT) : Prop := (∀ (args : Array Value) (w : World), Sem.run Tryz.prog (callFunc q.1 args) w = .ok (.enter q.1 args) w) ∧ ∀ (w : World) (s : ST) (a : Option Addr) (n c : Nat) (l : Bytes), E w → IsBytes w a n c l → l.length = size →
 Calls Tryz.prog q.1 (#[.agg #[cS s 0, cS s 1, cS s 2, cS s 3], .slice a n c] ++ q.2) w (GivesS (G s l) w)
end Go.Proofs.YtidlpihoafnobaaGreatDoor.StG32
