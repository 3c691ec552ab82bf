/- THE CARD OF ScodeGoes: for every input it returns true, and each argument reads behind the call as it read before; the listed variables are tied to the program's text. -/
import Derived.ChangeSame
import Derived.ChangeVars
import Derived.JoinedOf
import Derived.LaidHandle
import Derived.LaidLaws
import Derived.Laws.IdiomArrays
import Derived.Lib.LaidTab
import Derived.Lib.SmallJoins
import Derived.RowKit
import Derived.RowKitTokens
import Derived.SevenTiedAt
import Derived.Stop.IfaceNil
import Derived.Stop.Joined
import Derived.Stop.LaidErr
import Derived.Test.YtidlpihoafnobaaGreatDoorCards
import Derived.Test.YtidlpihoafnobaaGreatDoorTie
import Derived.Test.YtidlpihoafnobaaGreatDoorPLGoesSco
set_option linter.unusedVariables false
set_option linter.unusedSimpArgs false
namespace Go.Proofs.YtidlpihoafnobaaGreatDoor
set_option maxRecDepth 100000
open Go.ChangeShapes Go.WideShapes Go.ChangeAt Go.RowKit
open Go.ChangeMaps (open_string shut_string)
abbrev laidL : List (String × DataW Unit) := [("errors.errorType", Rows.laid_errors_errorType)]
theorem et : Tryz.prog.globalNamed "errors.errorType" = some 0 := by kernel_rfl
theorem rt : (Tryz.prog.cutTypes.find? (·.1 == "internal/reflectlite.rtype")).map (·.2) = some 167 := by kernel_rfl
theorem oneRow : ((List.range 328).filter fun t => Tryz.prog.rowNamed t [101, 114, 114, 111, 114]) = [51] := by kernel_rfl
theorem tsize : Tryz.prog.types.size = 328 := by kernel_rfl
theorem handle_of_laid {W : World} (h : laidMetH Tryz.prog laidL W) : ErrT W := by
 have h' : laidMet Tryz.prog [] W ∧ handlesMet Tryz.prog [("errors.errorType", Rows.laid_errors_errorType)] W := h
 obtain ⟨name, u, ty, e1, e2, e3, e4, e5⟩ := h'.2 _ (List.mem_singleton.2 rfl)
 have en : name = [101, 114, 114, 111, 114] := (Option.some.inj e1).symm
 subst en
 obtain rfl := Option.some.inj (rt.symm.trans e2)
 have hm : ty ∈ (List.range 328).filter fun t => Tryz.prog.rowNamed t [101, 114, 114, 111, 114] := List.mem_filter.2 ⟨List.mem_range.2 (by rw [← tsize]; exact e3), e4⟩
 rw [oneRow] at hm
 obtain rfl := List.mem_singleton.1 hm
 have hh : typeHandle Tryz.prog 51 = .pointer (some ⟨1, 51, none⟩) := by kernel_rfl
 rw [hh] at e5
 unfold ErrT
 simpa using World.var?_cell et e5 0
def setRow (h : Array Obj) (g : Nat) (cs : Array Value) : Array Obj := h.modify g fun
 | .cells _ t frozen => .cells cs t frozen
 | o => o
noncomputable def laidWorld (os : Os) : World :=
 let w0 := World.holding Tryz.prog os ⟨#[], #[], []⟩
 { w0 with heap := setRow w0.heap 0 #[.iface 167 (.agg #[.pointer (some ⟨1, 51, none⟩)])] }
theorem laidWorld_met (os : Os) (args : Array Value) : laidMetH Tryz.prog laidL ((laidWorld os).forCall (fun _ _ => 0) ⟨#[], args, []⟩).memory :=
 laidMetH_of_parts (laidMet_nil _ _) (by kernel_rfl)
set_option maxRecDepth 100000 in
theorem scodeGoes_lifted (os : Os) (started : os.Started) (H : Type) (enc : TypeId × Value → H) :
 ReturnsInHanded {} Tryz.checked os 4 .any (fun w args => (Rows.scodeGoesSpec.pre enc Tryz.prog Tryz.f4 [] false w args ∧ laidMetH Tryz.prog laidL w) ∧ sizedMet enc Tryz.prog Tryz.f4 (OpenSpec.ofChange Rows.scodeGoesSpec) false w args)
  (Rows.scodeGoesSpec.post enc Tryz.prog Tryz.f4 false true false false) := by
 refine returnsInHanded_of_change_and (C := Tryz.checked) (X := fun w _ => laidMetH Tryz.prog laidL w) (fun _ _ _ hh h => h.of_heap hh) own_knob started (by kernel_rfl) Tryz.func4
  (ChangeSpec.witness_at (enc := enc) (C := Tryz.checked) (os := os) (X := fun w _ => laidMetH Tryz.prog laidL w) false (laidWorld os) #[.int .i64 0, .agg #[.int .u64 0, .int .u64 0], .slice none 0 0, .slice none 0 0] 8 rfl (by kernel_rfl) (by kernel_rfl) (by kernel_rfl) (by kernel_rfl) (by kernel_rfl) (laidWorld_met os _)) ?_
 intro W base args ds gs before hval0 hW _ _ hL _
 have hg := handle_of_laid hL
 have hval : ∀ (j : Nat) t v, Tryz.f4.params[j]? = some t → args[j]? = some v → Value.okWide Tryz.prog W .any base t v := hval0
 have hW' := hW
 obtain ⟨p, q, hA0, hV, rfl, hfz, hnd⟩ := hW
 have hA : DataW.TrodAll enc Tryz.prog W 0 (fun _ => true) true Tryz.f4.params.toList args.toList ds p := hA0
 rw [Tryz.params4] at hA hval
 obtain ⟨v0, vs0, d0, ds0, p0, q0, hargs, rfl, rfl, h0, r0⟩ := trodAll_cons hA
 obtain ⟨v1, vs1, d1, ds1, p1, q1, rfl, rfl, rfl, h1, r1⟩ := trodAll_cons r0
 obtain ⟨v2, vs2, d2, ds2, p2, q2, rfl, rfl, rfl, h2, r2⟩ := trodAll_cons r1
 obtain ⟨v3, vs3, d3, ds3, p3, q3, rfl, rfl, rfl, h3, r3⟩ := trodAll_cons r2
 obtain ⟨rfl, rfl, rfl⟩ := trodAll_nil r3
 obtain rfl : args = #[v0, v1, v2, v3] := by cases args; simp_all
 obtain ⟨rfl, rfl⟩ := trodVars_none hV
 obtain ⟨i0, rfl, rfl, rfl, w0⟩ := open_int Tryz.underlying3 (hval 0 3 v0 rfl rfl) h0
 obtain ⟨ca1, cb1, ya1, yb1, ma1, rfl, rfl, rfl, hya1, hyb1⟩ := Go.Joins.open_agg2 Tryz.underlying30 (by kernel_rfl) (by kernel_rfl) (hval 1 30 v1 rfl rfl) h1
 obtain ⟨ia1, ea1, rfl, wa1⟩ := DataW.trod_int Tryz.underlying28 hya1
 obtain ⟨ib1, eb1, rfl, wb1⟩ := DataW.trod_int Tryz.underlying28 hyb1
 simp at ea1 eb1
 subst ea1; subst eb1
 obtain ⟨xa1, rfl⟩ : ∃ x, ia1 = W64 x := ⟨_, word64 wa1⟩
 obtain ⟨xb1, rfl⟩ : ∃ x, ib1 = W64 x := ⟨_, word64 wb1⟩
 obtain ⟨a2, len2, cap2, rfl⟩ := okWide_slice Tryz.underlying22 (hval 2 22 v2 rfl rfl)
 have k2 := h2
 have lt2 : ∀ x ∈ p2, x.block < W.heap.size := by obtain ⟨m, hm⟩ := k2; exact DataW.trod_lt m _ _ _ hm
 obtain ⟨l2, hb2⟩ : ∃ l, IsBytes W a2 len2 cap2 l := by
  obtain ⟨fuel, hf⟩ := h2
  rcases open_ints Tryz.underlying22 Tryz.underlying5 cells_u8 hf with ⟨hcs, _⟩ | ⟨x, l, c, zs, hcs, _, hl, hm, hz, hx, hcell, hwz⟩
  · simp [Value.cells] at hcs
    obtain ⟨rfl, rfl, rfl⟩ := hcs
    exact ⟨[], IsBytes.nil W⟩
  · simp [Value.cells] at hcs
    obtain ⟨rfl, rfl, rfl⟩ := hcs
    simp only [if_true] at hz
    exact ⟨_, isBytes_of_ints hl hm hz hcell hwz⟩
 obtain ⟨a3, len3, cap3, rfl⟩ := okWide_slice Tryz.underlying22 (hval 3 22 v3 rfl rfl)
 have k3 := h3
 have lt3 : ∀ x ∈ p3, x.block < W.heap.size := by obtain ⟨m, hm⟩ := k3; exact DataW.trod_lt m _ _ _ hm
 obtain ⟨l3, hb3⟩ : ∃ l, IsBytes W a3 len3 cap3 l := by
  obtain ⟨fuel, hf⟩ := h3
  rcases open_ints Tryz.underlying22 Tryz.underlying5 cells_u8 hf with ⟨hcs, _⟩ | ⟨x, l, c, zs, hcs, _, hl, hm, hz, hx, hcell, hwz⟩
  · simp [Value.cells] at hcs
    obtain ⟨rfl, rfl, rfl⟩ := hcs
    exact ⟨[], IsBytes.nil W⟩
  · simp [Value.cells] at hcs
    obtain ⟨rfl, rfl, rfl⟩ := hcs
    simp only [if_true] at hz
    exact ⟨_, isBytes_of_ints hl hm hz hcell hwz⟩
 clear hA0 hval0
 refine (ScodeGoes_row i0 xa1 xb1 a2 len2 cap2 l2 a3 len3 cap3 l3 W (int64 w0).1 (int64 w0).2 hb2 hb3 hg).mono fun e W' ⟨he, hfr⟩ => ?_
 have bel : Below W.heap.size W W' := hfr.below (Nat.le_refl _) fun _ f => f.elim
 subst he
 exact ⟨_, rfl, _, _, _, [], _, [], hW', trodAll_mk1 (shut_bool Tryz.underlying4 _), (trodAll_cons_mk (shut_int Tryz.underlying3 w0) (trodAll_cons_mk (Go.Joins.shut_agg2 (y0 := (.lit (.int .u64 (W64 xa1)), [])) (y1 := (.lit (.int .u64 (W64 xb1)), [])) Tryz.underlying30 (by kernel_rfl) (by kernel_rfl) ⟨1, by show DataW.trod _ Tryz.prog _ _ _ _ _ 28 _ = _; simp [DataW.trod, Tryz.underlying28, wa1]⟩ ⟨1, by show DataW.trod _ Tryz.prog _ _ _ _ _ 28 _ = _; simp [DataW.trod, Tryz.underlying28, wb1]⟩) (trodAll_cons_mk (Below.trod laid_out (by kernel_rfl) (of_decide_eq_true (by kernel_rfl)) k2 bel lt2) (trodAll_cons_mk (Below.trod laid_out (by kernel_rfl) (of_decide_eq_true (by kernel_rfl)) k3 bel lt3) trodAll_mk0)))), rfl, bel.frame _, fun h => by cases h⟩
theorem scodeGoes_over : Rows.ScodeGoesSaid :=
 OpenClaim.holds_of_wide 4 Tryz.f4 rfl rfl rfl rfl rfl rfl rfl ⟨rfl, rfl, rfl, rfl, rfl⟩ rfl rfl rfl rfl rfl (by kernel_rfl) Tryz.func4 (by kernel_rfl)
  (of_decide_eq_true (by kernel_rfl)) (by unfold Func.isWrapper; first | (rw [if_pos (by decide +kernel)]; kernel_rfl) | (rw [if_neg (by decide +kernel)]; exact ⟨rfl, rfl⟩))
  (fun os started H enc _ => scodeGoes_lifted os started H enc)
theorem scodeGoes_holds : Rows.ScodeGoesCardSaid :=
 Claim7.holds_tied_plain_at .later [] [.handle] true Rows.scodeGoesCard.stood.harness true
  scodeGoes_over (fun _ h => by cases h) (by kernel_rfl) (fun _ h => by cases h) scodeGoes_row_tie rfl ⟨rfl, rfl⟩ (by kernel_rfl) rfl
  (fun f fn hf hfn => by
   obtain rfl : f = 4 := Option.some.inj ((show Tryz.prog.funcNamed "astragal/astragallaw36.ScodeGoes" = some 4 by kernel_rfl).symm.trans hf) |>.symm
   obtain rfl : fn = Tryz.f4 := (Option.some.inj (Tryz.func4.symm.trans hfn)).symm
   exact ⟨by kernel_rfl, fun j t ht => by
    rw [Tryz.params4] at ht
    have h3 : t = 3 ∨ t = 30 ∨ t = 22 := by
     rcases j with _ | j
     · (have h := Option.some.inj ht; first | exact h.symm | exact .inl h.symm | exact .inr h.symm | exact .inr (.inl h.symm) | exact .inr (.inr h.symm))
     rcases j with _ | j
     · (have h := Option.some.inj ht; first | exact h.symm | exact .inl h.symm | exact .inr h.symm | exact .inr (.inl h.symm) | exact .inr (.inr h.symm))
     rcases j with _ | j
     · (have h := Option.some.inj ht; first | exact h.symm | exact .inl h.symm | exact .inr h.symm | exact .inr (.inl h.symm) | exact .inr (.inr h.symm))
     rcases j with _ | j
     · (have h := Option.some.inj ht; first | exact h.symm | exact .inl h.symm | exact .inr h.symm | exact .inr (.inl h.symm) | exact .inr (.inr h.symm))
     simp at ht
    rcases h3 with rfl | rfl | rfl
    · exact (show Tryz.prog.wantsStandIn 3 = false by kernel_rfl)
    · exact (show Tryz.prog.wantsStandIn 30 = false by kernel_rfl)
    · exact (show Tryz.prog.wantsStandIn 22 = false by kernel_rfl)⟩)
  (by kernel_rfl)
#print axioms scodeGoes_holds
end Go.Proofs.YtidlpihoafnobaaGreatDoor
