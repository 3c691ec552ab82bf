/- THE STATEMENT OF Murmur86Sets: for every input it returns true, and each argument reads behind the call as it read before. -/
import Derived.Test.YtdemhnkkohnflafLSetsM86
import Derived.Test.YtdemhnkkohnflafRowKit4
namespace Go.Proofs.Ytdemhnkkohnflaf
set_option linter.unusedVariables false
set_option linter.unusedSimpArgs false
open Go.ChangeShapes Go.WideShapes Go.ChangeAt Go.RowKit
open Go.ChangeMaps (open_string shut_string)

theorem Murmur86Sets_yes (x0 : BitVec 32) (x1a x1b x1c x1d : BitVec 64) (x2 : BitVec 64) (a3 : Option Addr) (n3 c3 : Nat) (l3 : Bytes) (w : World) (b3 : IsBytes w a3 n3 c3 l3) (_ : c3 ≤ 140737488351232) :
    Calls Try.prog 6 #[.int .u32 (W32 x0), .agg #[.int .u64 (W64 x1a), .int .u64 (W64 x1b), .int .u64 (W64 x1c), .int .u64 (W64 x1d)], .int .u64 (W64 x2), .slice a3 n3 c3] w (Yes w) :=
  StM86.Murmur86Sets_yes x0 x1a x1b x1c x1d x2 a3 n3 c3 l3 w b3

set_option maxRecDepth 100000 in
theorem murmur86Sets_lifted (os : Os) (started : os.Started) (H : Type) (enc : TypeId × Value → H) :
    ReturnsInHanded {} Try.checked os 6 .any (Rows.murmur86SetsSpec.pre6 enc Try.prog Try.f6 Rows.murmur86SetsRow.domain false) (Rows.murmur86SetsSpec.post enc Try.prog Try.f6 false true false false) := by
  refine returnsInHanded_of_change_sized (C := Try.checked) own_knob started (by kernel_rfl) Try.func6
    (ChangeSpec.witness6 (enc := enc) (C := Try.checked) false ⟨#[], #[.int .u32 0, .agg #[.int .u64 0, .int .u64 0, .int .u64 0, .int .u64 0], .int .u64 0, .slice none 0 0], []⟩ 8 (by kernel_rfl) (by kernel_rfl) (by kernel_rfl) (by kernel_rfl)) ?_
  intro W base args ds gs before hval0 hW hcnd hsz0 _
  have hsz : (DataW.weightsEach Try.prog (Try.f6.params.toList ++ Rows.murmur86SetsSpec.plain.varTypes Try.prog) (ds ++ gs)).all (· ≤ reachBytes) = true := hsz0
  clear hsz0
  have hval : ∀ (j : Nat) t v, Try.f6.params[j]? = some t → args[j]? = some v → Value.okWide Try.prog W .any base t v := hval0
  have hW' := hW
  obtain ⟨p, q, hA0, hV, rfl, hfz, hnd⟩ := hW
  have hA : DataW.TrodAll enc Try.prog W 0 (fun _ => true) true Try.f6.params.toList args.toList ds p := hA0
  rw [Try.params6] at hA hval hsz
  obtain ⟨v0, vs0, d0, ds0, p0, q0, hargs, rfl, rfl, h0, r0⟩ := trodAll_cons hA
  obtain ⟨v1, vs1, d1, ds1, p1, q1, rfl, rfl, rfl, h1, r1⟩ := trodAll_cons r0
  obtain ⟨v2, vs2, d2, ds2, p2, q2, rfl, rfl, rfl, h2, r2⟩ := trodAll_cons r1
  obtain ⟨v3, vs3, d3, ds3, p3, q3, rfl, rfl, rfl, h3, r3⟩ := trodAll_cons r2
  obtain ⟨rfl, rfl, rfl⟩ := trodAll_nil r3
  obtain rfl : args = #[v0, v1, v2, v3] := by cases args; simp_all
  obtain ⟨rfl, rfl⟩ := trodVars_none hV
  obtain ⟨i0, rfl, rfl, rfl, w0⟩ := open_int Try.underlying22 (hval 0 22 v0 rfl rfl) h0
  obtain ⟨x0, rfl⟩ : ∃ x, i0 = W32 x := ⟨_, word32 w0⟩
  obtain ⟨z1, k1e⟩ : ∃ z, z = d1 := ⟨_, rfl⟩
  obtain ⟨x1a, x1b, x1c, x1d, rfl, hsh1⟩ := open_arr4 (hval 1 38 v1 rfl rfl) h1
  obtain ⟨i2, rfl, rfl, rfl, w2⟩ := open_int Try.underlying25 (hval 2 25 v2 rfl rfl) h2
  obtain ⟨x2, rfl⟩ : ∃ x, i2 = W64 x := ⟨_, word64 w2⟩
  obtain ⟨a3, len3, cap3, rfl⟩ := okWide_slice Try.underlying23 (hval 3 23 v3 rfl rfl)
  have k3 := h3
  have lt3 : ∀ x ∈ p3, x.block < W.heap.size := by obtain ⟨m, hm⟩ := k3; exact DataW.trod_lt m _ _ _ hm
  obtain ⟨l3, hb3, hr3⟩ : ∃ l, IsBytes W a3 len3 cap3 l ∧ cap3 ≤ 140737488351232 := by
    obtain ⟨fuel, hf⟩ := h3
    rcases open_ints Try.underlying23 Try.underlying5 cells_u8 hf with ⟨hcs, _⟩ | ⟨x, l, c, zs, hcs, _, hl, hm, hz, hx, hcell, hwz⟩
    · simp [Value.cells] at hcs
      obtain ⟨rfl, rfl, rfl⟩ := hcs
      exact ⟨[], IsBytes.nil W, by omega⟩
    · simp [Value.cells] at hcs
      obtain ⟨rfl, rfl, rfl⟩ := hcs
      simp only [if_true] at hz
      simp only [Prod.mk.injEq] at hx
      refine ⟨_, isBytes_of_ints hl hm hz hcell hwz, ?_⟩
      have := sized_slice hsz (j := 3) (t := 23) (e := 5) rfl (congrArg some hx.1) Try.underlying23
      rw [bytes_u8] at this
      simp only [lits, List.length_map, List.length_take, List.length_drop, reachBytes] at this
      omega
  clear hA0 hval0
  refine (Murmur86Sets_yes x0 x1a x1b x1c x1d x2 a3 len3 cap3 l3 W hb3 hr3).mono fun e W' ⟨he, hfr⟩ => ?_
  have bel : Below W.heap.size W W' := hfr.below (Nat.le_refl _) fun _ f => f.elim
  subst he
  exact ⟨_, rfl, _, _, _, [], _, [], hW', trodAll_mk1 (shut_bool Try.underlying4 _), (trodAll_cons_mk (shut_int Try.underlying22 w0) (trodAll_cons_mk (hsh1 _ _) (trodAll_cons_mk (shut_int Try.underlying25 w2) (trodAll_cons_mk (Below.trod laid_out (by kernel_rfl) (of_decide_eq_true (by kernel_rfl)) k3 bel lt3) trodAll_mk0)))), rfl, bel.frame _, fun h => by cases h⟩

theorem murmur86Sets_over : Rows.murmur86SetsRow.holds Try.pinned (OpenSpec.ofChange Rows.murmur86SetsSpec) :=
  OpenClaim.holds_of_wide 6 Try.f6 rfl rfl rfl rfl rfl rfl rfl ⟨rfl, rfl, rfl, rfl, rfl⟩ rfl rfl rfl rfl rfl (by kernel_rfl) Try.func6 (by kernel_rfl)
    (of_decide_eq_true (by kernel_rfl)) (by unfold Func.isWrapper; first | (rw [if_pos (by decide +kernel)]; kernel_rfl) | (rw [if_neg (by decide +kernel)]; exact ⟨rfl, rfl⟩))
    (fun os started H enc _ => murmur86Sets_lifted os started H enc)

theorem murmur86Sets_holds : Rows.Murmur86SetsSaid := murmur86Sets_over
#print axioms murmur86Sets_holds
end Go.Proofs.Ytdemhnkkohnflaf

