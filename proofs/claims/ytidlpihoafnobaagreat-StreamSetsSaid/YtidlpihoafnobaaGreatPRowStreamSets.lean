/- THE STATEMENT OF StreamSets: for every input it returns true, and each argument reads behind the call as it read before. -/
import Derived.Test.YtidlpihoafnobaaGreatPRowKit4
import Derived.Test.YtidlpihoafnobaaGreatPLSetsStr
set_option linter.unusedVariables false
set_option linter.unusedSimpArgs false
namespace Go.Proofs.YtidlpihoafnobaaGreat
set_option maxRecDepth 100000
open Go.ChangeShapes Go.WideShapes Go.ChangeAt Go.RowKit
open Go.ChangeMaps (open_string shut_string)
theorem StreamSets_row (k : Int) (kh kl : BitVec 64) (x0 x1 x2 x3 : BitVec 64) (lo : BitVec 64) (a1 : Option Addr) (n1 c1 : Nat) (l1 : Bytes) (w : World) (j1 : -9223372036854775808 ≤ k) (j2 : k ≤ 9223372036854775807) (b1 : IsBytes w a1 n1 c1 l1) (r1 : c1 ≤ 140737488351232) : Calls Tryz.prog 6 #[.int .i64 k, .agg #[.int .u64 (W64 kh), .int .u64 (W64 kl)], .agg #[.int .u64 (W64 x0), .int .u64 (W64 x1), .int .u64 (W64 x2), .int .u64 (W64 x3)], .int .u64 (W64 lo), .slice a1 n1 c1] w (Yes w) := StreamSets_yes k kh kl (x0, x1, x2, x3) lo a1 n1 c1 l1 w b1
set_option maxRecDepth 100000 in
theorem streamSets_lifted (os : Os) (started : os.Started) (H : Type) (enc : TypeId × Value → H) :
 ReturnsInHanded {} Tryz.checked os 6 .any (Rows.streamSetsSpec.pre6 enc Tryz.prog Tryz.f6 Rows.streamSetsRow.domain false) (Rows.streamSetsSpec.post enc Tryz.prog Tryz.f6 false true false false) := by
 refine returnsInHanded_of_change_sized (C := Tryz.checked) own_knob started (by kernel_rfl) Tryz.func6
  (ChangeSpec.witness6 (enc := enc) (C := Tryz.checked) false ⟨#[], #[.int .i64 0, .agg #[.int .u64 0, .int .u64 0], .agg #[.int .u64 0, .int .u64 0, .int .u64 0, .int .u64 0], .int .u64 0, .slice none 0 0], []⟩ 8 (by kernel_rfl) (by kernel_rfl) (by kernel_rfl) (by kernel_rfl)) ?_
 intro W base args ds gs before hval0 hW hcnd hsz0 _
 have hsz : (DataW.weightsEach Tryz.prog (Tryz.f6.params.toList ++ Rows.streamSetsSpec.plain.varTypes Tryz.prog) (ds ++ gs)).all (· ≤ reachBytes) = true := hsz0
 clear hsz0
 have hval : ∀ (j : Nat) t v, Tryz.f6.params[j]? = some t → args[j]? = some v → Value.okWide Tryz.prog W .any base t v := hval0
 have hW' := hW
 obtain ⟨p, q, hA0, hV, rfl, hfz, hnd⟩ := hW
 have hA : DataW.TrodAll enc Tryz.prog W 0 (fun _ => true) true Tryz.f6.params.toList args.toList ds p := hA0
 rw [Tryz.params6] at hA hval hsz
 obtain ⟨v0, vs0, d0, ds0, p0, q0, hargs, rfl, rfl, h0, r0⟩ := trodAll_cons hA
 obtain ⟨v1, vs1, d1, ds1, p1, q1, rfl, rfl, rfl, h1, r1⟩ := trodAll_cons r0
 obtain ⟨v2, vs2, d2, ds2, p2, q2, rfl, rfl, rfl, h2, r2⟩ := trodAll_cons r1
 obtain ⟨v3, vs3, d3, ds3, p3, q3, rfl, rfl, rfl, h3, r3⟩ := trodAll_cons r2
 obtain ⟨v4, vs4, d4, ds4, p4, q4, rfl, rfl, rfl, h4, r4⟩ := trodAll_cons r3
 obtain ⟨rfl, rfl, rfl⟩ := trodAll_nil r4
 obtain rfl : args = #[v0, v1, v2, v3, v4] := by cases args; simp_all
 obtain ⟨rfl, rfl⟩ := trodVars_none hV
 obtain ⟨i0, rfl, rfl, rfl, w0⟩ := open_int Tryz.underlying3 (hval 0 3 v0 rfl rfl) h0
 obtain ⟨ca1, cb1, ya1, yb1, ma1, rfl, rfl, rfl, hya1, hyb1⟩ := Go.Joins.open_agg2 Tryz.underlying24 (by kernel_rfl) (by kernel_rfl) (hval 1 24 v1 rfl rfl) h1
 obtain ⟨ia1, ea1, rfl, wa1⟩ := DataW.trod_int Tryz.underlying22 hya1
 obtain ⟨ib1, eb1, rfl, wb1⟩ := DataW.trod_int Tryz.underlying22 hyb1
 simp at ea1 eb1
 subst ea1; subst eb1
 obtain ⟨xa1, rfl⟩ : ∃ x, ia1 = W64 x := ⟨_, word64 wa1⟩
 obtain ⟨xb1, rfl⟩ : ∃ x, ib1 = W64 x := ⟨_, word64 wb1⟩
 obtain ⟨z2, k2e⟩ : ∃ z, z = d2 := ⟨_, rfl⟩
 obtain ⟨x2a, x2b, x2c, x2d, rfl, hsh2⟩ := open_arr4 (hval 2 49 v2 rfl rfl) h2
 obtain ⟨i3, rfl, rfl, rfl, w3⟩ := open_int Tryz.underlying22 (hval 3 22 v3 rfl rfl) h3
 obtain ⟨x3, rfl⟩ : ∃ x, i3 = W64 x := ⟨_, word64 w3⟩
 obtain ⟨a4, len4, cap4, rfl⟩ := okWide_slice Tryz.underlying25 (hval 4 25 v4 rfl rfl)
 have k4 := h4
 have lt4 : ∀ x ∈ p4, x.block < W.heap.size := by obtain ⟨m, hm⟩ := k4; exact DataW.trod_lt m _ _ _ hm
 obtain ⟨l4, hb4, hr4⟩ : ∃ l, IsBytes W a4 len4 cap4 l ∧ cap4 ≤ 140737488351232 := by
  obtain ⟨fuel, hf⟩ := h4
  rcases open_ints Tryz.underlying25 Tryz.underlying5 cells_u8 hf with ⟨hcs, _⟩ | ⟨x, l, c, zs, hcs, _, hl, hm, hz, hx, hcell, hwz⟩
  · simp [Value.cells] at hcs
    obtain ⟨rfl, rfl, rfl⟩ := hcs
    exact ⟨[], IsBytes.nil W, by omega⟩
  · simp [Value.cells] at hcs
    obtain ⟨rfl, rfl, rfl⟩ := hcs
    simp only [if_true] at hz
    simp only [Prod.mk.injEq] at hx
    refine ⟨_, isBytes_of_ints hl hm hz hcell hwz, ?_⟩
    have := sized_slice hsz (j := 4) (t := 25) (e := 5) rfl (congrArg some hx.1) Tryz.underlying25
    rw [bytes_u8] at this
    simp only [lits, List.length_map, List.length_take, List.length_drop, reachBytes] at this
    omega
 clear hA0 hval0
 refine (StreamSets_row i0 xa1 xb1 x2a x2b x2c x2d x3 a4 len4 cap4 l4 W (int64 w0).1 (int64 w0).2 hb4 hr4).mono fun e W' ⟨he, hfr⟩ => ?_
 have bel : Below W.heap.size W W' := hfr.below (Nat.le_refl _) fun _ f => f.elim
 subst he
 exact ⟨_, rfl, _, _, _, [], _, [], hW', trodAll_mk1 (shut_bool Tryz.underlying4 _), (trodAll_cons_mk (shut_int Tryz.underlying3 w0) (trodAll_cons_mk (Go.Joins.shut_agg2 (y0 := (.lit (.int .u64 (W64 xa1)), [])) (y1 := (.lit (.int .u64 (W64 xb1)), [])) Tryz.underlying24 (by kernel_rfl) (by kernel_rfl) ⟨1, by show DataW.trod _ Tryz.prog _ _ _ _ _ 22 _ = _; simp [DataW.trod, Tryz.underlying22, wa1]⟩ ⟨1, by show DataW.trod _ Tryz.prog _ _ _ _ _ 22 _ = _; simp [DataW.trod, Tryz.underlying22, wb1]⟩) (trodAll_cons_mk (hsh2 _ _) (trodAll_cons_mk (shut_int Tryz.underlying22 w3) (trodAll_cons_mk (Below.trod laid_out (by kernel_rfl) (of_decide_eq_true (by kernel_rfl)) k4 bel lt4) trodAll_mk0))))), rfl, bel.frame _, fun h => by cases h⟩
theorem streamSets_over : Rows.streamSetsRow.holds Tryz.pinned (OpenSpec.ofChange Rows.streamSetsSpec) :=
 OpenClaim.holds_of_wide 6 Tryz.f6 rfl rfl rfl rfl rfl rfl rfl ⟨rfl, rfl, rfl, rfl, rfl⟩ rfl rfl rfl rfl rfl (by kernel_rfl) Tryz.func6 (by kernel_rfl)
  (of_decide_eq_true (by kernel_rfl)) (by unfold Func.isWrapper; first | (rw [if_pos (by decide +kernel)]; kernel_rfl) | (rw [if_neg (by decide +kernel)]; exact ⟨rfl, rfl⟩))
  (fun os started H enc _ => streamSets_lifted os started H enc)
theorem streamSets_holds : Rows.StreamSetsSaid := streamSets_over
#print axioms streamSets_holds
end Go.Proofs.YtidlpihoafnobaaGreat
