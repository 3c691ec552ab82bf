/- BlockPieces' walk. -/
import Derived.Test.YthjpnkjbkkeoaaaLaw28
import Derived.Test.YthjpnkjbkkeoaaaPieces
import Derived.Test.YthjpnkjbkkeoaaaSeq
import Derived.Test.YthjpnkjbkkeoaaaWords2
namespace Go.Proofs.Ythjpnkjbkkeoaaa.StS28
set_option linter.unusedVariables false
set_option linter.unusedSimpArgs false
open Go.RowKit
theorem OwnsSl.fr {F : Nat → Prop} {w w' : World} {base : Nat} {v : Value} {vs : List Value} (h : OwnsSl w base v vs) (k : Fr F w w') (hF : ∀ x, v.ownBlock = some x → ¬ F x) : OwnsSl w' base v vs := by
  refine ⟨h.1, ?_⟩
  rcases h.2 with hn | ⟨g, cap, cur, rfl, hb, hg, r⟩
  · exact .inl hn
  · exact .inr ⟨g, cap, cur, rfl, hb, k.heap (hF g rfl) hg, r⟩
def done (xs : List Bytes) (k : Nat) : Bytes := (xs.take k).flatten
theorem done_next (xs : List Bytes) (k : Nat) (h : k < xs.length) : done xs (k + 1) = done xs k ++ xs.getD k [] := by
  unfold done
  rw [List.take_succ_eq_append_getElem h, List.flatten_append, List.getD_eq_getElem?_getD, List.getElem?_eq_getElem h]
  simp
theorem done_take (xs : List Bytes) (k : Nat) : done xs k = xs.flatten.take (done xs k).length := by
  unfold done
  conv => rhs; rw [← List.take_append_drop k xs, List.flatten_append]
  simp
theorem done_le (xs : List Bytes) (k : Nat) : (done xs k).length ≤ xs.flatten.length := by
  rw [done_take xs k]; simp
  omega
theorem done_all (xs : List Bytes) (k : Nat) (h : xs.length ≤ k) : done xs k = xs.flatten := by unfold done; rw [List.take_of_length_le h]
/-- At the head of the law's loop. -/
def LawAt (wB : World) (sb size : Nat) (f : ST) (v : Value) (base : Nat) (vs : List Value) (xs : List Bytes) (long i : Value) (wr : World) (k : Nat) : Prop :=
  ∃ tv, k ≤ vs.length ∧ i = .int .i64 k ∧ long = .int .i64 ((done xs k).length : Nat) ∧ Live wB wr sb size f (foldF stepG size f (done xs k)).1 0 (foldF stepG size f (done xs k)).2 (BitVec.ofNat 64 (done xs k).length) tv ∧ OwnsSl wr base v vs ∧ ∀ x, v.ownBlock = some x → ¬ Foot sb tv x ∧ x < wr.heap.size
set_option maxHeartbeats 400000 in
theorem BlockPieces_long (sz : Int) (x : BitVec 64) (a1 : Option Addr) (n1 c1 : Nat) (l1 : Bytes) (a2 : Option Addr) (n2 c2 : Nat) (l2 : List Int) (w : World) (h : 400 < n1 ∨ 40 < n2) : Calls Try.prog 3 #[.int .i64 sz, .int .u64 (W64 x), .slice a1 n1 c1, .slice a2 n2 c2] w (Yes w) := by
  by_cases h1 : 400 < n1
  · have i1 : (400 : Int) < (n1 : Int) := by omega
    clear h h1
    go_enter Try.func3, Try.ntmps3
    go_wp2_with (go_at_call 6; refine (awake_yes _).mono ?_; rintro e w1 ⟨rfl, hf1⟩)
    go_ret
    exact ⟨rfl, hf1⟩
  · have i1 : (n1 : Int) ≤ 400 := by omega
    have i2 : (40 : Int) < (n2 : Int) := by omega
    clear h h1
    go_enter Try.func3, Try.ntmps3
    go_wp2_with (go_at_call 6; refine (awake_yes _).mono ?_; rintro e w1 ⟨rfl, hf1⟩)
    go_ret
    exact ⟨rfl, hf1⟩
set_option maxHeartbeats 4000000 in
theorem BlockPieces_yes (sz : Int) (x : BitVec 64) (a1 : Option Addr) (n1 c1 : Nat) (l1 : Bytes) (a2 : Option Addr) (n2 c2 : Nat) (l2 : List Int) (w : World) (hb1 : IsBytes w a1 n1 c1 l1) (hb2 : IsInts w a2 n2 c2 l2) (h1 : -9223372036854775808 ≤ sz) (h2 : sz ≤ 9223372036854775807) :
    Calls Try.prog 3 #[.int .i64 sz, .int .u64 (W64 x), .slice a1 n1 c1, .slice a2 n2 c2] w (Yes w) := by
  by_cases hbig : 400 < n1 ∨ 40 < n2
  · exact BlockPieces_long sz x a1 n1 c1 l1 a2 n2 c2 l2 w hbig
  have i1 : (n1 : Int) ≤ 400 := by omega
  have i2 : (n2 : Int) ≤ 40 := by omega
  have m1 : n1 ≤ 400 := by omega
  have m2 : n2 ≤ 40 := by omega
  have nc1 : n1 ≤ c1 := hb1.2.1
  have nc2 : c1 ≤ 9223372036854775807 := hb1.2.2.1
  have HLn := Lib.hid hb1.1
  clear hbig
  obtain ⟨size, hsz⟩ : ∃ size : Nat, sizeOk sz = size := ⟨(sizeOk sz).toNat, by have := sizeOk_bd sz; omega⟩
  have hz1 : 1 ≤ size := by have := sizeOk_bd sz; omega
  have hz2 : size ≤ 64 := by have := sizeOk_bd sz; omega
  go_enter Try.func3, Try.ntmps3
  go_wp2_with fail
  refine (awake_yes _).mono ?_
  rintro e w1 ⟨rfl, hf1⟩
  go_wp2_with fail
  have hB0 : BoxAt (w1.alloc (.cells #[.int .u64 (W64 x), .int .i64 0] 27)) w1.heap.size (x, 0) := heap_alloc_new w1 _
  have hfB : Fr No w (w1.alloc (.cells #[.int .u64 (W64 x), .int .i64 0] 27)) := hf1.alloc _
  refine (New_live sz size (x, 0) _ _ h1 h2 hsz (Fr.refl No _)).mono ?_
  obtain ⟨f, hf⟩ : ∃ f : ST, f = (x, 0) := ⟨_, rfl⟩
  rw [← hf] at hB0 ⊢
  rintro e w3 ⟨sb, rfl, _, hL3, _⟩
  obtain ⟨pb, hpb⟩ : ∃ pb, pb = w1.heap.size := ⟨_, rfl⟩
  rw [← hpb] at hB0 ⊢
  have hB1 := hb1.no hfB
  have hB2 := hb2.no hfB
  generalize (w1.alloc (.cells #[.int .u64 (W64 x), .int .i64 0] 27)) = wB at hB0 hfB hB1 hB2 hL3 ⊢
  clear hf1 hf hpb hb2
  go_wp2_with fail
  refine (refPieces_any _ _ _ l1 _ _ _ l2 _ (hB1.no hL3.fr) (hB2.no hL3.fr) (by omega)).mono ?_
  rintro e w5 ⟨v, vs, xs, rfl, ho5, hf5, hall, hflat, _⟩
  have hL5 := hL3.no hf5
  obtain ⟨av, cv, rfl, hvc, hvm, _⟩ := ho5.slice
  have hap5 : ∀ x, (Value.slice av vs.length cv).ownBlock = some x → ¬ Foot sb (.slice none 0 0) x ∧ x < w5.heap.size := fun x hx => ⟨fun g => by have := hL3.lt x g; have := ho5.lt x hx; omega, (World.ownsRow.lt ho5 x hx).2⟩
  have hLaw : LawAt wB sb size f (.slice av vs.length cv) w3.heap.size vs xs (.int .i64 0) (.int .i64 0) w5 0 := ⟨_, by omega, rfl, rfl, by rw [show done xs 0 = [] from rfl, foldF_short (show ([] : Bytes).length < size by simp; omega)]; exact hL5, ho5, hap5⟩
  have HF := Lib.hid hflat
  have HX := Lib.hid hall.1
  have HP := Lib.hid hall.2
  generalize w3.heap.size = base at hLaw
  clear hL3 hf5 hL5 ho5 hap5 hall hflat hB2
  go_wp2_with fail
  go_loopw [11, 37] (fun long i wr => ∃ k, LawAt wB sb size f (.slice av vs.length cv) base vs xs long i wr k) (fun _ i _ => vs.length - (intOf i).toNat)
  case atStart => exact ⟨0, hLaw⟩
  case round =>
    obtain ⟨k, tv, hk, rfl, rfl, hL, ho, hap⟩ := hrel
    clear hLaw
    by_cases hlt : k < vs.length
    · have i3 : (k : Int) < (vs.length : Int) := by omega
      obtain ⟨a', n', c', hv, hn', hpc⟩ := HP.out k hlt
      obtain ⟨a0, c0, he, _, _, hcell⟩ := ho.slice
      cases he
      obtain ⟨g, rfl, hg, hcg⟩ := hcell k hlt
      rw [hv] at hcg
      have hy := hpc _ hB1
      have hd := done_next xs k (by have := HX.out; omega)
      have hdle := done_le xs (k + 1)
      have hdt := Lib.hid (done_take xs (k + 1))
      have HD := Lib.hid hd
      have hxl := hy.1
      have hdl : (done xs (k + 1)).length = (done xs k).length + n' := by rw [hd, List.length_append, hxl]
      have hm : (done xs (k + 1)).length ≤ n1 := by have h1 := HF.out; have h2 := HLn.out; rw [h1, h2] at hdle; exact hdle
      clear hd hdle hv hxl hcell hg
      obtain ⟨z, hz⟩ : ∃ z, Hid (z = (done xs (k + 1)).length) := ⟨_, rfl⟩
      have e1 : ((done xs k).length : Int) + (n' : Int) = (z : Int) := by have := hz.out; omega
      have ez : Hid (BitVec.ofNat 64 (done xs k).length + BitVec.ofNat 64 n' = BitVec.ofNat 64 z) := by show _ = _; rw [← BitVec.ofNat_add, hz.out, hdl]
      have z1 : z ≤ n1 := by have := hz.out; omega
      have z2 : (z : Int) ≤ (c1 : Int) := by omega
      have q4 := foldF_lt (F := stepG) hz1 f (done xs k)
      have q5 := foldF_lt (F := stepG) hz1 f (done xs (k + 1))
      clear hdl hm
      go_wp2_with fail
      refine (live_write (fun _ => True) stepG hL (fun _ _ => trivial) (steps28 size hz2) hz1 hz2 q4 _ n' c' (xs.getD k []) (hy.no hL.fr) ((hy.no (Fr.refl No wB)).old (fun x g => hL.above x g)) (by omega)).mono ?_
      rw [← foldF_append hz1, ← HD.out, ez.out]
      generalize hr : foldF stepG size f (done xs (k + 1)) = r at q5 ⊢
      have HR := Lib.hid hr
      clear hr
      rintro e w6 ⟨rfl, tv6, hL6, hf6, hk6⟩
      have ho6 := OwnsSl.fr ho hf6 (fun x hx g => (hap x hx).1 g)
      have hap6 : ∀ x, (Value.slice (some ⟨g, 0, none⟩) vs.length cv).ownBlock = some x → ¬ Foot sb tv6 x ∧ x < w6.heap.size := fun x hx => by
        have h0 := hap x hx
        have h1 := hf6.size
        refine ⟨fun q => ?_, by omega⟩
        rcases q with q | q
        · exact h0.1 (.inl q)
        · rcases hk6 with e | e
          · exact h0.1 (.inr (by rw [← e]; exact q))
          · have := e x q; omega
      clear hL ho hap hf6 hk6 hcg
      have hB6 := hB0.fr hL6.fr (fun h => h)
      have cb0 : w6.cell? ⟨pb, 0, none⟩ = some (cS f 0) := hB6.cell 0 rfl
      have cb1 : w6.cell? ⟨pb, 1, none⟩ = some (cS f 1) := hB6.cell 1 rfl
      have hyz := (hB1.no hL6.fr).head z c1 (n' := z) (c' := c1) z1 (by omega) (Nat.le_refl _) rfl rfl
      have HY : Hid (l1.take z = done xs (k + 1)) := by have h1 := hdt.out; have h2 := HF.out; have h3 := hz.out; show _ = _; rw [h2, ← h3] at h1; exact h1.symm
      rw [HY.out] at hyz
      clear hB6
      go_wp2_with fail
      refine wp_region_late (by kernel_rfl) (fun w' => Fr No w6 w') (fun _ => false) (Fr.refl No w6).drew (fun hv0 => ?_)
      refine wpLate_seg [(0, 1), (1, 1), (2, 1), (3, 1), (4, 1)] 7 #[true, true, true, true, true, false, false, false, false, false, false, false] (by kernel_rfl) rfl hv0 ?_
      refine wpSeq_take (v := ?_) 49 rfl rfl (fun _ _ _ h => h) (Or.inl ⟨rfl, ?_⟩) ?_
      rotate_left 1
      · (intro w9 h9; go_simp; try with_reducible rfl)
      simp only [List.setIfInBounds_toArray, List.set_cons_zero, List.set_cons_succ]
      refine wpSeq_take (v := ?_) 50 rfl rfl (fun _ _ _ h => h) (Or.inl ⟨rfl, ?_⟩) ?_
      rotate_left 1
      · (intro w9 h9; have cc0 := h9.cell (fun h => h) cb0; have cc1 := h9.cell (fun h => h) cb1; clear h9; go_simp; try with_reducible rfl)
      simp only [List.setIfInBounds_toArray, List.set_cons_zero, List.set_cons_succ]
      refine wpSeq_take (v := ?_) 51 rfl rfl (fun _ _ _ h => h) (Or.inl ⟨rfl, ?_⟩) ?_
      rotate_left 1
      · (intro w9 h9; go_simp; try with_reducible rfl)
      simp only [List.setIfInBounds_toArray, List.set_cons_zero, List.set_cons_succ]
      refine wpSeq_take (v := ?_) 52 rfl rfl (fun _ _ _ h => h) (Or.inl ⟨rfl, ?_⟩) ?_
      rotate_left 1
      · (intro w9 h9; go_simp; try with_reducible rfl)
      simp only [List.setIfInBounds_toArray, List.set_cons_zero, List.set_cons_succ]
      refine wpSeq_take (v := ?_) 53 rfl rfl (fun _ _ _ h => h) (Or.inl ⟨rfl, ?_⟩) ?_
      rotate_left 1
      · (intro w9 h9; go_simp; try with_reducible rfl)
      simp only [List.setIfInBounds_toArray, List.set_cons_zero, List.set_cons_succ]
      refine wpSeq_done ?_
      refine wpLate_two (i := 5) (j := 9) (by kernel_rfl) rfl rfl rfl rfl (fun K hK => ?_) (fun K hK => ?_)
      · go_wp2_with fail
        refine (refFold_any sz size f _ _ _ (done xs (k + 1)) _ h1 h2 hsz (hyz.no hv0) (by omega)).mono ?_
        rw [HR.out]
        rintro e xhv1 ⟨aq, nq, cq, rfl, hbq, hst, hfold⟩
        have hv1 := hv0.no hfold
        have hbo := Lib.hid (fun w' (k : Fr No w6 w') => hst w' (hyz.no k))
        clear hst
        refine hK.out _ _ (fun _ => hv1) ?_
        clear hK K
        refine wpLate_seg [(6, 1), (7, 1), (8, 1), (9, 0), (10, 0), (11, 1)] 0 (Array.replicate 12 true) (by kernel_rfl) rfl hv1 ?_
        refine wpSeq_take (v := ?_) 48 rfl rfl (fun _ _ _ h => h) (Or.inl ⟨rfl, ?_⟩) ?_
        rotate_left 1
        · (intro w9 h9; go_simp; try with_reducible rfl)
        simp only [List.setIfInBounds_toArray, List.set_cons_zero, List.set_cons_succ]
        refine wpSeq_take (v := ?_) 55 rfl rfl (fun _ _ _ h => h) (Or.inl ⟨rfl, ?_⟩) ?_
        rotate_left 1
        · (intro w9 h9; go_simp; try with_reducible rfl)
        simp only [List.setIfInBounds_toArray, List.set_cons_zero, List.set_cons_succ]
        refine wpSeq_take (v := ?_) 56 rfl rfl (fun _ _ _ h => h) (Or.inl ⟨rfl, ?_⟩) ?_
        rotate_left 1
        · (intro w9 h9; go_simp; try with_reducible rfl)
        simp only [List.setIfInBounds_toArray, List.set_cons_zero, List.set_cons_succ]
        refine wpSeq_next rfl rfl (fun K hK => ?_)
        go_wp2_with fail
        have hvA : Fr No w6 (xhv1.alloc (.cells #[.int .u64 0, .int .i64 0] 27)) := hv1.alloc _
        refine hK.out _ _ (fun _ => hvA) ?_
        clear hK K
        refine wpSeq_next rfl rfl (fun K hK => ?_)
        go_wp2_with fail
        have hvB : Fr No w6 (xhv1.alloc (.cells #[cS r.1 0, cS r.1 1] 27)) := hv1.alloc _
        refine hK.out _ _ (fun _ => hvB) ?_
        clear hK K
        refine wpSeq_take (v := ?_) 15 rfl rfl (fun _ _ _ h => h) (Or.inl ⟨rfl, ?_⟩) ?_
        rotate_left 1
        · (intro w9 h9; go_simp; try with_reducible rfl)
        simp only [List.setIfInBounds_toArray, List.set_cons_zero, List.set_cons_succ]
        refine wpSeq_done ?_
        refine wpLate_done (by kernel_rfl) ?_ _
        have hQ : BoxAt (xhv1.alloc (.cells #[cS r.1 0, cS r.1 1] 27)) xhv1.heap.size r.1 := heap_alloc_new _ _
        have hbq7 := hbq.no ((Fr.refl No xhv1).alloc (.cells #[cS r.1 0, cS r.1 1] 27))
        generalize xhv1.heap.size = rb at hQ ⊢
        generalize xhv1.alloc (.cells #[cS r.1 0, cS r.1 1] 27) = w7 at hQ hbq7 hvB ⊢
        clear hbq hvA hv1 hv0
        have hL7 := hL6.no hvB
        have ho7 := ho6.no hvB
        have hap7 : ∀ x, (Value.slice (some ⟨g, 0, none⟩) vs.length cv).ownBlock = some x → ¬ Foot sb tv6 x ∧ x < w7.heap.size := fun x hx => ⟨(hap6 x hx).1, Nat.lt_of_lt_of_le (hap6 x hx).2 hvB.size⟩
        clear hL6 ho6 hap6 hvB hbo
        have cq0 : w7.cell? ⟨rb, 0, none⟩ = some (cS r.1 0) := hQ.cell 0 rfl
        have cq1 : w7.cell? ⟨rb, 1, none⟩ = some (cS r.1 1) := hQ.cell 1 rfl
        go_wp2_with fail
        refine wp_region_seq (by kernel_rfl) (fun w' => Fr No w7 w') (fun _ => false) [(0, 1), (2, 1), (1, 0), (3, 1), (4, 1), (5, 1), (7, 1), (6, 0), (8, 0), (9, 1), (10, 1), (11, 1), (12, 1), (14, 1), (15, 1), (13, 0), (16, 1), (17, 1)] (by kernel_rfl) (Fr.refl No w7).drew ?_
        have hv0 : Fr No w7 w7.drew := (Fr.refl No w7).drew
        refine wpSeq_take (v := ?_) 57 rfl rfl (fun _ _ _ h => h) (Or.inl ⟨rfl, ?_⟩) ?_
        rotate_left 1
        · (intro w9 h9; go_simp; try with_reducible rfl)
        simp only [List.setIfInBounds_toArray, List.set_cons_zero, List.set_cons_succ]
        refine wpSeq_take (v := ?_) 59 rfl rfl (fun _ _ _ h => h) (Or.inl ⟨rfl, ?_⟩) ?_
        rotate_left 1
        · (intro w9 h9; have cc0 := h9.cell (fun h => h) cq0; have cc1 := h9.cell (fun h => h) cq1; clear h9; go_simp; try with_reducible rfl)
        simp only [List.setIfInBounds_toArray, List.set_cons_zero, List.set_cons_succ]
        refine wpSeq_next rfl rfl (fun K hK => ?_)
        go_wp2_with fail
        refine (State_any (hL7.no hv0).st).mono ?_
        rintro e xhv1 ⟨rfl, hx⟩
        have hv1 := hv0.no hx
        clear hx
        refine hK.out _ _ (fun _ => hv1) ?_
        clear hK K
        refine wpSeq_take (v := ?_) 60 rfl rfl (fun _ _ _ h => h) (Or.inl ⟨rfl, ?_⟩) ?_
        rotate_left 1
        · (intro w9 h9; simp only [cS0, cS1]; go_simp; try with_reducible rfl)
        simp only [List.setIfInBounds_toArray, List.set_cons_zero, List.set_cons_succ]
        refine wpSeq_take (v := ?_) 61 rfl rfl (fun _ _ _ h => h) (Or.inl ⟨rfl, ?_⟩) ?_
        rotate_left 1
        · (intro w9 h9; go_simp; try with_reducible rfl)
        simp only [List.setIfInBounds_toArray, List.set_cons_zero, List.set_cons_succ]
        refine wpSeq_take (v := ?_) 62 rfl rfl (fun _ _ _ h => h) (Or.inl ⟨rfl, ?_⟩) ?_
        rotate_left 1
        · (intro w9 h9; go_simp; try with_reducible rfl)
        simp only [List.setIfInBounds_toArray, List.set_cons_zero, List.set_cons_succ]
        refine wpSeq_take (v := ?_) 64 rfl rfl (fun _ _ _ h => h) (Or.inl ⟨rfl, ?_⟩) ?_
        rotate_left 1
        · (intro w9 h9; go_simp; try with_reducible rfl)
        simp only [List.setIfInBounds_toArray, List.set_cons_zero, List.set_cons_succ]
        refine wpSeq_next rfl rfl (fun K hK => ?_)
        go_wp2_with fail
        refine (Tail_any (hL7.no hv1).st (hL7.no hv1).ow (by omega)).mono ?_
        rintro e xhv2 ⟨vt, rfl, ho, hx⟩
        have hv2 := hv1.no hx
        obtain ⟨at_, ct, rfl, hbt, _⟩ := ho.bytes
        clear hx ho
        refine hK.out _ _ (fun _ => hv2) ?_
        clear hK K
        refine wpSeq_next rfl rfl (fun K hK => ?_)
        go_wp2_with fail
        refine (refSame_any _ _ _ r.2 _ _ _ r.2 _ hbt (hbq7.no hv2)).mono ?_
        rintro e w' ⟨rfl, rfl⟩
        rw [BEq.rfl]
        refine hK.out _ _ (fun _ => hv2) ?_
        clear hK K
        refine wpSeq_take (v := ?_) 66 rfl rfl (fun _ _ _ h => h) (Or.inl ⟨rfl, ?_⟩) ?_
        rotate_left 1
        · (intro w9 h9; go_simp; try with_reducible rfl)
        simp only [List.setIfInBounds_toArray, List.set_cons_zero, List.set_cons_succ]
        refine wpSeq_take (v := ?_) 67 rfl rfl (fun _ _ _ h => h) (Or.inl ⟨rfl, ?_⟩) ?_
        rotate_left 1
        · (intro w9 h9; go_simp; try with_reducible rfl)
        simp only [List.setIfInBounds_toArray, List.set_cons_zero, List.set_cons_succ]
        refine wpSeq_take (v := ?_) 68 rfl rfl (fun _ _ _ h => h) (Or.inl ⟨rfl, ?_⟩) ?_
        rotate_left 1
        · (intro w9 h9; go_simp; try with_reducible rfl)
        simp only [List.setIfInBounds_toArray, List.set_cons_zero, List.set_cons_succ]
        refine wpSeq_take (v := ?_) 69 rfl rfl (fun _ _ _ h => h) (Or.inl ⟨rfl, ?_⟩) ?_
        rotate_left 1
        · (intro w9 h9; go_simp; try with_reducible rfl)
        simp only [List.setIfInBounds_toArray, List.set_cons_zero, List.set_cons_succ]
        refine wpSeq_take (v := ?_) 71 rfl rfl (fun _ _ _ h => h) (Or.inl ⟨rfl, ?_⟩) ?_
        rotate_left 1
        · (intro w9 h9; go_simp; try with_reducible rfl)
        simp only [List.setIfInBounds_toArray, List.set_cons_zero, List.set_cons_succ]
        refine wpSeq_take (v := ?_) 72 rfl rfl (fun _ _ _ h => h) (Or.inl ⟨rfl, ?_⟩) ?_
        rotate_left 1
        · (intro w9 h9; go_simp; try with_reducible rfl)
        simp only [List.setIfInBounds_toArray, List.set_cons_zero, List.set_cons_succ]
        refine wpSeq_next rfl rfl (fun K hK => ?_)
        go_wp2_with fail
        refine (Long_any (hL7.no hv2).st).mono ?_
        rintro e w' ⟨rfl, rfl⟩
        refine hK.out _ _ (fun _ => hv2) ?_
        clear hK K
        refine wpSeq_take (v := ?_) 73 rfl rfl (fun _ _ _ h => h) (Or.inl ⟨rfl, ?_⟩) ?_
        rotate_left 1
        · (intro w9 h9; go_simp; try with_reducible rfl)
        simp only [List.setIfInBounds_toArray, List.set_cons_zero, List.set_cons_succ]
        refine wpSeq_take (v := ?_) 74 rfl rfl (fun _ _ _ h => h) (Or.inl ⟨rfl, ?_⟩) ?_
        rotate_left 1
        · (intro w9 h9; go_simp; try with_reducible rfl)
        simp only [List.setIfInBounds_toArray, List.set_cons_zero, List.set_cons_succ]
        refine wpSeq_done ?_
        have hL8 := hL7.no hv2
        have ho8 := ho7.no hv2
        have hap8 : ∀ x, (Value.slice (some ⟨g, 0, none⟩) vs.length cv).ownBlock = some x → ¬ Foot sb tv6 x ∧ x < xhv2.heap.size := fun x hx => ⟨(hap7 x hx).1, Nat.lt_of_lt_of_le (hap7 x hx).2 hv2.size⟩
        clear hL7 ho7 hap7 hQ hbq7 cq0 cq1 cb0 cb1 hv0 hv1
        go_wp2_with fail
        go_roundw
        case rel => exact ⟨k + 1, tv6, by omega, by simp, by rw [hz.out], by rw [HR.out, ← hz.out]; exact hL8, ho8, hap8⟩
        case measure => simp [intOf]; omega
      · go_wp2_with fail
        have hv1 : Fr No w6 (w6.drew.alloc (.cells #[.int .u64 0, .int .i64 0] 27)) := hv0.alloc _
        have hZ : (w6.drew.alloc (.cells #[.int .u64 0, .int .i64 0] 27)).heap[w6.heap.size]? = some (.cells #[.int .u64 0, .int .i64 0] 27 (0, 0)) := heap_alloc_new w6.drew _
        refine hK.out _ _ (fun _ => hv1) ?_
        clear hK K
        refine wpLate_seg [(5, 0), (6, 1), (7, 1), (8, 1), (10, 0), (11, 1)] 0 (Array.replicate 12 true) (by kernel_rfl) rfl hv1 ?_
        have hZh := Lib.hid (fun (w' : World) (k : Fr No (w6.drew.alloc (.cells #[.int .u64 0, .int .i64 0] 27)) w') => k.heap (fun h => h) hZ)
        clear hZ
        refine wpSeq_next rfl rfl (fun K hK => ?_)
        go_wp2_with fail
        refine (refFold_any sz size f _ _ _ (done xs (k + 1)) _ h1 h2 hsz (hyz.no hv1) (by omega)).mono ?_
        rw [HR.out]
        rintro e xhv2 ⟨aq, nq, cq, rfl, hbq, hst, hfold⟩
        have hv2 := hv1.no hfold
        have hbo := Lib.hid (fun w' (k : Fr No w6 w') => hst w' (hyz.no k))
        clear hst
        refine hK.out _ _ (fun _ => hv2) ?_
        clear hK K
        refine wpSeq_take (v := ?_) 48 rfl rfl (fun _ _ _ h => h) (Or.inl ⟨rfl, ?_⟩) ?_
        rotate_left 1
        · (intro w9 h9; go_simp; try with_reducible rfl)
        simp only [List.setIfInBounds_toArray, List.set_cons_zero, List.set_cons_succ]
        refine wpSeq_take (v := ?_) 55 rfl rfl (fun _ _ _ h => h) (Or.inl ⟨rfl, ?_⟩) ?_
        rotate_left 1
        · (intro w9 h9; go_simp; try with_reducible rfl)
        simp only [List.setIfInBounds_toArray, List.set_cons_zero, List.set_cons_succ]
        refine wpSeq_take (v := ?_) 56 rfl rfl (fun _ _ _ h => h) (Or.inl ⟨rfl, ?_⟩) ?_
        rotate_left 1
        · (intro w9 h9; go_simp; try with_reducible rfl)
        simp only [List.setIfInBounds_toArray, List.set_cons_zero, List.set_cons_succ]
        have hZ2 := hZh.out _ hfold
        have cz0 : xhv2.cell? ⟨w6.heap.size, 0, none⟩ = some (.int .u64 0) := by rw [cell_of_row _ _ 0 _ _ _ hZ2]; rfl
        have cz1 : xhv2.cell? ⟨w6.heap.size, 1, none⟩ = some (.int .i64 0) := by rw [cell_of_row _ _ 1 _ _ _ hZ2]; rfl
        have fz0 := frozen_of_row xhv2 w6.heap.size 0 _ _ hZ2
        have fz1 := frozen_of_row xhv2 w6.heap.size 1 _ _ hZ2
        refine wpSeq_next rfl rfl (fun K hK => ?_)
        go_wp2_with fail
        have hvB : Fr No w6 ((xhv2.setCell ⟨w6.heap.size, 0, none⟩ (cS r.1 0)).setCell ⟨w6.heap.size, 1, none⟩ (cS r.1 1)) := (hv2.setCell (p := ⟨w6.heap.size, 0, none⟩) (.inr (Nat.le_refl _)) _).setCell (p := ⟨w6.heap.size, 1, none⟩) (.inr (Nat.le_refl _)) _
        refine hK.out _ _ (fun _ => hvB) ?_
        clear hK K
        refine wpSeq_take (v := ?_) 15 rfl rfl (fun _ _ _ h => h) (Or.inl ⟨rfl, ?_⟩) ?_
        rotate_left 1
        · (intro w9 h9; go_simp; try with_reducible rfl)
        simp only [List.setIfInBounds_toArray, List.set_cons_zero, List.set_cons_succ]
        refine wpSeq_done ?_
        refine wpLate_done (by kernel_rfl) ?_ _
        have hQ : BoxAt ((xhv2.setCell ⟨w6.heap.size, 0, none⟩ (cS r.1 0)).setCell ⟨w6.heap.size, 1, none⟩ (cS r.1 1)) w6.heap.size r.1 := by
          unfold BoxAt
          rw [heap_setCell_same _ _ _ _ _ _ (heap_setCell_same _ _ _ _ _ _ hZ2)]; rfl
        have hbq7 := hbo.out _ hvB
        obtain ⟨rb, hrb⟩ : ∃ rb, rb = w6.heap.size := ⟨_, rfl⟩
        rw [← hrb] at hQ hvB hbq7 ⊢
        clear hrb
        generalize (xhv2.setCell ⟨rb, 0, none⟩ (cS r.1 0)).setCell ⟨rb, 1, none⟩ (cS r.1 1) = w7 at hQ hbq7 hvB ⊢
        clear hbq hv2 hv1 hv0 hZh hZ2 cz0 cz1 fz0 fz1 hfold
        have hL7 := hL6.no hvB
        have ho7 := ho6.no hvB
        have hap7 : ∀ x, (Value.slice (some ⟨g, 0, none⟩) vs.length cv).ownBlock = some x → ¬ Foot sb tv6 x ∧ x < w7.heap.size := fun x hx => ⟨(hap6 x hx).1, Nat.lt_of_lt_of_le (hap6 x hx).2 hvB.size⟩
        clear hL6 ho6 hap6 hvB hbo
        have cq0 : w7.cell? ⟨rb, 0, none⟩ = some (cS r.1 0) := hQ.cell 0 rfl
        have cq1 : w7.cell? ⟨rb, 1, none⟩ = some (cS r.1 1) := hQ.cell 1 rfl
        go_wp2_with fail
        refine wp_region_seq (by kernel_rfl) (fun w' => Fr No w7 w') (fun _ => false) [(0, 1), (2, 1), (1, 0), (3, 1), (4, 1), (5, 1), (7, 1), (6, 0), (8, 0), (9, 1), (10, 1), (11, 1), (12, 1), (14, 1), (15, 1), (13, 0), (16, 1), (17, 1)] (by kernel_rfl) (Fr.refl No w7).drew ?_
        have hv0 : Fr No w7 w7.drew := (Fr.refl No w7).drew
        refine wpSeq_take (v := ?_) 57 rfl rfl (fun _ _ _ h => h) (Or.inl ⟨rfl, ?_⟩) ?_
        rotate_left 1
        · (intro w9 h9; go_simp; try with_reducible rfl)
        simp only [List.setIfInBounds_toArray, List.set_cons_zero, List.set_cons_succ]
        refine wpSeq_take (v := ?_) 59 rfl rfl (fun _ _ _ h => h) (Or.inl ⟨rfl, ?_⟩) ?_
        rotate_left 1
        · (intro w9 h9; have cc0 := h9.cell (fun h => h) cq0; have cc1 := h9.cell (fun h => h) cq1; clear h9; go_simp; try with_reducible rfl)
        simp only [List.setIfInBounds_toArray, List.set_cons_zero, List.set_cons_succ]
        refine wpSeq_next rfl rfl (fun K hK => ?_)
        go_wp2_with fail
        refine (State_any (hL7.no hv0).st).mono ?_
        rintro e xhv1 ⟨rfl, hx⟩
        have hv1 := hv0.no hx
        clear hx
        refine hK.out _ _ (fun _ => hv1) ?_
        clear hK K
        refine wpSeq_take (v := ?_) 60 rfl rfl (fun _ _ _ h => h) (Or.inl ⟨rfl, ?_⟩) ?_
        rotate_left 1
        · (intro w9 h9; simp only [cS0, cS1]; go_simp; try with_reducible rfl)
        simp only [List.setIfInBounds_toArray, List.set_cons_zero, List.set_cons_succ]
        refine wpSeq_take (v := ?_) 61 rfl rfl (fun _ _ _ h => h) (Or.inl ⟨rfl, ?_⟩) ?_
        rotate_left 1
        · (intro w9 h9; go_simp; try with_reducible rfl)
        simp only [List.setIfInBounds_toArray, List.set_cons_zero, List.set_cons_succ]
        refine wpSeq_take (v := ?_) 62 rfl rfl (fun _ _ _ h => h) (Or.inl ⟨rfl, ?_⟩) ?_
        rotate_left 1
        · (intro w9 h9; go_simp; try with_reducible rfl)
        simp only [List.setIfInBounds_toArray, List.set_cons_zero, List.set_cons_succ]
        refine wpSeq_take (v := ?_) 64 rfl rfl (fun _ _ _ h => h) (Or.inl ⟨rfl, ?_⟩) ?_
        rotate_left 1
        · (intro w9 h9; go_simp; try with_reducible rfl)
        simp only [List.setIfInBounds_toArray, List.set_cons_zero, List.set_cons_succ]
        refine wpSeq_next rfl rfl (fun K hK => ?_)
        go_wp2_with fail
        refine (Tail_any (hL7.no hv1).st (hL7.no hv1).ow (by omega)).mono ?_
        rintro e xhv2 ⟨vt, rfl, ho, hx⟩
        have hv2 := hv1.no hx
        obtain ⟨at_, ct, rfl, hbt, _⟩ := ho.bytes
        clear hx ho
        refine hK.out _ _ (fun _ => hv2) ?_
        clear hK K
        refine wpSeq_next rfl rfl (fun K hK => ?_)
        go_wp2_with fail
        refine (refSame_any _ _ _ r.2 _ _ _ r.2 _ hbt (hbq7.no hv2)).mono ?_
        rintro e w' ⟨rfl, rfl⟩
        rw [BEq.rfl]
        refine hK.out _ _ (fun _ => hv2) ?_
        clear hK K
        refine wpSeq_take (v := ?_) 66 rfl rfl (fun _ _ _ h => h) (Or.inl ⟨rfl, ?_⟩) ?_
        rotate_left 1
        · (intro w9 h9; go_simp; try with_reducible rfl)
        simp only [List.setIfInBounds_toArray, List.set_cons_zero, List.set_cons_succ]
        refine wpSeq_take (v := ?_) 67 rfl rfl (fun _ _ _ h => h) (Or.inl ⟨rfl, ?_⟩) ?_
        rotate_left 1
        · (intro w9 h9; go_simp; try with_reducible rfl)
        simp only [List.setIfInBounds_toArray, List.set_cons_zero, List.set_cons_succ]
        refine wpSeq_take (v := ?_) 68 rfl rfl (fun _ _ _ h => h) (Or.inl ⟨rfl, ?_⟩) ?_
        rotate_left 1
        · (intro w9 h9; go_simp; try with_reducible rfl)
        simp only [List.setIfInBounds_toArray, List.set_cons_zero, List.set_cons_succ]
        refine wpSeq_take (v := ?_) 69 rfl rfl (fun _ _ _ h => h) (Or.inl ⟨rfl, ?_⟩) ?_
        rotate_left 1
        · (intro w9 h9; go_simp; try with_reducible rfl)
        simp only [List.setIfInBounds_toArray, List.set_cons_zero, List.set_cons_succ]
        refine wpSeq_take (v := ?_) 71 rfl rfl (fun _ _ _ h => h) (Or.inl ⟨rfl, ?_⟩) ?_
        rotate_left 1
        · (intro w9 h9; go_simp; try with_reducible rfl)
        simp only [List.setIfInBounds_toArray, List.set_cons_zero, List.set_cons_succ]
        refine wpSeq_take (v := ?_) 72 rfl rfl (fun _ _ _ h => h) (Or.inl ⟨rfl, ?_⟩) ?_
        rotate_left 1
        · (intro w9 h9; go_simp; try with_reducible rfl)
        simp only [List.setIfInBounds_toArray, List.set_cons_zero, List.set_cons_succ]
        refine wpSeq_next rfl rfl (fun K hK => ?_)
        go_wp2_with fail
        refine (Long_any (hL7.no hv2).st).mono ?_
        rintro e w' ⟨rfl, rfl⟩
        refine hK.out _ _ (fun _ => hv2) ?_
        clear hK K
        refine wpSeq_take (v := ?_) 73 rfl rfl (fun _ _ _ h => h) (Or.inl ⟨rfl, ?_⟩) ?_
        rotate_left 1
        · (intro w9 h9; go_simp; try with_reducible rfl)
        simp only [List.setIfInBounds_toArray, List.set_cons_zero, List.set_cons_succ]
        refine wpSeq_take (v := ?_) 74 rfl rfl (fun _ _ _ h => h) (Or.inl ⟨rfl, ?_⟩) ?_
        rotate_left 1
        · (intro w9 h9; go_simp; try with_reducible rfl)
        simp only [List.setIfInBounds_toArray, List.set_cons_zero, List.set_cons_succ]
        refine wpSeq_done ?_
        have hL8 := hL7.no hv2
        have ho8 := ho7.no hv2
        have hap8 : ∀ x, (Value.slice (some ⟨g, 0, none⟩) vs.length cv).ownBlock = some x → ¬ Foot sb tv6 x ∧ x < xhv2.heap.size := fun x hx => ⟨(hap7 x hx).1, Nat.lt_of_lt_of_le (hap7 x hx).2 hv2.size⟩
        clear hL7 ho7 hap7 hQ hbq7 cq0 cq1 cb0 cb1 hv0 hv1
        go_wp2_with fail
        go_roundw
        case rel => exact ⟨k + 1, tv6, by omega, by simp, by rw [hz.out], by rw [HR.out, ← hz.out]; exact hL8, ho8, hap8⟩
        case measure => simp [intOf]; omega
    · have i3 : ¬ (k : Int) < (vs.length : Int) := by omega
      have hda : done xs k = l1 := by rw [done_all xs k (by have := HX.out; omega)]; exact HF.out
      rw [hda] at hL
      clear hda hap ho
      have q4 := foldF_lt (F := stepG) hz1 f l1
      generalize hr : foldF stepG size f l1 = r at hL q4
      have HR := Lib.hid hr
      clear hr
      have hB6 := hB0.fr hL.fr (fun h => h)
      have cb0 : wr.cell? ⟨pb, 0, none⟩ = some (cS f 0) := hB6.cell 0 rfl
      have cb1 : wr.cell? ⟨pb, 1, none⟩ = some (cS f 1) := hB6.cell 1 rfl
      clear hB6
      go_wp2_with fail
      refine (Fold_any (fun _ => True) stepG sz size f 0 _ _ _ l1 _ (fun _ _ => trivial) (steps28 size hz2) h1 h2 hsz (hB1.no hL.fr) (by omega)).mono ?_
      rw [HR.out]
      rintro e w7 ⟨vz, rfl, hoz, hf7⟩
      obtain ⟨az, cz, rfl, hbz7, _⟩ := hoz.bytes
      have hL7 := hL.no hf7
      have hQ : BoxAt (w7.alloc (.cells #[cS r.1 0, cS r.1 1] 27)) w7.heap.size r.1 := heap_alloc_new _ _
      have hL8 := hL7.no ((Fr.refl No w7).alloc (.cells #[cS r.1 0, cS r.1 1] 27))
      have hbz := hbz7.no ((Fr.refl No w7).alloc (.cells #[cS r.1 0, cS r.1 1] 27))
      clear hL hf7 hL7 hbz7 hoz cb0 cb1
      go_wp2_with fail
      generalize w7.heap.size = rb at hQ ⊢
      generalize w7.alloc (.cells #[cS r.1 0, cS r.1 1] 27) = w8 at hQ hL8 hbz ⊢
      have ca0 : w8.cell? ⟨rb, 0, none⟩ = some (cS r.1 0) := hQ.cell 0 rfl
      have ca1 : w8.cell? ⟨rb, 1, none⟩ = some (cS r.1 1) := hQ.cell 1 rfl
      refine wp_region_seq (by kernel_rfl) (fun w' => Fr No w8 w') (fun _ => false) [(0, 1), (1, 1), (2, 0), (3, 1), (4, 1), (5, 1), (6, 1), (7, 0), (8, 0), (9, 1), (10, 1)] (by kernel_rfl) (Fr.refl No w8).drew ?_
      have hv0 : Fr No w8 w8.drew := (Fr.refl No w8).drew
      refine wpSeq_take (v := ?_) 83 rfl rfl (fun _ _ _ h => h) (Or.inl ⟨rfl, ?_⟩) ?_
      rotate_left 1
      · (intro w9 h9; have cc0 := h9.cell (fun h => h) ca0; have cc1 := h9.cell (fun h => h) ca1; clear h9; go_simp; try with_reducible rfl)
      simp only [List.setIfInBounds_toArray, List.set_cons_zero, List.set_cons_succ]
      refine wpSeq_take (v := ?_) 84 rfl rfl (fun _ _ _ h => h) (Or.inl ⟨rfl, ?_⟩) ?_
      rotate_left 1
      · (intro w9 h9; go_simp; try with_reducible rfl)
      simp only [List.setIfInBounds_toArray, List.set_cons_zero, List.set_cons_succ]
      refine wpSeq_next rfl rfl (fun K hK => ?_)
      go_wp2_with fail
      refine (State_any (hL8.no hv0).st).mono ?_
      rintro e xhv1 ⟨rfl, hx⟩
      have hv1 := hv0.no hx
      clear hx
      refine hK.out _ _ (fun _ => hv1) ?_
      clear hK K
      refine wpSeq_take (v := ?_) 86 rfl rfl (fun _ _ _ h => h) (Or.inl ⟨rfl, ?_⟩) ?_
      rotate_left 1
      · (intro w9 h9; simp only [cS0, cS1]; go_simp; try with_reducible rfl)
      simp only [List.setIfInBounds_toArray, List.set_cons_zero, List.set_cons_succ]
      refine wpSeq_take (v := ?_) 87 rfl rfl (fun _ _ _ h => h) (Or.inl ⟨rfl, ?_⟩) ?_
      rotate_left 1
      · (intro w9 h9; go_simp; try with_reducible rfl)
      simp only [List.setIfInBounds_toArray, List.set_cons_zero, List.set_cons_succ]
      refine wpSeq_take (v := ?_) 88 rfl rfl (fun _ _ _ h => h) (Or.inl ⟨rfl, ?_⟩) ?_
      rotate_left 1
      · (intro w9 h9; go_simp; try with_reducible rfl)
      simp only [List.setIfInBounds_toArray, List.set_cons_zero, List.set_cons_succ]
      refine wpSeq_take (v := ?_) 89 rfl rfl (fun _ _ _ h => h) (Or.inl ⟨rfl, ?_⟩) ?_
      rotate_left 1
      · (intro w9 h9; go_simp; try with_reducible rfl)
      simp only [List.setIfInBounds_toArray, List.set_cons_zero, List.set_cons_succ]
      refine wpSeq_next rfl rfl (fun K hK => ?_)
      go_wp2_with fail
      refine (Tail_any (hL8.no hv1).st (hL8.no hv1).ow (by omega)).mono ?_
      rintro e xhv2 ⟨vt, rfl, ho, hx⟩
      have hv2 := hv1.no hx
      obtain ⟨at_, ct, rfl, hbt, _⟩ := ho.bytes
      clear hx ho
      refine hK.out _ _ (fun _ => hv2) ?_
      clear hK K
      refine wpSeq_next rfl rfl (fun K hK => ?_)
      go_wp2_with fail
      refine (refSame_any _ _ _ r.2 _ _ _ r.2 _ (hbz.no hv2) hbt).mono ?_
      rintro e w' ⟨rfl, rfl⟩
      rw [BEq.rfl]
      refine hK.out _ _ (fun _ => hv2) ?_
      clear hK K
      refine wpSeq_take (v := ?_) 92 rfl rfl (fun _ _ _ h => h) (Or.inl ⟨rfl, ?_⟩) ?_
      rotate_left 1
      · (intro w9 h9; go_simp; try with_reducible rfl)
      simp only [List.setIfInBounds_toArray, List.set_cons_zero, List.set_cons_succ]
      refine wpSeq_take (v := ?_) 8 rfl rfl (fun _ _ _ h => h) (Or.inl ⟨rfl, ?_⟩) ?_
      rotate_left 1
      · (intro w9 h9; go_simp; try with_reducible rfl)
      simp only [List.setIfInBounds_toArray, List.set_cons_zero, List.set_cons_succ]
      refine wpSeq_done ?_
      go_wp2_with fail
      go_ret
      exact ⟨rfl, hfB.no (hL8.fr.no hv2)⟩
end Go.Proofs.Ythjpnkjbkkeoaaa.StS28
