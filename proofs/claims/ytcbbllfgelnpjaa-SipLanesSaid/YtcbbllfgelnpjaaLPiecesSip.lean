/- SipPieces' walk. -/
import Derived.Test.YtcbbllfgelnpjaaAllSip
namespace Go.Proofs.Ytcbbllfgelnpjaa.StSip
set_option linter.unusedVariables false
set_option linter.unusedSimpArgs false
open Go.RowKit

theorem OwnsSl.fr {F : Nat → Prop} {w w' : World} {base : Nat} {v : Value} {vs : List Value} (h : OwnsSl w base v vs) (k : Fr F w w') (hF : ∀ x, v.ownBlock = some x → ¬ F x) : OwnsSl w' base v vs := by
  refine ⟨h.1, ?_⟩
  rcases h.2 with hn | ⟨g, cap, cur, rfl, hb, hg, r⟩
  · exact .inl hn
  · exact .inr ⟨g, cap, cur, rfl, hb, k.heap (hF g rfl) hg, r⟩
/-- What was written behind k pieces. -/
def done (xs : List Bytes) (k : Nat) : Bytes := (xs.take k).flatten
theorem done_next (xs : List Bytes) (k : Nat) (h : k < xs.length) : done xs (k + 1) = done xs k ++ xs.getD k [] := by
  unfold done
  rw [List.take_succ_eq_append_getElem h, List.flatten_append, List.getD_eq_getElem?_getD, List.getElem?_eq_getElem h]
  simp
theorem done_take (xs : List Bytes) (k : Nat) : done xs k = xs.flatten.take (done xs k).length := by
  unfold done
  conv => rhs; rw [← List.take_append_drop k xs, List.flatten_append]
  simp
theorem done_le (xs : List Bytes) (k : Nat) : (done xs k).length ≤ xs.flatten.length := by
  rw [done_take xs k]; simp
  omega
theorem done_all (xs : List Bytes) (k : Nat) (h : xs.length ≤ k) : done xs k = xs.flatten := by unfold done; rw [List.take_of_length_le h]
/-- At the head of the law's loop. -/
def LawAt (w0 : World) (hb sb : Nat) (kd : Int) (kh kl : BitVec 64) (v : Value) (base : Nat) (vs : List Value) (xs : List Bytes) (long i : Value) (wr : World) (k : Nat) : Prop :=
  ∃ tv, k ≤ vs.length ∧ i = .int .i64 k ∧ long = .int .i64 ((done xs k).length : Nat) ∧ HAll w0 wr hb sb kd kh kl (done xs k) tv ∧ OwnsSl wr base v vs ∧ ∀ x, v.ownBlock = some x → ¬ HFoot hb sb tv x ∧ x < wr.heap.size
set_option maxHeartbeats 1000000 in
theorem SipPieces_long (kd : Int) (kh kl : BitVec 64) (a1 : Option Addr) (n1 c1 : Nat) (l1 : Bytes) (a2 : Option Addr) (n2 c2 : Nat) (l2 : List Int) (w : World) (h : 600 < n1 ∨ 30 < n2 ∨ ¬ IsK kd) : Calls Try.prog 4 #[.int .i64 kd, .agg #[.int .u64 (W64 kh), .int .u64 (W64 kl)], .slice a1 n1 c1, .slice a2 n2 c2] w (Yes w) := by
  have hfa : Fr No w (w.alloc (.cells #[.int .u64 (W64 kh), .int .u64 (W64 kl)] 24)) := (Fr.refl No w).alloc _
  have hK := row2_new w 24 (.int .u64 (W64 kh)) (.int .u64 (W64 kl))
  go_enter Try.func4, Try.ntmps4
  go_wp2_with fail
  generalize w.heap.size = pb at hK ⊢
  generalize w.alloc (.cells #[.int .u64 (W64 kh), .int .u64 (W64 kl)] 24) = wa at hfa hK ⊢
  refine (awake_yes _).mono ?_
  rintro e w1 ⟨rfl, hf1⟩
  clear hK
  by_cases h1 : 600 < n1
  · have i1 : (600 : Int) < (n1 : Int) := by omega
    clear h h1
    go_wp2_with fail
    go_ret
    exact ⟨rfl, hfa.no hf1⟩
  · have i1 : (n1 : Int) ≤ 600 := by omega
    by_cases h2 : 30 < n2
    · have i2 : (30 : Int) < (n2 : Int) := by omega
      clear h h1 h2
      go_wp2_with fail
      go_ret
      exact ⟨rfl, hfa.no hf1⟩
    · have i2 : (n2 : Int) ≤ 30 := by omega
      have hk : ¬ IsK kd := h.resolve_left h1 |>.resolve_left h2
      clear h h1 h2
      go_wp2_with fail
      refine (refIs_no kd hk _).mono ?_
      rintro e w' ⟨rfl, rfl⟩
      go_wp2_with fail
      go_ret
      exact ⟨rfl, hfa.no hf1⟩
set_option maxHeartbeats 4000000 in
theorem SipPieces_yes (kd : Int) (kh kl : BitVec 64) (a1 : Option Addr) (n1 c1 : Nat) (l1 : Bytes) (a2 : Option Addr) (n2 c2 : Nat) (l2 : List Int) (w : World) (hb1 : IsBytes w a1 n1 c1 l1) (hb2 : IsInts w a2 n2 c2 l2) :
    Calls Try.prog 4 #[.int .i64 kd, .agg #[.int .u64 (W64 kh), .int .u64 (W64 kl)], .slice a1 n1 c1, .slice a2 n2 c2] w (Yes w) := by
  obtain ⟨oh, ol, eh, el, hfg⟩ := tells_ex
  by_cases hbig : 600 < n1 ∨ 30 < n2 ∨ ¬ IsK kd
  · exact SipPieces_long kd kh kl a1 n1 c1 l1 a2 n2 c2 l2 w hbig
  have i1 : (n1 : Int) ≤ 600 := by omega
  have i2 : (n2 : Int) ≤ 30 := by omega
  have m1 : n1 ≤ 600 := by omega
  have m2 : n2 ≤ 30 := by omega
  have hk : IsK kd := by by_cases h : IsK kd; exact h; exact absurd (.inr (.inr h)) hbig
  have nc1 : n1 ≤ c1 := hb1.2.1
  have nc2 : c1 ≤ 9223372036854775807 := hb1.2.2.1
  have HLn := Lib.hid hb1.1
  clear hbig
  have hfa : Fr No w (w.alloc (.cells #[.int .u64 (W64 kh), .int .u64 (W64 kl)] 24)) := (Fr.refl No w).alloc _
  have hK := row2_new w 24 (.int .u64 (W64 kh)) (.int .u64 (W64 kl))
  go_enter Try.func4, Try.ntmps4
  go_wp2_with fail
  generalize w.heap.size = pb at hK ⊢
  generalize w.alloc (.cells #[.int .u64 (W64 kh), .int .u64 (W64 kl)] 24) = wa at hfa hK ⊢
  refine (awake_yes _).mono ?_
  rintro e w1 ⟨rfl, hf1⟩
  replace hb1 := hb1.no hfa
  replace hb2 := hb2.no hfa
  go_wp2_with fail
  refine (refIs_yes kd hk _).mono ?_
  rintro e w' ⟨rfl, rfl⟩
  have u0 := (hK.no hf1).c0
  have u1 := (hK.no hf1).c1
  go_wp2_with fail
  refine (New_all kd kh kl hk wa w1 hf1).mono ?_
  rintro e w2 ⟨hb, sb, rfl, _, _, hL2, _⟩
  have hK2 := hK.no hL2.fr
  clear u0 u1
  go_upto_region 6 with fail
  refine wp_region_seq (by kernel_rfl) (fun w' => Fr No w2 w') (fun _ => false) [(0, 1), (1, 1), (2, 1), (3, 1), (5, 1), (6, 1), (4, 0), (7, 0), (8, 1), (9, 1)] (by kernel_rfl) (Fr.refl No w2).drew ?_
  have hv0 : Fr No w2 w2.drew := (Fr.refl No w2).drew
  refine wpSeq_take (v := ?_) 31 rfl rfl (fun _ _ _ h => h) (Or.inl ⟨rfl, ?_⟩) ?_
  rotate_left 1
  · (intro w9 h9; go_simp; try with_reducible rfl)
  simp only [List.setIfInBounds_toArray, List.set_cons_zero, List.set_cons_succ]
  refine wpSeq_take (v := ?_) 32 rfl rfl (fun _ _ _ h => h) (Or.inl ⟨rfl, ?_⟩) ?_
  rotate_left 1
  · (intro w9 h9; go_simp; try with_reducible rfl)
  simp only [List.setIfInBounds_toArray, List.set_cons_zero, List.set_cons_succ]
  refine wpSeq_take (v := ?_) 33 rfl rfl (fun _ _ _ h => h) (Or.inl ⟨rfl, ?_⟩) ?_
  rotate_left 1
  · (intro w9 h9; go_simp; try with_reducible rfl)
  simp only [List.setIfInBounds_toArray, List.set_cons_zero, List.set_cons_succ]
  refine wpSeq_take (v := ?_) 34 rfl rfl (fun _ _ _ h => h) (Or.inl ⟨rfl, ?_⟩) ?_
  rotate_left 1
  · (intro w9 h9; go_simp; try with_reducible rfl)
  simp only [List.setIfInBounds_toArray, List.set_cons_zero, List.set_cons_succ]
  refine wpSeq_take (v := ?_) 36 rfl rfl (fun _ _ _ h => h) (Or.inl ⟨rfl, ?_⟩) ?_
  rotate_left 1
  · (intro w9 h9; go_simp; try with_reducible rfl)
  simp only [List.setIfInBounds_toArray, List.set_cons_zero, List.set_cons_succ]
  refine wpSeq_take (v := ?_) 37 rfl rfl (fun _ _ _ h => h) (Or.inl ⟨rfl, ?_⟩) ?_
  rotate_left 1
  · (intro w9 h9; have u0 := (hK2.no h9).c0; have u1 := (hK2.no h9).c1; clear h9; go_simp; try with_reducible rfl)
  simp only [List.setIfInBounds_toArray, List.set_cons_zero, List.set_cons_succ]
  refine wpSeq_next rfl rfl (fun K hK => ?_)
  go_wp2_with fail
  refine (Sum_all (hL2.no hv0)).mono ?_
  rintro e xhv1 ⟨rfl, hx⟩
  rw [← hfg.out.1, ← hfg.out.2.1]
  have hv1 := hv0.no hx
  clear hx
  refine hK.out _ _ (fun _ => hv1) ?_
  clear hK K
  refine wpSeq_next rfl rfl (fun K hK => ?_)
  go_wp2_with fail
  refine (refOne_any kd kh kl none 0 0 [] _ (IsBytes.nil _) (by omega)).mono ?_
  rintro e xhv2 ⟨rfl, hx⟩
  rw [← hfg.out.1, ← hfg.out.2.1]
  have hv2 := hv1.no hx
  clear hx
  refine hK.out _ _ (fun _ => hv2) ?_
  clear hK K
  refine wpSeq_take (v := ?_) 39 rfl rfl (fun _ _ _ h => h) (Or.inl ⟨rfl, ?_⟩) ?_
  rotate_left 1
  · (intro w9 h9; go_simp; try with_reducible rfl)
  simp only [List.setIfInBounds_toArray, List.set_cons_zero, List.set_cons_succ]
  refine wpSeq_take (v := ?_) 40 rfl rfl (fun _ _ _ h => h) (Or.inl ⟨rfl, ?_⟩) ?_
  rotate_left 1
  · (intro w9 h9; go_simp; try with_reducible rfl)
  simp only [List.setIfInBounds_toArray, List.set_cons_zero, List.set_cons_succ]
  refine wpSeq_done ?_
  have hL4 := hL2.no hv2
  clear hL2 hK2 hv2 hv0 hv1
  go_wp2_with fail
  refine (refPieces_any _ _ _ l1 _ _ _ l2 _ (hb1.no hL4.fr) (hb2.no hL4.fr) (by omega)).mono ?_
  rintro e w5 ⟨v, vs, xs, rfl, ho5, hf5, hall, hflat, _⟩
  have hL5 := hL4.no hf5
  obtain ⟨av, cv, rfl, hvc, hvm, _⟩ := ho5.slice
  have hap5 : ∀ x, (Value.slice av vs.length cv).ownBlock = some x → ¬ HFoot hb sb (.slice none 0 0) x ∧ x < w5.heap.size := fun x hx => ⟨fun g => by have := hL4.lt x g; have := ho5.lt x hx; omega, (World.ownsRow.lt ho5 x hx).2⟩
  have hLaw : LawAt wa hb sb kd kh kl (.slice av vs.length cv) xhv2.heap.size vs xs (.int .i64 0) (.int .i64 0) w5 0 := ⟨_, by omega, rfl, rfl, hL5, ho5, hap5⟩
  have HF := Lib.hid hflat
  have HX := Lib.hid hall.1
  have hp := hall.2
  have HP := Lib.hid hp
  generalize xhv2.heap.size = base at hLaw
  clear hL4 hf5 hL5 ho5 hap5 hall hflat hp hb2 hf1
  go_wp2_with fail
  go_loopw [10, 45] (fun long i wr => ∃ k, LawAt wa hb sb kd kh kl (.slice av vs.length cv) base vs xs long i wr k) (fun _ i _ => vs.length - (intOf i).toNat)
  case atStart => exact ⟨0, hLaw⟩
  case round =>
    obtain ⟨k, tv, hk2, rfl, rfl, hL, ho, hap⟩ := hrel
    clear hLaw
    by_cases hlt : k < vs.length
    · have i3 : (k : Int) < (vs.length : Int) := by omega
      obtain ⟨a', n', c', hv, hn', hpc⟩ := HP.out k hlt
      obtain ⟨a0, c0, he, _, _, hcell⟩ := ho.slice
      cases he
      obtain ⟨g, rfl, hg, hcg⟩ := hcell k hlt
      rw [hv] at hcg
      have hy := hpc _ hb1
      have hd := done_next xs k (by have := HX.out; omega)
      have hdle := done_le xs (k + 1)
      have hdt := Lib.hid (done_take xs (k + 1))
      have HD := Lib.hid hd
      have hxl := hy.1
      have hdl : (done xs (k + 1)).length = (done xs k).length + n' := by rw [hd, List.length_append, hxl]
      have hm : (done xs (k + 1)).length ≤ n1 := by have h1 := HF.out; have h2 := HLn.out; rw [h1, h2] at hdle; exact hdle
      clear hd hdle hv hxl hcell hg
      obtain ⟨z, hz⟩ : ∃ z, Hid (z = (done xs (k + 1)).length) := ⟨_, rfl⟩
      have e1 : ((done xs k).length : Int) + (n' : Int) = (z : Int) := by have := hz.out; omega
      have z1 : z ≤ n1 := by have := hz.out; omega
      have z2 : (z : Int) ≤ (c1 : Int) := by omega
      clear hdl hm
      go_wp2_with fail
      refine (Write_all hL _ _ _ (xs.getD k []) (hy.no hL.fr) ((hy.no (Fr.refl No wa)).old (fun x g => hL.above x (.inr g))) (by omega)).mono ?_
      rw [← HD.out]
      rintro e w6 ⟨rfl, tv6, hL6, hf6, hk6⟩
      have ho6 := OwnsSl.fr ho hf6 (fun x hx g => (hap x hx).1 (.inr g))
      have hap6 : ∀ x, (Value.slice (some ⟨g, 0, none⟩) vs.length cv).ownBlock = some x → ¬ HFoot hb sb tv6 x ∧ x < w6.heap.size := fun x hx => by
        have h0 := hap x hx
        have h1 := hf6.size
        refine ⟨fun q => ?_, by omega⟩
        rcases q with q | q | q
        · exact h0.1 (.inl q)
        · exact h0.1 (.inr (.inl q))
        · rcases hk6 with e | e
          · exact h0.1 (.inr (.inr (by rw [← e]; exact q)))
          · have := e x q; omega
      clear hL ho hap hf6 hk6 hcg
      have hK6 := hK.no hL6.fr
      go_upto_region 14 with fail
      have hyz := (hb1.no hL6.fr).head z c1 (n' := z) (c' := c1) z1 (by omega) (Nat.le_refl _) rfl rfl
      have HY : Hid (l1.take z = done xs (k + 1)) := by have h1 := hdt.out; have h2 := HF.out; have h3 := hz.out; show _ = _; rw [h2, ← h3] at h1; exact h1.symm
      rw [HY.out] at hyz
      refine wp_region_seq (by kernel_rfl) (fun w' => Fr No w6 w') (fun _ => false) [(0, 1), (2, 1), (3, 1), (4, 1), (5, 1), (6, 1), (1, 0), (7, 0), (8, 1), (9, 1), (10, 1), (12, 1), (11, 0), (13, 0), (14, 1), (15, 1)] (by kernel_rfl) (Fr.refl No w6).drew ?_
      have hv0 : Fr No w6 w6.drew := (Fr.refl No w6).drew
      refine wpSeq_take (v := ?_) 56 rfl rfl (fun _ _ _ h => h) (Or.inl ⟨rfl, ?_⟩) ?_
      rotate_left 1
      · (intro w9 h9; go_simp; try with_reducible rfl)
      simp only [List.setIfInBounds_toArray, List.set_cons_zero, List.set_cons_succ]
      refine wpSeq_take (v := ?_) 58 rfl rfl (fun _ _ _ h => h) (Or.inl ⟨rfl, ?_⟩) ?_
      rotate_left 1
      · (intro w9 h9; go_simp; try with_reducible rfl)
      simp only [List.setIfInBounds_toArray, List.set_cons_zero, List.set_cons_succ]
      refine wpSeq_take (v := ?_) 59 rfl rfl (fun _ _ _ h => h) (Or.inl ⟨rfl, ?_⟩) ?_
      rotate_left 1
      · (intro w9 h9; have u0 := (hK6.no h9).c0; have u1 := (hK6.no h9).c1; clear h9; go_simp; try with_reducible rfl)
      simp only [List.setIfInBounds_toArray, List.set_cons_zero, List.set_cons_succ]
      refine wpSeq_take (v := ?_) 60 rfl rfl (fun _ _ _ h => h) (Or.inl ⟨rfl, ?_⟩) ?_
      rotate_left 1
      · (intro w9 h9; go_simp; try with_reducible rfl)
      simp only [List.setIfInBounds_toArray, List.set_cons_zero, List.set_cons_succ]
      refine wpSeq_take (v := ?_) 61 rfl rfl (fun _ _ _ h => h) (Or.inl ⟨rfl, ?_⟩) ?_
      rotate_left 1
      · (intro w9 h9; go_simp; try with_reducible rfl)
      simp only [List.setIfInBounds_toArray, List.set_cons_zero, List.set_cons_succ]
      refine wpSeq_take (v := ?_) 62 rfl rfl (fun _ _ _ h => h) (Or.inl ⟨rfl, ?_⟩) ?_
      rotate_left 1
      · (intro w9 h9; go_simp; try with_reducible rfl)
      simp only [List.setIfInBounds_toArray, List.set_cons_zero, List.set_cons_succ]
      refine wpSeq_next rfl rfl (fun K hK => ?_)
      go_wp2_with fail
      refine (Sum_all (hL6.no hv0)).mono ?_
      rintro e xhv1 ⟨rfl, hx⟩
      rw [← hfg.out.1, ← hfg.out.2.1]
      have hv1 := hv0.no hx
      clear hx
      refine hK.out _ _ (fun _ => hv1) ?_
      clear hK K
      refine wpSeq_next rfl rfl (fun K hK => ?_)
      go_wp2_with fail
      refine (refOne_any kd kh kl _ _ _ (done xs (k + 1)) _ (hyz.no hv1) (by omega)).mono ?_
      rintro e xhv2 ⟨rfl, hx⟩
      rw [← hfg.out.1, ← hfg.out.2.1]
      have hv2 := hv1.no hx
      clear hx
      refine hK.out _ _ (fun _ => hv2) ?_
      clear hK K
      refine wpSeq_take (v := ?_) 64 rfl rfl (fun _ _ _ h => h) (Or.inl ⟨rfl, ?_⟩) ?_
      rotate_left 1
      · (intro w9 h9; go_simp; try with_reducible rfl)
      simp only [List.setIfInBounds_toArray, List.set_cons_zero, List.set_cons_succ]
      refine wpSeq_take (v := ?_) 65 rfl rfl (fun _ _ _ h => h) (Or.inl ⟨rfl, ?_⟩) ?_
      rotate_left 1
      · (intro w9 h9; go_simp; try with_reducible rfl)
      simp only [List.setIfInBounds_toArray, List.set_cons_zero, List.set_cons_succ]
      refine wpSeq_take (v := ?_) 66 rfl rfl (fun _ _ _ h => h) (Or.inl ⟨rfl, ?_⟩) ?_
      rotate_left 1
      · (intro w9 h9; go_simp; try with_reducible rfl)
      simp only [List.setIfInBounds_toArray, List.set_cons_zero, List.set_cons_succ]
      refine wpSeq_take (v := ?_) 68 rfl rfl (fun _ _ _ h => h) (Or.inl ⟨rfl, ?_⟩) ?_
      rotate_left 1
      · (intro w9 h9; go_simp; try with_reducible rfl)
      simp only [List.setIfInBounds_toArray, List.set_cons_zero, List.set_cons_succ]
      refine wpSeq_next rfl rfl (fun K hK => ?_)
      go_wp2_with fail
      refine (Sum_all (hL6.no hv2)).mono ?_
      rintro e xhv3 ⟨rfl, hx⟩
      rw [← hfg.out.1, ← hfg.out.2.1]
      have hv3 := hv2.no hx
      clear hx
      refine hK.out _ _ (fun _ => hv3) ?_
      clear hK K
      refine wpSeq_next rfl rfl (fun K hK => ?_)
      go_wp2_with fail
      refine (Sum_all (hL6.no hv3)).mono ?_
      rintro e xhv4 ⟨rfl, hx⟩
      rw [← hfg.out.1, ← hfg.out.2.1]
      have hv4 := hv3.no hx
      clear hx
      refine hK.out _ _ (fun _ => hv4) ?_
      clear hK K
      refine wpSeq_take (v := ?_) 70 rfl rfl (fun _ _ _ h => h) (Or.inl ⟨rfl, ?_⟩) ?_
      rotate_left 1
      · (intro w9 h9; go_simp; try with_reducible rfl)
      simp only [List.setIfInBounds_toArray, List.set_cons_zero, List.set_cons_succ]
      refine wpSeq_take (v := ?_) 71 rfl rfl (fun _ _ _ h => h) (Or.inl ⟨rfl, ?_⟩) ?_
      rotate_left 1
      · (intro w9 h9; go_simp; try with_reducible rfl)
      simp only [List.setIfInBounds_toArray, List.set_cons_zero, List.set_cons_succ]
      refine wpSeq_done ?_
      have hL7 := hL6.no hv4
      have ho7 := ho6.no hv4
      have hap7 : ∀ x, (Value.slice (some ⟨g, 0, none⟩) vs.length cv).ownBlock = some x → ¬ HFoot hb sb tv6 x ∧ x < xhv4.heap.size := fun x hx => ⟨(hap6 x hx).1, Nat.lt_of_lt_of_le (hap6 x hx).2 hv4.size⟩
      clear hL6 ho6 hap6 hyz hv0 hK6
      go_wp2_with fail
      go_roundw
      case rel => exact ⟨k + 1, tv6, by omega, by simp, by rw [hz.out], hL7, ho7, hap7⟩
      case measure => simp [intOf]; omega
    · have i3 : ¬ (k : Int) < (vs.length : Int) := by omega
      have hda : done xs k = l1 := by rw [done_all xs k (by have := HX.out; omega)]; exact HF.out
      rw [hda] at hL
      clear hda hap ho
      go_wp2_with fail
      refine (Reset_all hL).mono ?_
      rintro e w6 ⟨rfl, hL6, hf6⟩
      clear hL hf6
      have hK6 := hK.no hL6.fr
      go_upto_region 18 with fail
      refine wp_region_seq (by kernel_rfl) (fun w' => Fr No w6 w') (fun _ => false) [(0, 1), (2, 1), (3, 1), (1, 0), (4, 0), (5, 1)] (by kernel_rfl) (Fr.refl No w6).drew ?_
      have hv0 : Fr No w6 w6.drew := (Fr.refl No w6).drew
      refine wpSeq_take (v := ?_) 75 rfl rfl (fun _ _ _ h => h) (Or.inl ⟨rfl, ?_⟩) ?_
      rotate_left 1
      · (intro w9 h9; go_simp; try with_reducible rfl)
      simp only [List.setIfInBounds_toArray, List.set_cons_zero, List.set_cons_succ]
      refine wpSeq_take (v := ?_) 77 rfl rfl (fun _ _ _ h => h) (Or.inl ⟨rfl, ?_⟩) ?_
      rotate_left 1
      · (intro w9 h9; go_simp; try with_reducible rfl)
      simp only [List.setIfInBounds_toArray, List.set_cons_zero, List.set_cons_succ]
      refine wpSeq_take (v := ?_) 78 rfl rfl (fun _ _ _ h => h) (Or.inl ⟨rfl, ?_⟩) ?_
      rotate_left 1
      · (intro w9 h9; have u0 := (hK6.no h9).c0; have u1 := (hK6.no h9).c1; clear h9; go_simp; try with_reducible rfl)
      simp only [List.setIfInBounds_toArray, List.set_cons_zero, List.set_cons_succ]
      refine wpSeq_next rfl rfl (fun K hK => ?_)
      go_wp2_with fail
      refine (Sum_all (hL6.no hv0)).mono ?_
      rintro e xhv1 ⟨rfl, hx⟩
      rw [← hfg.out.1, ← hfg.out.2.1]
      have hv1 := hv0.no hx
      clear hx
      refine hK.out _ _ (fun _ => hv1) ?_
      clear hK K
      refine wpSeq_next rfl rfl (fun K hK => ?_)
      go_wp2_with fail
      refine (refOne_any kd kh kl none 0 0 [] _ (IsBytes.nil _) (by omega)).mono ?_
      rintro e xhv2 ⟨rfl, hx⟩
      rw [← hfg.out.1, ← hfg.out.2.1]
      have hv2 := hv1.no hx
      clear hx
      refine hK.out _ _ (fun _ => hv2) ?_
      clear hK K
      refine wpSeq_take (v := ?_) 80 rfl rfl (fun _ _ _ h => h) (Or.inl ⟨rfl, ?_⟩) ?_
      rotate_left 1
      · (intro w9 h9; go_simp; try with_reducible rfl)
      simp only [List.setIfInBounds_toArray, List.set_cons_zero, List.set_cons_succ]
      refine wpSeq_done ?_
      have hL8 := hL6.no hv2
      clear hL6 hK6 hv0 hv1 hv2
      go_wp2_with fail
      refine (Write_all hL8 _ _ _ l1 (hb1.no hL8.fr) (hb1.old (fun x g => hL8.above x (.inr g))) (by omega)).mono ?_
      rw [List.nil_append]
      rintro e w9 ⟨rfl, tv9, hL9, _, _⟩
      clear hL8
      have hK9 := hK.no hL9.fr
      have hy9 := hb1.no hL9.fr
      go_upto_region 21 with fail
      refine wp_region_seq (by kernel_rfl) (fun w' => Fr No w9 w') (fun _ => false) [(0, 1), (2, 1), (3, 1), (4, 1), (1, 0), (5, 0), (6, 1), (7, 1)] (by kernel_rfl) (Fr.refl No w9).drew ?_
      have hv0 : Fr No w9 w9.drew := (Fr.refl No w9).drew
      refine wpSeq_take (v := ?_) 84 rfl rfl (fun _ _ _ h => h) (Or.inl ⟨rfl, ?_⟩) ?_
      rotate_left 1
      · (intro w9 h9; go_simp; try with_reducible rfl)
      simp only [List.setIfInBounds_toArray, List.set_cons_zero, List.set_cons_succ]
      refine wpSeq_take (v := ?_) 86 rfl rfl (fun _ _ _ h => h) (Or.inl ⟨rfl, ?_⟩) ?_
      rotate_left 1
      · (intro w9 h9; go_simp; try with_reducible rfl)
      simp only [List.setIfInBounds_toArray, List.set_cons_zero, List.set_cons_succ]
      refine wpSeq_take (v := ?_) 87 rfl rfl (fun _ _ _ h => h) (Or.inl ⟨rfl, ?_⟩) ?_
      rotate_left 1
      · (intro w9 h9; have u0 := (hK9.no h9).c0; have u1 := (hK9.no h9).c1; clear h9; go_simp; try with_reducible rfl)
      simp only [List.setIfInBounds_toArray, List.set_cons_zero, List.set_cons_succ]
      refine wpSeq_take (v := ?_) 88 rfl rfl (fun _ _ _ h => h) (Or.inl ⟨rfl, ?_⟩) ?_
      rotate_left 1
      · (intro w9 h9; go_simp; try with_reducible rfl)
      simp only [List.setIfInBounds_toArray, List.set_cons_zero, List.set_cons_succ]
      refine wpSeq_next rfl rfl (fun K hK => ?_)
      go_wp2_with fail
      refine (Sum_all (hL9.no hv0)).mono ?_
      rintro e xhv1 ⟨rfl, hx⟩
      rw [← hfg.out.1, ← hfg.out.2.1]
      have hv1 := hv0.no hx
      clear hx
      refine hK.out _ _ (fun _ => hv1) ?_
      clear hK K
      refine wpSeq_next rfl rfl (fun K hK => ?_)
      go_wp2_with fail
      refine (One_any kd kh kl _ _ _ l1 _ (hy9.no hv1) (by omega)).mono ?_
      rintro e xhv2 ⟨rfl, hx⟩
      rw [← hfg.out.1, ← hfg.out.2.1]
      have hv2 := hv1.no hx
      clear hx
      refine hK.out _ _ (fun _ => hv2) ?_
      clear hK K
      refine wpSeq_take (v := ?_) 90 rfl rfl (fun _ _ _ h => h) (Or.inl ⟨rfl, ?_⟩) ?_
      rotate_left 1
      · (intro w9 h9; go_simp; try with_reducible rfl)
      simp only [List.setIfInBounds_toArray, List.set_cons_zero, List.set_cons_succ]
      refine wpSeq_take (v := ?_) 8 rfl rfl (fun _ _ _ h => h) (Or.inl ⟨rfl, ?_⟩) ?_
      rotate_left 1
      · (intro w9 h9; go_simp; try with_reducible rfl)
      simp only [List.setIfInBounds_toArray, List.set_cons_zero, List.set_cons_succ]
      refine wpSeq_done ?_
      go_wp2_with fail
      go_ret
      exact ⟨rfl, hfa.no (hL9.fr.no hv2)⟩
end Go.Proofs.Ytcbbllfgelnpjaa.StSip
