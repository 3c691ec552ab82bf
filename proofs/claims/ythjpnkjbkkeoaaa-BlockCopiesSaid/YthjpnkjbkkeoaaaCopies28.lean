/- BlockCopies. -/
import Derived.Test.YthjpnkjbkkeoaaaLaw28
import Derived.Test.YthjpnkjbkkeoaaaSeq
import Derived.Test.YthjpnkjbkkeoaaaSeq
namespace Go.Proofs.Ythjpnkjbkkeoaaa.StS28
set_option linter.unusedVariables false
set_option linter.unusedSimpArgs false
open Go.RowKit

/-- Only number k may come up; it is guarded, and wanted. -/
theorem wpLate_next_g {P : Program} {ops : Array Oper} {Q : Exit → Act → World → Prop} {S : World → Prop} {late : Nat → Bool} {k : Nat} {o : Oper} {fuel : Nat} {listed : Array Bool} {a : Act} {w : World} (hr : Region.ready .any ops listed = [k]) (ho : ops[k]? = some o) (hg : Region.wanted o (yielded ops a.tmps) = true)
    (h : ∀ K : Act → World → Prop, Shut (∀ a w, (late k = false → S w) → wpLate P ops Q S late fuel (listed.setIfInBounds k true) a w → K a w) → Oper.wp P o a w K Q) :
    wpLate P ops Q S late (fuel + 1) listed a w := by
  refine ⟨fun h0 => absurd (hr ▸ h0) (by simp), ?_⟩
  rw [hr]
  intro j hj
  obtain rfl : j = k := by simpa using hj
  refine wpOp_step ho fun K hK => ?_
  rw [if_pos hg]
  exact h K (fun a w hS hW => hK a w ⟨hS, hW⟩)
theorem Live.reset {w0 w : World} {sb size : Nat} {f s : ST} {tl : Bytes} {lo : BitVec 64} {tv : Value} (h : Live w0 w sb size f s 0 tl lo tv) :
    Calls Try.prog 19 #[.pointer (some ⟨sb, 0, none⟩)] w
      (fun e w' => e = .returned (.tuple #[]) ∧ Live w0 w' sb size f f 0 [] 0#64 (.slice none 0 0) ∧ Fr (Foot sb tv) w w') := by
  refine (Reset_any w0.heap.size h.st).mono ?_
  rintro e w' ⟨rfl, hst, hfr⟩
  exact ⟨rfl, ⟨hst, Owns.nil _ _, h.ge, h.fr.trans hfr (fun x hx => .inr (by have := h.ge; omega))⟩, hfr.mono (fun x _ hx => .inl hx)⟩
theorem Clone_live {w0 w : World} {sb size : Nat} {f s : ST} {tl : Bytes} {lo : BitVec 64} {tv : Value} (h : Live w0 w sb size f s 0 tl lo tv) (hl : tl.length ≤ 1099511627776) :
    Calls Try.prog 17 #[.pointer (some ⟨sb, 0, none⟩)] w
      (fun e w' => ∃ sb' tv', e = .returned (.pointer (some ⟨sb', 0, none⟩)) ∧ Live w0 w' sb' size f s 0 tl lo tv' ∧ Fr No w w' ∧ Sep sb tv sb' tv') := by
  refine (Clone_yes h.st h.ow hl).mono ?_
  rintro e w' ⟨sb', tv', rfl, hge, hst, hown, hfr⟩
  refine ⟨sb', tv', rfl, ⟨hst, hown.mono h.fr.size, Nat.le_trans h.fr.size hge, h.fr.no hfr⟩, hfr, fun x h1 h2 => ?_⟩
  have := h.lt x h1
  rcases h2 with rfl | h2
  · omega
  · have := own_ge hown h2; omega
set_option maxHeartbeats 1000000 in
theorem BlockCopies_long (sz : Int) (x : BitVec 64) (a1 : Option Addr) (n1 c1 : Nat) (l1 : Bytes) (a2 : Option Addr) (n2 c2 : Nat) (l2 : Bytes) (a3 : Option Addr) (n3 c3 : Nat) (l3 : Bytes) (w : World) (h : 300 < n1 ∨ 300 < n2 ∨ 300 < n3) :
    Calls Try.prog 4 #[.int .i64 sz, .int .u64 (W64 x), .slice a1 n1 c1, .slice a2 n2 c2, .slice a3 n3 c3] w (Yes w) := by
  by_cases h1 : 300 < n1
  · have i1 : (300 : Int) < (n1 : Int) := by omega
    clear h h1
    go_enter Try.func4, Try.ntmps4
    go_wp2_with (go_at_call 6; refine (awake_yes _).mono ?_; rintro e w1 ⟨rfl, hfr⟩)
    go_ret
    exact ⟨rfl, hfr⟩
  by_cases h2 : 300 < n2
  · have i1 : (n1 : Int) ≤ 300 := by omega
    have i2 : (300 : Int) < (n2 : Int) := by omega
    clear h h1 h2
    go_enter Try.func4, Try.ntmps4
    go_wp2_with (go_at_call 6; refine (awake_yes _).mono ?_; rintro e w1 ⟨rfl, hfr⟩)
    go_ret
    exact ⟨rfl, hfr⟩
  · have i1 : (n1 : Int) ≤ 300 := by omega
    have i2 : (n2 : Int) ≤ 300 := by omega
    have i3 : (300 : Int) < (n3 : Int) := by omega
    clear h h1 h2
    go_enter Try.func4, Try.ntmps4
    go_wp2_with (go_at_call 6; refine (awake_yes _).mono ?_; rintro e w1 ⟨rfl, hfr⟩)
    go_ret
    exact ⟨rfl, hfr⟩
set_option maxHeartbeats 4000000 in
theorem BlockCopies_yes (sz : Int) (x : BitVec 64) (a1 : Option Addr) (n1 c1 : Nat) (l1 : Bytes) (a2 : Option Addr) (n2 c2 : Nat) (l2 : Bytes) (a3 : Option Addr) (n3 c3 : Nat) (l3 : Bytes) (w : World)
    (hb1 : IsBytes w a1 n1 c1 l1) (hb2 : IsBytes w a2 n2 c2 l2) (hb3 : IsBytes w a3 n3 c3 l3) (h1 : -9223372036854775808 ≤ sz) (h2 : sz ≤ 9223372036854775807) :
    Calls Try.prog 4 #[.int .i64 sz, .int .u64 (W64 x), .slice a1 n1 c1, .slice a2 n2 c2, .slice a3 n3 c3] w (Yes w) := by
  by_cases hbig : 300 < n1 ∨ 300 < n2 ∨ 300 < n3
  · exact BlockCopies_long sz x a1 n1 c1 l1 a2 n2 c2 l2 a3 n3 c3 l3 w hbig
  have i1 : (n1 : Int) ≤ 300 := by omega
  have i2 : (n2 : Int) ≤ 300 := by omega
  have i3 : (n3 : Int) ≤ 300 := by omega
  have m1 : n1 ≤ 300 := by omega
  have m2 : n2 ≤ 300 := by omega
  have m3 : n3 ≤ 300 := by omega
  clear hbig
  obtain ⟨size, hsz⟩ : ∃ size : Nat, sizeOk sz = size := ⟨(sizeOk sz).toNat, by have := sizeOk_bd sz; omega⟩
  have hz1 : 1 ≤ size := by have := sizeOk_bd sz; omega
  have hz2 : size ≤ 64 := by have := sizeOk_bd sz; omega
  go_enter Try.func4, Try.ntmps4
  go_wp2_with fail
  refine (awake_yes _).mono ?_
  rintro e w1 ⟨rfl, hf1⟩
  go_wp2_with fail
  have hB0 : BoxAt (w1.alloc (.cells #[.int .u64 (W64 x), .int .i64 0] 27)) w1.heap.size (x, 0) := heap_alloc_new w1 _
  have hfB : Fr No w (w1.alloc (.cells #[.int .u64 (W64 x), .int .i64 0] 27)) := hf1.alloc _
  have hn1 := hb1.no hfB
  have hn2 := hb2.no hfB
  have hn3 := hb3.no hfB
  refine (New_live sz size (x, 0) _ _ h1 h2 hsz (Fr.refl No _)).mono ?_
  obtain ⟨f, hf⟩ : ∃ f : ST, f = (x, 0) := ⟨_, rfl⟩
  rw [← hf] at hB0 ⊢
  rintro e w3 ⟨sb, rfl, _, hL3, _⟩
  obtain ⟨pb, hpb⟩ : ∃ pb, pb = w1.heap.size := ⟨_, rfl⟩
  rw [← hpb] at hB0 ⊢
  generalize (w1.alloc (.cells #[.int .u64 (W64 x), .int .i64 0] 27)) = wB at hB0 hfB hn1 hn2 hn3 hL3 ⊢
  clear hb1 hb2 hb3 hf1 hf hpb
  go_wp2_with fail
  refine (live_write (fun _ => True) stepG hL3 (fun _ _ => trivial) (steps28 size hz2) hz1 hz2 (by simp; omega) _ n1 c1 l1 (hn1.no hL3.fr) (hn1.old hL3.above) (by omega)).mono ?_
  rintro e w4 ⟨rfl, tv4, hL4, _, _⟩
  rw [List.nil_append] at hL4
  clear hL3
  go_wp2_with fail
  have q4 := foldF_lt (F := stepG) hz1 f l1
  refine (Clone_live hL4 (by omega)).mono ?_
  rintro e w5 ⟨sbt, tvt, rfl, hM5, hf5, hsep5⟩
  have hL5 := hL4.no hf5
  clear hL4 hf5
  go_wp2_with fail
  refine (live_write (fun _ => True) stepG hL5 (fun _ _ => trivial) (steps28 size hz2) hz1 hz2 q4 _ n2 c2 l2 (hn2.no hL5.fr) (hn2.old hL5.above) (by omega)).mono ?_
  rintro e w6 ⟨rfl, tv6, hL6, hf6, hk6⟩
  have hM6 := hM5.keep hf6 hsep5 hL5.above
  have hsep6 := hM5.sep hsep5 hk6
  rw [← foldF_append hz1] at hL6
  clear hL5 hM5 hsep5 hf6 hk6
  go_wp2_with fail
  refine (live_write (fun _ => True) stepG hM6 (fun _ _ => trivial) (steps28 size hz2) hz1 hz2 q4 _ n3 c3 l3 (hn3.no hM6.fr) (hn3.old hM6.above) (by omega)).mono ?_
  rintro e w7 ⟨rfl, tv7, hM7, hf7, hk7⟩
  have hL7 := hL6.keep hf7 hsep6.symm hM6.above
  have hsep7 := (hL6.sep hsep6.symm hk7).symm
  rw [← foldF_append hz1] at hM7
  clear hL6 hM6 hsep6 hf7 hk7
  go_wp2_with fail
  refine (refBoth_any _ _ _ l1 _ _ _ l2 _ (hn1.no hL7.fr) (hn2.no hL7.fr) (by omega)).mono ?_
  rintro e w8 ⟨v8, rfl, ho8, hf8⟩
  have hL8 := hL7.no hf8
  have hM8 := hM7.no hf8
  obtain ⟨a8, c8, rfl, hb8, _⟩ := ho8.bytes
  clear hL7 hM7 ho8 hf8
  go_wp2_with fail
  refine (refBoth_any _ _ _ l1 _ _ _ l3 _ (hn1.no hL8.fr) (hn3.no hL8.fr) (by omega)).mono ?_
  rintro e w9 ⟨v9, rfl, ho9, hf9⟩
  have hL9 := hL8.no hf9
  have hM9 := hM8.no hf9
  obtain ⟨a9, c9, rfl, hb9, _⟩ := ho9.bytes
  have hb8' := hb8.no hf9
  have hB9 := hB0.fr hL9.fr (fun h => h)
  have cb0 : w9.cell? ⟨pb, 0, none⟩ = some (cS f 0) := hB9.cell 0 rfl
  have cb1 : w9.cell? ⟨pb, 1, none⟩ = some (cS f 1) := hB9.cell 1 rfl
  clear hL8 hM8 ho9 hf9 hb8
  go_wp2_with fail
  -- PART TWO (printed)
  have e1 := hn1.1
  have e2 := hn2.1
  have e3 := hn3.1
  have q12 := foldF_lt (F := stepG) hz1 f (l1 ++ l2)
  have q13 := foldF_lt (F := stepG) hz1 f (l1 ++ l3)
  rw [List.length_append] at hb8' hb9
  refine (refFold_any sz size f _ _ _ (l1 ++ l2) _ h1 h2 hsz hb8' (by omega)).mono ?_
  generalize hr12 : foldF stepG size f (l1 ++ l2) = r12 at hL9 q12 ⊢
  rintro e w10 ⟨ap, np, cp, rfl, hbp, _, hf10⟩
  have hL10 := hL9.no hf10
  have hM10 := hM9.no hf10
  have hB10 := hB9.fr hf10 (fun h => h)
  have hb10 := hb9.no hf10
  have hfp : Fr No w10 (w10.alloc (.cells #[cS r12.1 0, cS r12.1 1] 27)) := (Fr.refl No w10).alloc _
  have hBp : BoxAt (w10.alloc (.cells #[cS r12.1 0, cS r12.1 1] 27)) w10.heap.size r12.1 := heap_alloc_new w10 _
  have hnp : ¬ Foot sb tv6 w10.heap.size := fun h => by have := hL10.lt _ h; omega
  have hgp : wB.heap.size ≤ w10.heap.size := hL10.fr.size
  have hmp : ¬ Foot sbt tv7 w10.heap.size := fun h => by have := hM10.lt _ h; omega
  have hB11 := hB10.fr hfp (fun h => h)
  clear hL9 hM9 hB9 hb9 hb8' cb0 cb1 hB10
  have cb0 : (w10.alloc (.cells #[cS r12.1 0, cS r12.1 1] 27)).cell? ⟨pb, 0, none⟩ = some (cS f 0) := hB11.cell 0 rfl
  have cb1 : (w10.alloc (.cells #[cS r12.1 0, cS r12.1 1] 27)).cell? ⟨pb, 1, none⟩ = some (cS f 1) := hB11.cell 1 rfl
  go_wp2_with fail
  have hL11 := hL10.no hfp
  have hM11 := hM10.no hfp
  have hb11 := hb10.no hfp
  have hbp11 := hbp.no hfp
  obtain ⟨bp, hbpe⟩ : ∃ bp, bp = w10.heap.size := ⟨_, rfl⟩
  rw [← hbpe] at hBp hnp hgp hmp ⊢
  generalize (w10.alloc (.cells #[cS r12.1 0, cS r12.1 1] 27)) = w11 at hBp hL11 hM11 hb11 hbp11 hB11 cb0 cb1 ⊢
  clear hL10 hM10 hb10 hbp hf10 hfp hbpe
  rw [e1, e3] at hb11
  refine (refFold_any sz size f _ _ _ (l1 ++ l3) _ h1 h2 hsz hb11 (by omega)).mono ?_
  generalize hr13 : foldF stepG size f (l1 ++ l3) = r13 at hM11 q13 ⊢
  rintro e w12 ⟨aq, nq, cq, rfl, hbq, _, hf12⟩
  have hL12 := hL11.no hf12
  have hM12 := hM11.no hf12
  have hfq : Fr No w12 (w12.alloc (.cells #[cS r13.1 0, cS r13.1 1] 27)) := (Fr.refl No w12).alloc _
  have hBq : BoxAt (w12.alloc (.cells #[cS r13.1 0, cS r13.1 1] 27)) w12.heap.size r13.1 := heap_alloc_new w12 _
  have hnq : ¬ Foot sb tv6 w12.heap.size := fun h => by have := hL12.lt _ h; omega
  have hgq : wB.heap.size ≤ w12.heap.size := hL12.fr.size
  have hne : bp ≠ w12.heap.size := by have := (hBp.fr hf12 (fun h => h)).lt; omega
  go_wp2_with fail
  have hL := hL12.no hfq
  have hM := hM12.no hfq
  have hP := (hBp.fr hf12 (fun h => h)).fr hfq (fun h => h)
  have hbpR := (hbp11.no hf12).no hfq
  have hbqR := hbq.no hfq
  obtain ⟨bq, hbqe⟩ : ∃ bq, bq = w12.heap.size := ⟨_, rfl⟩
  rw [← hbqe] at hBq hnq hgq hne ⊢
  generalize (w12.alloc (.cells #[cS r13.1 0, cS r13.1 1] 27)) = wR at hBq hL hM hP hbpR hbqR ⊢
  clear hL11 hM11 hL12 hM12 hBp hb11 hbp11 hB11 cb0 cb1 hf12 hbq hfq hbqe
  obtain ⟨np', rfl⟩ : ∃ k, np = k := ⟨_, rfl⟩
  have lp := hbpR.1
  have lq := hbqR.1
  subst lp
  subst lq
  have cp0 : wR.cell? ⟨bp, 0, none⟩ = some (cS r12.1 0) := hP.cell 0 rfl
  have cp1 : wR.cell? ⟨bp, 1, none⟩ = some (cS r12.1 1) := hP.cell 1 rfl
  have cq0 : wR.cell? ⟨bq, 0, none⟩ = some (cS r13.1 0) := hBq.cell 0 rfl
  have cq1 : wR.cell? ⟨bq, 1, none⟩ = some (cS r13.1 1) := hBq.cell 1 rfl
  refine wp_region_seq (by kernel_rfl) (fun w' => Fr No wR w') (fun _ => false) [(0, 1), (2, 1), (1, 0), (3, 1), (4, 1), (5, 1), (7, 1), (6, 0), (8, 0), (9, 1), (10, 1), (11, 1), (12, 1), (14, 1), (13, 0), (15, 1), (16, 1), (17, 1), (18, 1), (20, 1), (19, 0), (21, 0), (22, 1), (23, 1)] (by kernel_rfl) (Fr.refl No wR).drew ?_
  have hS0 : Fr No wR wR.drew := (Fr.refl No wR).drew
  refine wpSeq_take (v := ?_) 71 rfl rfl (fun _ _ _ h => h) (Or.inl ⟨rfl, ?_⟩) ?_
  rotate_left 1
  · (intro w9 h9; go_simp; try with_reducible rfl)
  simp only [List.setIfInBounds_toArray, List.set_cons_zero, List.set_cons_succ]
  refine wpSeq_take (v := ?_) 73 rfl rfl (fun _ _ _ h => h) (Or.inl ⟨rfl, ?_⟩) ?_
  rotate_left 1
  · (intro w9 h9; have cc0 := h9.cell (fun h => h) cp0; have cc1 := h9.cell (fun h => h) cp1; clear h9; go_simp; try with_reducible rfl)
  simp only [List.setIfInBounds_toArray, List.set_cons_zero, List.set_cons_succ]
  refine wpSeq_next rfl rfl (fun K hK => ?_)
  go_wp2_with fail
  refine (State_any (hL.no hS0).st).mono ?_
  rintro e xhs1 ⟨rfl, hx⟩
  have hs1 := hS0.no hx
  clear hx
  refine hK.out _ _ (fun _ => hs1) ?_
  clear hK K
  refine wpSeq_take (v := ?_) 74 rfl rfl (fun _ _ _ h => h) (Or.inl ⟨rfl, ?_⟩) ?_
  rotate_left 1
  · (intro w9 h9; simp only [cS0, cS1]; go_simp; try with_reducible rfl)
  simp only [List.setIfInBounds_toArray, List.set_cons_zero, List.set_cons_succ]
  refine wpSeq_take (v := ?_) 75 rfl rfl (fun _ _ _ h => h) (Or.inl ⟨rfl, ?_⟩) ?_
  rotate_left 1
  · (intro w9 h9; go_simp; try with_reducible rfl)
  simp only [List.setIfInBounds_toArray, List.set_cons_zero, List.set_cons_succ]
  refine wpSeq_take (v := ?_) 76 rfl rfl (fun _ _ _ h => h) (Or.inl ⟨rfl, ?_⟩) ?_
  rotate_left 1
  · (intro w9 h9; go_simp; try with_reducible rfl)
  simp only [List.setIfInBounds_toArray, List.set_cons_zero, List.set_cons_succ]
  refine wpSeq_take (v := ?_) 78 rfl rfl (fun _ _ _ h => h) (Or.inl ⟨rfl, ?_⟩) ?_
  rotate_left 1
  · (intro w9 h9; go_simp; try with_reducible rfl)
  simp only [List.setIfInBounds_toArray, List.set_cons_zero, List.set_cons_succ]
  refine wpSeq_next rfl rfl (fun K hK => ?_)
  go_wp2_with fail
  refine (Tail_any (hL.no hs1).st (hL.no hs1).ow (by first | omega | simp)).mono ?_
  rintro e xhs2 ⟨vhs2, rfl, ho, hx⟩
  have hs2 := hs1.no hx
  obtain ⟨ahs2, chs2, rfl, hbhs2, _⟩ := ho.bytes
  clear hx ho
  refine hK.out _ _ (fun _ => hs2) ?_
  clear hK K
  refine wpSeq_next rfl rfl (fun K hK => ?_)
  go_wp2_with fail
  refine (refSame_any _ _ _ r12.2 _ _ _ r12.2 _ hbhs2 (hbpR.no hs2)).mono ?_
  rintro e w' ⟨rfl, rfl⟩
  rw [BEq.rfl]
  refine hK.out _ _ (fun _ => hs2) ?_
  clear hK K
  refine wpSeq_take (v := ?_) 80 rfl rfl (fun _ _ _ h => h) (Or.inl ⟨rfl, ?_⟩) ?_
  rotate_left 1
  · (intro w9 h9; go_simp; try with_reducible rfl)
  simp only [List.setIfInBounds_toArray, List.set_cons_zero, List.set_cons_succ]
  refine wpSeq_take (v := ?_) 81 rfl rfl (fun _ _ _ h => h) (Or.inl ⟨rfl, ?_⟩) ?_
  rotate_left 1
  · (intro w9 h9; go_simp; try with_reducible rfl)
  simp only [List.setIfInBounds_toArray, List.set_cons_zero, List.set_cons_succ]
  refine wpSeq_take (v := ?_) 82 rfl rfl (fun _ _ _ h => h) (Or.inl ⟨rfl, ?_⟩) ?_
  rotate_left 1
  · (intro w9 h9; go_simp; try with_reducible rfl)
  simp only [List.setIfInBounds_toArray, List.set_cons_zero, List.set_cons_succ]
  refine wpSeq_take (v := ?_) 83 rfl rfl (fun _ _ _ h => h) (Or.inl ⟨rfl, ?_⟩) ?_
  rotate_left 1
  · (intro w9 h9; go_simp; try with_reducible rfl)
  simp only [List.setIfInBounds_toArray, List.set_cons_zero, List.set_cons_succ]
  refine wpSeq_take (v := ?_) 85 rfl rfl (fun _ _ _ h => h) (Or.inl ⟨rfl, ?_⟩) ?_
  rotate_left 1
  · (intro w9 h9; have cc0 := h9.cell (fun h => h) cq0; have cc1 := h9.cell (fun h => h) cq1; clear h9; go_simp; try with_reducible rfl)
  simp only [List.setIfInBounds_toArray, List.set_cons_zero, List.set_cons_succ]
  refine wpSeq_next rfl rfl (fun K hK => ?_)
  go_wp2_with fail
  refine (State_any (hM.no hs2).st).mono ?_
  rintro e xhs3 ⟨rfl, hx⟩
  have hs3 := hs2.no hx
  clear hx
  refine hK.out _ _ (fun _ => hs3) ?_
  clear hK K
  refine wpSeq_take (v := ?_) 86 rfl rfl (fun _ _ _ h => h) (Or.inl ⟨rfl, ?_⟩) ?_
  rotate_left 1
  · (intro w9 h9; simp only [cS0, cS1]; go_simp; try with_reducible rfl)
  simp only [List.setIfInBounds_toArray, List.set_cons_zero, List.set_cons_succ]
  refine wpSeq_take (v := ?_) 87 rfl rfl (fun _ _ _ h => h) (Or.inl ⟨rfl, ?_⟩) ?_
  rotate_left 1
  · (intro w9 h9; go_simp; try with_reducible rfl)
  simp only [List.setIfInBounds_toArray, List.set_cons_zero, List.set_cons_succ]
  refine wpSeq_take (v := ?_) 88 rfl rfl (fun _ _ _ h => h) (Or.inl ⟨rfl, ?_⟩) ?_
  rotate_left 1
  · (intro w9 h9; go_simp; try with_reducible rfl)
  simp only [List.setIfInBounds_toArray, List.set_cons_zero, List.set_cons_succ]
  refine wpSeq_take (v := ?_) 89 rfl rfl (fun _ _ _ h => h) (Or.inl ⟨rfl, ?_⟩) ?_
  rotate_left 1
  · (intro w9 h9; go_simp; try with_reducible rfl)
  simp only [List.setIfInBounds_toArray, List.set_cons_zero, List.set_cons_succ]
  refine wpSeq_take (v := ?_) 91 rfl rfl (fun _ _ _ h => h) (Or.inl ⟨rfl, ?_⟩) ?_
  rotate_left 1
  · (intro w9 h9; go_simp; try with_reducible rfl)
  simp only [List.setIfInBounds_toArray, List.set_cons_zero, List.set_cons_succ]
  refine wpSeq_next rfl rfl (fun K hK => ?_)
  go_wp2_with fail
  refine (Tail_any (hM.no hs3).st (hM.no hs3).ow (by first | omega | simp)).mono ?_
  rintro e xhs4 ⟨vhs4, rfl, ho, hx⟩
  have hs4 := hs3.no hx
  obtain ⟨ahs4, chs4, rfl, hbhs4, _⟩ := ho.bytes
  clear hx ho
  refine hK.out _ _ (fun _ => hs4) ?_
  clear hK K
  refine wpSeq_next rfl rfl (fun K hK => ?_)
  go_wp2_with fail
  refine (refSame_any _ _ _ r13.2 _ _ _ r13.2 _ hbhs4 (hbqR.no hs4)).mono ?_
  rintro e w' ⟨rfl, rfl⟩
  rw [BEq.rfl]
  refine hK.out _ _ (fun _ => hs4) ?_
  clear hK K
  refine wpSeq_take (v := ?_) 93 rfl rfl (fun _ _ _ h => h) (Or.inl ⟨rfl, ?_⟩) ?_
  rotate_left 1
  · (intro w9 h9; go_simp; try with_reducible rfl)
  simp only [List.setIfInBounds_toArray, List.set_cons_zero, List.set_cons_succ]
  refine wpSeq_take (v := ?_) 94 rfl rfl (fun _ _ _ h => h) (Or.inl ⟨rfl, ?_⟩) ?_
  rotate_left 1
  · (intro w9 h9; go_simp; try with_reducible rfl)
  simp only [List.setIfInBounds_toArray, List.set_cons_zero, List.set_cons_succ]
  refine wpSeq_done ?_
  have hL13 := hL.no hs4
  have hM13 := hM.no hs4
  have hP13 := hP.fr hs4 (fun h => h)
  have hQ13 := hBq.fr hs4 (fun h => h)
  clear hL hM hP hBq cp0 cp1 cq0 cq1 hS0
  go_wp2_with fail
  refine hL13.reset.mono ?_
  rintro e w14 ⟨rfl, hL14, hf14⟩
  have hM14 := hM13.keep hf14 hsep7 hL13.above
  have hsep14 : Sep sb (.slice none 0 0) sbt tv7 := hM13.sep hsep7 (.inr (fun x hx => by simp [Value.ownBlock] at hx))
  have hP14 := hP13.fr hf14 hnp
  have hQ14 := hQ13.fr hf14 hnq
  have hB14 := hB0.fr hL14.fr (fun h => h)
  have hnp14 : ¬ Foot sb (.slice none 0 0) bp := fun h => hnp (h.elim .inl (fun h => by simp [Value.ownBlock] at h))
  have hnq14 : ¬ Foot sb (.slice none 0 0) bq := fun h => hnq (h.elim .inl (fun h => by simp [Value.ownBlock] at h))
  clear hL13 hM13 hP13 hQ13 hf14 hsep7
  go_wp2_with fail
  have ca0 : w14.cell? ⟨pb, 0, none⟩ = some (cS f 0) := hB14.cell 0 rfl
  have ca1 : w14.cell? ⟨pb, 1, none⟩ = some (cS f 1) := hB14.cell 1 rfl
  refine wp_region_seq (by kernel_rfl) (fun w' => Fr No w14 w') (fun _ => false) [(0, 1), (2, 1), (1, 0), (3, 1), (4, 1), (5, 1), (6, 0), (7, 1), (8, 1), (9, 1), (10, 1), (11, 1), (12, 0), (13, 1), (14, 1)] (by kernel_rfl) (Fr.refl No w14).drew ?_
  have hS0 : Fr No w14 w14.drew := (Fr.refl No w14).drew
  refine wpSeq_take (v := ?_) 97 rfl rfl (fun _ _ _ h => h) (Or.inl ⟨rfl, ?_⟩) ?_
  rotate_left 1
  · (intro w9 h9; go_simp; try with_reducible rfl)
  simp only [List.setIfInBounds_toArray, List.set_cons_zero, List.set_cons_succ]
  refine wpSeq_take (v := ?_) 99 rfl rfl (fun _ _ _ h => h) (Or.inl ⟨rfl, ?_⟩) ?_
  rotate_left 1
  · (intro w9 h9; have cc0 := h9.cell (fun h => h) ca0; have cc1 := h9.cell (fun h => h) ca1; clear h9; go_simp; try with_reducible rfl)
  simp only [List.setIfInBounds_toArray, List.set_cons_zero, List.set_cons_succ]
  refine wpSeq_next rfl rfl (fun K hK => ?_)
  go_wp2_with fail
  refine (State_any (hL14.no hS0).st).mono ?_
  rintro e xhs5 ⟨rfl, hx⟩
  have hs5 := hS0.no hx
  clear hx
  refine hK.out _ _ (fun _ => hs5) ?_
  clear hK K
  refine wpSeq_take (v := ?_) 100 rfl rfl (fun _ _ _ h => h) (Or.inl ⟨rfl, ?_⟩) ?_
  rotate_left 1
  · (intro w9 h9; simp only [cS0, cS1]; go_simp; try with_reducible rfl)
  simp only [List.setIfInBounds_toArray, List.set_cons_zero, List.set_cons_succ]
  refine wpSeq_take (v := ?_) 101 rfl rfl (fun _ _ _ h => h) (Or.inl ⟨rfl, ?_⟩) ?_
  rotate_left 1
  · (intro w9 h9; go_simp; try with_reducible rfl)
  simp only [List.setIfInBounds_toArray, List.set_cons_zero, List.set_cons_succ]
  refine wpSeq_take (v := ?_) 102 rfl rfl (fun _ _ _ h => h) (Or.inl ⟨rfl, ?_⟩) ?_
  rotate_left 1
  · (intro w9 h9; go_simp; try with_reducible rfl)
  simp only [List.setIfInBounds_toArray, List.set_cons_zero, List.set_cons_succ]
  refine wpSeq_next rfl rfl (fun K hK => ?_)
  go_wp2_with fail
  refine (Tail_any (hL14.no hs5).st (hL14.no hs5).ow (by first | omega | simp)).mono ?_
  rintro e xhs6 ⟨vhs6, rfl, ho, hx⟩
  have hs6 := hs5.no hx
  obtain ⟨ahs6, chs6, rfl, hbhs6, _⟩ := ho.bytes
  clear hx ho
  refine hK.out _ _ (fun _ => hs6) ?_
  clear hK K
  refine wpSeq_take (v := ?_) 104 rfl rfl (fun _ _ _ h => h) (Or.inl ⟨rfl, ?_⟩) ?_
  rotate_left 1
  · (intro w9 h9; go_simp; try with_reducible rfl)
  simp only [List.setIfInBounds_toArray, List.set_cons_zero, List.set_cons_succ]
  refine wpSeq_take (v := ?_) 105 rfl rfl (fun _ _ _ h => h) (Or.inl ⟨rfl, ?_⟩) ?_
  rotate_left 1
  · (intro w9 h9; go_simp; try with_reducible rfl)
  simp only [List.setIfInBounds_toArray, List.set_cons_zero, List.set_cons_succ]
  refine wpSeq_take (v := ?_) 106 rfl rfl (fun _ _ _ h => h) (Or.inl ⟨rfl, ?_⟩) ?_
  rotate_left 1
  · (intro w9 h9; go_simp; try with_reducible rfl)
  simp only [List.setIfInBounds_toArray, List.set_cons_zero, List.set_cons_succ]
  refine wpSeq_take (v := ?_) 107 rfl rfl (fun _ _ _ h => h) (Or.inl ⟨rfl, ?_⟩) ?_
  rotate_left 1
  · (intro w9 h9; go_simp; try with_reducible rfl)
  simp only [List.setIfInBounds_toArray, List.set_cons_zero, List.set_cons_succ]
  refine wpSeq_take (v := ?_) 108 rfl rfl (fun _ _ _ h => h) (Or.inl ⟨rfl, ?_⟩) ?_
  rotate_left 1
  · (intro w9 h9; go_simp; try with_reducible rfl)
  simp only [List.setIfInBounds_toArray, List.set_cons_zero, List.set_cons_succ]
  refine wpSeq_next rfl rfl (fun K hK => ?_)
  go_wp2_with fail
  refine (Long_any (hL14.no hs6).st).mono ?_
  rintro e w' ⟨rfl, rfl⟩
  refine hK.out _ _ (fun _ => hs6) ?_
  clear hK K
  refine wpSeq_take (v := ?_) 110 rfl rfl (fun _ _ _ h => h) (Or.inl ⟨rfl, ?_⟩) ?_
  rotate_left 1
  · (intro w9 h9; go_simp; try with_reducible rfl)
  simp only [List.setIfInBounds_toArray, List.set_cons_zero, List.set_cons_succ]
  refine wpSeq_take (v := ?_) 111 rfl rfl (fun _ _ _ h => h) (Or.inl ⟨rfl, ?_⟩) ?_
  rotate_left 1
  · (intro w9 h9; go_simp; try with_reducible rfl)
  simp only [List.setIfInBounds_toArray, List.set_cons_zero, List.set_cons_succ]
  refine wpSeq_done ?_
  have hL15 := hL14.no hs6
  have hM15 := hM14.no hs6
  have hP15 := hP14.fr hs6 (fun h => h)
  have hQ15 := hQ14.fr hs6 (fun h => h)
  clear hL14 hM14 hP14 hQ14 hB14 ca0 ca1 hS0
  go_wp2_with fail
  refine (live_write (fun _ => True) stepG hL15 (fun _ _ => trivial) (steps28 size hz2) hz1 hz2 (by simp; omega) _ n3 c3 l3 (hn3.no hL15.fr) (hn3.old hL15.above) (by omega)).mono ?_
  rintro e w16 ⟨rfl, tv16, hL16, hf16, hk16⟩
  rw [List.nil_append] at hL16
  have hM16 := hM15.keep hf16 hsep14 hL15.above
  have hP16 := hP15.fr hf16 hnp14
  have hQ16 := hQ15.fr hf16 hnq14
  have hB16 := hB0.fr hL16.fr (fun h => h)
  have hnp16 : ¬ Foot sb tv16 bp := fun h => by
    rcases h with h | h
    · exact hnp14 (.inl h)
    · rcases hk16 with e | e
      · rw [e] at h; simp [Value.ownBlock] at h
      · have := e _ h; have := hP15.lt; omega
  clear hL15 hM15 hP15 hQ15 hf16 hk16
  have cb0 : w16.cell? ⟨pb, 0, none⟩ = some (cS f 0) := hB16.cell 0 rfl
  have cb1 : w16.cell? ⟨pb, 1, none⟩ = some (cS f 1) := hB16.cell 1 rfl
  go_wp2_with fail
  have q3 := foldF_lt (F := stepG) hz1 f l3
  refine (refFold_any sz size f _ _ _ l3 _ h1 h2 hsz (hn3.no hL16.fr) (by omega)).mono ?_
  generalize hr3 : foldF stepG size f l3 = r3 at hL16 q3 ⊢
  rintro e w17 ⟨az, nz, cz, rfl, _, hbz, hf17⟩
  have hL17 := hL16.no hf17
  have hM17 := hM16.no hf17
  have hP17 := hP16.fr hf17 (fun h => h)
  have hQ17 := hQ16.fr hf17 (fun h => h)
  have cp0 : w17.cell? ⟨bp, 0, none⟩ = some (cS r12.1 0) := hP17.cell 0 rfl
  have cp1 : w17.cell? ⟨bp, 1, none⟩ = some (cS r12.1 1) := hP17.cell 1 rfl
  have fp0 := hP17.frozen 0
  have fp1 := hP17.frozen 1
  have hR18 : BoxAt ((w17.setCell ⟨bp, 0, none⟩ (cS r3.1 0)).setCell ⟨bp, 1, none⟩ (cS r3.1 1)) bp r3.1 := box_put (box_put hP17 0 (cS r3.1 0)) 1 (cS r3.1 1)
  have hF18 : Fr (fun x => x = bp) w17 ((w17.setCell ⟨bp, 0, none⟩ (cS r3.1 0)).setCell ⟨bp, 1, none⟩ (cS r3.1 1)) := ((Fr.refl (fun x => x = bp) w17).setCell (p := ⟨bp, 0, none⟩) (.inl rfl) _).setCell (p := ⟨bp, 1, none⟩) (.inl rfl) _
  clear cb0 cb1 hL16 hM16 hP16 hQ16 hB16
  go_wp2_with fail
  have hL18 := hL17.keep hF18 (fun x hx => by rw [hx]; exact hnp16) (fun x hx => by rw [hx]; exact hgp)
  have hM18 := hM17.keep hF18 (fun x hx => by rw [hx]; exact hmp) (fun x hx => by rw [hx]; exact hgp)
  have hQ18 := hQ17.fr hF18 (fun h => hne h.symm)
  have hbz18 := (hbz _ hn3).no hL18.fr
  clear cp0 cp1 fp0 fp1 hL17 hM17 hP17 hQ17 hf17
  generalize ((w17.setCell ⟨bp, 0, none⟩ (cS r3.1 0)).setCell ⟨bp, 1, none⟩ (cS r3.1 1)) = w18 at hR18 hL18 hM18 hQ18 hbz18 ⊢
  have cp0 : w18.cell? ⟨bp, 0, none⟩ = some (cS r3.1 0) := hR18.cell 0 rfl
  have cp1 : w18.cell? ⟨bp, 1, none⟩ = some (cS r3.1 1) := hR18.cell 1 rfl
  have cq0 : w18.cell? ⟨bq, 0, none⟩ = some (cS r13.1 0) := hQ18.cell 0 rfl
  have cq1 : w18.cell? ⟨bq, 1, none⟩ = some (cS r13.1 1) := hQ18.cell 1 rfl
  refine wp_region_seq (by kernel_rfl) (fun w' => Fr No w18 w') (fun _ => false) [(0, 1), (2, 1), (1, 0), (3, 1), (4, 1), (5, 1), (7, 1), (6, 0), (8, 0), (9, 1), (10, 1), (11, 1), (13, 1), (12, 0), (14, 1), (15, 1), (16, 1)] (by kernel_rfl) (Fr.refl No w18).drew ?_
  have hS0 : Fr No w18 w18.drew := (Fr.refl No w18).drew
  refine wpSeq_take (v := ?_) 122 rfl rfl (fun _ _ _ h => h) (Or.inl ⟨rfl, ?_⟩) ?_
  rotate_left 1
  · (intro w9 h9; go_simp; try with_reducible rfl)
  simp only [List.setIfInBounds_toArray, List.set_cons_zero, List.set_cons_succ]
  refine wpSeq_take (v := ?_) 124 rfl rfl (fun _ _ _ h => h) (Or.inl ⟨rfl, ?_⟩) ?_
  rotate_left 1
  · (intro w9 h9; have cc0 := h9.cell (fun h => h) cp0; have cc1 := h9.cell (fun h => h) cp1; clear h9; go_simp; try with_reducible rfl)
  simp only [List.setIfInBounds_toArray, List.set_cons_zero, List.set_cons_succ]
  refine wpSeq_next rfl rfl (fun K hK => ?_)
  go_wp2_with fail
  refine (State_any (hL18.no hS0).st).mono ?_
  rintro e xhs7 ⟨rfl, hx⟩
  have hs7 := hS0.no hx
  clear hx
  refine hK.out _ _ (fun _ => hs7) ?_
  clear hK K
  refine wpSeq_take (v := ?_) 125 rfl rfl (fun _ _ _ h => h) (Or.inl ⟨rfl, ?_⟩) ?_
  rotate_left 1
  · (intro w9 h9; simp only [cS0, cS1]; go_simp; try with_reducible rfl)
  simp only [List.setIfInBounds_toArray, List.set_cons_zero, List.set_cons_succ]
  refine wpSeq_take (v := ?_) 126 rfl rfl (fun _ _ _ h => h) (Or.inl ⟨rfl, ?_⟩) ?_
  rotate_left 1
  · (intro w9 h9; go_simp; try with_reducible rfl)
  simp only [List.setIfInBounds_toArray, List.set_cons_zero, List.set_cons_succ]
  refine wpSeq_take (v := ?_) 127 rfl rfl (fun _ _ _ h => h) (Or.inl ⟨rfl, ?_⟩) ?_
  rotate_left 1
  · (intro w9 h9; go_simp; try with_reducible rfl)
  simp only [List.setIfInBounds_toArray, List.set_cons_zero, List.set_cons_succ]
  refine wpSeq_take (v := ?_) 129 rfl rfl (fun _ _ _ h => h) (Or.inl ⟨rfl, ?_⟩) ?_
  rotate_left 1
  · (intro w9 h9; go_simp; try with_reducible rfl)
  simp only [List.setIfInBounds_toArray, List.set_cons_zero, List.set_cons_succ]
  refine wpSeq_next rfl rfl (fun K hK => ?_)
  go_wp2_with fail
  refine (Tail_any (hL18.no hs7).st (hL18.no hs7).ow (by first | omega | simp)).mono ?_
  rintro e xhs8 ⟨vhs8, rfl, ho, hx⟩
  have hs8 := hs7.no hx
  obtain ⟨ahs8, chs8, rfl, hbhs8, _⟩ := ho.bytes
  clear hx ho
  refine hK.out _ _ (fun _ => hs8) ?_
  clear hK K
  refine wpSeq_next rfl rfl (fun K hK => ?_)
  go_wp2_with fail
  refine (refSame_any _ _ _ r3.2 _ _ _ r3.2 _ hbhs8 (hbz18.no hs8)).mono ?_
  rintro e w' ⟨rfl, rfl⟩
  rw [BEq.rfl]
  refine hK.out _ _ (fun _ => hs8) ?_
  clear hK K
  refine wpSeq_take (v := ?_) 131 rfl rfl (fun _ _ _ h => h) (Or.inl ⟨rfl, ?_⟩) ?_
  rotate_left 1
  · (intro w9 h9; go_simp; try with_reducible rfl)
  simp only [List.setIfInBounds_toArray, List.set_cons_zero, List.set_cons_succ]
  refine wpSeq_take (v := ?_) 132 rfl rfl (fun _ _ _ h => h) (Or.inl ⟨rfl, ?_⟩) ?_
  rotate_left 1
  · (intro w9 h9; go_simp; try with_reducible rfl)
  simp only [List.setIfInBounds_toArray, List.set_cons_zero, List.set_cons_succ]
  refine wpSeq_take (v := ?_) 133 rfl rfl (fun _ _ _ h => h) (Or.inl ⟨rfl, ?_⟩) ?_
  rotate_left 1
  · (intro w9 h9; go_simp; try with_reducible rfl)
  simp only [List.setIfInBounds_toArray, List.set_cons_zero, List.set_cons_succ]
  refine wpSeq_take (v := ?_) 135 rfl rfl (fun _ _ _ h => h) (Or.inl ⟨rfl, ?_⟩) ?_
  rotate_left 1
  · (intro w9 h9; have cc0 := h9.cell (fun h => h) cq0; have cc1 := h9.cell (fun h => h) cq1; clear h9; go_simp; try with_reducible rfl)
  simp only [List.setIfInBounds_toArray, List.set_cons_zero, List.set_cons_succ]
  refine wpSeq_next rfl rfl (fun K hK => ?_)
  go_wp2_with fail
  refine (State_any (hM18.no hs8).st).mono ?_
  rintro e xhs9 ⟨rfl, hx⟩
  have hs9 := hs8.no hx
  clear hx
  refine hK.out _ _ (fun _ => hs9) ?_
  clear hK K
  refine wpSeq_take (v := ?_) 136 rfl rfl (fun _ _ _ h => h) (Or.inl ⟨rfl, ?_⟩) ?_
  rotate_left 1
  · (intro w9 h9; simp only [cS0, cS1]; go_simp; try with_reducible rfl)
  simp only [List.setIfInBounds_toArray, List.set_cons_zero, List.set_cons_succ]
  refine wpSeq_take (v := ?_) 137 rfl rfl (fun _ _ _ h => h) (Or.inl ⟨rfl, ?_⟩) ?_
  rotate_left 1
  · (intro w9 h9; go_simp; try with_reducible rfl)
  simp only [List.setIfInBounds_toArray, List.set_cons_zero, List.set_cons_succ]
  refine wpSeq_take (v := ?_) 10 rfl rfl (fun _ _ _ h => h) (Or.inl ⟨rfl, ?_⟩) ?_
  rotate_left 1
  · (intro w9 h9; go_simp; try with_reducible rfl)
  simp only [List.setIfInBounds_toArray, List.set_cons_zero, List.set_cons_succ]
  refine wpSeq_done ?_
  have hfin := hfB.no (hL18.fr.no hs9)
  go_wp2_with fail
  go_ret
  exact ⟨rfl, hfin⟩
end Go.Proofs.Ythjpnkjbkkeoaaa.StS28
