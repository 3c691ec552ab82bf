/- BlockSets' walk. -/
import Derived.Test.YthjpnkjbkkeoaaaLaw28
import Derived.Test.YthjpnkjbkkeoaaaSetS28
import Derived.Test.YthjpnkjbkkeoaaaSeq
import Derived.Test.YthjpnkjbkkeoaaaWords2
namespace Go.Proofs.Ythjpnkjbkkeoaaa.StS28
set_option linter.unusedVariables false
set_option linter.unusedSimpArgs false
open Go.RowKit
theorem made_nilI (w : World) : Calls Try.prog 33 #[.pointer none] w (Gives (.bool false) w) := by
  go_enter Try.func33, Try.ntmps33
  go_wp2
  go_ret
  exact ⟨rfl, rfl⟩
theorem Write_nilI (a : Option Addr) (n c : Nat) (w : World) : Calls Try.prog 22 #[.pointer none, .slice a n c] w (Gives (.tuple #[]) w) := by
  go_enter Try.func22, Try.ntmps22
  go_wp2_with (go_at_call 33; refine (made_nilI _).mono ?_; rintro e w' ⟨rfl, rfl⟩)
  go_end0
  exact ⟨rfl, rfl⟩
theorem Reset_nilI (w : World) : Calls Try.prog 23 #[.pointer none] w (Gives (.tuple #[]) w) := by
  go_enter Try.func23, Try.ntmps23
  go_wp2_with (go_at_call 33; refine (made_nilI _).mono ?_; rintro e w' ⟨rfl, rfl⟩)
  go_end0
  exact ⟨rfl, rfl⟩
theorem State_nilI (w : World) : Calls Try.prog 24 #[.pointer none] w (Gives (.int .i64 0) w) := by
  go_enter Try.func24, Try.ntmps24
  go_wp2_with (go_at_call 33; refine (made_nilI _).mono ?_; rintro e w' ⟨rfl, rfl⟩)
  go_ret
  exact ⟨rfl, rfl⟩
theorem Tail_nilI (w : World) : Calls Try.prog 25 #[.pointer none] w (Gives (.slice none 0 0) w) := by
  go_enter Try.func25, Try.ntmps25
  go_wp2_with (go_at_call 33; refine (made_nilI _).mono ?_; rintro e w' ⟨rfl, rfl⟩)
  go_ret
  exact ⟨rfl, rfl⟩
theorem Long_nilI (w : World) : Calls Try.prog 26 #[.pointer none] w (Gives (.int .u64 0) w) := by
  go_enter Try.func26, Try.ntmps26
  go_wp2_with (go_at_call 33; refine (made_nilI _).mono ?_; rintro e w' ⟨rfl, rfl⟩)
  go_ret
  exact ⟨rfl, rfl⟩
theorem Clone_nilI (w : World) : Calls Try.prog 27 #[.pointer none] w (Gives (.pointer none) w) := by
  go_enter Try.func27, Try.ntmps27
  go_wp2_with (go_at_call 33; refine (made_nilI _).mono ?_; rintro e w' ⟨rfl, rfl⟩)
  go_ret
  exact ⟨rfl, rfl⟩
theorem Set_nilI (w : World) : Calls Try.prog 28 #[.pointer none, .int .i64 1, .int .u64 0, .slice none 0 0] w (Gives (.bool false) w) := by
  go_enter Try.func28, Try.ntmps28
  go_wp2_with (go_at_call 33; refine (made_nilI _).mono ?_; rintro e w' ⟨rfl, rfl⟩)
  go_ret
  exact ⟨rfl, rfl⟩
theorem fits_lt {n : Nat} {lo : BitVec 64} {size : Nat} (h : fitsB n lo size = true) (hn : n ≤ 1099511627776) (h1 : 1 ≤ size) (h2 : size ≤ 64) : n < size := by
  unfold fitsB at h
  have := congrArg BitVec.toNat (beq_iff_eq.1 h)
  simp only [BitVec.toNat_umod, BitVec.toNat_ofNat] at this
  rw [Nat.mod_eq_of_lt (show n < 2 ^ 64 by omega), Nat.mod_eq_of_lt (show size < 2 ^ 64 by omega)] at this
  rw [this]
  exact Nat.mod_lt _ (by omega)
theorem cS_zero : Value.agg #[cS ((0#64, 0) : ST) 0, cS ((0#64, 0) : ST) 1] = .agg #[.int .u64 0, .int .i64 0] := rfl
theorem eql_zero (w : World) : (binOp .eql 27 (.agg #[cS ((0#64, 0) : ST) 0, cS ((0#64, 0) : ST) 1]) (.agg #[.int .u64 0, .int .i64 0])).run Try.prog w = .ok (.bool true) w := eql_self (0#64, 0) w
set_option maxHeartbeats 400000 in
theorem BlockSets_long (sz : Int) (x lo : BitVec 64) (a1 : Option Addr) (n1 c1 : Nat) (l1 : Bytes) (a2 : Option Addr) (n2 c2 : Nat) (l2 : Bytes) (w : World) (h : 100 < n1 ∨ 300 < n2) : Calls Try.prog 5 #[.int .i64 sz, .int .u64 (W64 x), .int .u64 (W64 lo), .slice a1 n1 c1, .slice a2 n2 c2] w (Yes w) := by
  by_cases h1 : 100 < n1
  · have i1 : (100 : Int) < (n1 : Int) := by omega
    clear h h1
    go_enter Try.func5, Try.ntmps5
    go_wp2_with (go_at_call 6; refine (awake_yes _).mono ?_; rintro e w1 ⟨rfl, hf1⟩)
    go_ret
    exact ⟨rfl, hf1⟩
  · have i1 : (n1 : Int) ≤ 100 := by omega
    have i2 : (300 : Int) < (n2 : Int) := by omega
    clear h h1
    go_enter Try.func5, Try.ntmps5
    go_wp2_with (go_at_call 6; refine (awake_yes _).mono ?_; rintro e w1 ⟨rfl, hf1⟩)
    go_ret
    exact ⟨rfl, hf1⟩
set_option maxHeartbeats 4000000 in
theorem BlockSets_unfit (sz : Int) (x lo : BitVec 64) (a1 : Option Addr) (n1 c1 : Nat) (l1 : Bytes) (a2 : Option Addr) (n2 c2 : Nat) (l2 : Bytes) (w : World) (i1 : (n1 : Int) ≤ 100) (i2 : (n2 : Int) ≤ 300) (h1 : -9223372036854775808 ≤ sz) (h2 : sz ≤ 9223372036854775807) (hfit : ∀ size : Nat, sizeOk sz = size → fitsB n1 lo size = false) :
    Calls Try.prog 5 #[.int .i64 sz, .int .u64 (W64 x), .int .u64 (W64 lo), .slice a1 n1 c1, .slice a2 n2 c2] w (Yes w) := by
  obtain ⟨size, hsz⟩ : ∃ size : Nat, sizeOk sz = size := ⟨(sizeOk sz).toNat, by have := sizeOk_bd sz; omega⟩
  have hz1 : 1 ≤ size := by have := sizeOk_bd sz; omega
  have hz2 : size ≤ 64 := by have := sizeOk_bd sz; omega
  have hfit0 := hfit size hsz
  have hfit2 : (BitVec.ofNat 64 n1 == lo % BitVec.ofNat 64 size) = false := hfit0
  have hzz := size_ne size hz1 hz2
  have hzz' : ¬ BitVec.ofNat 64 size = 0#64 := by simpa using hzz
  clear hfit
  go_enter Try.func5, Try.ntmps5
  go_wp2_with fail
  refine (awake_yes _).mono ?_
  rintro e w1 ⟨rfl, hf1⟩
  go_wp2_with fail
  refine (New_live sz size (0#64, 0) _ _ h1 h2 hsz (Fr.refl No _)).mono ?_
  rintro e w2 ⟨sb, rfl, _, hL2, _⟩
  have hBn : BoxAt (w2.alloc (.cells #[.int .u64 (W64 x), .int .i64 7] 27)) w2.heap.size (x, 7) := heap_alloc_new w2 _
  have hL3 := hL2.no ((Fr.refl No w2).alloc (.cells #[.int .u64 (W64 x), .int .i64 7] 27))
  have hps := hL2.lt sb (.inl rfl)
  obtain ⟨nw, hnw⟩ : ∃ f : ST, f = (x, 7) := ⟨_, rfl⟩
  rw [← hnw] at hBn
  clear hL2 hnw
  go_wp2_with fail
  refine (Size_any _ _ h1 h2).mono ?_
  rw [hsz]
  rintro e w' ⟨rfl, rfl⟩
  obtain ⟨pb, hpb⟩ : ∃ pb, pb = w2.heap.size := ⟨_, rfl⟩
  rw [← hpb] at hBn hps ⊢
  generalize w2.alloc (.cells #[.int .u64 (W64 x), .int .i64 7] 27) = w3 at hBn hL3 ⊢
  clear hpb
  have cb0 : w3.cell? ⟨pb, 0, none⟩ = some (cS nw 0) := hBn.cell 0 rfl
  have cb1 : w3.cell? ⟨pb, 1, none⟩ = some (cS nw 1) := hBn.cell 1 rfl
  go_wp2_with fail
  refine (Set_no hL3.st hz1 hz2 nw lo _ n1 c1 hfit0).mono ?_
  rintro e w4 ⟨rfl, hf4⟩
  have hL4 := hL3.no hf4
  clear hL3 cb0 cb1 hBn
  go_wp2_with fail
  refine (State_any hL4.st).mono ?_
  rintro e w5 ⟨rfl, hf5⟩
  have hL5 := hL4.no hf5
  rw [cS_zero]
  go_wp2_with fail
  refine (Long_any hL5.st).mono ?_
  rintro e w' ⟨rfl, rfl⟩
  go_wp2_with fail
  refine (Tail_any hL5.st hL5.ow (by simp)).mono ?_
  rintro e w6 ⟨v6, rfl, ho6, hf6⟩
  obtain ⟨a6, c6, rfl, _, _⟩ := ho6.bytes
  have hL6 := hL5.no hf6
  go_wp2_with fail
  go_ret
  exact ⟨rfl, hf1.no hL6.fr⟩
set_option maxHeartbeats 8000000 in
theorem BlockSets_fit (sz : Int) (x lo : BitVec 64) (a1 : Option Addr) (n1 c1 : Nat) (l1 : Bytes) (a2 : Option Addr) (n2 c2 : Nat) (l2 : Bytes) (w : World) (hb1 : IsBytes w a1 n1 c1 l1) (hb2 : IsBytes w a2 n2 c2 l2) (i1 : (n1 : Int) ≤ 100) (i2 : (n2 : Int) ≤ 300) (h1 : -9223372036854775808 ≤ sz) (h2 : sz ≤ 9223372036854775807) (hfit : ∀ size : Nat, sizeOk sz = size → fitsB n1 lo size = true) :
    Calls Try.prog 5 #[.int .i64 sz, .int .u64 (W64 x), .int .u64 (W64 lo), .slice a1 n1 c1, .slice a2 n2 c2] w (Yes w) := by
  have m1 : n1 ≤ 100 := by omega
  have m2 : n2 ≤ 300 := by omega
  have hlen12 : Hid ((l1 ++ l2).length = n1 + n2) := by show _ = _; rw [List.length_append, hb1.1, hb2.1]
  have hl1 := Lib.hid hb1.1
  obtain ⟨size, hsz⟩ : ∃ size : Nat, sizeOk sz = size := ⟨(sizeOk sz).toNat, by have := sizeOk_bd sz; omega⟩
  have hz1 : 1 ≤ size := by have := sizeOk_bd sz; omega
  have hz2 : size ≤ 64 := by have := sizeOk_bd sz; omega
  have hfit0 := hfit size hsz
  have hfit2 : (BitVec.ofNat 64 n1 == lo % BitVec.ofNat 64 size) = true := hfit0
  have hzz := size_ne size hz1 hz2
  have hzz' : ¬ BitVec.ofNat 64 size = 0#64 := by simpa using hzz
  clear hfit
  go_enter Try.func5, Try.ntmps5
  go_wp2_with fail
  refine (awake_yes _).mono ?_
  rintro e w1 ⟨rfl, hf1⟩
  go_wp2_with fail
  refine (New_live sz size (0#64, 0) _ _ h1 h2 hsz (Fr.refl No _)).mono ?_
  rintro e w2 ⟨sb, rfl, _, hL2, _⟩
  have hBn : BoxAt (w2.alloc (.cells #[.int .u64 (W64 x), .int .i64 7] 27)) w2.heap.size (x, 7) := heap_alloc_new w2 _
  have hL3 := hL2.no ((Fr.refl No w2).alloc (.cells #[.int .u64 (W64 x), .int .i64 7] 27))
  have hps := hL2.lt sb (.inl rfl)
  obtain ⟨nw, hnw⟩ : ∃ f : ST, f = (x, 7) := ⟨_, rfl⟩
  rw [← hnw] at hBn
  clear hL2 hnw
  go_wp2_with fail
  refine (Size_any _ _ h1 h2).mono ?_
  rw [hsz]
  rintro e w' ⟨rfl, rfl⟩
  obtain ⟨pb, hpb⟩ : ∃ pb, pb = w2.heap.size := ⟨_, rfl⟩
  rw [← hpb] at hBn hps ⊢
  generalize w2.alloc (.cells #[.int .u64 (W64 x), .int .i64 7] 27) = w3 at hBn hL3 ⊢
  clear hpb
  have cb0 : w3.cell? ⟨pb, 0, none⟩ = some (cS nw 0) := hBn.cell 0 rfl
  have cb1 : w3.cell? ⟨pb, 1, none⟩ = some (cS nw 1) := hBn.cell 1 rfl
  go_wp2_with fail
  have hn1 := hb1.no hf1
  have hn2 := hb2.no hf1
  refine (Set_yes hL3.st hz1 hz2 nw lo _ n1 c1 l1 (hn1.no hL3.fr) (by omega) hfit0).mono ?_
  rintro e w4 ⟨tv4, rfl, hst4, hown4, hf4⟩
  have hL4 : Live w1 w4 sb size (0#64, 0) nw 0 l1 lo tv4 := ⟨hst4, hown4.mono hL3.fr.size, hL3.ge, hL3.fr.trans hf4 (fun x hx => .inr (by have := hL3.ge; omega))⟩
  have hB4 := hBn.fr hf4 (by omega)
  have hnew : ∀ x, tv4.ownBlock = some x → pb < x := fun x hx => by have := own_ge hown4 hx; have := hBn.lt; omega
  clear hL3 cb0 cb1 hBn hst4 hown4 hf4
  go_wp2_with fail
  have hql : l1.length < size := by rw [hl1.out]; exact fits_lt hfit0 (by omega) hz1 hz2
  refine (live_write (fun _ => True) stepG hL4 (fun _ _ => trivial) (steps28 size hz2) hz1 hz2 hql _ n2 c2 l2 (hn2.no hL4.fr) (hn2.old (fun x g => hL4.above x g)) (by omega)).mono ?_
  have q5 := foldF_lt (F := stepG) hz1 nw (l1 ++ l2)
  generalize hr : foldF stepG size nw (l1 ++ l2) = r at q5 ⊢
  have HR := Lib.hid hr
  clear hr
  rintro e w6 ⟨rfl, tv6, hL6, hf6, _⟩
  have hB6 := hB4.fr hf6 (fun g => by rcases g with g | g; omega; have := hnew _ g; omega)
  have cb0 : w6.cell? ⟨pb, 0, none⟩ = some (cS nw 0) := hB6.cell 0 rfl
  have cb1 : w6.cell? ⟨pb, 1, none⟩ = some (cS nw 1) := hB6.cell 1 rfl
  have hfB6 := hL6.fr
  have hfBw := hf1
  clear hL4 hB4 hf6 hB6 hnew hf1
  go_wp2_with fail
  refine wp_region_late (by kernel_rfl) (fun w' => Fr No w6 w') (fun _ => false) (Fr.refl No w6).drew (fun hv0 => ?_)
  refine wpLate_seg [(0, 1), (1, 1), (2, 1), (3, 1)] 8 #[true, true, true, true, false, false, false, false, false, false, false, false] (by kernel_rfl) rfl hv0 ?_
  refine wpSeq_take (v := ?_) 69 rfl rfl (fun _ _ _ h => h) (Or.inl ⟨rfl, ?_⟩) ?_
  rotate_left 1
  · (intro w9 h9; go_simp; try with_reducible rfl)
  simp only [List.setIfInBounds_toArray, List.set_cons_zero, List.set_cons_succ]
  refine wpSeq_take (v := ?_) 70 rfl rfl (fun _ _ _ h => h) (Or.inl ⟨rfl, ?_⟩) ?_
  rotate_left 1
  · (intro w9 h9; have cc0 := h9.cell (fun h => h) cb0; have cc1 := h9.cell (fun h => h) cb1; clear h9; go_simp; try with_reducible rfl)
  simp only [List.setIfInBounds_toArray, List.set_cons_zero, List.set_cons_succ]
  refine wpSeq_take (v := ?_) 71 rfl rfl (fun _ _ _ h => h) (Or.inl ⟨rfl, ?_⟩) ?_
  rotate_left 1
  · (intro w9 h9; go_simp; try with_reducible rfl)
  simp only [List.setIfInBounds_toArray, List.set_cons_zero, List.set_cons_succ]
  refine wpSeq_take (v := ?_) 72 rfl rfl (fun _ _ _ h => h) (Or.inl ⟨rfl, ?_⟩) ?_
  rotate_left 1
  · (intro w9 h9; go_simp; try with_reducible rfl)
  simp only [List.setIfInBounds_toArray, List.set_cons_zero, List.set_cons_succ]
  refine wpSeq_done ?_
  refine wpLate_two (i := 4) (j := 9) (by kernel_rfl) rfl rfl rfl rfl (fun K hK => ?_) (fun K hK => ?_)
  · go_wp2_with fail
    refine (refBoth_any _ _ _ l1 _ _ _ l2 _ (hn1.no (hfB6.no hv0)) (hn2.no (hfB6.no hv0)) (by omega)).mono ?_
    rintro e y1 ⟨vb, rfl, hob, hx⟩
    have hy1 := hv0.no hx
    obtain ⟨ab, cab, rfl, hyb, _⟩ := hob.bytes
    rw [List.length_append] at hyb
    clear hx
    refine hK.out _ _ (fun _ => hy1) ?_
    clear hK K
    refine wpLate_seg [] 7 #[true, true, true, true, true, false, false, false, false, false, false, false] (by kernel_rfl) rfl hy1 ?_
    refine wpSeq_done ?_
    refine wpLate_two (i := 5) (j := 9) (by kernel_rfl) rfl rfl rfl rfl (fun K hK => ?_) (fun K hK => ?_)
    · go_wp2_with fail
      refine (refFold_any sz size nw _ _ _ (l1 ++ l2) _ h1 h2 hsz hyb (by have := hlen12.out; rw [List.length_append] at this; omega)).mono ?_
      rw [HR.out]
      rintro e y2 ⟨aq, nq, cq, rfl, _, hst, hx⟩
      have HST := Lib.hid hst
      clear hst
      have hy2 := hy1.no hx
      replace hyb := hyb.no hx
      replace hob := hob.no hx
      clear hx
      refine hK.out _ _ (fun _ => hy2) ?_
      clear hK K
      refine wpLate_seg [(6, 1), (7, 1), (8, 1), (9, 0), (10, 0), (11, 1)] 0 #[true, true, true, true, true, true, true, true, true, true, true, true] (by kernel_rfl) rfl hy2 ?_
      refine wpSeq_take (v := ?_) 68 rfl rfl (fun _ _ _ h => h) (Or.inl ⟨rfl, ?_⟩) ?_
      rotate_left 1
      · (intro w9 h9; go_simp; try with_reducible rfl)
      simp only [List.setIfInBounds_toArray, List.set_cons_zero, List.set_cons_succ]
      refine wpSeq_take (v := ?_) 75 rfl rfl (fun _ _ _ h => h) (Or.inl ⟨rfl, ?_⟩) ?_
      rotate_left 1
      · (intro w9 h9; go_simp; try with_reducible rfl)
      simp only [List.setIfInBounds_toArray, List.set_cons_zero, List.set_cons_succ]
      refine wpSeq_take (v := ?_) 76 rfl rfl (fun _ _ _ h => h) (Or.inl ⟨rfl, ?_⟩) ?_
      rotate_left 1
      · (intro w9 h9; go_simp; try with_reducible rfl)
      simp only [List.setIfInBounds_toArray, List.set_cons_zero, List.set_cons_succ]
      refine wpSeq_next rfl rfl (fun K hK => ?_)
      go_wp2_with fail
      have ha3 : Fr No w6 (y2.alloc (.cells #[.int .u64 0, .int .i64 0] 27)) := hy2.alloc _
      refine hK.out _ _ (fun _ => ha3) ?_
      clear hK K
      have hZ : (y2.alloc (.cells #[.int .u64 0, .int .i64 0] 27)).heap[y2.heap.size]? = some (.cells #[.int .u64 0, .int .i64 0] 27 (0, 0)) := heap_alloc_new (y2) _
      have hyb' := hyb.no ((Fr.refl No (y2)).alloc (.cells #[.int .u64 0, .int .i64 0] 27))
      have hob' := hob.no ((Fr.refl No (y2)).alloc (.cells #[.int .u64 0, .int .i64 0] 27))
      have hsp : ∀ x, (Value.slice ab (l1 ++ l2).length cab).ownBlock = some x → x ≠ y2.heap.size := fun x hx => by have := own_lt hob hx; omega
      obtain ⟨rb, hrb⟩ : ∃ rb, rb = y2.heap.size := ⟨_, rfl⟩
      have hrl : w6.heap.size ≤ rb := by rw [hrb]; exact hy2.size
      rw [← hrb] at hZ hsp ⊢
      clear hrb
      replace hyb := hyb'
      clear hyb'
      replace hob := hob'
      clear hob'
      generalize y2.alloc (.cells #[.int .u64 0, .int .i64 0] 27) = wz at ha3 hZ hyb hob ⊢
      have cz0 : wz.cell? ⟨rb, 0, none⟩ = some (.int .u64 0) := by rw [cell_of_row _ _ 0 _ _ _ hZ]; rfl
      have cz1 : wz.cell? ⟨rb, 1, none⟩ = some (.int .i64 0) := by rw [cell_of_row _ _ 1 _ _ _ hZ]; rfl
      have fz0 := frozen_of_row wz rb 0 _ _ hZ
      have fz1 := frozen_of_row wz rb 1 _ _ hZ
      refine wpSeq_next rfl rfl (fun K hK => ?_)
      go_wp2_with fail
      have hvB : Fr No w6 ((wz.setCell ⟨rb, 0, none⟩ (cS r.1 0)).setCell ⟨rb, 1, none⟩ (cS r.1 1)) := (ha3.setCell (p := ⟨rb, 0, none⟩) (.inr hrl) _).setCell (p := ⟨rb, 1, none⟩) (.inr hrl) _
      refine hK.out _ _ (fun _ => hvB) ?_
      clear hK K
      refine wpSeq_take (v := ?_) 15 rfl rfl (fun _ _ _ h => h) (Or.inl ⟨rfl, ?_⟩) ?_
      rotate_left 1
      · (intro w9 h9; go_simp; try with_reducible rfl)
      simp only [List.setIfInBounds_toArray, List.set_cons_zero, List.set_cons_succ]
      refine wpSeq_done ?_
      refine wpLate_done (by kernel_rfl) ?_ _
      have hQ : BoxAt ((wz.setCell ⟨rb, 0, none⟩ (cS r.1 0)).setCell ⟨rb, 1, none⟩ (cS r.1 1)) rb r.1 := by
        unfold BoxAt
        rw [heap_setCell_same _ _ _ _ _ _ (heap_setCell_same _ _ _ _ _ _ hZ)]; rfl
      have hobF := hob.fr (show Fr (fun x => x = rb) _ ((wz.setCell ⟨rb, 0, none⟩ (cS r.1 0)).setCell ⟨rb, 1, none⟩ (cS r.1 1)) from ((Fr.refl (fun x => x = rb) _).setCell (p := ⟨rb, 0, none⟩) (.inl rfl) _).setCell (p := ⟨rb, 1, none⟩) (.inl rfl) _) (fun x hx e => hsp x hx e)
      obtain ⟨a5, c5, he5, hybF, _⟩ := hobF.bytes
      cases he5
      rw [List.length_append] at hybF
      have hbq7 := HST.out _ hybF
      clear hobF hob hyb hybF hsp HST hZ cz0 cz1 fz0 fz1
      generalize (wz.setCell ⟨rb, 0, none⟩ (cS r.1 0)).setCell ⟨rb, 1, none⟩ (cS r.1 1) = w7 at hQ hbq7 hvB ⊢
      have hL7 := hL6.no hvB
      clear hL6 hvB cb0 cb1
      go_wp2_with fail
      refine (Write_nilI _ _ _ _).mono ?_
      rintro e w8 ⟨rfl, rfl⟩
      go_wp2_with fail
      refine (Reset_nilI _).mono ?_
      rintro e w8 ⟨rfl, rfl⟩
      obtain ⟨w8, rfl⟩ : ∃ w8 : World, w8 = w7 := ⟨_, rfl⟩
      have hL8 := hL7
      have hbq8 := hbq7
      have cq0 : w8.cell? ⟨rb, 0, none⟩ = some (cS r.1 0) := hQ.cell 0 rfl
      have cq1 : w8.cell? ⟨rb, 1, none⟩ = some (cS r.1 1) := hQ.cell 1 rfl
      clear hL7 hbq7 hQ
      go_wp2_with fail
      refine wp_region_seq (by kernel_rfl) (fun w' => Fr No w8 w') (fun _ => false) [(0, 1), (2, 1), (1, 0), (3, 1), (4, 1), (5, 1), (7, 1), (6, 0), (8, 0), (9, 1), (10, 1), (11, 1), (13, 1), (14, 1), (15, 1), (16, 1), (17, 1), (12, 0), (18, 1), (19, 1), (20, 1), (21, 1), (22, 0), (23, 1), (24, 1), (25, 1), (26, 1), (27, 0), (28, 1), (29, 1), (30, 1), (31, 1), (32, 1), (33, 0), (34, 1), (35, 1), (36, 1), (37, 1), (38, 0), (39, 1), (40, 1), (41, 1), (42, 1), (43, 0), (44, 1), (45, 1), (46, 1)] (by kernel_rfl) (Fr.refl No w8).drew ?_
      have hv0 : Fr No w8 w8.drew := (Fr.refl No w8).drew
      refine wpSeq_take (v := ?_) 82 rfl rfl (fun _ _ _ h => h) (Or.inl ⟨rfl, ?_⟩) ?_
      rotate_left 1
      · (intro w9 h9; go_simp; try with_reducible rfl)
      simp only [List.setIfInBounds_toArray, List.set_cons_zero, List.set_cons_succ]
      refine wpSeq_take (v := ?_) 84 rfl rfl (fun _ _ _ h => h) (Or.inl ⟨rfl, ?_⟩) ?_
      rotate_left 1
      · (intro w9 h9; have cc0 := h9.cell (fun h => h) cq0; have cc1 := h9.cell (fun h => h) cq1; clear h9; go_simp; try with_reducible rfl)
      simp only [List.setIfInBounds_toArray, List.set_cons_zero, List.set_cons_succ]
      refine wpSeq_next rfl rfl (fun K hK => ?_)
      go_wp2_with fail
      refine (State_any (hL8.no hv0).st).mono ?_
      rintro e xhv1 ⟨rfl, hx⟩
      have hv1 := hv0.no hx
      clear hx
      refine hK.out _ _ (fun _ => hv1) ?_
      clear hK K
      refine wpSeq_take (v := ?_) 85 rfl rfl (fun _ _ _ h => h) (Or.inl ⟨rfl, ?_⟩) ?_
      rotate_left 1
      · (intro w9 h9; simp only [cS0, cS1]; go_simp; try with_reducible rfl)
      simp only [List.setIfInBounds_toArray, List.set_cons_zero, List.set_cons_succ]
      refine wpSeq_take (v := ?_) 86 rfl rfl (fun _ _ _ h => h) (Or.inl ⟨rfl, ?_⟩) ?_
      rotate_left 1
      · (intro w9 h9; go_simp; try with_reducible rfl)
      simp only [List.setIfInBounds_toArray, List.set_cons_zero, List.set_cons_succ]
      refine wpSeq_take (v := ?_) 87 rfl rfl (fun _ _ _ h => h) (Or.inl ⟨rfl, ?_⟩) ?_
      rotate_left 1
      · (intro w9 h9; go_simp; try with_reducible rfl)
      simp only [List.setIfInBounds_toArray, List.set_cons_zero, List.set_cons_succ]
      refine wpSeq_take (v := ?_) 89 rfl rfl (fun _ _ _ h => h) (Or.inl ⟨rfl, ?_⟩) ?_
      rotate_left 1
      · (intro w9 h9; go_simp; try with_reducible rfl)
      simp only [List.setIfInBounds_toArray, List.set_cons_zero, List.set_cons_succ]
      refine wpSeq_next rfl rfl (fun K hK => ?_)
      go_wp2_with fail
      refine (Tail_any (hL8.no hv1).st (hL8.no hv1).ow (by omega)).mono ?_
      rintro e xhv2 ⟨vt, rfl, ho, hx⟩
      have hv2 := hv1.no hx
      obtain ⟨at_, ct, rfl, hbt, _⟩ := ho.bytes
      clear hx ho
      refine hK.out _ _ (fun _ => hv2) ?_
      clear hK K
      refine wpSeq_next rfl rfl (fun K hK => ?_)
      go_wp2_with fail
      refine (refSame_any _ _ _ r.2 _ _ _ r.2 _ hbt (hbq8.no hv2)).mono ?_
      rintro e w' ⟨rfl, rfl⟩
      rw [BEq.rfl]
      refine hK.out _ _ (fun _ => hv2) ?_
      clear hK K
      refine wpSeq_take (v := ?_) 91 rfl rfl (fun _ _ _ h => h) (Or.inl ⟨rfl, ?_⟩) ?_
      rotate_left 1
      · (intro w9 h9; go_simp; try with_reducible rfl)
      simp only [List.setIfInBounds_toArray, List.set_cons_zero, List.set_cons_succ]
      refine wpSeq_take (v := ?_) 92 rfl rfl (fun _ _ _ h => h) (Or.inl ⟨rfl, ?_⟩) ?_
      rotate_left 1
      · (intro w9 h9; go_simp; try with_reducible rfl)
      simp only [List.setIfInBounds_toArray, List.set_cons_zero, List.set_cons_succ]
      refine wpSeq_take (v := ?_) 93 rfl rfl (fun _ _ _ h => h) (Or.inl ⟨rfl, ?_⟩) ?_
      rotate_left 1
      · (intro w9 h9; go_simp; try with_reducible rfl)
      simp only [List.setIfInBounds_toArray, List.set_cons_zero, List.set_cons_succ]
      refine wpSeq_take (v := ?_) 95 rfl rfl (fun _ _ _ h => h) (Or.inl ⟨rfl, ?_⟩) ?_
      rotate_left 1
      · (intro w9 h9; go_simp; try with_reducible rfl)
      simp only [List.setIfInBounds_toArray, List.set_cons_zero, List.set_cons_succ]
      refine wpSeq_take (v := ?_) 96 rfl rfl (fun _ _ _ h => h) (Or.inl ⟨rfl, ?_⟩) ?_
      rotate_left 1
      · (intro w9 h9; go_simp; try with_reducible rfl)
      simp only [List.setIfInBounds_toArray, List.set_cons_zero, List.set_cons_succ]
      refine wpSeq_take (v := ?_) 97 rfl rfl (fun _ _ _ h => h) (Or.inl ⟨rfl, ?_⟩) ?_
      rotate_left 1
      · (intro w9 h9; go_simp; try with_reducible rfl)
      simp only [List.setIfInBounds_toArray, List.set_cons_zero, List.set_cons_succ]
      refine wpSeq_take (v := ?_) 98 rfl rfl (fun _ _ _ h => h) (Or.inl ⟨rfl, ?_⟩) ?_
      rotate_left 1
      · (intro w9 h9; go_simp; try with_reducible rfl)
      simp only [List.setIfInBounds_toArray, List.set_cons_zero, List.set_cons_succ]
      refine wpSeq_take (v := ?_) 99 rfl rfl (fun _ _ _ h => h) (Or.inl ⟨rfl, ?_⟩) ?_
      rotate_left 1
      · (intro w9 h9; go_simp; try with_reducible rfl)
      simp only [List.setIfInBounds_toArray, List.set_cons_zero, List.set_cons_succ]
      refine wpSeq_next rfl rfl (fun K hK => ?_)
      go_wp2_with fail
      refine (Long_any (hL8.no hv2).st).mono ?_
      rintro e w' ⟨rfl, rfl⟩
      refine hK.out _ _ (fun _ => hv2) ?_
      clear hK K
      refine wpSeq_take (v := ?_) 100 rfl rfl (fun _ _ _ h => h) (Or.inl ⟨rfl, ?_⟩) ?_
      rotate_left 1
      · (intro w9 h9; go_simp; try with_reducible rfl)
      simp only [List.setIfInBounds_toArray, List.set_cons_zero, List.set_cons_succ]
      refine wpSeq_take (v := ?_) 101 rfl rfl (fun _ _ _ h => h) (Or.inl ⟨rfl, ?_⟩) ?_
      rotate_left 1
      · (intro w9 h9; go_simp; try with_reducible rfl)
      simp only [List.setIfInBounds_toArray, List.set_cons_zero, List.set_cons_succ]
      refine wpSeq_take (v := ?_) 102 rfl rfl (fun _ _ _ h => h) (Or.inl ⟨rfl, ?_⟩) ?_
      rotate_left 1
      · (intro w9 h9; go_simp; try with_reducible rfl)
      simp only [List.setIfInBounds_toArray, List.set_cons_zero, List.set_cons_succ]
      refine wpSeq_take (v := ?_) 103 rfl rfl (fun _ _ _ h => h) (Or.inl ⟨rfl, ?_⟩) ?_
      rotate_left 1
      · (intro w9 h9; go_simp; try with_reducible rfl)
      simp only [List.setIfInBounds_toArray, List.set_cons_zero, List.set_cons_succ]
      refine wpSeq_next rfl rfl (fun K hK => ?_)
      go_wp2_with fail
      refine (State_nilI _).mono ?_
      rintro e w' ⟨rfl, rfl⟩
      refine hK.out _ _ (fun _ => hv2) ?_
      clear hK K
      refine wpSeq_take (v := ?_) 105 rfl rfl (fun _ _ _ h => h) (Or.inl ⟨rfl, ?_⟩) ?_
      rotate_left 1
      · (intro w9 h9; go_simp; try with_reducible rfl)
      simp only [List.setIfInBounds_toArray, List.set_cons_zero, List.set_cons_succ]
      refine wpSeq_take (v := ?_) 106 rfl rfl (fun _ _ _ h => h) (Or.inl ⟨rfl, ?_⟩) ?_
      rotate_left 1
      · (intro w9 h9; go_simp; try with_reducible rfl)
      simp only [List.setIfInBounds_toArray, List.set_cons_zero, List.set_cons_succ]
      refine wpSeq_take (v := ?_) 107 rfl rfl (fun _ _ _ h => h) (Or.inl ⟨rfl, ?_⟩) ?_
      rotate_left 1
      · (intro w9 h9; go_simp; try with_reducible rfl)
      simp only [List.setIfInBounds_toArray, List.set_cons_zero, List.set_cons_succ]
      refine wpSeq_take (v := ?_) 108 rfl rfl (fun _ _ _ h => h) (Or.inl ⟨rfl, ?_⟩) ?_
      rotate_left 1
      · (intro w9 h9; go_simp; try with_reducible rfl)
      simp only [List.setIfInBounds_toArray, List.set_cons_zero, List.set_cons_succ]
      refine wpSeq_next rfl rfl (fun K hK => ?_)
      go_wp2_with fail
      refine (Tail_nilI _).mono ?_
      rintro e w' ⟨rfl, rfl⟩
      refine hK.out _ _ (fun _ => hv2) ?_
      clear hK K
      refine wpSeq_take (v := ?_) 110 rfl rfl (fun _ _ _ h => h) (Or.inl ⟨rfl, ?_⟩) ?_
      rotate_left 1
      · (intro w9 h9; go_simp; try with_reducible rfl)
      simp only [List.setIfInBounds_toArray, List.set_cons_zero, List.set_cons_succ]
      refine wpSeq_take (v := ?_) 111 rfl rfl (fun _ _ _ h => h) (Or.inl ⟨rfl, ?_⟩) ?_
      rotate_left 1
      · (intro w9 h9; go_simp; try with_reducible rfl)
      simp only [List.setIfInBounds_toArray, List.set_cons_zero, List.set_cons_succ]
      refine wpSeq_take (v := ?_) 112 rfl rfl (fun _ _ _ h => h) (Or.inl ⟨rfl, ?_⟩) ?_
      rotate_left 1
      · (intro w9 h9; go_simp; try with_reducible rfl)
      simp only [List.setIfInBounds_toArray, List.set_cons_zero, List.set_cons_succ]
      refine wpSeq_take (v := ?_) 113 rfl rfl (fun _ _ _ h => h) (Or.inl ⟨rfl, ?_⟩) ?_
      rotate_left 1
      · (intro w9 h9; go_simp; try with_reducible rfl)
      simp only [List.setIfInBounds_toArray, List.set_cons_zero, List.set_cons_succ]
      refine wpSeq_take (v := ?_) 114 rfl rfl (fun _ _ _ h => h) (Or.inl ⟨rfl, ?_⟩) ?_
      rotate_left 1
      · (intro w9 h9; go_simp; try with_reducible rfl)
      simp only [List.setIfInBounds_toArray, List.set_cons_zero, List.set_cons_succ]
      refine wpSeq_next rfl rfl (fun K hK => ?_)
      go_wp2_with fail
      refine (Long_nilI _).mono ?_
      rintro e w' ⟨rfl, rfl⟩
      refine hK.out _ _ (fun _ => hv2) ?_
      clear hK K
      refine wpSeq_take (v := ?_) 116 rfl rfl (fun _ _ _ h => h) (Or.inl ⟨rfl, ?_⟩) ?_
      rotate_left 1
      · (intro w9 h9; go_simp; try with_reducible rfl)
      simp only [List.setIfInBounds_toArray, List.set_cons_zero, List.set_cons_succ]
      refine wpSeq_take (v := ?_) 117 rfl rfl (fun _ _ _ h => h) (Or.inl ⟨rfl, ?_⟩) ?_
      rotate_left 1
      · (intro w9 h9; go_simp; try with_reducible rfl)
      simp only [List.setIfInBounds_toArray, List.set_cons_zero, List.set_cons_succ]
      refine wpSeq_take (v := ?_) 118 rfl rfl (fun _ _ _ h => h) (Or.inl ⟨rfl, ?_⟩) ?_
      rotate_left 1
      · (intro w9 h9; go_simp; try with_reducible rfl)
      simp only [List.setIfInBounds_toArray, List.set_cons_zero, List.set_cons_succ]
      refine wpSeq_take (v := ?_) 119 rfl rfl (fun _ _ _ h => h) (Or.inl ⟨rfl, ?_⟩) ?_
      rotate_left 1
      · (intro w9 h9; go_simp; try with_reducible rfl)
      simp only [List.setIfInBounds_toArray, List.set_cons_zero, List.set_cons_succ]
      refine wpSeq_next rfl rfl (fun K hK => ?_)
      go_wp2_with fail
      refine (Clone_nilI _).mono ?_
      rintro e w' ⟨rfl, rfl⟩
      refine hK.out _ _ (fun _ => hv2) ?_
      clear hK K
      refine wpSeq_take (v := ?_) 121 rfl rfl (fun _ _ _ h => h) (Or.inl ⟨rfl, ?_⟩) ?_
      rotate_left 1
      · (intro w9 h9; go_simp; try with_reducible rfl)
      simp only [List.setIfInBounds_toArray, List.set_cons_zero, List.set_cons_succ]
      refine wpSeq_take (v := ?_) 122 rfl rfl (fun _ _ _ h => h) (Or.inl ⟨rfl, ?_⟩) ?_
      rotate_left 1
      · (intro w9 h9; go_simp; try with_reducible rfl)
      simp only [List.setIfInBounds_toArray, List.set_cons_zero, List.set_cons_succ]
      refine wpSeq_take (v := ?_) 123 rfl rfl (fun _ _ _ h => h) (Or.inl ⟨rfl, ?_⟩) ?_
      rotate_left 1
      · (intro w9 h9; go_simp; try with_reducible rfl)
      simp only [List.setIfInBounds_toArray, List.set_cons_zero, List.set_cons_succ]
      refine wpSeq_take (v := ?_) 124 rfl rfl (fun _ _ _ h => h) (Or.inl ⟨rfl, ?_⟩) ?_
      rotate_left 1
      · (intro w9 h9; go_simp; try with_reducible rfl)
      simp only [List.setIfInBounds_toArray, List.set_cons_zero, List.set_cons_succ]
      refine wpSeq_next rfl rfl (fun K hK => ?_)
      go_wp2_with fail
      refine (Set_nilI _).mono ?_
      rintro e w' ⟨rfl, rfl⟩
      refine hK.out _ _ (fun _ => hv2) ?_
      clear hK K
      refine wpSeq_take (v := ?_) 126 rfl rfl (fun _ _ _ h => h) (Or.inl ⟨rfl, ?_⟩) ?_
      rotate_left 1
      · (intro w9 h9; go_simp; try with_reducible rfl)
      simp only [List.setIfInBounds_toArray, List.set_cons_zero, List.set_cons_succ]
      refine wpSeq_take (v := ?_) 127 rfl rfl (fun _ _ _ h => h) (Or.inl ⟨rfl, ?_⟩) ?_
      rotate_left 1
      · (intro w9 h9; go_simp; try with_reducible rfl)
      simp only [List.setIfInBounds_toArray, List.set_cons_zero, List.set_cons_succ]
      refine wpSeq_take (v := ?_) 10 rfl rfl (fun _ _ _ h => h) (Or.inl ⟨rfl, ?_⟩) ?_
      rotate_left 1
      · (intro w9 h9; go_simp; try with_reducible rfl)
      simp only [List.setIfInBounds_toArray, List.set_cons_zero, List.set_cons_succ]
      refine wpSeq_done ?_
      go_wp2_with fail
      go_ret
      exact ⟨rfl, hfBw.no (hL8.fr.no hv2)⟩
    · go_wp2_with fail
      have ha2 : Fr No w6 (y1.alloc (.cells #[.int .u64 0, .int .i64 0] 27)) := hy1.alloc _
      refine hK.out _ _ (fun _ => ha2) ?_
      clear hK K
      have hZ : (y1.alloc (.cells #[.int .u64 0, .int .i64 0] 27)).heap[y1.heap.size]? = some (.cells #[.int .u64 0, .int .i64 0] 27 (0, 0)) := heap_alloc_new (y1) _
      have hyb' := hyb.no ((Fr.refl No (y1)).alloc (.cells #[.int .u64 0, .int .i64 0] 27))
      have hob' := hob.no ((Fr.refl No (y1)).alloc (.cells #[.int .u64 0, .int .i64 0] 27))
      have hsp : ∀ x, (Value.slice ab (l1 ++ l2).length cab).ownBlock = some x → x ≠ y1.heap.size := fun x hx => by have := own_lt hob hx; omega
      obtain ⟨rb, hrb⟩ : ∃ rb, rb = y1.heap.size := ⟨_, rfl⟩
      have hrl : w6.heap.size ≤ rb := by rw [hrb]; exact hy1.size
      rw [← hrb] at hZ hsp ⊢
      clear hrb
      replace hyb := hyb'
      clear hyb'
      replace hob := hob'
      clear hob'
      generalize y1.alloc (.cells #[.int .u64 0, .int .i64 0] 27) = wz at ha2 hZ hyb hob ⊢
      refine wpLate_seg [(5, 0), (6, 1), (7, 1), (8, 1), (10, 0), (11, 1)] 0 #[true, true, true, true, true, true, true, true, true, true, true, true] (by kernel_rfl) rfl ha2 ?_
      refine wpSeq_next rfl rfl (fun K hK => ?_)
      go_wp2_with fail
      refine (refFold_any sz size nw _ _ _ (l1 ++ l2) _ h1 h2 hsz hyb (by have := hlen12.out; rw [List.length_append] at this; omega)).mono ?_
      rw [HR.out]
      rintro e y3 ⟨aq, nq, cq, rfl, _, hst, hx⟩
      have HST := Lib.hid hst
      clear hst
      have hy3 := ha2.no hx
      replace hZ := hx.heap (fun h => h) hZ
      replace hyb := hyb.no hx
      replace hob := hob.no hx
      clear hx
      refine hK.out _ _ (fun _ => hy3) ?_
      clear hK K
      refine wpSeq_take (v := ?_) 68 rfl rfl (fun _ _ _ h => h) (Or.inl ⟨rfl, ?_⟩) ?_
      rotate_left 1
      · (intro w9 h9; go_simp; try with_reducible rfl)
      simp only [List.setIfInBounds_toArray, List.set_cons_zero, List.set_cons_succ]
      refine wpSeq_take (v := ?_) 75 rfl rfl (fun _ _ _ h => h) (Or.inl ⟨rfl, ?_⟩) ?_
      rotate_left 1
      · (intro w9 h9; go_simp; try with_reducible rfl)
      simp only [List.setIfInBounds_toArray, List.set_cons_zero, List.set_cons_succ]
      refine wpSeq_take (v := ?_) 76 rfl rfl (fun _ _ _ h => h) (Or.inl ⟨rfl, ?_⟩) ?_
      rotate_left 1
      · (intro w9 h9; go_simp; try with_reducible rfl)
      simp only [List.setIfInBounds_toArray, List.set_cons_zero, List.set_cons_succ]
      have cz0 : y3.cell? ⟨rb, 0, none⟩ = some (.int .u64 0) := by rw [cell_of_row _ _ 0 _ _ _ hZ]; rfl
      have cz1 : y3.cell? ⟨rb, 1, none⟩ = some (.int .i64 0) := by rw [cell_of_row _ _ 1 _ _ _ hZ]; rfl
      have fz0 := frozen_of_row y3 rb 0 _ _ hZ
      have fz1 := frozen_of_row y3 rb 1 _ _ hZ
      refine wpSeq_next rfl rfl (fun K hK => ?_)
      go_wp2_with fail
      have hvB : Fr No w6 ((y3.setCell ⟨rb, 0, none⟩ (cS r.1 0)).setCell ⟨rb, 1, none⟩ (cS r.1 1)) := (hy3.setCell (p := ⟨rb, 0, none⟩) (.inr hrl) _).setCell (p := ⟨rb, 1, none⟩) (.inr hrl) _
      refine hK.out _ _ (fun _ => hvB) ?_
      clear hK K
      refine wpSeq_take (v := ?_) 15 rfl rfl (fun _ _ _ h => h) (Or.inl ⟨rfl, ?_⟩) ?_
      rotate_left 1
      · (intro w9 h9; go_simp; try with_reducible rfl)
      simp only [List.setIfInBounds_toArray, List.set_cons_zero, List.set_cons_succ]
      refine wpSeq_done ?_
      refine wpLate_done (by kernel_rfl) ?_ _
      have hQ : BoxAt ((y3.setCell ⟨rb, 0, none⟩ (cS r.1 0)).setCell ⟨rb, 1, none⟩ (cS r.1 1)) rb r.1 := by
        unfold BoxAt
        rw [heap_setCell_same _ _ _ _ _ _ (heap_setCell_same _ _ _ _ _ _ hZ)]; rfl
      have hobF := hob.fr (show Fr (fun x => x = rb) _ ((y3.setCell ⟨rb, 0, none⟩ (cS r.1 0)).setCell ⟨rb, 1, none⟩ (cS r.1 1)) from ((Fr.refl (fun x => x = rb) _).setCell (p := ⟨rb, 0, none⟩) (.inl rfl) _).setCell (p := ⟨rb, 1, none⟩) (.inl rfl) _) (fun x hx e => hsp x hx e)
      obtain ⟨a5, c5, he5, hybF, _⟩ := hobF.bytes
      cases he5
      rw [List.length_append] at hybF
      have hbq7 := HST.out _ hybF
      clear hobF hob hyb hybF hsp HST hZ cz0 cz1 fz0 fz1
      generalize (y3.setCell ⟨rb, 0, none⟩ (cS r.1 0)).setCell ⟨rb, 1, none⟩ (cS r.1 1) = w7 at hQ hbq7 hvB ⊢
      have hL7 := hL6.no hvB
      clear hL6 hvB cb0 cb1
      go_wp2_with fail
      refine (Write_nilI _ _ _ _).mono ?_
      rintro e w8 ⟨rfl, rfl⟩
      go_wp2_with fail
      refine (Reset_nilI _).mono ?_
      rintro e w8 ⟨rfl, rfl⟩
      obtain ⟨w8, rfl⟩ : ∃ w8 : World, w8 = w7 := ⟨_, rfl⟩
      have hL8 := hL7
      have hbq8 := hbq7
      have cq0 : w8.cell? ⟨rb, 0, none⟩ = some (cS r.1 0) := hQ.cell 0 rfl
      have cq1 : w8.cell? ⟨rb, 1, none⟩ = some (cS r.1 1) := hQ.cell 1 rfl
      clear hL7 hbq7 hQ
      go_wp2_with fail
      refine wp_region_seq (by kernel_rfl) (fun w' => Fr No w8 w') (fun _ => false) [(0, 1), (2, 1), (1, 0), (3, 1), (4, 1), (5, 1), (7, 1), (6, 0), (8, 0), (9, 1), (10, 1), (11, 1), (13, 1), (14, 1), (15, 1), (16, 1), (17, 1), (12, 0), (18, 1), (19, 1), (20, 1), (21, 1), (22, 0), (23, 1), (24, 1), (25, 1), (26, 1), (27, 0), (28, 1), (29, 1), (30, 1), (31, 1), (32, 1), (33, 0), (34, 1), (35, 1), (36, 1), (37, 1), (38, 0), (39, 1), (40, 1), (41, 1), (42, 1), (43, 0), (44, 1), (45, 1), (46, 1)] (by kernel_rfl) (Fr.refl No w8).drew ?_
      have hv0 : Fr No w8 w8.drew := (Fr.refl No w8).drew
      refine wpSeq_take (v := ?_) 82 rfl rfl (fun _ _ _ h => h) (Or.inl ⟨rfl, ?_⟩) ?_
      rotate_left 1
      · (intro w9 h9; go_simp; try with_reducible rfl)
      simp only [List.setIfInBounds_toArray, List.set_cons_zero, List.set_cons_succ]
      refine wpSeq_take (v := ?_) 84 rfl rfl (fun _ _ _ h => h) (Or.inl ⟨rfl, ?_⟩) ?_
      rotate_left 1
      · (intro w9 h9; have cc0 := h9.cell (fun h => h) cq0; have cc1 := h9.cell (fun h => h) cq1; clear h9; go_simp; try with_reducible rfl)
      simp only [List.setIfInBounds_toArray, List.set_cons_zero, List.set_cons_succ]
      refine wpSeq_next rfl rfl (fun K hK => ?_)
      go_wp2_with fail
      refine (State_any (hL8.no hv0).st).mono ?_
      rintro e xhv1 ⟨rfl, hx⟩
      have hv1 := hv0.no hx
      clear hx
      refine hK.out _ _ (fun _ => hv1) ?_
      clear hK K
      refine wpSeq_take (v := ?_) 85 rfl rfl (fun _ _ _ h => h) (Or.inl ⟨rfl, ?_⟩) ?_
      rotate_left 1
      · (intro w9 h9; simp only [cS0, cS1]; go_simp; try with_reducible rfl)
      simp only [List.setIfInBounds_toArray, List.set_cons_zero, List.set_cons_succ]
      refine wpSeq_take (v := ?_) 86 rfl rfl (fun _ _ _ h => h) (Or.inl ⟨rfl, ?_⟩) ?_
      rotate_left 1
      · (intro w9 h9; go_simp; try with_reducible rfl)
      simp only [List.setIfInBounds_toArray, List.set_cons_zero, List.set_cons_succ]
      refine wpSeq_take (v := ?_) 87 rfl rfl (fun _ _ _ h => h) (Or.inl ⟨rfl, ?_⟩) ?_
      rotate_left 1
      · (intro w9 h9; go_simp; try with_reducible rfl)
      simp only [List.setIfInBounds_toArray, List.set_cons_zero, List.set_cons_succ]
      refine wpSeq_take (v := ?_) 89 rfl rfl (fun _ _ _ h => h) (Or.inl ⟨rfl, ?_⟩) ?_
      rotate_left 1
      · (intro w9 h9; go_simp; try with_reducible rfl)
      simp only [List.setIfInBounds_toArray, List.set_cons_zero, List.set_cons_succ]
      refine wpSeq_next rfl rfl (fun K hK => ?_)
      go_wp2_with fail
      refine (Tail_any (hL8.no hv1).st (hL8.no hv1).ow (by omega)).mono ?_
      rintro e xhv2 ⟨vt, rfl, ho, hx⟩
      have hv2 := hv1.no hx
      obtain ⟨at_, ct, rfl, hbt, _⟩ := ho.bytes
      clear hx ho
      refine hK.out _ _ (fun _ => hv2) ?_
      clear hK K
      refine wpSeq_next rfl rfl (fun K hK => ?_)
      go_wp2_with fail
      refine (refSame_any _ _ _ r.2 _ _ _ r.2 _ hbt (hbq8.no hv2)).mono ?_
      rintro e w' ⟨rfl, rfl⟩
      rw [BEq.rfl]
      refine hK.out _ _ (fun _ => hv2) ?_
      clear hK K
      refine wpSeq_take (v := ?_) 91 rfl rfl (fun _ _ _ h => h) (Or.inl ⟨rfl, ?_⟩) ?_
      rotate_left 1
      · (intro w9 h9; go_simp; try with_reducible rfl)
      simp only [List.setIfInBounds_toArray, List.set_cons_zero, List.set_cons_succ]
      refine wpSeq_take (v := ?_) 92 rfl rfl (fun _ _ _ h => h) (Or.inl ⟨rfl, ?_⟩) ?_
      rotate_left 1
      · (intro w9 h9; go_simp; try with_reducible rfl)
      simp only [List.setIfInBounds_toArray, List.set_cons_zero, List.set_cons_succ]
      refine wpSeq_take (v := ?_) 93 rfl rfl (fun _ _ _ h => h) (Or.inl ⟨rfl, ?_⟩) ?_
      rotate_left 1
      · (intro w9 h9; go_simp; try with_reducible rfl)
      simp only [List.setIfInBounds_toArray, List.set_cons_zero, List.set_cons_succ]
      refine wpSeq_take (v := ?_) 95 rfl rfl (fun _ _ _ h => h) (Or.inl ⟨rfl, ?_⟩) ?_
      rotate_left 1
      · (intro w9 h9; go_simp; try with_reducible rfl)
      simp only [List.setIfInBounds_toArray, List.set_cons_zero, List.set_cons_succ]
      refine wpSeq_take (v := ?_) 96 rfl rfl (fun _ _ _ h => h) (Or.inl ⟨rfl, ?_⟩) ?_
      rotate_left 1
      · (intro w9 h9; go_simp; try with_reducible rfl)
      simp only [List.setIfInBounds_toArray, List.set_cons_zero, List.set_cons_succ]
      refine wpSeq_take (v := ?_) 97 rfl rfl (fun _ _ _ h => h) (Or.inl ⟨rfl, ?_⟩) ?_
      rotate_left 1
      · (intro w9 h9; go_simp; try with_reducible rfl)
      simp only [List.setIfInBounds_toArray, List.set_cons_zero, List.set_cons_succ]
      refine wpSeq_take (v := ?_) 98 rfl rfl (fun _ _ _ h => h) (Or.inl ⟨rfl, ?_⟩) ?_
      rotate_left 1
      · (intro w9 h9; go_simp; try with_reducible rfl)
      simp only [List.setIfInBounds_toArray, List.set_cons_zero, List.set_cons_succ]
      refine wpSeq_take (v := ?_) 99 rfl rfl (fun _ _ _ h => h) (Or.inl ⟨rfl, ?_⟩) ?_
      rotate_left 1
      · (intro w9 h9; go_simp; try with_reducible rfl)
      simp only [List.setIfInBounds_toArray, List.set_cons_zero, List.set_cons_succ]
      refine wpSeq_next rfl rfl (fun K hK => ?_)
      go_wp2_with fail
      refine (Long_any (hL8.no hv2).st).mono ?_
      rintro e w' ⟨rfl, rfl⟩
      refine hK.out _ _ (fun _ => hv2) ?_
      clear hK K
      refine wpSeq_take (v := ?_) 100 rfl rfl (fun _ _ _ h => h) (Or.inl ⟨rfl, ?_⟩) ?_
      rotate_left 1
      · (intro w9 h9; go_simp; try with_reducible rfl)
      simp only [List.setIfInBounds_toArray, List.set_cons_zero, List.set_cons_succ]
      refine wpSeq_take (v := ?_) 101 rfl rfl (fun _ _ _ h => h) (Or.inl ⟨rfl, ?_⟩) ?_
      rotate_left 1
      · (intro w9 h9; go_simp; try with_reducible rfl)
      simp only [List.setIfInBounds_toArray, List.set_cons_zero, List.set_cons_succ]
      refine wpSeq_take (v := ?_) 102 rfl rfl (fun _ _ _ h => h) (Or.inl ⟨rfl, ?_⟩) ?_
      rotate_left 1
      · (intro w9 h9; go_simp; try with_reducible rfl)
      simp only [List.setIfInBounds_toArray, List.set_cons_zero, List.set_cons_succ]
      refine wpSeq_take (v := ?_) 103 rfl rfl (fun _ _ _ h => h) (Or.inl ⟨rfl, ?_⟩) ?_
      rotate_left 1
      · (intro w9 h9; go_simp; try with_reducible rfl)
      simp only [List.setIfInBounds_toArray, List.set_cons_zero, List.set_cons_succ]
      refine wpSeq_next rfl rfl (fun K hK => ?_)
      go_wp2_with fail
      refine (State_nilI _).mono ?_
      rintro e w' ⟨rfl, rfl⟩
      refine hK.out _ _ (fun _ => hv2) ?_
      clear hK K
      refine wpSeq_take (v := ?_) 105 rfl rfl (fun _ _ _ h => h) (Or.inl ⟨rfl, ?_⟩) ?_
      rotate_left 1
      · (intro w9 h9; go_simp; try with_reducible rfl)
      simp only [List.setIfInBounds_toArray, List.set_cons_zero, List.set_cons_succ]
      refine wpSeq_take (v := ?_) 106 rfl rfl (fun _ _ _ h => h) (Or.inl ⟨rfl, ?_⟩) ?_
      rotate_left 1
      · (intro w9 h9; go_simp; try with_reducible rfl)
      simp only [List.setIfInBounds_toArray, List.set_cons_zero, List.set_cons_succ]
      refine wpSeq_take (v := ?_) 107 rfl rfl (fun _ _ _ h => h) (Or.inl ⟨rfl, ?_⟩) ?_
      rotate_left 1
      · (intro w9 h9; go_simp; try with_reducible rfl)
      simp only [List.setIfInBounds_toArray, List.set_cons_zero, List.set_cons_succ]
      refine wpSeq_take (v := ?_) 108 rfl rfl (fun _ _ _ h => h) (Or.inl ⟨rfl, ?_⟩) ?_
      rotate_left 1
      · (intro w9 h9; go_simp; try with_reducible rfl)
      simp only [List.setIfInBounds_toArray, List.set_cons_zero, List.set_cons_succ]
      refine wpSeq_next rfl rfl (fun K hK => ?_)
      go_wp2_with fail
      refine (Tail_nilI _).mono ?_
      rintro e w' ⟨rfl, rfl⟩
      refine hK.out _ _ (fun _ => hv2) ?_
      clear hK K
      refine wpSeq_take (v := ?_) 110 rfl rfl (fun _ _ _ h => h) (Or.inl ⟨rfl, ?_⟩) ?_
      rotate_left 1
      · (intro w9 h9; go_simp; try with_reducible rfl)
      simp only [List.setIfInBounds_toArray, List.set_cons_zero, List.set_cons_succ]
      refine wpSeq_take (v := ?_) 111 rfl rfl (fun _ _ _ h => h) (Or.inl ⟨rfl, ?_⟩) ?_
      rotate_left 1
      · (intro w9 h9; go_simp; try with_reducible rfl)
      simp only [List.setIfInBounds_toArray, List.set_cons_zero, List.set_cons_succ]
      refine wpSeq_take (v := ?_) 112 rfl rfl (fun _ _ _ h => h) (Or.inl ⟨rfl, ?_⟩) ?_
      rotate_left 1
      · (intro w9 h9; go_simp; try with_reducible rfl)
      simp only [List.setIfInBounds_toArray, List.set_cons_zero, List.set_cons_succ]
      refine wpSeq_take (v := ?_) 113 rfl rfl (fun _ _ _ h => h) (Or.inl ⟨rfl, ?_⟩) ?_
      rotate_left 1
      · (intro w9 h9; go_simp; try with_reducible rfl)
      simp only [List.setIfInBounds_toArray, List.set_cons_zero, List.set_cons_succ]
      refine wpSeq_take (v := ?_) 114 rfl rfl (fun _ _ _ h => h) (Or.inl ⟨rfl, ?_⟩) ?_
      rotate_left 1
      · (intro w9 h9; go_simp; try with_reducible rfl)
      simp only [List.setIfInBounds_toArray, List.set_cons_zero, List.set_cons_succ]
      refine wpSeq_next rfl rfl (fun K hK => ?_)
      go_wp2_with fail
      refine (Long_nilI _).mono ?_
      rintro e w' ⟨rfl, rfl⟩
      refine hK.out _ _ (fun _ => hv2) ?_
      clear hK K
      refine wpSeq_take (v := ?_) 116 rfl rfl (fun _ _ _ h => h) (Or.inl ⟨rfl, ?_⟩) ?_
      rotate_left 1
      · (intro w9 h9; go_simp; try with_reducible rfl)
      simp only [List.setIfInBounds_toArray, List.set_cons_zero, List.set_cons_succ]
      refine wpSeq_take (v := ?_) 117 rfl rfl (fun _ _ _ h => h) (Or.inl ⟨rfl, ?_⟩) ?_
      rotate_left 1
      · (intro w9 h9; go_simp; try with_reducible rfl)
      simp only [List.setIfInBounds_toArray, List.set_cons_zero, List.set_cons_succ]
      refine wpSeq_take (v := ?_) 118 rfl rfl (fun _ _ _ h => h) (Or.inl ⟨rfl, ?_⟩) ?_
      rotate_left 1
      · (intro w9 h9; go_simp; try with_reducible rfl)
      simp only [List.setIfInBounds_toArray, List.set_cons_zero, List.set_cons_succ]
      refine wpSeq_take (v := ?_) 119 rfl rfl (fun _ _ _ h => h) (Or.inl ⟨rfl, ?_⟩) ?_
      rotate_left 1
      · (intro w9 h9; go_simp; try with_reducible rfl)
      simp only [List.setIfInBounds_toArray, List.set_cons_zero, List.set_cons_succ]
      refine wpSeq_next rfl rfl (fun K hK => ?_)
      go_wp2_with fail
      refine (Clone_nilI _).mono ?_
      rintro e w' ⟨rfl, rfl⟩
      refine hK.out _ _ (fun _ => hv2) ?_
      clear hK K
      refine wpSeq_take (v := ?_) 121 rfl rfl (fun _ _ _ h => h) (Or.inl ⟨rfl, ?_⟩) ?_
      rotate_left 1
      · (intro w9 h9; go_simp; try with_reducible rfl)
      simp only [List.setIfInBounds_toArray, List.set_cons_zero, List.set_cons_succ]
      refine wpSeq_take (v := ?_) 122 rfl rfl (fun _ _ _ h => h) (Or.inl ⟨rfl, ?_⟩) ?_
      rotate_left 1
      · (intro w9 h9; go_simp; try with_reducible rfl)
      simp only [List.setIfInBounds_toArray, List.set_cons_zero, List.set_cons_succ]
      refine wpSeq_take (v := ?_) 123 rfl rfl (fun _ _ _ h => h) (Or.inl ⟨rfl, ?_⟩) ?_
      rotate_left 1
      · (intro w9 h9; go_simp; try with_reducible rfl)
      simp only [List.setIfInBounds_toArray, List.set_cons_zero, List.set_cons_succ]
      refine wpSeq_take (v := ?_) 124 rfl rfl (fun _ _ _ h => h) (Or.inl ⟨rfl, ?_⟩) ?_
      rotate_left 1
      · (intro w9 h9; go_simp; try with_reducible rfl)
      simp only [List.setIfInBounds_toArray, List.set_cons_zero, List.set_cons_succ]
      refine wpSeq_next rfl rfl (fun K hK => ?_)
      go_wp2_with fail
      refine (Set_nilI _).mono ?_
      rintro e w' ⟨rfl, rfl⟩
      refine hK.out _ _ (fun _ => hv2) ?_
      clear hK K
      refine wpSeq_take (v := ?_) 126 rfl rfl (fun _ _ _ h => h) (Or.inl ⟨rfl, ?_⟩) ?_
      rotate_left 1
      · (intro w9 h9; go_simp; try with_reducible rfl)
      simp only [List.setIfInBounds_toArray, List.set_cons_zero, List.set_cons_succ]
      refine wpSeq_take (v := ?_) 127 rfl rfl (fun _ _ _ h => h) (Or.inl ⟨rfl, ?_⟩) ?_
      rotate_left 1
      · (intro w9 h9; go_simp; try with_reducible rfl)
      simp only [List.setIfInBounds_toArray, List.set_cons_zero, List.set_cons_succ]
      refine wpSeq_take (v := ?_) 10 rfl rfl (fun _ _ _ h => h) (Or.inl ⟨rfl, ?_⟩) ?_
      rotate_left 1
      · (intro w9 h9; go_simp; try with_reducible rfl)
      simp only [List.setIfInBounds_toArray, List.set_cons_zero, List.set_cons_succ]
      refine wpSeq_done ?_
      go_wp2_with fail
      go_ret
      exact ⟨rfl, hfBw.no (hL8.fr.no hv2)⟩
  · go_wp2_with fail
    have ha1 : Fr No w6 (w6.alloc (.cells #[.int .u64 0, .int .i64 0] 27)).drew := ((Fr.refl No w6).alloc _).drew
    refine hK.out _ _ (fun _ => ha1) ?_
    clear hK K
    have hZ : (w6.alloc (.cells #[.int .u64 0, .int .i64 0] 27)).drew.heap[w6.heap.size]? = some (.cells #[.int .u64 0, .int .i64 0] 27 (0, 0)) := Fr.heap (Fr.refl No (w6.alloc (.cells #[.int .u64 0, .int .i64 0] 27))).drew (fun h => h) (heap_alloc_new w6 _)
    obtain ⟨rb, hrb⟩ : ∃ rb, rb = w6.heap.size := ⟨_, rfl⟩
    have hrl : w6.heap.size ≤ rb := by rw [hrb]; exact hv0.size
    rw [← hrb] at hZ  ⊢
    clear hrb
    generalize (w6.alloc (.cells #[.int .u64 0, .int .i64 0] 27)).drew = wz at ha1 hZ  ⊢
    refine wpLate_seg [(4, 0), (5, 0), (6, 1), (7, 1), (8, 1), (10, 0), (11, 1)] 0 #[true, true, true, true, true, true, true, true, true, true, true, true] (by kernel_rfl) rfl ha1 ?_
    refine wpSeq_next rfl rfl (fun K hK => ?_)
    go_wp2_with fail
    refine (refBoth_any _ _ _ l1 _ _ _ l2 _ (hn1.no (hfB6.no ha1)) (hn2.no (hfB6.no ha1)) (by omega)).mono ?_
    rintro e y2 ⟨vb, rfl, hob, hx⟩
    have hy2 := ha1.no hx
    obtain ⟨ab, cab, rfl, hyb, _⟩ := hob.bytes
    rw [List.length_append] at hyb
    have hsp : ∀ x, (Value.slice ab (l1 ++ l2).length cab).ownBlock = some x → x ≠ rb := fun x hx => by have := own_ge hob hx; have h0 := (Array.getElem?_eq_some_iff.1 hZ).1; omega
    replace hZ := hx.heap (fun h => h) hZ
    clear hx
    refine hK.out _ _ (fun _ => hy2) ?_
    clear hK K
    refine wpSeq_next rfl rfl (fun K hK => ?_)
    go_wp2_with fail
    refine (refFold_any sz size nw _ _ _ (l1 ++ l2) _ h1 h2 hsz hyb (by have := hlen12.out; rw [List.length_append] at this; omega)).mono ?_
    rw [HR.out]
    rintro e y3 ⟨aq, nq, cq, rfl, _, hst, hx⟩
    have HST := Lib.hid hst
    clear hst
    have hy3 := hy2.no hx
    replace hZ := hx.heap (fun h => h) hZ
    replace hyb := hyb.no hx
    replace hob := hob.no hx
    clear hx
    refine hK.out _ _ (fun _ => hy3) ?_
    clear hK K
    refine wpSeq_take (v := ?_) 68 rfl rfl (fun _ _ _ h => h) (Or.inl ⟨rfl, ?_⟩) ?_
    rotate_left 1
    · (intro w9 h9; go_simp; try with_reducible rfl)
    simp only [List.setIfInBounds_toArray, List.set_cons_zero, List.set_cons_succ]
    refine wpSeq_take (v := ?_) 75 rfl rfl (fun _ _ _ h => h) (Or.inl ⟨rfl, ?_⟩) ?_
    rotate_left 1
    · (intro w9 h9; go_simp; try with_reducible rfl)
    simp only [List.setIfInBounds_toArray, List.set_cons_zero, List.set_cons_succ]
    refine wpSeq_take (v := ?_) 76 rfl rfl (fun _ _ _ h => h) (Or.inl ⟨rfl, ?_⟩) ?_
    rotate_left 1
    · (intro w9 h9; go_simp; try with_reducible rfl)
    simp only [List.setIfInBounds_toArray, List.set_cons_zero, List.set_cons_succ]
    have cz0 : y3.cell? ⟨rb, 0, none⟩ = some (.int .u64 0) := by rw [cell_of_row _ _ 0 _ _ _ hZ]; rfl
    have cz1 : y3.cell? ⟨rb, 1, none⟩ = some (.int .i64 0) := by rw [cell_of_row _ _ 1 _ _ _ hZ]; rfl
    have fz0 := frozen_of_row y3 rb 0 _ _ hZ
    have fz1 := frozen_of_row y3 rb 1 _ _ hZ
    refine wpSeq_next rfl rfl (fun K hK => ?_)
    go_wp2_with fail
    have hvB : Fr No w6 ((y3.setCell ⟨rb, 0, none⟩ (cS r.1 0)).setCell ⟨rb, 1, none⟩ (cS r.1 1)) := (hy3.setCell (p := ⟨rb, 0, none⟩) (.inr hrl) _).setCell (p := ⟨rb, 1, none⟩) (.inr hrl) _
    refine hK.out _ _ (fun _ => hvB) ?_
    clear hK K
    refine wpSeq_take (v := ?_) 15 rfl rfl (fun _ _ _ h => h) (Or.inl ⟨rfl, ?_⟩) ?_
    rotate_left 1
    · (intro w9 h9; go_simp; try with_reducible rfl)
    simp only [List.setIfInBounds_toArray, List.set_cons_zero, List.set_cons_succ]
    refine wpSeq_done ?_
    refine wpLate_done (by kernel_rfl) ?_ _
    have hQ : BoxAt ((y3.setCell ⟨rb, 0, none⟩ (cS r.1 0)).setCell ⟨rb, 1, none⟩ (cS r.1 1)) rb r.1 := by
      unfold BoxAt
      rw [heap_setCell_same _ _ _ _ _ _ (heap_setCell_same _ _ _ _ _ _ hZ)]; rfl
    have hobF := hob.fr (show Fr (fun x => x = rb) _ ((y3.setCell ⟨rb, 0, none⟩ (cS r.1 0)).setCell ⟨rb, 1, none⟩ (cS r.1 1)) from ((Fr.refl (fun x => x = rb) _).setCell (p := ⟨rb, 0, none⟩) (.inl rfl) _).setCell (p := ⟨rb, 1, none⟩) (.inl rfl) _) (fun x hx e => hsp x hx e)
    obtain ⟨a5, c5, he5, hybF, _⟩ := hobF.bytes
    cases he5
    rw [List.length_append] at hybF
    have hbq7 := HST.out _ hybF
    clear hobF hob hyb hybF hsp HST hZ cz0 cz1 fz0 fz1
    generalize (y3.setCell ⟨rb, 0, none⟩ (cS r.1 0)).setCell ⟨rb, 1, none⟩ (cS r.1 1) = w7 at hQ hbq7 hvB ⊢
    have hL7 := hL6.no hvB
    clear hL6 hvB cb0 cb1
    go_wp2_with fail
    refine (Write_nilI _ _ _ _).mono ?_
    rintro e w8 ⟨rfl, rfl⟩
    go_wp2_with fail
    refine (Reset_nilI _).mono ?_
    rintro e w8 ⟨rfl, rfl⟩
    obtain ⟨w8, rfl⟩ : ∃ w8 : World, w8 = w7 := ⟨_, rfl⟩
    have hL8 := hL7
    have hbq8 := hbq7
    have cq0 : w8.cell? ⟨rb, 0, none⟩ = some (cS r.1 0) := hQ.cell 0 rfl
    have cq1 : w8.cell? ⟨rb, 1, none⟩ = some (cS r.1 1) := hQ.cell 1 rfl
    clear hL7 hbq7 hQ
    go_wp2_with fail
    refine wp_region_seq (by kernel_rfl) (fun w' => Fr No w8 w') (fun _ => false) [(0, 1), (2, 1), (1, 0), (3, 1), (4, 1), (5, 1), (7, 1), (6, 0), (8, 0), (9, 1), (10, 1), (11, 1), (13, 1), (14, 1), (15, 1), (16, 1), (17, 1), (12, 0), (18, 1), (19, 1), (20, 1), (21, 1), (22, 0), (23, 1), (24, 1), (25, 1), (26, 1), (27, 0), (28, 1), (29, 1), (30, 1), (31, 1), (32, 1), (33, 0), (34, 1), (35, 1), (36, 1), (37, 1), (38, 0), (39, 1), (40, 1), (41, 1), (42, 1), (43, 0), (44, 1), (45, 1), (46, 1)] (by kernel_rfl) (Fr.refl No w8).drew ?_
    have hv0 : Fr No w8 w8.drew := (Fr.refl No w8).drew
    refine wpSeq_take (v := ?_) 82 rfl rfl (fun _ _ _ h => h) (Or.inl ⟨rfl, ?_⟩) ?_
    rotate_left 1
    · (intro w9 h9; go_simp; try with_reducible rfl)
    simp only [List.setIfInBounds_toArray, List.set_cons_zero, List.set_cons_succ]
    refine wpSeq_take (v := ?_) 84 rfl rfl (fun _ _ _ h => h) (Or.inl ⟨rfl, ?_⟩) ?_
    rotate_left 1
    · (intro w9 h9; have cc0 := h9.cell (fun h => h) cq0; have cc1 := h9.cell (fun h => h) cq1; clear h9; go_simp; try with_reducible rfl)
    simp only [List.setIfInBounds_toArray, List.set_cons_zero, List.set_cons_succ]
    refine wpSeq_next rfl rfl (fun K hK => ?_)
    go_wp2_with fail
    refine (State_any (hL8.no hv0).st).mono ?_
    rintro e xhv1 ⟨rfl, hx⟩
    have hv1 := hv0.no hx
    clear hx
    refine hK.out _ _ (fun _ => hv1) ?_
    clear hK K
    refine wpSeq_take (v := ?_) 85 rfl rfl (fun _ _ _ h => h) (Or.inl ⟨rfl, ?_⟩) ?_
    rotate_left 1
    · (intro w9 h9; simp only [cS0, cS1]; go_simp; try with_reducible rfl)
    simp only [List.setIfInBounds_toArray, List.set_cons_zero, List.set_cons_succ]
    refine wpSeq_take (v := ?_) 86 rfl rfl (fun _ _ _ h => h) (Or.inl ⟨rfl, ?_⟩) ?_
    rotate_left 1
    · (intro w9 h9; go_simp; try with_reducible rfl)
    simp only [List.setIfInBounds_toArray, List.set_cons_zero, List.set_cons_succ]
    refine wpSeq_take (v := ?_) 87 rfl rfl (fun _ _ _ h => h) (Or.inl ⟨rfl, ?_⟩) ?_
    rotate_left 1
    · (intro w9 h9; go_simp; try with_reducible rfl)
    simp only [List.setIfInBounds_toArray, List.set_cons_zero, List.set_cons_succ]
    refine wpSeq_take (v := ?_) 89 rfl rfl (fun _ _ _ h => h) (Or.inl ⟨rfl, ?_⟩) ?_
    rotate_left 1
    · (intro w9 h9; go_simp; try with_reducible rfl)
    simp only [List.setIfInBounds_toArray, List.set_cons_zero, List.set_cons_succ]
    refine wpSeq_next rfl rfl (fun K hK => ?_)
    go_wp2_with fail
    refine (Tail_any (hL8.no hv1).st (hL8.no hv1).ow (by omega)).mono ?_
    rintro e xhv2 ⟨vt, rfl, ho, hx⟩
    have hv2 := hv1.no hx
    obtain ⟨at_, ct, rfl, hbt, _⟩ := ho.bytes
    clear hx ho
    refine hK.out _ _ (fun _ => hv2) ?_
    clear hK K
    refine wpSeq_next rfl rfl (fun K hK => ?_)
    go_wp2_with fail
    refine (refSame_any _ _ _ r.2 _ _ _ r.2 _ hbt (hbq8.no hv2)).mono ?_
    rintro e w' ⟨rfl, rfl⟩
    rw [BEq.rfl]
    refine hK.out _ _ (fun _ => hv2) ?_
    clear hK K
    refine wpSeq_take (v := ?_) 91 rfl rfl (fun _ _ _ h => h) (Or.inl ⟨rfl, ?_⟩) ?_
    rotate_left 1
    · (intro w9 h9; go_simp; try with_reducible rfl)
    simp only [List.setIfInBounds_toArray, List.set_cons_zero, List.set_cons_succ]
    refine wpSeq_take (v := ?_) 92 rfl rfl (fun _ _ _ h => h) (Or.inl ⟨rfl, ?_⟩) ?_
    rotate_left 1
    · (intro w9 h9; go_simp; try with_reducible rfl)
    simp only [List.setIfInBounds_toArray, List.set_cons_zero, List.set_cons_succ]
    refine wpSeq_take (v := ?_) 93 rfl rfl (fun _ _ _ h => h) (Or.inl ⟨rfl, ?_⟩) ?_
    rotate_left 1
    · (intro w9 h9; go_simp; try with_reducible rfl)
    simp only [List.setIfInBounds_toArray, List.set_cons_zero, List.set_cons_succ]
    refine wpSeq_take (v := ?_) 95 rfl rfl (fun _ _ _ h => h) (Or.inl ⟨rfl, ?_⟩) ?_
    rotate_left 1
    · (intro w9 h9; go_simp; try with_reducible rfl)
    simp only [List.setIfInBounds_toArray, List.set_cons_zero, List.set_cons_succ]
    refine wpSeq_take (v := ?_) 96 rfl rfl (fun _ _ _ h => h) (Or.inl ⟨rfl, ?_⟩) ?_
    rotate_left 1
    · (intro w9 h9; go_simp; try with_reducible rfl)
    simp only [List.setIfInBounds_toArray, List.set_cons_zero, List.set_cons_succ]
    refine wpSeq_take (v := ?_) 97 rfl rfl (fun _ _ _ h => h) (Or.inl ⟨rfl, ?_⟩) ?_
    rotate_left 1
    · (intro w9 h9; go_simp; try with_reducible rfl)
    simp only [List.setIfInBounds_toArray, List.set_cons_zero, List.set_cons_succ]
    refine wpSeq_take (v := ?_) 98 rfl rfl (fun _ _ _ h => h) (Or.inl ⟨rfl, ?_⟩) ?_
    rotate_left 1
    · (intro w9 h9; go_simp; try with_reducible rfl)
    simp only [List.setIfInBounds_toArray, List.set_cons_zero, List.set_cons_succ]
    refine wpSeq_take (v := ?_) 99 rfl rfl (fun _ _ _ h => h) (Or.inl ⟨rfl, ?_⟩) ?_
    rotate_left 1
    · (intro w9 h9; go_simp; try with_reducible rfl)
    simp only [List.setIfInBounds_toArray, List.set_cons_zero, List.set_cons_succ]
    refine wpSeq_next rfl rfl (fun K hK => ?_)
    go_wp2_with fail
    refine (Long_any (hL8.no hv2).st).mono ?_
    rintro e w' ⟨rfl, rfl⟩
    refine hK.out _ _ (fun _ => hv2) ?_
    clear hK K
    refine wpSeq_take (v := ?_) 100 rfl rfl (fun _ _ _ h => h) (Or.inl ⟨rfl, ?_⟩) ?_
    rotate_left 1
    · (intro w9 h9; go_simp; try with_reducible rfl)
    simp only [List.setIfInBounds_toArray, List.set_cons_zero, List.set_cons_succ]
    refine wpSeq_take (v := ?_) 101 rfl rfl (fun _ _ _ h => h) (Or.inl ⟨rfl, ?_⟩) ?_
    rotate_left 1
    · (intro w9 h9; go_simp; try with_reducible rfl)
    simp only [List.setIfInBounds_toArray, List.set_cons_zero, List.set_cons_succ]
    refine wpSeq_take (v := ?_) 102 rfl rfl (fun _ _ _ h => h) (Or.inl ⟨rfl, ?_⟩) ?_
    rotate_left 1
    · (intro w9 h9; go_simp; try with_reducible rfl)
    simp only [List.setIfInBounds_toArray, List.set_cons_zero, List.set_cons_succ]
    refine wpSeq_take (v := ?_) 103 rfl rfl (fun _ _ _ h => h) (Or.inl ⟨rfl, ?_⟩) ?_
    rotate_left 1
    · (intro w9 h9; go_simp; try with_reducible rfl)
    simp only [List.setIfInBounds_toArray, List.set_cons_zero, List.set_cons_succ]
    refine wpSeq_next rfl rfl (fun K hK => ?_)
    go_wp2_with fail
    refine (State_nilI _).mono ?_
    rintro e w' ⟨rfl, rfl⟩
    refine hK.out _ _ (fun _ => hv2) ?_
    clear hK K
    refine wpSeq_take (v := ?_) 105 rfl rfl (fun _ _ _ h => h) (Or.inl ⟨rfl, ?_⟩) ?_
    rotate_left 1
    · (intro w9 h9; go_simp; try with_reducible rfl)
    simp only [List.setIfInBounds_toArray, List.set_cons_zero, List.set_cons_succ]
    refine wpSeq_take (v := ?_) 106 rfl rfl (fun _ _ _ h => h) (Or.inl ⟨rfl, ?_⟩) ?_
    rotate_left 1
    · (intro w9 h9; go_simp; try with_reducible rfl)
    simp only [List.setIfInBounds_toArray, List.set_cons_zero, List.set_cons_succ]
    refine wpSeq_take (v := ?_) 107 rfl rfl (fun _ _ _ h => h) (Or.inl ⟨rfl, ?_⟩) ?_
    rotate_left 1
    · (intro w9 h9; go_simp; try with_reducible rfl)
    simp only [List.setIfInBounds_toArray, List.set_cons_zero, List.set_cons_succ]
    refine wpSeq_take (v := ?_) 108 rfl rfl (fun _ _ _ h => h) (Or.inl ⟨rfl, ?_⟩) ?_
    rotate_left 1
    · (intro w9 h9; go_simp; try with_reducible rfl)
    simp only [List.setIfInBounds_toArray, List.set_cons_zero, List.set_cons_succ]
    refine wpSeq_next rfl rfl (fun K hK => ?_)
    go_wp2_with fail
    refine (Tail_nilI _).mono ?_
    rintro e w' ⟨rfl, rfl⟩
    refine hK.out _ _ (fun _ => hv2) ?_
    clear hK K
    refine wpSeq_take (v := ?_) 110 rfl rfl (fun _ _ _ h => h) (Or.inl ⟨rfl, ?_⟩) ?_
    rotate_left 1
    · (intro w9 h9; go_simp; try with_reducible rfl)
    simp only [List.setIfInBounds_toArray, List.set_cons_zero, List.set_cons_succ]
    refine wpSeq_take (v := ?_) 111 rfl rfl (fun _ _ _ h => h) (Or.inl ⟨rfl, ?_⟩) ?_
    rotate_left 1
    · (intro w9 h9; go_simp; try with_reducible rfl)
    simp only [List.setIfInBounds_toArray, List.set_cons_zero, List.set_cons_succ]
    refine wpSeq_take (v := ?_) 112 rfl rfl (fun _ _ _ h => h) (Or.inl ⟨rfl, ?_⟩) ?_
    rotate_left 1
    · (intro w9 h9; go_simp; try with_reducible rfl)
    simp only [List.setIfInBounds_toArray, List.set_cons_zero, List.set_cons_succ]
    refine wpSeq_take (v := ?_) 113 rfl rfl (fun _ _ _ h => h) (Or.inl ⟨rfl, ?_⟩) ?_
    rotate_left 1
    · (intro w9 h9; go_simp; try with_reducible rfl)
    simp only [List.setIfInBounds_toArray, List.set_cons_zero, List.set_cons_succ]
    refine wpSeq_take (v := ?_) 114 rfl rfl (fun _ _ _ h => h) (Or.inl ⟨rfl, ?_⟩) ?_
    rotate_left 1
    · (intro w9 h9; go_simp; try with_reducible rfl)
    simp only [List.setIfInBounds_toArray, List.set_cons_zero, List.set_cons_succ]
    refine wpSeq_next rfl rfl (fun K hK => ?_)
    go_wp2_with fail
    refine (Long_nilI _).mono ?_
    rintro e w' ⟨rfl, rfl⟩
    refine hK.out _ _ (fun _ => hv2) ?_
    clear hK K
    refine wpSeq_take (v := ?_) 116 rfl rfl (fun _ _ _ h => h) (Or.inl ⟨rfl, ?_⟩) ?_
    rotate_left 1
    · (intro w9 h9; go_simp; try with_reducible rfl)
    simp only [List.setIfInBounds_toArray, List.set_cons_zero, List.set_cons_succ]
    refine wpSeq_take (v := ?_) 117 rfl rfl (fun _ _ _ h => h) (Or.inl ⟨rfl, ?_⟩) ?_
    rotate_left 1
    · (intro w9 h9; go_simp; try with_reducible rfl)
    simp only [List.setIfInBounds_toArray, List.set_cons_zero, List.set_cons_succ]
    refine wpSeq_take (v := ?_) 118 rfl rfl (fun _ _ _ h => h) (Or.inl ⟨rfl, ?_⟩) ?_
    rotate_left 1
    · (intro w9 h9; go_simp; try with_reducible rfl)
    simp only [List.setIfInBounds_toArray, List.set_cons_zero, List.set_cons_succ]
    refine wpSeq_take (v := ?_) 119 rfl rfl (fun _ _ _ h => h) (Or.inl ⟨rfl, ?_⟩) ?_
    rotate_left 1
    · (intro w9 h9; go_simp; try with_reducible rfl)
    simp only [List.setIfInBounds_toArray, List.set_cons_zero, List.set_cons_succ]
    refine wpSeq_next rfl rfl (fun K hK => ?_)
    go_wp2_with fail
    refine (Clone_nilI _).mono ?_
    rintro e w' ⟨rfl, rfl⟩
    refine hK.out _ _ (fun _ => hv2) ?_
    clear hK K
    refine wpSeq_take (v := ?_) 121 rfl rfl (fun _ _ _ h => h) (Or.inl ⟨rfl, ?_⟩) ?_
    rotate_left 1
    · (intro w9 h9; go_simp; try with_reducible rfl)
    simp only [List.setIfInBounds_toArray, List.set_cons_zero, List.set_cons_succ]
    refine wpSeq_take (v := ?_) 122 rfl rfl (fun _ _ _ h => h) (Or.inl ⟨rfl, ?_⟩) ?_
    rotate_left 1
    · (intro w9 h9; go_simp; try with_reducible rfl)
    simp only [List.setIfInBounds_toArray, List.set_cons_zero, List.set_cons_succ]
    refine wpSeq_take (v := ?_) 123 rfl rfl (fun _ _ _ h => h) (Or.inl ⟨rfl, ?_⟩) ?_
    rotate_left 1
    · (intro w9 h9; go_simp; try with_reducible rfl)
    simp only [List.setIfInBounds_toArray, List.set_cons_zero, List.set_cons_succ]
    refine wpSeq_take (v := ?_) 124 rfl rfl (fun _ _ _ h => h) (Or.inl ⟨rfl, ?_⟩) ?_
    rotate_left 1
    · (intro w9 h9; go_simp; try with_reducible rfl)
    simp only [List.setIfInBounds_toArray, List.set_cons_zero, List.set_cons_succ]
    refine wpSeq_next rfl rfl (fun K hK => ?_)
    go_wp2_with fail
    refine (Set_nilI _).mono ?_
    rintro e w' ⟨rfl, rfl⟩
    refine hK.out _ _ (fun _ => hv2) ?_
    clear hK K
    refine wpSeq_take (v := ?_) 126 rfl rfl (fun _ _ _ h => h) (Or.inl ⟨rfl, ?_⟩) ?_
    rotate_left 1
    · (intro w9 h9; go_simp; try with_reducible rfl)
    simp only [List.setIfInBounds_toArray, List.set_cons_zero, List.set_cons_succ]
    refine wpSeq_take (v := ?_) 127 rfl rfl (fun _ _ _ h => h) (Or.inl ⟨rfl, ?_⟩) ?_
    rotate_left 1
    · (intro w9 h9; go_simp; try with_reducible rfl)
    simp only [List.setIfInBounds_toArray, List.set_cons_zero, List.set_cons_succ]
    refine wpSeq_take (v := ?_) 10 rfl rfl (fun _ _ _ h => h) (Or.inl ⟨rfl, ?_⟩) ?_
    rotate_left 1
    · (intro w9 h9; go_simp; try with_reducible rfl)
    simp only [List.setIfInBounds_toArray, List.set_cons_zero, List.set_cons_succ]
    refine wpSeq_done ?_
    go_wp2_with fail
    go_ret
    exact ⟨rfl, hfBw.no (hL8.fr.no hv2)⟩
theorem BlockSets_yes (sz : Int) (x lo : BitVec 64) (a1 : Option Addr) (n1 c1 : Nat) (l1 : Bytes) (a2 : Option Addr) (n2 c2 : Nat) (l2 : Bytes) (w : World) (hb1 : IsBytes w a1 n1 c1 l1) (hb2 : IsBytes w a2 n2 c2 l2) (h1 : -9223372036854775808 ≤ sz) (h2 : sz ≤ 9223372036854775807) :
    Calls Try.prog 5 #[.int .i64 sz, .int .u64 (W64 x), .int .u64 (W64 lo), .slice a1 n1 c1, .slice a2 n2 c2] w (Yes w) := by
  by_cases hbig : 100 < n1 ∨ 300 < n2
  · exact BlockSets_long sz x lo a1 n1 c1 l1 a2 n2 c2 l2 w hbig
  cases hf : fitsB n1 lo (sizeOk sz).toNat with
  | false => exact BlockSets_unfit sz x lo a1 n1 c1 l1 a2 n2 c2 l2 w (by omega) (by omega) h1 h2 (fun size hs => by rw [hs] at hf; simpa using hf)
  | true => exact BlockSets_fit sz x lo a1 n1 c1 l1 a2 n2 c2 l2 w hb1 hb2 (by omega) (by omega) h1 h2 (fun size hs => by rw [hs] at hf; simpa using hf)
end Go.Proofs.Ythjpnkjbkkeoaaa.StS28
