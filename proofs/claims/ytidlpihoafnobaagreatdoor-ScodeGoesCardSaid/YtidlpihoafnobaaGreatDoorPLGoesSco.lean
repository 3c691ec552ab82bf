/- ScoRead LGoesSco -/
import Derived.Laws.Cover3
import Derived.Stop.IfaceNil
import Derived.Test.YtidlpihoafnobaaGreatDoorPScoForm
set_option linter.unusedVariables false
set_option linter.unusedSimpArgs false
namespace Go.Proofs.YtidlpihoafnobaaGreatDoor
set_option maxRecDepth 100000
open Go.RowKit
theorem Row7.lt {w : World} {b : Nat} {T : TypeId} {v0 v1 v2 v3 v4 v5 v6 : Value} (h : Row7 w b T v0 v1 v2 v3 v4 v5 v6) : b < w.heap.size := (Array.getElem?_eq_some_iff.1 h).1
set_option maxHeartbeats 8000000 in
theorem Unmarshal_right (a : Option Addr) (n c : Nat) (b : Bytes) (w : World) (hb : IsBytes w a n c b) (hr : n ≤ 100000) (hf : formN b = 0) (hc : checkB b = 0) (hR : RightB b) (w0 : World) (hw : Fr No w0 w) : Calls Tryz.prog 6 #[.slice a n c] w (fun e w' => ∃ hb, e = .returned (.tuple #[.pointer (some ⟨hb, 0, none⟩), .int .i64 0]) ∧ ∃ F, HSAny w0 w' hb F (kindB b) (wordB (innerB b) 1) (wordB (innerB b) 0) (stateS (kindB b) (lanesB (innerB b))) ((innerB b).drop 58) (wordB (innerB b) 6) ∧ (∀ x, F x → w.heap.size ≤ x) ∧ Fr No w w') := by
 have hFo := form_any a n c b w hb (by omega)
 have hOp := fun w hb => Open_any a n c b w hb (by omega)
 have hd := formed_of hf
 have hlen := hb.1
 have hblen := hd.len
 obtain ⟨_, _, hop1⟩ := openF_zero hd.opens
 unfold GivesOpen at hOp
 rw [hd.opens, hop1] at hOp
 clear hop1
 have hil : (innerB b).length = n - 4 := by unfold innerB; rw [List.length_take]; omega
 have hiy : (innerB b).getD 1 0 = b.getD 1 0 := by
  unfold innerB
  rw [List.getD_eq_getElem?_getD, List.getD_eq_getElem?_getD, List.getElem?_take, if_pos (by omega)]
 unfold GivesForm at hFo
 unfold checkB at hc
 unfold RightB at hR
 have hkd : kindB b = B8 (b.getD 1 0) := rfl
 rw [hkd] at hc hR ⊢
 rw [← hiy] at hc hR ⊢
 rw [hf] at hFo
 have hn62 : 62 ≤ n := by omega
 clear hf hd hlen hblen hkd hiy
 have hWd := fun a' n' c' w hb h => words_any a' n' c' (innerB b) w hb h
 generalize innerB b = i at *
 have hx : lanesB i = (wordB i 2, wordB i 3, wordB i 4, wordB i 5) := rfl
 rw [hx] at hR ⊢
 clear hx
 generalize hx0 : wordB i 0 = x0 at hWd hc hR ⊢
 generalize hx1 : wordB i 1 = x1 at hWd hc hR ⊢
 generalize hx2 : wordB i 2 = x2 at hWd hc hR ⊢
 generalize hx3 : wordB i 3 = x3 at hWd hc hR ⊢
 generalize hx4 : wordB i 4 = x4 at hWd hc hR ⊢
 generalize hx5 : wordB i 5 = x5 at hWd hc hR ⊢
 generalize hx6 : wordB i 6 = x6 at hWd hc hR ⊢
 clear hx0 hx1 hx2 hx3 hx4 hx5 hx6
 obtain ⟨y1, hy1⟩ : ∃ y, Hid (y = i.getD 1 0) := ⟨_, Lib.hid rfl⟩
 rw [← hy1.out] at hc hR ⊢
 have hNew := fun w => New_yes hc w
 go_enter Tryz.func6, Tryz.ntmps6
 go_wp2_with fail
 refine hFo.mono ?_
 rintro e w1 (⟨_, rfl, hf1⟩ | ⟨h0, _⟩)
 rotate_left 1
 · exact absurd trivial h0
 have hA := (Fr.refl No w1).alloc (.cells #[.nilIface] 54)
 have hF := hf1.no hA
 clear hFo
 go_wp2_with fail
 generalize w1.heap.size = kb
 generalize w1.alloc (.cells #[.nilIface] 54) = w2 at hA hF ⊢
 refine (as_nil _ _).mono ?_
 rintro e w' ⟨rfl, rfl⟩
 go_wp2_with fail
 refine (hOp _ (hb.no hF)).mono ?_
 rintro e w3 ⟨v3, rfl, hO3, hf3⟩
 obtain ⟨a3, c3, rfl, hb3, _⟩ := hO3.bytes
 clear hO3 hOp
 rw [hil] at hb3 ⊢
 replace hF := hF.no hf3
 have i58 : 58 ≤ n - 4 := by omega
 have hmm : n - 4 ≤ 100000 := by omega
 generalize n - 4 = m at hb3 i58 hil hmm ⊢
 go_wp2_with fail
 refine (hWd _ _ _ _ hb3 i58).mono ?_
 rintro e w4 ⟨rfl, hf4⟩
 clear hWd
 have hT := row7_new w4 60 (.int .u64 (W64 x0)) (.int .u64 (W64 x1)) (.int .u64 (W64 x2)) (.int .u64 (W64 x3)) (.int .u64 (W64 x4)) (.int .u64 (W64 x5)) (.int .u64 (W64 x6))
 have hA4 := (Fr.refl No w4).alloc (.cells #[.int .u64 (W64 x0), .int .u64 (W64 x1), .int .u64 (W64 x2), .int .u64 (W64 x3), .int .u64 (W64 x4), .int .u64 (W64 x5), .int .u64 (W64 x6)] 60)
 replace hb3 := (hb3.no hf4).no hA4
 replace hF := (hF.no hf4).no hA4
 go_upto_region 7 with fail
 generalize w4.heap.size = tb at hT ⊢
 generalize w4.alloc (.cells #[.int .u64 (W64 x0), .int .u64 (W64 x1), .int .u64 (W64 x2), .int .u64 (W64 x3), .int .u64 (W64 x4), .int .u64 (W64 x5), .int .u64 (W64 x6)] 60) = w5 at hT hA4 hb3 hF ⊢
 obtain ⟨bb, off, hbo, hcell⟩ := hb3.known (by omega)
 have hc1 := hcell 1 (by omega)
 clear hcell
 rw [hbo] at hb3 ⊢
 have i1 : (1 : Int) < (m : Int) := by omega
 rw [← hy1.out] at hc1
 refine rsq (by kernel_rfl) [(0, 1), (1, 1), (2, 1), (3, 1), (4, 1), (5, 1), (6, 1), (7, 1), (8, 1), (9, 0), (10, 1), (11, 1), (12, 1), (13, 1), (14, 1)] (by kernel_rfl) ?_
 have hS0 : Fr No w5 w5.drew := (Fr.refl No w5).drew
 refine wpSeq_take (v := ?_) 32 rfl rfl (fun _ _ _ h => h) (Or.inl ⟨rfl, ?_⟩) ?_
 rotate_left 1
 · (intro w9 h9; go_simp; try with_reducible rfl)
 simp only [es1, es2, es3]
 refine wpSeq_take (v := ?_) 33 rfl rfl (fun _ _ _ h => h) (Or.inl ⟨rfl, ?_⟩) ?_
 rotate_left 1
 · (intro w9 h9; go_simp; try with_reducible rfl)
 simp only [es1, es2, es3]
 refine wpSeq_take (v := ?_) 34 rfl rfl (fun _ _ _ h => h) (Or.inl ⟨rfl, ?_⟩) ?_
 rotate_left 1
 · (intro w9 h9; have q1 := h9.cell (fun h => h) hc1; have t0 := (hT.no h9).c0; have t1 := (hT.no h9).c1; go_simp; try with_reducible rfl)
 simp only [es1, es2, es3]
 refine wpSeq_take (v := ?_) 35 rfl rfl (fun _ _ _ h => h) (Or.inl ⟨rfl, ?_⟩) ?_
 rotate_left 1
 · (intro w9 h9; go_simp; try with_reducible rfl)
 simp only [es1, es2, es3]
 refine wpSeq_take (v := ?_) 36 rfl rfl (fun _ _ _ h => h) (Or.inl ⟨rfl, ?_⟩) ?_
 rotate_left 1
 · (intro w9 h9; go_simp; try with_reducible rfl)
 simp only [es1, es2, es3]
 refine wpSeq_take (v := ?_) 37 rfl rfl (fun _ _ _ h => h) (Or.inl ⟨rfl, ?_⟩) ?_
 rotate_left 1
 · (intro w9 h9; have q1 := h9.cell (fun h => h) hc1; have t0 := (hT.no h9).c0; have t1 := (hT.no h9).c1; go_simp; try with_reducible rfl)
 simp only [es1, es2, es3]
 refine wpSeq_take (v := ?_) 38 rfl rfl (fun _ _ _ h => h) (Or.inl ⟨rfl, ?_⟩) ?_
 rotate_left 1
 · (intro w9 h9; go_simp; try with_reducible rfl)
 simp only [es1, es2, es3]
 refine wpSeq_take (v := ?_) 39 rfl rfl (fun _ _ _ h => h) (Or.inl ⟨rfl, ?_⟩) ?_
 rotate_left 1
 · (intro w9 h9; have q1 := h9.cell (fun h => h) hc1; have t0 := (hT.no h9).c0; have t1 := (hT.no h9).c1; go_simp; try with_reducible rfl)
 simp only [es1, es2, es3]
 refine wpSeq_take (v := ?_) 40 rfl rfl (fun _ _ _ h => h) (Or.inl ⟨rfl, ?_⟩) ?_
 rotate_left 1
 · (intro w9 h9; go_simp; try with_reducible rfl)
 simp only [es1, es2, es3]
 refine wpSeq_next rfl rfl (fun K hK => ?_)
 go_wp2_with fail
 refine (hNew _ w0 ((hw.no hF).no hS0)).mono ?_
 rintro e w6 ⟨hb6, rfl, F, h6, hn6, hf6⟩
 have hs6 : Fr No w5 w6 := (hS0).no hf6
 have hsd := (hS0).size
 refine hK.out _ _ (fun _ => hs6) ?_
 clear hK K
 refine wpSeq_take (v := ?_) 31 rfl rfl (fun _ _ _ h => h) (Or.inl ⟨rfl, ?_⟩) ?_
 rotate_left 1
 · (intro w9 h9; go_simp; try with_reducible rfl)
 simp only [es1, es2, es3]
 refine wpSeq_take (v := ?_) 42 rfl rfl (fun _ _ _ h => h) (Or.inl ⟨rfl, ?_⟩) ?_
 rotate_left 1
 · (intro w9 h9; go_simp; try with_reducible rfl)
 simp only [es1, es2, es3]
 refine wpSeq_take (v := ?_) 43 rfl rfl (fun _ _ _ h => h) (Or.inl ⟨rfl, ?_⟩) ?_
 rotate_left 1
 · (intro w9 h9; go_simp; try with_reducible rfl)
 simp only [es1, es2, es3]
 refine wpSeq_take (v := ?_) 9 rfl rfl (fun _ _ _ h => h) (Or.inl ⟨rfl, ?_⟩) ?_
 rotate_left 1
 · (intro w9 h9; go_simp; try with_reducible rfl)
 simp only [es1, es2, es3]
 refine wpSeq_take (v := ?_) 10 rfl rfl (fun _ _ _ h => h) (Or.inl ⟨rfl, ?_⟩) ?_
 rotate_left 1
 · (intro w9 h9; go_simp; try with_reducible rfl)
 simp only [es1, es2, es3]
 refine wpSeq_done ?_
 have hat : ∀ w, (Instr.arrayAt 31 (.slice (some ⟨tb, 2, none⟩) 4 5)).run Tryz.prog w = .ok (.pointer (some ⟨tb, 2, none⟩)) w := fun w => run_arrayAt w 31 28 4 _ 4 5 Tryz.underlying31 (by omega)
 go_upto_region 10 with fail
 have hT6 := hT.no hs6
 have hb6' := (hb3.no hs6)
 have htl := hb6'.cut_to_end 58 (n' := m - 58) (c' := c3 - 58) i58 rfl rfl
 have i58' : (58 : Int) ≤ (m : Int) := by omega
 have hmc : m ≤ c3 := hb3.2.1
 have hF6 := hF.no hs6
 have hsf := hF.size
 have hmk : m - 58 ≤ 1099511627776 := by omega
 have ht2 : ¬ F tb := fun hq => by have := hn6 tb hq; have := hT.lt; omega
 refine wp_region_seq (by kernel_rfl) (fun w' => Fr F w6 w') (fun _ => false) [(0, 1), (1, 1), (4, 1), (5, 1), (6, 1), (7, 1), (2, 0), (3, 1), (8, 0), (9, 1)] (by kernel_rfl) (Fr.refl F w6).drew ?_
 have hS0 : Fr F w6 w6.drew := (Fr.refl F w6).drew
 refine wpSeq_take (v := ?_) 47 rfl rfl (fun _ _ _ h => h) (Or.inl ⟨rfl, ?_⟩) ?_
 rotate_left 1
 · (intro w9 h9; go_simp; try with_reducible rfl)
 simp only [es1, es2, es3]
 refine wpSeq_take (v := ?_) 48 rfl rfl (fun _ _ _ h => h) (Or.inl ⟨rfl, ?_⟩) ?_
 rotate_left 1
 · (intro w9 h9; go_simp; try with_reducible rfl)
 simp only [es1, es2, es3]
 refine wpSeq_take (v := ?_) 51 rfl rfl (fun _ _ _ h => h) (Or.inl ⟨rfl, ?_⟩) ?_
 rotate_left 1
 · (intro w9 h9; go_simp; try with_reducible rfl)
 simp only [es1, es2, es3]
 refine wpSeq_take (v := ?_) 52 rfl rfl (fun _ _ _ h => h) (Or.inl ⟨rfl, ?_⟩) ?_
 rotate_left 1
 · (intro w9 h9; have t2 := h9.cell ht2 (hT6.c2); have t3 := h9.cell ht2 (hT6.c3); have t4 := h9.cell ht2 (hT6.c4); have t5 := h9.cell ht2 (hT6.c5); have t6 := h9.cell ht2 (hT6.c6); go_simp; try with_reducible rfl)
 simp only [es1, es2, es3]
 refine wpSeq_take (v := ?_) 53 rfl rfl (fun _ _ _ h => h) (Or.inl ⟨rfl, ?_⟩) ?_
 rotate_left 1
 · (intro w9 h9; go_simp; try with_reducible rfl)
 simp only [es1, es2, es3]
 refine wpSeq_take (v := ?_) 54 rfl rfl (fun _ _ _ h => h) (Or.inl ⟨rfl, ?_⟩) ?_
 rotate_left 1
 · (intro w9 h9; go_simp; try with_reducible rfl)
 simp only [es1, es2, es3]
 refine wpSeq_next rfl rfl (fun K hK => ?_)
 go_wp2_with fail
 refine hK.out _ _ (fun _ => hS0) ?_
 clear hK K
 refine wpSeq_take (v := ?_) 50 rfl rfl (fun _ _ _ h => h) (Or.inl ⟨rfl, ?_⟩) ?_
 rotate_left 1
 · (intro w9 h9; have t2 := h9.cell ht2 (hT6.c2); have t3 := h9.cell ht2 (hT6.c3); have t4 := h9.cell ht2 (hT6.c4); have t5 := h9.cell ht2 (hT6.c5); have t6 := h9.cell ht2 (hT6.c6); go_simp; try with_reducible rfl)
 simp only [es1, es2, es3]
 refine wpSeq_next rfl rfl (fun K hK => ?_)
 go_wp2_with fail
 refine ((h6.no (Fr.refl No w6).drew).set_right (x2, x3, x4, x5) x6 _ (m - 58) (c3 - 58) hR.1 (by rw [← hil, ← List.length_drop]; exact hR.2) (i.drop 58) (htl.no (Fr.refl No w6).drew) hmk).mono ?_
 rintro e w7 ⟨rfl, F7, h7, hf7, hk7⟩
 have hs7 : Fr F w6 w7 := (hS0).trans hf7 (fun q hq => .inl hq)
 refine hK.out _ _ (fun _ => hs7) ?_
 clear hK K
 refine wpSeq_take (v := ?_) 11 rfl rfl (fun _ _ _ h => h) (Or.inl ⟨rfl, ?_⟩) ?_
 rotate_left 1
 · (intro w9 h9; go_simp; try with_reducible rfl)
 simp only [es1, es2, es3]
 refine wpSeq_done ?_
 go_wp2_with fail
 go_ret2
 refine ⟨hb6, rfl, F7, h7, fun q hq => ?_, hF6.trans hs7 (fun q hq => .inr (by have := hn6 q hq; omega))⟩
 have := (hs6).size
 rcases hk7 q hq with g | g
 · have := hn6 q g; omega
 · have g' : w6.heap.size ≤ q := g; omega
end Go.Proofs.YtidlpihoafnobaaGreatDoor
namespace Go.Proofs.YtidlpihoafnobaaGreatDoor
set_option maxRecDepth 100000
open Go.RowKit
theorem apart_newS {F G F' : Nat → Prop} {w : World} (d : ∀ x, F x → ¬ G x) (hk : ∀ x, F' x → F x ∨ w.heap.size ≤ x) (hlt : ∀ x, G x → x < w.heap.size) : ∀ x, F' x → ¬ G x := fun x hx g => (hk x hx).elim (fun h => d x h g) (fun h => by have := hlt x g; omega)
set_option maxHeartbeats 1000000 in
theorem ScodeGoes_long (k : Int) (kh kl : BitVec 64) (a1 : Option Addr) (n1 c1 : Nat) (l1 : Bytes) (a2 : Option Addr) (n2 c2 : Nat) (l2 : Bytes) (w : World) (h : 300 < n1 ∨ 300 < n2 ∨ ¬ checkN k kh kl = 0) : Calls Tryz.prog 4 #[.int .i64 k, .agg #[.int .u64 (W64 kh), .int .u64 (W64 kl)], .slice a1 n1 c1, .slice a2 n2 c2] w (Yes w) := by
 have hC := refCheck_any k kh kl
 generalize checkN k kh kl = z at hC h
 by_cases h1 : 300 < n1
 · have i1 : (300 : Int) < (n1 : Int) := by omega
   clear h h1 hC
   have hU := row2_new w 30 (.int .u64 (W64 kh)) (.int .u64 (W64 kl))
   have hF := (Fr.refl No w).alloc (.cells #[.int .u64 (W64 kh), .int .u64 (W64 kl)] 30)
   have u0 := hU.c0
   have u1 := hU.c1
   go_enter Tryz.func4, Tryz.ntmps4
   go_wp2_with fail
   refine (scoAwake_yes _).mono ?_
   rintro e w1 ⟨rfl, hf1⟩
   go_wp2_with fail
   go_ret
   exact ⟨rfl, hF.no hf1⟩
 have i1 : (n1 : Int) ≤ 300 := by omega
 by_cases h2 : 300 < n2
 · have i2 : (300 : Int) < (n2 : Int) := by omega
   clear h h1 h2 hC
   have hU := row2_new w 30 (.int .u64 (W64 kh)) (.int .u64 (W64 kl))
   have hF := (Fr.refl No w).alloc (.cells #[.int .u64 (W64 kh), .int .u64 (W64 kl)] 30)
   have u0 := hU.c0
   have u1 := hU.c1
   go_enter Tryz.func4, Tryz.ntmps4
   go_wp2_with fail
   refine (scoAwake_yes _).mono ?_
   rintro e w1 ⟨rfl, hf1⟩
   go_wp2_with fail
   go_ret
   exact ⟨rfl, hF.no hf1⟩
 have i2 : (n2 : Int) ≤ 300 := by omega
 have hz : (z != 0) = true := by simp only [bne_iff_ne, ne_eq]; omega
 clear h h1 h2
 have hU := row2_new w 30 (.int .u64 (W64 kh)) (.int .u64 (W64 kl))
 have hF := (Fr.refl No w).alloc (.cells #[.int .u64 (W64 kh), .int .u64 (W64 kl)] 30)
 have u0 := hU.c0
 have u1 := hU.c1
 go_enter Tryz.func4, Tryz.ntmps4
 go_wp2_with fail
 refine (scoAwake_yes _).mono ?_
 rintro e w1 ⟨rfl, hf1⟩
 replace hU := hU.no hf1
 replace hF := hF.no hf1
 clear u0 u1
 have u0 := hU.c0
 have u1 := hU.c1
 go_wp2_with fail
 refine (hC _).mono ?_
 rintro e w2 ⟨rfl, hf2⟩
 go_wp2_with fail
 go_ret
 exact ⟨rfl, hF.no hf2⟩
theorem Unmarshal_told {k : Int} (hk : KindOk k) {kh kl : BitVec 64} (hc : checkN k kh kl = 0) (d : Bytes) (hd : d.length ≤ 50000) (a : Option Addr) (n c : Nat) (w : World) (hb : IsBytes w a n c (tellT k kh kl (lanesS (foldS k (firstS k kh kl) d).1) (BitVec.ofNat 64 d.length) (foldS k (firstS k kh kl) d).2)) (w0 : World) (hw : Fr No w0 w) :
 Calls Tryz.prog 6 #[.slice a n c] w (fun e w' => ∃ hb, e = .returned (.tuple #[.pointer (some ⟨hb, 0, none⟩), .int .i64 0]) ∧ ∃ F, HDone w0 w' hb F k kh kl d ∧ (∀ x, F x → w.heap.size ≤ x) ∧ Fr No w w') := by
 have hk0 := fold_ofK (first_ofK hk kh kl) d
 have hst := state_lanes hk0
 have hrt := right_lanes hk0
 have hft := fit_fold (first_ofK hk kh kl) d (by omega)
 have hm := fold_mod (first_ofK hk kh kl) d
 have hbp := block_pos hk
 have hlt := Int.emod_lt_of_pos (d.length : Int) hbp.1
 obtain ⟨hf, e1, e2, e3, e4, e5, e6⟩ := read_tell k kh kl (lanesS (foldS k (firstS k kh kl) d).1) (BitVec.ofNat 64 d.length) (foldS k (firstS k kh kl) d).2 hk
 have hlen := tellT_len k kh kl (lanesS (foldS k (firstS k kh kl) d).1) (BitVec.ofNat 64 d.length) (foldS k (firstS k kh kl) d).2
 have hn : n ≤ 100000 := by have := hb.1; omega
 have hcb : checkB (tellT k kh kl (lanesS (foldS k (firstS k kh kl) d).1) (BitVec.ofNat 64 d.length) (foldS k (firstS k kh kl) d).2) = 0 := by unfold checkB; rw [e1, e2, e3]; exact hc
 have hRb : RightB (tellT k kh kl (lanesS (foldS k (firstS k kh kl) d).1) (BitVec.ofNat 64 d.length) (foldS k (firstS k kh kl) d).2) := by unfold RightB; rw [e1, e4, e5, e6]; exact ⟨hrt, hft⟩
 refine (Unmarshal_right a n c _ w hb hn (formN_of hf) hcb hRb w0 hw).mono ?_
 rintro e w' ⟨hb', rfl, F, h, r⟩
 refine ⟨hb', rfl, F, ?_, r⟩
 rw [e1, e2, e3, e4, e5, e6, hst] at h
 exact h
set_option maxHeartbeats 8000000 in
theorem ScodeGoes_yes (k : Int) (kh kl : BitVec 64) (a1 : Option Addr) (n1 c1 : Nat) (l1 : Bytes) (a2 : Option Addr) (n2 c2 : Nat) (l2 : Bytes) (w : World) (hb1 : IsBytes w a1 n1 c1 l1) (hb2 : IsBytes w a2 n2 c2 l2) : Calls Tryz.prog 4 #[.int .i64 k, .agg #[.int .u64 (W64 kh), .int .u64 (W64 kl)], .slice a1 n1 c1, .slice a2 n2 c2] w (Yes w) := by
 by_cases hbig : 300 < n1 ∨ 300 < n2 ∨ ¬ checkN k kh kl = 0
 · exact ScodeGoes_long k kh kl a1 n1 c1 l1 a2 n2 c2 l2 w hbig
 have i1 : (n1 : Int) ≤ 300 := by omega
 have i2 : (n2 : Int) ≤ 300 := by omega
 have m1 : n1 ≤ 300 := by omega
 have m2 : n2 ≤ 300 := by omega
 have hc : checkN k kh kl = 0 := by omega
 have hk := check_ok hc
 have hNew := fun w => New_yes hc w
 have hC := refCheck_any k kh kl
 rw [hc] at hC
 have HK := Lib.hid hk
 have hTold := fun a n c w hb w0 hw => Unmarshal_told hk hc l1 (by have := hb1.1; omega) a n c w hb w0 hw
 have hm := fold_mod (first_ofK hk kh kl) l1
 have hm2 := fold_mod (first_ofK hk kh kl) (l1 ++ l2)
 have hbp := block_pos hk
 have hlt := Int.emod_lt_of_pos (l1.length : Int) hbp.1
 have hlt2 := Int.emod_lt_of_pos ((l1 ++ l2).length : Int) hbp.1
 have HM : Hid ((foldS k (firstS k kh kl) l1).2.length ≤ 1000) := Lib.hid (by omega)
 have HM2 : Hid ((foldS k (firstS k kh kl) (l1 ++ l2)).2.length ≤ 1000) := Lib.hid (by omega)
 obtain ⟨ans, hans⟩ : ∃ ans, Hid (ans = tellT k kh kl (lanesS (foldS k (firstS k kh kl) l1).1) (BitVec.ofNat 64 l1.length) (foldS k (firstS k kh kl) l1).2) := ⟨_, Lib.hid rfl⟩
 rw [← hans.out] at hTold
 obtain ⟨ant, hant⟩ : ∃ ans, Hid (ans = tellT k kh kl (lanesS (foldS k (firstS k kh kl) (l1 ++ l2)).1) (BitVec.ofNat 64 (l1 ++ l2).length) (foldS k (firstS k kh kl) (l1 ++ l2)).2) := ⟨_, Lib.hid rfl⟩
 obtain ⟨sm, hsm⟩ : ∃ ans, Hid (ans = oneS k kh kl (l1 ++ l2)) := ⟨_, Lib.hid rfl⟩
 clear hbig hc hk hm hm2 hbp hlt hlt2
 have hU := row2_new w 30 (.int .u64 (W64 kh)) (.int .u64 (W64 kl))
 have hF := (Fr.refl No w).alloc (.cells #[.int .u64 (W64 kh), .int .u64 (W64 kl)] 30)
 have u0 := hU.c0
 have u1 := hU.c1
 go_enter Tryz.func4, Tryz.ntmps4
 go_wp2_with fail
 generalize w.heap.size = ub at hU u0 u1 ⊢
 generalize w.alloc (.cells #[.int .u64 (W64 kh), .int .u64 (W64 kl)] 30) = w0 at hU hF u0 u1 ⊢
 refine (scoAwake_yes _).mono ?_
 rintro e w1 ⟨rfl, hf1⟩
 replace hU := hU.no hf1
 replace hF := hF.no hf1
 clear u0 u1
 have u0 := hU.c0
 have u1 := hU.c1
 go_wp2_with fail
 refine (hC _).mono ?_
 rintro e w2 ⟨rfl, hf2⟩
 replace hU := hU.no hf2
 replace hF := hF.no hf2
 clear hC
 clear u0 u1
 have u0 := hU.c0
 have u1 := hU.c1
 go_wp2_with fail
 refine (hNew _ w hF).mono ?_
 rintro e w4 ⟨hb, rfl, F, h4, _, hf4⟩
 have hL := HDone_nil h4
 replace hU := hU.no hf4
 clear h4 hf4 hf1 hf2 hF hNew u0 u1
 go_wp2_with fail
 refine (hL.write a1 n1 c1 l1 (hb1.no hL.fr) (hb1.old (fun x g => hL.above x g)) (by omega)).mono ?_
 rw [List.nil_append]
 rintro e w5 ⟨rfl, F5, hL5, hf5, _⟩
 replace hU := hU.con hf5 hL.con (by decide)
 clear hL hf5
 go_wp2_with fail
 have hM := Marshal_any hL5.any HM.out
 rw [← hans.out] at hM
 refine hM.mono ?_
 rintro e w6 ⟨v6, rfl, hO6, hf6⟩
 obtain ⟨a6, c6, rfl, hb6, _⟩ := hO6.bytes
 replace hU := hU.no hf6
 replace hL5 := hL5.no hf6
 clear hM hO6 hf6
 go_wp2_with fail
 refine (hTold _ _ _ _ hb6 w hL5.fr).mono ?_
 rintro e w7 ⟨gb, rfl, G, hG, hGn, hf7⟩
 have dFG : ∀ x, F5 x → ¬ G x := fun x f g => by have := hL5.lt x f; have := hGn x g; omega
 replace hU := hU.no hf7
 replace hL5 := hL5.no hf7
 clear hTold hb6 hGn hf7
 go_wp2_with fail
 refine (hL5.write a2 n2 c2 l2 (hb2.no hL5.fr) (hb2.old (fun x g => hL5.above x g)) (by omega)).mono ?_
 rintro e w8 ⟨rfl, F8, hL8, hf8, hk8⟩
 have hG8 := hG.keep hf8 dFG hL5.con hL5.above
 have d8 := apart_newS dFG hk8 hG.lt
 replace hU := hU.con hf8 hL5.con (by decide)
 clear hL5 hG dFG hf8 hk8
 go_wp2_with fail
 refine (hG8.write a2 n2 c2 l2 (hb2.no hG8.fr) (hb2.old (fun x g => hG8.above x g)) (by omega)).mono ?_
 rintro e w9 ⟨rfl, G9, hG9, hf9, _⟩
 have hL9 := hL8.keep hf9 (fun x g f => d8 x f g) hG8.con hG8.above
 replace hU := hU.con hf9 hG8.con (by decide)
 clear hL8 hG8 d8 hf9
 go_wp2_with fail
 have hM := hL9.sum
 rw [← hsm.out] at hM
 refine hM.mono ?_
 rintro e w10 ⟨v10, rfl, hO10, hf10⟩
 obtain ⟨a10, d10, rfl, hb10, _⟩ := hO10.bytes
 clear hM hO10
 replace hL9 := hL9.no hf10
 replace hG9 := hG9.no hf10
 replace hU := hU.no hf10
 go_wp2_with fail
 have hM := hG9.sum
 rw [← hsm.out] at hM
 refine hM.mono ?_
 rintro e w11 ⟨v11, rfl, hO11, hf11⟩
 obtain ⟨a11, d11, rfl, hb11, _⟩ := hO11.bytes
 clear hM hO11
 replace hL9 := hL9.no hf11
 replace hG9 := hG9.no hf11
 replace hU := hU.no hf11
 replace hb10 := hb10.no hf11
 go_wp2_with fail
 have hM := Marshal_any hL9.any HM2.out
 rw [← hant.out] at hM
 refine hM.mono ?_
 rintro e w12 ⟨v12, rfl, hO12, hf12⟩
 obtain ⟨a12, d12, rfl, hb12, _⟩ := hO12.bytes
 clear hM hO12
 replace hL9 := hL9.no hf12
 replace hG9 := hG9.no hf12
 replace hU := hU.no hf12
 replace hb10 := hb10.no hf12
 replace hb11 := hb11.no hf12
 go_wp2_with fail
 have hM := Marshal_any hG9.any HM2.out
 rw [← hant.out] at hM
 refine hM.mono ?_
 rintro e w13 ⟨v13, rfl, hO13, hf13⟩
 obtain ⟨a13, d13, rfl, hb13, _⟩ := hO13.bytes
 clear hM hO13
 replace hL9 := hL9.no hf13
 replace hG9 := hG9.no hf13
 replace hU := hU.no hf13
 replace hb10 := hb10.no hf13
 replace hb11 := hb11.no hf13
 replace hb12 := hb12.no hf13
 go_wp2_with fail
 refine rsq (by kernel_rfl) [(0, 1), (2, 1), (1, 0), (3, 1), (4, 1), (5, 1), (7, 1), (6, 0), (8, 1), (9, 1), (10, 1), (11, 1), (12, 1), (13, 0), (14, 1), (15, 1), (16, 1), (17, 1), (18, 1), (19, 1), (20, 1), (21, 0), (22, 0), (23, 0), (24, 1), (25, 1), (26, 1), (27, 1), (28, 0), (29, 1), (30, 1)] (by kernel_rfl) ?_
 have hS0 : Fr No w13 w13.drew := (Fr.refl No w13).drew
 refine wpSeq_take (v := ?_) 86 rfl rfl (fun _ _ _ h => h) (Or.inl ⟨rfl, ?_⟩) ?_
 rotate_left 1
 · (intro w9 h9; go_simp; try with_reducible rfl)
 simp only [es1, es2, es3]
 refine wpSeq_take (v := ?_) 88 rfl rfl (fun _ _ _ h => h) (Or.inl ⟨rfl, ?_⟩) ?_
 rotate_left 1
 · (intro w9 h9; go_simp; try with_reducible rfl)
 simp only [es1, es2, es3]
 refine wpSeq_next rfl rfl (fun K hK => ?_)
 go_wp2_with fail
 refine ((hG9.no hS0).any.kind).mono ?_
 rintro e w' ⟨rfl, rfl⟩
 refine hK.out _ _ (fun _ => hS0) ?_
 clear hK K
 refine wpSeq_take (v := ?_) 89 rfl rfl (fun _ _ _ h => h) (Or.inl ⟨rfl, ?_⟩) ?_
 rotate_left 1
 · (intro w9 h9; go_simp; try with_reducible rfl)
 simp only [es1, es2, es3]
 refine wpSeq_take (v := ?_) 90 rfl rfl (fun _ _ _ h => h) (Or.inl ⟨rfl, ?_⟩) ?_
 rotate_left 1
 · (intro w9 h9; go_simp; try with_reducible rfl)
 simp only [es1, es2, es3]
 refine wpSeq_take (v := ?_) 91 rfl rfl (fun _ _ _ h => h) (Or.inl ⟨rfl, ?_⟩) ?_
 rotate_left 1
 · (intro w9 h9; go_simp; try with_reducible rfl)
 simp only [es1, es2, es3]
 refine wpSeq_take (v := ?_) 93 rfl rfl (fun _ _ _ h => h) (Or.inl ⟨rfl, ?_⟩) ?_
 rotate_left 1
 · (intro w9 h9; have q0 := (hU.no h9).c0; have q1 := (hU.no h9).c1; go_simp; try with_reducible rfl)
 simp only [es1, es2, es3]
 refine wpSeq_next rfl rfl (fun K hK => ?_)
 go_wp2_with fail
 refine ((hG9.no hS0).any.key).mono ?_
 rintro e w14 ⟨rfl, hf14⟩
 have hs14 : Fr No w13 w14 := (hS0).no hf14
 refine hK.out _ _ (fun _ => hs14) ?_
 clear hK K
 refine wpSeq_take (v := ?_) 94 rfl rfl (fun _ _ _ h => h) (Or.inl ⟨rfl, ?_⟩) ?_
 rotate_left 1
 · (intro w9 h9; go_simp; try with_reducible rfl)
 simp only [es1, es2, es3]
 refine wpSeq_take (v := ?_) 95 rfl rfl (fun _ _ _ h => h) (Or.inl ⟨rfl, ?_⟩) ?_
 rotate_left 1
 · (intro w9 h9; go_simp; try with_reducible rfl)
 simp only [es1, es2, es3]
 refine wpSeq_take (v := ?_) 96 rfl rfl (fun _ _ _ h => h) (Or.inl ⟨rfl, ?_⟩) ?_
 rotate_left 1
 · (intro w9 h9; go_simp; try with_reducible rfl)
 simp only [es1, es2, es3]
 refine wpSeq_take (v := ?_) 97 rfl rfl (fun _ _ _ h => h) (Or.inl ⟨rfl, ?_⟩) ?_
 rotate_left 1
 · (intro w9 h9; go_simp; try with_reducible rfl)
 simp only [es1, es2, es3]
 refine wpSeq_take (v := ?_) 98 rfl rfl (fun _ _ _ h => h) (Or.inl ⟨rfl, ?_⟩) ?_
 rotate_left 1
 · (intro w9 h9; go_simp; try with_reducible rfl)
 simp only [es1, es2, es3]
 refine wpSeq_next rfl rfl (fun K hK => ?_)
 go_wp2_with fail
 refine (refSame_any _ _ _ _ _ _ _ _ _ (hb10.no hs14) (hb11.no hs14)).mono ?_
 rintro e w' ⟨rfl, rfl⟩
 rw [beq_self_eq_true]
 refine hK.out _ _ (fun _ => hs14) ?_
 clear hK K
 refine wpSeq_take (v := ?_) 100 rfl rfl (fun _ _ _ h => h) (Or.inl ⟨rfl, ?_⟩) ?_
 rotate_left 1
 · (intro w9 h9; go_simp; try with_reducible rfl)
 simp only [es1, es2, es3]
 refine wpSeq_take (v := ?_) 101 rfl rfl (fun _ _ _ h => h) (Or.inl ⟨rfl, ?_⟩) ?_
 rotate_left 1
 · (intro w9 h9; go_simp; try with_reducible rfl)
 simp only [es1, es2, es3]
 refine wpSeq_take (v := ?_) 102 rfl rfl (fun _ _ _ h => h) (Or.inl ⟨rfl, ?_⟩) ?_
 rotate_left 1
 · (intro w9 h9; go_simp; try with_reducible rfl)
 simp only [es1, es2, es3]
 refine wpSeq_take (v := ?_) 103 rfl rfl (fun _ _ _ h => h) (Or.inl ⟨rfl, ?_⟩) ?_
 rotate_left 1
 · (intro w9 h9; go_simp; try with_reducible rfl)
 simp only [es1, es2, es3]
 refine wpSeq_take (v := ?_) 104 rfl rfl (fun _ _ _ h => h) (Or.inl ⟨rfl, ?_⟩) ?_
 rotate_left 1
 · (intro w9 h9; have q0 := (hU.no h9).c0; have q1 := (hU.no h9).c1; go_simp; try with_reducible rfl)
 simp only [es1, es2, es3]
 refine wpSeq_take (v := ?_) 105 rfl rfl (fun _ _ _ h => h) (Or.inl ⟨rfl, ?_⟩) ?_
 rotate_left 1
 · (intro w9 h9; go_simp; try with_reducible rfl)
 simp only [es1, es2, es3]
 refine wpSeq_take (v := ?_) 106 rfl rfl (fun _ _ _ h => h) (Or.inl ⟨rfl, ?_⟩) ?_
 rotate_left 1
 · (intro w9 h9; go_simp; try with_reducible rfl)
 simp only [es1, es2, es3]
 refine wpSeq_next rfl rfl (fun K hK => ?_)
 go_wp2_with fail
 refine (refBoth_any _ _ _ _ _ _ _ _ _ (hb1.no (hL9.fr.no hs14)) (hb2.no (hL9.fr.no hs14)) (by omega)).mono ?_
 rintro e w15 ⟨v15, rfl, hO15, hf15⟩
 obtain ⟨a15, d15, rfl, hb15, _⟩ := hO15.bytes
 rw [List.length_append, hb1.1, hb2.1] at hb15 ⊢
 have hs15 : Fr No w13 w15 := (hs14).no hf15
 refine hK.out _ _ (fun _ => hs15) ?_
 clear hK K
 refine wpSeq_next rfl rfl (fun K hK => ?_)
 go_wp2_with fail
 refine (refOne_all HK.out kh kl _ _ _ _ _ hb15 (by omega)).mono ?_
 rw [← hsm.out]
 rintro e w16 ⟨v16, rfl, hO16, hf16⟩
 obtain ⟨a16, d16, rfl, hb16, _⟩ := hO16.bytes
 have hs16 : Fr No w13 w16 := (hs15).no hf16
 refine hK.out _ _ (fun _ => hs16) ?_
 clear hK K
 refine wpSeq_next rfl rfl (fun K hK => ?_)
 go_wp2_with fail
 refine (refSame_any _ _ _ _ _ _ _ _ _ (hb10.no hs16) hb16).mono ?_
 rintro e w' ⟨rfl, rfl⟩
 rw [beq_self_eq_true]
 refine hK.out _ _ (fun _ => hs16) ?_
 clear hK K
 refine wpSeq_take (v := ?_) 110 rfl rfl (fun _ _ _ h => h) (Or.inl ⟨rfl, ?_⟩) ?_
 rotate_left 1
 · (intro w9 h9; go_simp; try with_reducible rfl)
 simp only [es1, es2, es3]
 refine wpSeq_take (v := ?_) 111 rfl rfl (fun _ _ _ h => h) (Or.inl ⟨rfl, ?_⟩) ?_
 rotate_left 1
 · (intro w9 h9; go_simp; try with_reducible rfl)
 simp only [es1, es2, es3]
 refine wpSeq_take (v := ?_) 112 rfl rfl (fun _ _ _ h => h) (Or.inl ⟨rfl, ?_⟩) ?_
 rotate_left 1
 · (intro w9 h9; go_simp; try with_reducible rfl)
 simp only [es1, es2, es3]
 refine wpSeq_take (v := ?_) 113 rfl rfl (fun _ _ _ h => h) (Or.inl ⟨rfl, ?_⟩) ?_
 rotate_left 1
 · (intro w9 h9; go_simp; try with_reducible rfl)
 simp only [es1, es2, es3]
 refine wpSeq_next rfl rfl (fun K hK => ?_)
 go_wp2_with fail
 refine (refSame_any _ _ _ _ _ _ _ _ _ (hb12.no hs16) (hb13.no hs16)).mono ?_
 rintro e w' ⟨rfl, rfl⟩
 rw [beq_self_eq_true]
 refine hK.out _ _ (fun _ => hs16) ?_
 clear hK K
 refine wpSeq_take (v := ?_) 115 rfl rfl (fun _ _ _ h => h) (Or.inl ⟨rfl, ?_⟩) ?_
 rotate_left 1
 · (intro w9 h9; go_simp; try with_reducible rfl)
 simp only [es1, es2, es3]
 refine wpSeq_take (v := ?_) 8 rfl rfl (fun _ _ _ h => h) (Or.inl ⟨rfl, ?_⟩) ?_
 rotate_left 1
 · (intro w9 h9; go_simp; try with_reducible rfl)
 simp only [es1, es2, es3]
 refine wpSeq_done ?_
 go_wp2_with fail
 go_ret
 exact ⟨rfl, hL9.fr.no hs16⟩
theorem ScodeGoes_row (k : Int) (kh kl : BitVec 64) (a1 : Option Addr) (n1 c1 : Nat) (l1 : Bytes) (a2 : Option Addr) (n2 c2 : Nat) (l2 : Bytes) (w : World) (_ : -9223372036854775808 ≤ k) (_ : k ≤ 9223372036854775807) (hb1 : IsBytes w a1 n1 c1 l1) (hb2 : IsBytes w a2 n2 c2 l2) (hg : ErrT w) : Calls Tryz.prog 4 #[.int .i64 k, .agg #[.int .u64 (W64 kh), .int .u64 (W64 kl)], .slice a1 n1 c1, .slice a2 n2 c2] w (Yes w) := ScodeGoes_yes k kh kl a1 n1 c1 l1 a2 n2 c2 l2 w hb1 hb2
end Go.Proofs.YtidlpihoafnobaaGreatDoor
