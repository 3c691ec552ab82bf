/- ScoRead LReads -/
import Derived.Laws.Cover3
import Derived.Test.YtidlpihoafnobaaGreatDoorPScoRead
import Derived.Test.YtidlpihoafnobaaGreatDoorPScoRef
set_option linter.unusedVariables false
set_option linter.unusedSimpArgs false
namespace Go.Proofs.YtidlpihoafnobaaGreatDoor
set_option maxRecDepth 100000
open Go.RowKit
theorem as_knownF {w : World} {pb : Nat} (tb : Nat) (T : TypeId) (old : Value) (ht : Row1 w tb T old) :
 Calls Tryz.prog 20 #[.iface 242 (.pointer (some ⟨pb, 0, none⟩)), .iface 56 (.pointer (some ⟨tb, 0, none⟩))] w (Found tb T (.iface 242 (.pointer (some ⟨pb, 0, none⟩))) w) := by
 refine (as_known ⟨pb, 0, none⟩ ⟨tb, 0, none⟩ old w ht.c0 ht.fz).mono ?_
 rintro ev w' ⟨rfl, rfl⟩
 have hf := ((((Fr.refl No w).alloc (.cells #[.pointer (some ⟨tb, 0, none⟩)] 56)).alloc (.cells #[.pointer (some ⟨1, 56, none⟩), .pointer (some ⟨w.heap.size, 0, none⟩), .int .u64 150] 99)).alloc (.cells #[.pointer (some ⟨1, 56, none⟩), .pointer (some ⟨w.heap.size, 0, none⟩), .int .u64 150] 99)).alloc (.cells #[.pointer (some ⟨pb, 0, none⟩)] 242)
 exact ⟨rfl, (ht.no hf).put _, (hf.mono (G := fun x => x = tb) (fun _ _ f => f.elim)).setCell (p := ⟨tb, 0, none⟩) (.inl rfl) _⟩
set_option maxHeartbeats 2000000 in
theorem Unmarshal_form (a : Option Addr) (n c : Nat) (b : Bytes) (w : World) (hb : IsBytes w a n c b) (hr : n ≤ 100000) (hg : ErrT w) (hf : ¬ formN b = 0) : Calls Tryz.prog 6 #[.slice a n c] w (GivesNew (.tuple #[.pointer none, .int .i64 (formN b)]) w) := by
 have hFo := form_any a n c b w hb (by omega)
 unfold GivesForm at hFo
 generalize formN b = z at hFo hf ⊢
 go_enter Tryz.func6, Tryz.ntmps6
 go_wp2_with fail
 refine hFo.mono ?_
 rintro e w1 (⟨h0, _, _⟩ | ⟨_, pb, rfl, hp, hge, hf1⟩)
 · exact absurd h0 hf
 have hK := row1_new w1 54 .nilIface
 have hA := (Fr.refl No w1).alloc (.cells #[.nilIface] 54)
 have hp2 := hp.no hA
 have hg2 := (hg.no hf1).no hA
 have hlt : pb < w1.heap.size := hp.lt
 have hF := hf1.no hA
 have hsz := hf1.size
 go_wp2_with fail
 obtain ⟨kb, hkb⟩ : ∃ kb, kb = w1.heap.size := ⟨_, rfl⟩
 have hke : pb < kb := by omega
 have hkw : w.heap.size ≤ kb := by omega
 rw [← hkb] at hK ⊢
 clear hkb
 generalize w1.alloc (.cells #[.nilIface] 54) = w2 at hK hA hp2 hg2 hF ⊢
 refine (as_knownF kb _ _ hK).mono ?_
 rintro e w3 ⟨rfl, hK3, hf3⟩
 have hp3 := hp2.fr hf3 (by omega)
 have hlt3 : 0 < w.heap.size := hg.lt
 have hg3 := hg2.fr hf3 (by omega)
 have hF3 := hF.trans hf3 (fun q hq => .inr (by omega))
 go_wp2_with fail
 refine (is_nil _ _).mono ?_
 rintro e w' ⟨rfl, rfl⟩
 go_wp2_with fail
 refine (Errno_any hp3 hg3).mono ?_
 rintro e w4 ⟨rfl, hf4⟩
 go_wp2_with fail
 go_ret2
 exact ⟨rfl, hF3.no hf4⟩
set_option maxHeartbeats 8000000 in
theorem Unmarshal_check (a : Option Addr) (n c : Nat) (b : Bytes) (w : World) (hb : IsBytes w a n c b) (hr : n ≤ 100000) (hf : formN b = 0) (hc : ¬ checkB b = 0) : Calls Tryz.prog 6 #[.slice a n c] w (GivesNew (.tuple #[.pointer none, .int .i64 (checkB b)]) w) := by
 have hFo := form_any a n c b w hb (by omega)
 have hOp := fun w hb => Open_any a n c b w hb (by omega)
 have hd := formed_of hf
 have hlen := hb.1
 have hblen := hd.len
 obtain ⟨_, _, hop1⟩ := openF_zero hd.opens
 unfold GivesOpen at hOp
 rw [hd.opens, hop1] at hOp
 clear hop1
 have hil : (innerB b).length = n - 4 := by unfold innerB; rw [List.length_take]; omega
 have hiy : (innerB b).getD 1 0 = b.getD 1 0 := by
  unfold innerB
  rw [List.getD_eq_getElem?_getD, List.getD_eq_getElem?_getD, List.getElem?_take, if_pos (by omega)]
 unfold GivesForm at hFo
 unfold checkB at hc ⊢
 have hkd : kindB b = B8 (b.getD 1 0) := rfl
 rw [hkd] at hc ⊢
 rw [← hiy] at hc ⊢
 rw [hf] at hFo
 have hn62 : 62 ≤ n := by omega
 clear hf hd hlen hblen hkd hiy
 have hWd := fun a' n' c' w hb h => words_any a' n' c' (innerB b) w hb h
 generalize innerB b = i at *
 generalize hx0 : wordB i 0 = x0 at hWd hc ⊢
 generalize hx1 : wordB i 1 = x1 at hWd hc ⊢
 generalize hx2 : wordB i 2 = x2 at hWd hc ⊢
 generalize hx3 : wordB i 3 = x3 at hWd hc ⊢
 generalize hx4 : wordB i 4 = x4 at hWd hc ⊢
 generalize hx5 : wordB i 5 = x5 at hWd hc ⊢
 generalize hx6 : wordB i 6 = x6 at hWd hc ⊢
 clear hx0 hx1 hx2 hx3 hx4 hx5 hx6
 obtain ⟨y1, hy1⟩ : ∃ y, Hid (y = i.getD 1 0) := ⟨_, Lib.hid rfl⟩
 rw [← hy1.out] at hc ⊢
 have hNew := fun w => New_no hc w
 generalize checkN (B8 y1) x1 x0 = z at hc hNew ⊢
 go_enter Tryz.func6, Tryz.ntmps6
 go_wp2_with fail
 refine hFo.mono ?_
 rintro e w1 (⟨_, rfl, hf1⟩ | ⟨h0, _⟩)
 rotate_left 1
 · exact absurd trivial h0
 have hA := (Fr.refl No w1).alloc (.cells #[.nilIface] 54)
 have hF := hf1.no hA
 clear hFo
 go_wp2_with fail
 generalize w1.heap.size = kb
 generalize w1.alloc (.cells #[.nilIface] 54) = w2 at hA hF ⊢
 refine (as_nil _ _).mono ?_
 rintro e w' ⟨rfl, rfl⟩
 go_wp2_with fail
 refine (hOp _ (hb.no hF)).mono ?_
 rintro e w3 ⟨v3, rfl, hO3, hf3⟩
 obtain ⟨a3, c3, rfl, hb3, _⟩ := hO3.bytes
 clear hO3 hOp
 rw [hil] at hb3 ⊢
 replace hF := hF.no hf3
 have i58 : 58 ≤ n - 4 := by omega
 have hmm : n - 4 ≤ 100000 := by omega
 generalize n - 4 = m at hb3 i58 hil hmm ⊢
 go_wp2_with fail
 refine (hWd _ _ _ _ hb3 i58).mono ?_
 rintro e w4 ⟨rfl, hf4⟩
 clear hWd
 have hT := row7_new w4 60 (.int .u64 (W64 x0)) (.int .u64 (W64 x1)) (.int .u64 (W64 x2)) (.int .u64 (W64 x3)) (.int .u64 (W64 x4)) (.int .u64 (W64 x5)) (.int .u64 (W64 x6))
 have hA4 := (Fr.refl No w4).alloc (.cells #[.int .u64 (W64 x0), .int .u64 (W64 x1), .int .u64 (W64 x2), .int .u64 (W64 x3), .int .u64 (W64 x4), .int .u64 (W64 x5), .int .u64 (W64 x6)] 60)
 replace hb3 := (hb3.no hf4).no hA4
 replace hF := (hF.no hf4).no hA4
 go_upto_region 7 with fail
 generalize w4.heap.size = tb at hT ⊢
 generalize w4.alloc (.cells #[.int .u64 (W64 x0), .int .u64 (W64 x1), .int .u64 (W64 x2), .int .u64 (W64 x3), .int .u64 (W64 x4), .int .u64 (W64 x5), .int .u64 (W64 x6)] 60) = w5 at hT hA4 hb3 hF ⊢
 obtain ⟨bb, off, hbo, hcell⟩ := hb3.known (by omega)
 have hc1 := hcell 1 (by omega)
 clear hcell
 rw [hbo] at hb3 ⊢
 have i1 : (1 : Int) < (m : Int) := by omega
 rw [← hy1.out] at hc1
 refine rsq (by kernel_rfl) [(0, 1), (1, 1), (2, 1), (3, 1), (4, 1), (5, 1), (6, 1), (7, 1), (8, 1), (9, 0), (10, 1), (11, 1), (12, 1), (13, 1), (14, 1)] (by kernel_rfl) ?_
 have hS0 : Fr No w5 w5.drew := (Fr.refl No w5).drew
 refine wpSeq_take (v := ?_) 32 rfl rfl (fun _ _ _ h => h) (Or.inl ⟨rfl, ?_⟩) ?_
 rotate_left 1
 · (intro w9 h9; go_simp; try with_reducible rfl)
 simp only [es1, es2, es3]
 refine wpSeq_take (v := ?_) 33 rfl rfl (fun _ _ _ h => h) (Or.inl ⟨rfl, ?_⟩) ?_
 rotate_left 1
 · (intro w9 h9; go_simp; try with_reducible rfl)
 simp only [es1, es2, es3]
 refine wpSeq_take (v := ?_) 34 rfl rfl (fun _ _ _ h => h) (Or.inl ⟨rfl, ?_⟩) ?_
 rotate_left 1
 · (intro w9 h9; have q1 := h9.cell (fun h => h) hc1; have t0 := (hT.no h9).c0; have t1 := (hT.no h9).c1; go_simp; try with_reducible rfl)
 simp only [es1, es2, es3]
 refine wpSeq_take (v := ?_) 35 rfl rfl (fun _ _ _ h => h) (Or.inl ⟨rfl, ?_⟩) ?_
 rotate_left 1
 · (intro w9 h9; go_simp; try with_reducible rfl)
 simp only [es1, es2, es3]
 refine wpSeq_take (v := ?_) 36 rfl rfl (fun _ _ _ h => h) (Or.inl ⟨rfl, ?_⟩) ?_
 rotate_left 1
 · (intro w9 h9; go_simp; try with_reducible rfl)
 simp only [es1, es2, es3]
 refine wpSeq_take (v := ?_) 37 rfl rfl (fun _ _ _ h => h) (Or.inl ⟨rfl, ?_⟩) ?_
 rotate_left 1
 · (intro w9 h9; have q1 := h9.cell (fun h => h) hc1; have t0 := (hT.no h9).c0; have t1 := (hT.no h9).c1; go_simp; try with_reducible rfl)
 simp only [es1, es2, es3]
 refine wpSeq_take (v := ?_) 38 rfl rfl (fun _ _ _ h => h) (Or.inl ⟨rfl, ?_⟩) ?_
 rotate_left 1
 · (intro w9 h9; go_simp; try with_reducible rfl)
 simp only [es1, es2, es3]
 refine wpSeq_take (v := ?_) 39 rfl rfl (fun _ _ _ h => h) (Or.inl ⟨rfl, ?_⟩) ?_
 rotate_left 1
 · (intro w9 h9; have q1 := h9.cell (fun h => h) hc1; have t0 := (hT.no h9).c0; have t1 := (hT.no h9).c1; go_simp; try with_reducible rfl)
 simp only [es1, es2, es3]
 refine wpSeq_take (v := ?_) 40 rfl rfl (fun _ _ _ h => h) (Or.inl ⟨rfl, ?_⟩) ?_
 rotate_left 1
 · (intro w9 h9; go_simp; try with_reducible rfl)
 simp only [es1, es2, es3]
 refine wpSeq_next rfl rfl (fun K hK => ?_)
 go_wp2_with fail
 refine (hNew _).mono ?_
 rintro e w6 ⟨rfl, hf6⟩
 have hs6 : Fr No w5 w6 := (hS0).no hf6
 refine hK.out _ _ (fun _ => hs6) ?_
 clear hK K
 refine wpSeq_take (v := ?_) 31 rfl rfl (fun _ _ _ h => h) (Or.inl ⟨rfl, ?_⟩) ?_
 rotate_left 1
 · (intro w9 h9; go_simp; try with_reducible rfl)
 simp only [es1, es2, es3]
 refine wpSeq_take (v := ?_) 42 rfl rfl (fun _ _ _ h => h) (Or.inl ⟨rfl, ?_⟩) ?_
 rotate_left 1
 · (intro w9 h9; go_simp; try with_reducible rfl)
 simp only [es1, es2, es3]
 refine wpSeq_take (v := ?_) 43 rfl rfl (fun _ _ _ h => h) (Or.inl ⟨rfl, ?_⟩) ?_
 rotate_left 1
 · (intro w9 h9; go_simp; try with_reducible rfl)
 simp only [es1, es2, es3]
 refine wpSeq_take (v := ?_) 9 rfl rfl (fun _ _ _ h => h) (Or.inl ⟨rfl, ?_⟩) ?_
 rotate_left 1
 · (intro w9 h9; go_simp; try with_reducible rfl)
 simp only [es1, es2, es3]
 refine wpSeq_take (v := ?_) 10 rfl rfl (fun _ _ _ h => h) (Or.inl ⟨rfl, ?_⟩) ?_
 rotate_left 1
 · (intro w9 h9; go_simp; try with_reducible rfl)
 simp only [es1, es2, es3]
 refine wpSeq_done ?_
 have hn : (z != 0) = true := by simpa using hc
 clear hc
 go_wp2_with fail
 go_ret2
 exact ⟨rfl, hF.no hs6⟩
set_option maxHeartbeats 8000000 in
theorem Unmarshal_wrong (a : Option Addr) (n c : Nat) (b : Bytes) (w : World) (hb : IsBytes w a n c b) (hr : n ≤ 100000) (hf : formN b = 0) (hc : checkB b = 0) (hR : ¬ RightB b) : Calls Tryz.prog 6 #[.slice a n c] w (GivesNew (.tuple #[.pointer none, .int .i64 5]) w) := by
 have hFo := form_any a n c b w hb (by omega)
 have hOp := fun w hb => Open_any a n c b w hb (by omega)
 have hd := formed_of hf
 have hlen := hb.1
 have hblen := hd.len
 obtain ⟨_, _, hop1⟩ := openF_zero hd.opens
 unfold GivesOpen at hOp
 rw [hd.opens, hop1] at hOp
 clear hop1
 have hil : (innerB b).length = n - 4 := by unfold innerB; rw [List.length_take]; omega
 have hiy : (innerB b).getD 1 0 = b.getD 1 0 := by
  unfold innerB
  rw [List.getD_eq_getElem?_getD, List.getD_eq_getElem?_getD, List.getElem?_take, if_pos (by omega)]
 unfold GivesForm at hFo
 unfold checkB at hc
 unfold RightB at hR
 have hkd : kindB b = B8 (b.getD 1 0) := rfl
 rw [hkd] at hc hR
 rw [← hiy] at hc hR
 rw [hf] at hFo
 have hn62 : 62 ≤ n := by omega
 clear hf hd hlen hblen hkd hiy
 have hWd := fun a' n' c' w hb h => words_any a' n' c' (innerB b) w hb h
 generalize innerB b = i at *
 have hx : lanesB i = (wordB i 2, wordB i 3, wordB i 4, wordB i 5) := rfl
 rw [hx] at hR
 clear hx
 generalize hx0 : wordB i 0 = x0 at hWd hc hR
 generalize hx1 : wordB i 1 = x1 at hWd hc hR
 generalize hx2 : wordB i 2 = x2 at hWd hc hR
 generalize hx3 : wordB i 3 = x3 at hWd hc hR
 generalize hx4 : wordB i 4 = x4 at hWd hc hR
 generalize hx5 : wordB i 5 = x5 at hWd hc hR
 generalize hx6 : wordB i 6 = x6 at hWd hc hR
 clear hx0 hx1 hx2 hx3 hx4 hx5 hx6
 obtain ⟨y1, hy1⟩ : ∃ y, Hid (y = i.getD 1 0) := ⟨_, Lib.hid rfl⟩
 rw [← hy1.out] at hc hR
 have hNew := fun w => New_yes hc w
 go_enter Tryz.func6, Tryz.ntmps6
 go_wp2_with fail
 refine hFo.mono ?_
 rintro e w1 (⟨_, rfl, hf1⟩ | ⟨h0, _⟩)
 rotate_left 1
 · exact absurd trivial h0
 have hA := (Fr.refl No w1).alloc (.cells #[.nilIface] 54)
 have hF := hf1.no hA
 clear hFo
 go_wp2_with fail
 generalize w1.heap.size = kb
 generalize w1.alloc (.cells #[.nilIface] 54) = w2 at hA hF ⊢
 refine (as_nil _ _).mono ?_
 rintro e w' ⟨rfl, rfl⟩
 go_wp2_with fail
 refine (hOp _ (hb.no hF)).mono ?_
 rintro e w3 ⟨v3, rfl, hO3, hf3⟩
 obtain ⟨a3, c3, rfl, hb3, _⟩ := hO3.bytes
 clear hO3 hOp
 rw [hil] at hb3 ⊢
 replace hF := hF.no hf3
 have i58 : 58 ≤ n - 4 := by omega
 have hmm : n - 4 ≤ 100000 := by omega
 generalize n - 4 = m at hb3 i58 hil hmm ⊢
 go_wp2_with fail
 refine (hWd _ _ _ _ hb3 i58).mono ?_
 rintro e w4 ⟨rfl, hf4⟩
 clear hWd
 have hT := row7_new w4 60 (.int .u64 (W64 x0)) (.int .u64 (W64 x1)) (.int .u64 (W64 x2)) (.int .u64 (W64 x3)) (.int .u64 (W64 x4)) (.int .u64 (W64 x5)) (.int .u64 (W64 x6))
 have hA4 := (Fr.refl No w4).alloc (.cells #[.int .u64 (W64 x0), .int .u64 (W64 x1), .int .u64 (W64 x2), .int .u64 (W64 x3), .int .u64 (W64 x4), .int .u64 (W64 x5), .int .u64 (W64 x6)] 60)
 replace hb3 := (hb3.no hf4).no hA4
 replace hF := (hF.no hf4).no hA4
 go_upto_region 7 with fail
 generalize w4.heap.size = tb at hT ⊢
 generalize w4.alloc (.cells #[.int .u64 (W64 x0), .int .u64 (W64 x1), .int .u64 (W64 x2), .int .u64 (W64 x3), .int .u64 (W64 x4), .int .u64 (W64 x5), .int .u64 (W64 x6)] 60) = w5 at hT hA4 hb3 hF ⊢
 obtain ⟨bb, off, hbo, hcell⟩ := hb3.known (by omega)
 have hc1 := hcell 1 (by omega)
 clear hcell
 rw [hbo] at hb3 ⊢
 have i1 : (1 : Int) < (m : Int) := by omega
 rw [← hy1.out] at hc1
 refine rsq (by kernel_rfl) [(0, 1), (1, 1), (2, 1), (3, 1), (4, 1), (5, 1), (6, 1), (7, 1), (8, 1), (9, 0), (10, 1), (11, 1), (12, 1), (13, 1), (14, 1)] (by kernel_rfl) ?_
 have hS0 : Fr No w5 w5.drew := (Fr.refl No w5).drew
 refine wpSeq_take (v := ?_) 32 rfl rfl (fun _ _ _ h => h) (Or.inl ⟨rfl, ?_⟩) ?_
 rotate_left 1
 · (intro w9 h9; go_simp; try with_reducible rfl)
 simp only [es1, es2, es3]
 refine wpSeq_take (v := ?_) 33 rfl rfl (fun _ _ _ h => h) (Or.inl ⟨rfl, ?_⟩) ?_
 rotate_left 1
 · (intro w9 h9; go_simp; try with_reducible rfl)
 simp only [es1, es2, es3]
 refine wpSeq_take (v := ?_) 34 rfl rfl (fun _ _ _ h => h) (Or.inl ⟨rfl, ?_⟩) ?_
 rotate_left 1
 · (intro w9 h9; have q1 := h9.cell (fun h => h) hc1; have t0 := (hT.no h9).c0; have t1 := (hT.no h9).c1; go_simp; try with_reducible rfl)
 simp only [es1, es2, es3]
 refine wpSeq_take (v := ?_) 35 rfl rfl (fun _ _ _ h => h) (Or.inl ⟨rfl, ?_⟩) ?_
 rotate_left 1
 · (intro w9 h9; go_simp; try with_reducible rfl)
 simp only [es1, es2, es3]
 refine wpSeq_take (v := ?_) 36 rfl rfl (fun _ _ _ h => h) (Or.inl ⟨rfl, ?_⟩) ?_
 rotate_left 1
 · (intro w9 h9; go_simp; try with_reducible rfl)
 simp only [es1, es2, es3]
 refine wpSeq_take (v := ?_) 37 rfl rfl (fun _ _ _ h => h) (Or.inl ⟨rfl, ?_⟩) ?_
 rotate_left 1
 · (intro w9 h9; have q1 := h9.cell (fun h => h) hc1; have t0 := (hT.no h9).c0; have t1 := (hT.no h9).c1; go_simp; try with_reducible rfl)
 simp only [es1, es2, es3]
 refine wpSeq_take (v := ?_) 38 rfl rfl (fun _ _ _ h => h) (Or.inl ⟨rfl, ?_⟩) ?_
 rotate_left 1
 · (intro w9 h9; go_simp; try with_reducible rfl)
 simp only [es1, es2, es3]
 refine wpSeq_take (v := ?_) 39 rfl rfl (fun _ _ _ h => h) (Or.inl ⟨rfl, ?_⟩) ?_
 rotate_left 1
 · (intro w9 h9; have q1 := h9.cell (fun h => h) hc1; have t0 := (hT.no h9).c0; have t1 := (hT.no h9).c1; go_simp; try with_reducible rfl)
 simp only [es1, es2, es3]
 refine wpSeq_take (v := ?_) 40 rfl rfl (fun _ _ _ h => h) (Or.inl ⟨rfl, ?_⟩) ?_
 rotate_left 1
 · (intro w9 h9; go_simp; try with_reducible rfl)
 simp only [es1, es2, es3]
 refine wpSeq_next rfl rfl (fun K hK => ?_)
 go_wp2_with fail
 refine (hNew _ w (hF.no hS0)).mono ?_
 rintro e w6 ⟨hb6, rfl, F, h6, hn6, hf6⟩
 have hs6 : Fr No w5 w6 := (hS0).no hf6
 have hsd := (hS0).size
 refine hK.out _ _ (fun _ => hs6) ?_
 clear hK K
 refine wpSeq_take (v := ?_) 31 rfl rfl (fun _ _ _ h => h) (Or.inl ⟨rfl, ?_⟩) ?_
 rotate_left 1
 · (intro w9 h9; go_simp; try with_reducible rfl)
 simp only [es1, es2, es3]
 refine wpSeq_take (v := ?_) 42 rfl rfl (fun _ _ _ h => h) (Or.inl ⟨rfl, ?_⟩) ?_
 rotate_left 1
 · (intro w9 h9; go_simp; try with_reducible rfl)
 simp only [es1, es2, es3]
 refine wpSeq_take (v := ?_) 43 rfl rfl (fun _ _ _ h => h) (Or.inl ⟨rfl, ?_⟩) ?_
 rotate_left 1
 · (intro w9 h9; go_simp; try with_reducible rfl)
 simp only [es1, es2, es3]
 refine wpSeq_take (v := ?_) 9 rfl rfl (fun _ _ _ h => h) (Or.inl ⟨rfl, ?_⟩) ?_
 rotate_left 1
 · (intro w9 h9; go_simp; try with_reducible rfl)
 simp only [es1, es2, es3]
 refine wpSeq_take (v := ?_) 10 rfl rfl (fun _ _ _ h => h) (Or.inl ⟨rfl, ?_⟩) ?_
 rotate_left 1
 · (intro w9 h9; go_simp; try with_reducible rfl)
 simp only [es1, es2, es3]
 refine wpSeq_done ?_
 have hat : ∀ w, (Instr.arrayAt 31 (.slice (some ⟨tb, 2, none⟩) 4 5)).run Tryz.prog w = .ok (.pointer (some ⟨tb, 2, none⟩)) w := fun w => run_arrayAt w 31 28 4 _ 4 5 Tryz.underlying31 (by omega)
 go_upto_region 10 with fail
 have hT6 := hT.no hs6
 have hb6' := (hb3.no hs6)
 have htl := hb6'.cut_to_end 58 (n' := m - 58) (c' := c3 - 58) i58 rfl rfl
 have i58' : (58 : Int) ≤ (m : Int) := by omega
 have hmc : m ≤ c3 := hb3.2.1
 have hF6 := hF.no hs6
 have hsf := hF.size
 refine rsq (by kernel_rfl) [(0, 1), (1, 1), (4, 1), (5, 1), (6, 1), (7, 1), (2, 0), (3, 1), (8, 0), (9, 1)] (by kernel_rfl) ?_
 have hS0 : Fr No w6 w6.drew := (Fr.refl No w6).drew
 refine wpSeq_take (v := ?_) 47 rfl rfl (fun _ _ _ h => h) (Or.inl ⟨rfl, ?_⟩) ?_
 rotate_left 1
 · (intro w9 h9; go_simp; try with_reducible rfl)
 simp only [es1, es2, es3]
 refine wpSeq_take (v := ?_) 48 rfl rfl (fun _ _ _ h => h) (Or.inl ⟨rfl, ?_⟩) ?_
 rotate_left 1
 · (intro w9 h9; go_simp; try with_reducible rfl)
 simp only [es1, es2, es3]
 refine wpSeq_take (v := ?_) 51 rfl rfl (fun _ _ _ h => h) (Or.inl ⟨rfl, ?_⟩) ?_
 rotate_left 1
 · (intro w9 h9; go_simp; try with_reducible rfl)
 simp only [es1, es2, es3]
 refine wpSeq_take (v := ?_) 52 rfl rfl (fun _ _ _ h => h) (Or.inl ⟨rfl, ?_⟩) ?_
 rotate_left 1
 · (intro w9 h9; have t2 := (hT6.no h9).c2; have t3 := (hT6.no h9).c3; have t4 := (hT6.no h9).c4; have t5 := (hT6.no h9).c5; have t6 := (hT6.no h9).c6; go_simp; try with_reducible rfl)
 simp only [es1, es2, es3]
 refine wpSeq_take (v := ?_) 53 rfl rfl (fun _ _ _ h => h) (Or.inl ⟨rfl, ?_⟩) ?_
 rotate_left 1
 · (intro w9 h9; go_simp; try with_reducible rfl)
 simp only [es1, es2, es3]
 refine wpSeq_take (v := ?_) 54 rfl rfl (fun _ _ _ h => h) (Or.inl ⟨rfl, ?_⟩) ?_
 rotate_left 1
 · (intro w9 h9; go_simp; try with_reducible rfl)
 simp only [es1, es2, es3]
 refine wpSeq_next rfl rfl (fun K hK => ?_)
 go_wp2_with fail
 refine hK.out _ _ (fun _ => hS0) ?_
 clear hK K
 refine wpSeq_take (v := ?_) 50 rfl rfl (fun _ _ _ h => h) (Or.inl ⟨rfl, ?_⟩) ?_
 rotate_left 1
 · (intro w9 h9; have t2 := (hT6.no h9).c2; have t3 := (hT6.no h9).c3; have t4 := (hT6.no h9).c4; have t5 := (hT6.no h9).c5; have t6 := (hT6.no h9).c6; go_simp; try with_reducible rfl)
 simp only [es1, es2, es3]
 refine wpSeq_next rfl rfl (fun K hK => ?_)
 go_wp2_with fail
 refine ((h6.no hS0).set_wrong (x2, x3, x4, x5) x6 _ (m - 58) (c3 - 58) (by rw [← hil, ← List.length_drop]; exact hR)).mono ?_
 rintro e w7 ⟨rfl, hf7⟩
 have hs7 : Fr No w6 w7 := (hS0).no hf7
 refine hK.out _ _ (fun _ => hs7) ?_
 clear hK K
 refine wpSeq_take (v := ?_) 11 rfl rfl (fun _ _ _ h => h) (Or.inl ⟨rfl, ?_⟩) ?_
 rotate_left 1
 · (intro w9 h9; go_simp; try with_reducible rfl)
 simp only [es1, es2, es3]
 refine wpSeq_done ?_
 go_wp2_with fail
 go_ret2
 exact ⟨rfl, hF6.no hs7⟩
end Go.Proofs.YtidlpihoafnobaaGreatDoor
namespace Go.Proofs.YtidlpihoafnobaaGreatDoor
set_option maxRecDepth 100000
open Go.RowKit
theorem fit_lt' {k : Int} (hk : KindOk k) {n : Nat} {lo : BitVec 64} (h : FitS k n lo) (hn : n ≤ 1099511627776) : (n : Int) < blockN k := by
 have h2 := block_pos hk
 unfold FitS at h
 obtain ⟨b, hb⟩ := Int.eq_ofNat_of_zero_le (show 0 ≤ blockN k by omega)
 rw [hb] at h h2 ⊢
 rw [beq_iff_eq, O64_nat] at h
 have h3 := congrArg BitVec.toNat h
 simp only [BitVec.toNat_ofNat, BitVec.toNat_umod] at h3
 rw [Nat.mod_eq_of_lt (a := n) (by omega), Nat.mod_eq_of_lt (a := b) (by omega)] at h3
 have := Nat.mod_lt lo.toNat (show 0 < b by omega)
 omega
theorem lanes_state {k : Int} (hk : KindOk k) {x : L4} (h : RightS k x) : lanesS (stateS k x) = x := by
 revert h
 refine kind_cases (C := fun k => RightS k x → lanesS (stateS k x) = x) ?_ ?_ ?_ ?_ ?_ ?_ hk
 · rintro ⟨h1, h2, h3, h4⟩
   show (((x.1.setWidth 32).setWidth 64, 0#64, 0#64, 0#64) : L4) = x
   have h5 : (x.1.setWidth 32).setWidth 64 = x.1 := by
    have h6 := congrArg BitVec.toNat h4
    simp only [BitVec.toNat_udiv, BitVec.toNat_ofNat] at h6
    rw [show 4294967296 % 2 ^ 64 = 4294967296 from rfl, show 0 % 2 ^ 64 = 0 from rfl] at h6
    apply BitVec.eq_of_toNat_eq
    simp only [BitVec.toNat_setWidth]
    have := x.1.isLt
    omega
   exact Prod.ext h5 (Prod.ext h1.symm (Prod.ext h2.symm h3.symm))
 · rintro ⟨h1, h2, h3, h4⟩
   show ((_, _, _, _) : L4) = x
   exact Prod.ext h1 (Prod.ext h2 (Prod.ext h3 h4))
 · rintro ⟨h1, h2⟩
   show ((x.1, x.2.1, 0#64, 0#64) : L4) = x
   exact Prod.ext rfl (Prod.ext rfl (Prod.ext h1.symm h2.symm))
 · rintro ⟨h1, h2, h3, h4⟩
   show ((_, _, _, _) : L4) = x
   exact Prod.ext h1 (Prod.ext h2 (Prod.ext h3 h4))
 · intro _; rfl
 · intro k hk _; rw [stateS_sip hk]; rfl
theorem Unmarshal_bad {a : Option Addr} {n c : Nat} {b : Bytes} {w : World} (hb : IsBytes w a n c b) (hr : n ≤ 100000) (hg : ErrT w) {z : Int} (hz : ReadN b z) (h0 : ¬ z = 0) : Calls Tryz.prog 6 #[.slice a n c] w (GivesNew (.tuple #[.pointer none, .int .i64 z]) w) := by
 rcases hz with ⟨h1, rfl⟩ | ⟨h1, h2, rfl⟩ | ⟨h1, h2, h3, rfl⟩ | ⟨_, _, _, rfl⟩
 · exact Unmarshal_form a n c b w hb hr hg h1
 · exact Unmarshal_check a n c b w hb hr h1 h2
 · exact Unmarshal_wrong a n c b w hb hr h1 h2 h3
 · exact absurd rfl h0
theorem Read_bad {a : Option Addr} {n c : Nat} {b : Bytes} {w : World} (hb : IsBytes w a n c b) (hr : n ≤ 100000) {z : Int} (hz : ReadN b z) (h0 : ¬ z = 0) : Calls Tryz.prog 7 #[.slice a n c] w (GivesBad z w) := by
 rcases hz with ⟨h1, rfl⟩ | ⟨h1, h2, rfl⟩ | ⟨h1, h2, h3, rfl⟩ | ⟨_, _, _, rfl⟩
 · have hl := hb.1
   by_cases k1 : n < 2
   · rw [show formN b = 3 by unfold formN; rw [if_pos (by omega)]]
     exact Read_short a n c w k1
   by_cases k2 : b.getD 0 0 = 104#8
   · by_cases k3 : sizeN (B8 (b.getD 1 0)) = 0
     · rw [show formN b = 6 by unfold formN; rw [if_neg (by omega), if_neg (by simpa using k2), if_pos k3]]
       exact Read_kind a n c b w hb (by omega) k2 k3
     by_cases k4 : n < 62
     · rw [show formN b = 3 by unfold formN; rw [if_neg (by omega), if_neg (by simpa using k2), if_neg k3, if_pos (by omega)]]
       exact Read_less a n c b w hb (by omega) k2 k3 k4
     · have hf : formN b = (openF b).2 := by unfold formN; rw [if_neg (by omega), if_neg (by simpa using k2), if_neg k3, if_neg (by omega)]
       rw [hf] at h1 ⊢
       exact Read_sum a n c b w hb k2 k3 (by omega) h1 hr
   · rw [show formN b = 5 by unfold formN; rw [if_neg (by omega), if_pos k2]]
     exact Read_head a n c b w hb (by omega) k2
 · exact Read_check a n c b w hb (formed_of h1) h2 hr
 · exact Read_wrong a n c b w hb (formed_of h1) h2 h3 hr
 · exact absurd rfl h0
theorem ScodeReads_long (a1 : Option Addr) (n1 c1 : Nat) (b : Bytes) (w : World) (h : 400 < n1) : Calls Tryz.prog 3 #[.slice a1 n1 c1] w (Yes w) := by
 have i1 : (400 : Int) < (n1 : Int) := by omega
 clear h
 go_enter Tryz.func3, Tryz.ntmps3
 go_wp2_with fail
 refine (scoAwake_yes _).mono ?_
 rintro e w1 ⟨rfl, hf1⟩
 go_wp2_with fail
 go_ret
 exact ⟨rfl, hf1⟩
set_option maxHeartbeats 2000000 in
theorem ScodeReads_bad (a1 : Option Addr) (n1 c1 : Nat) (b : Bytes) (w : World) (hb : IsBytes w a1 n1 c1 b) (hn : n1 ≤ 400) (hg : ErrT w) (z : Int) (hz : ReadN b z) (h0 : ¬ z = 0) : Calls Tryz.prog 3 #[.slice a1 n1 c1] w (Yes w) := by
 have i1 : (n1 : Int) ≤ 400 := by omega
 have hU := fun w hb hg => Unmarshal_bad (w := w) (a := a1) (n := n1) (c := c1) (b := b) hb (by omega) hg hz h0
 have hR := fun w hb => Read_bad (w := w) (a := a1) (n := n1) (c := c1) (b := b) hb (by omega) hz h0
 have hzn : (z != 0) = true := by simpa using h0
 clear hz h0
 go_enter Tryz.func3, Tryz.ntmps3
 go_wp2_with fail
 refine (scoAwake_yes _).mono ?_
 rintro e w1 ⟨rfl, hf1⟩
 go_wp2_with fail
 refine (hU _ (hb.no hf1) (hg.no hf1)).mono ?_
 rintro e w2 ⟨rfl, hf2⟩
 have hF := hf1.no hf2
 go_wp2_with fail
 refine (hR _ (hb.no hF)).mono ?_
 rintro e w3 ⟨rfl, hf3⟩
 have hF3 := (hF.no hf3).alloc (.cells #[.int .i64 0, .int .u64 0, .int .u64 0, .int .u64 0, .int .u64 0, .int .u64 0, .int .u64 0, .int .u64 0, .slice none 0 0] 33)
 go_wp2_with fail
 go_ret
 exact ⟨rfl, hF3⟩
set_option maxHeartbeats 4000000 in
theorem ScodeReads_right (a1 : Option Addr) (n1 c1 : Nat) (b : Bytes) (w : World) (hb : IsBytes w a1 n1 c1 b) (hn : n1 ≤ 400) (h1 : formN b = 0) (h2 : checkB b = 0) (h3 : RightB b) : Calls Tryz.prog 3 #[.slice a1 n1 c1] w (Yes w) := by
 have i1 : (n1 : Int) ≤ 400 := by omega
 have hU := fun w hb w0 hw => Unmarshal_right a1 n1 c1 b w hb (by omega) h1 h2 h3 w0 hw
 have hR := fun w hb => Read_right a1 n1 c1 b w hb (formed_of h1) h2 h3 (by omega)
 unfold GivesIn at hR
 have hk := check_ok (show checkN (kindB b) (wordB (innerB b) 1) (wordB (innerB b) 0) = 0 from h2)
 have hst := lanes_state hk h3.1
 have htell := tell_read (formed_of h1)
 have hil : ((innerB b).drop 58).length ≤ 400 := by unfold innerB; rw [List.length_drop, List.length_take]; have := hb.1; omega
 have hlt := fit_lt' hk h3.2 (by omega)
 have hx : lanesB (innerB b) = (wordB (innerB b) 2, wordB (innerB b) 3, wordB (innerB b) 4, wordB (innerB b) 5) := rfl
 have hx2 : wordB (innerB b) 2 = (lanesB (innerB b)).1 ∧ wordB (innerB b) 3 = (lanesB (innerB b)).2.1 ∧ wordB (innerB b) 4 = (lanesB (innerB b)).2.2.1 ∧ wordB (innerB b) 5 = (lanesB (innerB b)).2.2.2 := ⟨rfl, rfl, rfl, rfl⟩
 rw [hx2.1, hx2.2.1, hx2.2.2.1, hx2.2.2.2] at hR
 clear hx hx2 h1 h2 h3
 generalize kindB b = k at *
 generalize wordB (innerB b) 1 = kh at *
 generalize wordB (innerB b) 0 = kl at *
 generalize lanesB (innerB b) = x at *
 generalize wordB (innerB b) 6 = lo at *
 generalize (innerB b).drop 58 = tl at *
 have HK := Lib.hid hk
 have HST := Lib.hid hst
 have HT := Lib.hid htell
 have HLT := Lib.hid hlt
 have HIL : Hid (tl.length ≤ 1000) := Lib.hid (by omega)
 clear hk hst htell hlt hil
 have HBL := Lib.hid hb.1
 go_enter Tryz.func3, Tryz.ntmps3
 go_wp2_with fail
 refine (scoAwake_yes _).mono ?_
 rintro e w1 ⟨rfl, hf1⟩
 go_wp2_with fail
 refine (hU _ (hb.no hf1) w hf1).mono ?_
 rintro e w2 ⟨hb2, rfl, F, h2, _, hf2⟩
 have hF := hf1.no hf2
 clear hU
 go_wp2_with fail
 refine (hR _ (hb.no hF)).mono ?_
 rintro e w3 ⟨a3, n3, c3, rfl, hp3, hf3⟩
 have hX := row9_new w3 33 (.int .i64 k) (.int .u64 (W64 kh)) (.int .u64 (W64 kl)) (.int .u64 (W64 x.1)) (.int .u64 (W64 x.2.1)) (.int .u64 (W64 x.2.2.1)) (.int .u64 (W64 x.2.2.2)) (.int .u64 (W64 lo)) (.slice a3 n3 c3)
 have hA := (Fr.refl No w3).alloc (.cells #[.int .i64 k, .int .u64 (W64 kh), .int .u64 (W64 kl), .int .u64 (W64 x.1), .int .u64 (W64 x.2.1), .int .u64 (W64 x.2.2.1), .int .u64 (W64 x.2.2.2), .int .u64 (W64 lo), .slice a3 n3 c3] 33)
 have hF3 := (hF.no hf3).no hA
 have h3 := (h2.no hf3).no hA
 clear h2 hR
 go_wp2_with fail
 generalize w3.heap.size = xb at hX ⊢
 generalize w3.alloc (.cells #[.int .i64 k, .int .u64 (W64 kh), .int .u64 (W64 kl), .int .u64 (W64 x.1), .int .u64 (W64 x.2.1), .int .u64 (W64 x.2.2.1), .int .u64 (W64 x.2.2.2), .int .u64 (W64 lo), .slice a3 n3 c3] 33) = w4 at hX hA hF3 h3 ⊢
 have hM := Marshal_any h3 HIL.out
 rw [HST.out, HT.out] at hM
 refine hM.mono ?_
 rintro e w5 ⟨v5, rfl, hO5, hf5⟩
 clear hM
 obtain ⟨a5, c5, rfl, hb5, _⟩ := hO5.bytes
 rw [HBL.out] at hb5 ⊢
 replace h3 := h3.no hf5
 replace hX := hX.no hf5
 clear hO5
 go_wp2_with fail
 obtain ⟨ans, hans⟩ : ∃ ans, Hid (ans = endS k kh kl (stateS k x) tl lo) := ⟨_, Lib.hid rfl⟩
 have hS := h3.sum
 rw [← hans.out] at hS
 refine hS.mono ?_
 rintro e w6 ⟨v6, rfl, hO6, hf6⟩
 clear hS
 obtain ⟨a6, c6, rfl, hb6, _⟩ := hO6.bytes
 replace hb5 := hb5.no hf6
 replace hX := hX.no hf6
 have hF6 := (hF3.no hf5).no hf6
 clear hO6
 have s0 := hX.c0
 have s1 := hX.c1
 have s2 := hX.c2
 have s3 := hX.c3
 have s4 := hX.c4
 have s5 := hX.c5
 have s6 := hX.c6
 have s7 := hX.c7
 have s8 := hX.c8
 go_wp2_with fail
 refine (refSame_any _ _ _ _ _ _ _ _ _ hb5 (hb.no hF6)).mono ?_
 rintro e w' ⟨rfl, rfl⟩
 rw [beq_self_eq_true]
 go_wp2_with fail
 have hb3 := hp3 _ (hb.no hF6)
 refine (refEnd_all HK.out kh kl x a3 n3 c3 tl lo _ hb3 HLT.out).mono ?_
 rw [← hans.out]
 rintro e w7 ⟨v7, rfl, hO7, hf7⟩
 obtain ⟨a7, c7, rfl, hb7, _⟩ := hO7.bytes
 clear hO7 s0 s1 s2 s3 s4 s5 s6 s7 s8
 go_wp2_with fail
 refine (refSame_any _ _ _ _ _ _ _ _ _ (hb6.no hf7) hb7).mono ?_
 rintro e w' ⟨rfl, rfl⟩
 rw [beq_self_eq_true]
 go_wp2_with fail
 go_ret
 exact ⟨rfl, hF6.no hf7⟩
theorem ScodeReads_yes (a1 : Option Addr) (n1 c1 : Nat) (b : Bytes) (w : World) (hb : IsBytes w a1 n1 c1 b) (hg : ErrT w) : Calls Tryz.prog 3 #[.slice a1 n1 c1] w (Yes w) := by
 by_cases hl : 400 < n1
 · exact ScodeReads_long a1 n1 c1 b w hl
 obtain ⟨z, hz⟩ := readN_ex b
 by_cases h0 : z = 0
 · rcases hz with ⟨h1, h⟩ | ⟨h1, h2, h⟩ | ⟨h1, h2, h3, h⟩ | ⟨h1, h2, h3, h⟩
   · exact absurd (h.symm.trans h0) h1
   · exact absurd (h.symm.trans h0) h2
   · rw [h0] at h; cases h
   · exact ScodeReads_right a1 n1 c1 b w hb (by omega) h1 h2 h3
 · exact ScodeReads_bad a1 n1 c1 b w hb (by omega) hg z hz h0
theorem ScodeReads_row (a1 : Option Addr) (n1 c1 : Nat) (b : Bytes) (w : World) (hb : IsBytes w a1 n1 c1 b) (hg : ErrT w) : Calls Tryz.prog 3 #[.slice a1 n1 c1] w (Yes w) := ScodeReads_yes a1 n1 c1 b w hb hg
end Go.Proofs.YtidlpihoafnobaaGreatDoor
