/- StrEnd -/
import Derived.Test.YtidlpihoafnobaaGreatDoorPStrAny
set_option linter.unusedVariables false
set_option linter.unusedSimpArgs false
namespace Go.Proofs.YtidlpihoafnobaaGreatDoor
set_option maxRecDepth 100000
open Go.RowKit
open StSip (owns_take)
theorem size_nn (k : Int) : 0 ≤ sizeN k := by unfold sizeN; (repeat' split) <;> decide
theorem mod32k (x : BitVec 64) : (x % 4294967296#64).setWidth 32 = x.setWidth 32 := by apply BitVec.eq_of_toNat_eq; simp
theorem take_leb (z zh : BitVec 64) (m : Nat) (hm : m ≤ 8) : (leb z 8 ++ leb zh 8).take m = leb z m := by
 rw [List.take_append_of_le_length (by rw [leb_length]; omega)]
 unfold leb
 rw [← List.map_take, List.take_range, Nat.min_eq_left hm]
theorem take_all (z zh : BitVec 64) : (leb z 8 ++ leb zh 8).take 16 = leb z 8 ++ leb zh 8 := List.take_of_length_le (by rw [List.length_append, leb_length, leb_length]; omega)
set_option maxHeartbeats 2000000 in
theorem refEnd_m32 (kh kl : BitVec 64) (x : L4) (a : Option Addr) (n c : Nat) (l : Bytes) (lo : BitVec 64) (w : World) (hb : IsBytes w a n c l) :
 Calls Tryz.prog 11 #[.int .i64 1, .agg #[.int .u64 (W64 kh), .int .u64 (W64 kl)], .agg #[.int .u64 (W64 x.1), .int .u64 (W64 x.2.1), .int .u64 (W64 x.2.2.1), .int .u64 (W64 x.2.2.2)], .slice a n c, .int .u64 (W64 lo)] w (GivesBytes (endS 1 kh kl (stateS 1 x) l lo) w) := by
 obtain ⟨sz, hsz, hle⟩ : ∃ sz : Nat, sizeN 1 = sz ∧ sz ≤ 16 := ⟨(sizeN 1).toNat, by have := size_nn 1; omega, size_le 1⟩
 have hS := refSize_any 1
 rw [hsz] at hS
 obtain ⟨z, hz⟩ : ∃ z, Hid (z = StM32.endF (StM32.stateF x.1 x.2.1 x.2.2.1 x.2.2.2) l lo) := ⟨_, Lib.hid rfl⟩
 have hans : endS 1 kh kl (stateS 1 x) l lo = (leb (z.setWidth 64) 8 ++ leb 0#64 8).take sz := by
  obtain rfl : sz = 4 := by have : sizeN 1 = 4 := rfl; omega
  rw [stateS_m32, hz.out]
  exact (take_leb _ _ 4 (by omega)).symm
 rw [hans]
 clear hans hsz
 have hU := row2_new w 30 (.int .u64 (W64 kh)) (.int .u64 (W64 kl))
 have hF := (Fr.refl No w).alloc (.cells #[.int .u64 (W64 kh), .int .u64 (W64 kl)] 30)
 have hV := row4_new (w.alloc (.cells #[.int .u64 (W64 kh), .int .u64 (W64 kl)] 30)) 31 (.int .u64 (W64 x.1)) (.int .u64 (W64 x.2.1)) (.int .u64 (W64 x.2.2.1)) (.int .u64 (W64 x.2.2.2))
 replace hU := hU.no ((Fr.refl No _).alloc (.cells #[.int .u64 (W64 x.1), .int .u64 (W64 x.2.1), .int .u64 (W64 x.2.2.1), .int .u64 (W64 x.2.2.2)] 31))
 replace hF := hF.alloc (.cells #[.int .u64 (W64 x.1), .int .u64 (W64 x.2.1), .int .u64 (W64 x.2.2.1), .int .u64 (W64 x.2.2.2)] 31)
 have hX := row2_new ((w.alloc (.cells #[.int .u64 (W64 kh), .int .u64 (W64 kl)] 30)).alloc (.cells #[.int .u64 (W64 x.1), .int .u64 (W64 x.2.1), .int .u64 (W64 x.2.2.1), .int .u64 (W64 x.2.2.2)] 31)) 30 (.int .u64 0) (.int .u64 0)
 replace hU := hU.no ((Fr.refl No _).alloc (.cells #[.int .u64 0, .int .u64 0] 30))
 replace hV := hV.no ((Fr.refl No _).alloc (.cells #[.int .u64 0, .int .u64 0] 30))
 replace hF := hF.alloc (.cells #[.int .u64 0, .int .u64 0] 30)
 simp only [World.size_alloc] at hV hX
 have hlt := hF.size
 have u0 := hU.c0
 have u1 := hU.c1
 have v0 := hV.c0
 have v1 := hV.c1
 have v2 := hV.c2
 have v3 := hV.c3
 go_enter Tryz.func11, Tryz.ntmps11
 go_wp2_with fail
 have hge : w.heap.size ≤ w.heap.size + 1 + 1 := by omega
 try rw [mod32k]
 generalize w.heap.size + 1 + 1 = xb at hX hge ⊢
 generalize (((w.alloc (.cells #[.int .u64 (W64 kh), .int .u64 (W64 kl)] 30)).alloc (.cells #[.int .u64 (W64 x.1), .int .u64 (W64 x.2.1), .int .u64 (W64 x.2.2.1), .int .u64 (W64 x.2.2.2)] 31)).alloc (.cells #[.int .u64 0, .int .u64 0] 30)) = w1 at hF hU hV hX hlt u0 u1 v0 v1 v2 v3 ⊢
 refine (StM32.refEnd_any _ x.1 (StM32.stateF x.1 x.2.1 x.2.2.1 x.2.2.2) _ _ _ a n c l lo _ (Lib.hid rfl) (hb.no hF)).mono ?_
 rintro e w2 ⟨rfl, hf⟩
 rw [← hz.out]
 replace hX := hX.no hf
 replace hF := hF.no hf
 have hs2 := hF.size
 clear hU hV u0 u1 v0 v1 v2 v3
 have x0 := hX.c0
 have x1 := hX.c1
 have y0 := hX.fz 0
 have y1 := hX.fz 1
 go_upto_region 15 with fail
 have hR := hX.put1 (.int .u64 (W64 (z.setWidth 64)))
 have hP := fr_put1 w2 xb 1 (.int .u64 (W64 (z.setWidth 64)))
 replace hF := hF.trans hP (fun q hq => .inr (by omega))
 clear hX x0 x1 y0 y1 hP
 generalize (w2.setCell ⟨xb, 1, none⟩ (.int .u64 (W64 (z.setWidth 64)))) = w3 at hR hF ⊢
 refine rsq (by kernel_rfl) [(0, 1), (1, 1), (3, 1), (4, 1), (2, 0), (5, 0), (6, 0), (7, 1)] (by kernel_rfl) ?_
 have hS0 : Fr No w3 w3.drew := (Fr.refl No w3).drew
 refine wpSeq_take (v := ?_) 68 rfl rfl (fun _ _ _ h => h) (Or.inl ⟨rfl, ?_⟩) ?_
 rotate_left 1
 · (intro w9 h9; go_simp; try with_reducible rfl)
 simp only [es1, es2, es3]
 refine wpSeq_take (v := ?_) 69 rfl rfl (fun _ _ _ h => h) (Or.inl ⟨rfl, ?_⟩) ?_
 rotate_left 1
 · (intro w9 h9; have q0 : w9.cell? ⟨xb, 0, none⟩ = some (.int .u64 (W64 0#64)) := (hR.no h9).c0; have q1 := (hR.no h9).c1; go_simp; try with_reducible rfl)
 simp only [es1, es2, es3]
 refine wpSeq_take (v := ?_) 71 rfl rfl (fun _ _ _ h => h) (Or.inl ⟨rfl, ?_⟩) ?_
 rotate_left 1
 · (intro w9 h9; go_simp; try with_reducible rfl)
 simp only [es1, es2, es3]
 refine wpSeq_take (v := ?_) 72 rfl rfl (fun _ _ _ h => h) (Or.inl ⟨rfl, ?_⟩) ?_
 rotate_left 1
 · (intro w9 h9; have q0 : w9.cell? ⟨xb, 0, none⟩ = some (.int .u64 (W64 0#64)) := (hR.no h9).c0; have q1 := (hR.no h9).c1; go_simp; try with_reducible rfl)
 simp only [es1, es2, es3]
 refine wpSeq_next rfl rfl (fun K hK => ?_)
 go_wp2_with fail
 refine (refBytes_any (z.setWidth 64) 8 _ (by omega)).mono ?_
 rintro e w4 ⟨v4, rfl, hO4, hf4⟩
 obtain ⟨a4, c4, rfl, hb4, _⟩ := hO4.bytes
 rw [leb_length] at hb4 ⊢
 have hs4 : Fr No w3 w4 := (hS0).no hf4
 refine hK.out _ _ (fun _ => hs4) ?_
 clear hK K
 refine wpSeq_next rfl rfl (fun K hK => ?_)
 go_wp2_with fail
 refine (refBytes_any 0#64 8 _ (by omega)).mono ?_
 rintro e w5 ⟨v5, rfl, hO5, hf5⟩
 obtain ⟨a5, c5, rfl, hb5, _⟩ := hO5.bytes
 rw [leb_length] at hb5 ⊢
 replace hb4 := hb4.no hf5
 have hs5 : Fr No w3 w5 := (hs4).no hf5
 refine hK.out _ _ (fun _ => hs5) ?_
 clear hK K
 refine wpSeq_next rfl rfl (fun K hK => ?_)
 go_wp2_with fail
 refine (refBoth_any _ _ _ _ _ _ _ _ _ hb4 hb5 (by omega)).mono ?_
 rintro e w6 ⟨v6, rfl, hO6, hf6⟩
 obtain ⟨a6, c6, rfl, hb6, _⟩ := hO6.bytes
 have hl6 : (leb (z.setWidth 64) 8 ++ leb 0#64 8).length = 16 := by rw [List.length_append, leb_length, leb_length]
 rw [hl6]
 rw [hl6] at hO6 hb6
 have hs6 : Fr No w3 w6 := (hs5).no hf6
 have hsz5 := (hs5).size
 refine hK.out _ _ (fun _ => hs6) ?_
 clear hK K
 refine wpSeq_take (v := ?_) 13 rfl rfl (fun _ _ _ h => h) (Or.inl ⟨rfl, ?_⟩) ?_
 rotate_left 1
 · (intro w9 h9; go_simp; try with_reducible rfl)
 simp only [es1, es2, es3]
 refine wpSeq_done ?_
 have i2 : sz ≤ c6 := by have := hb6.2.1; omega
 go_wp2_with fail
 refine (hS _).mono ?_
 rintro e w7 ⟨rfl, hf7⟩
 go_wp2_with fail
 go_ret
 have hsz3 := hF.size
 refine ⟨_, rfl, ((owns_take hO6 hl6 hle).no hf7).mono (by omega), (hF.no hs6).no hf7⟩
set_option maxHeartbeats 2000000 in
theorem refEnd_m86 (kh kl : BitVec 64) (x : L4) (a : Option Addr) (n c : Nat) (l : Bytes) (lo : BitVec 64) (w : World) (hb : IsBytes w a n c l) :
 Calls Tryz.prog 11 #[.int .i64 2, .agg #[.int .u64 (W64 kh), .int .u64 (W64 kl)], .agg #[.int .u64 (W64 x.1), .int .u64 (W64 x.2.1), .int .u64 (W64 x.2.2.1), .int .u64 (W64 x.2.2.2)], .slice a n c, .int .u64 (W64 lo)] w (GivesBytes (endS 2 kh kl (stateS 2 x) l lo) w) := by
 obtain ⟨sz, hsz, hle⟩ : ∃ sz : Nat, sizeN 2 = sz ∧ sz ≤ 16 := ⟨(sizeN 2).toNat, by have := size_nn 2; omega, size_le 2⟩
 have hS := refSize_any 2
 rw [hsz] at hS
 obtain ⟨z, hz⟩ : ∃ z, Hid (z = StM86.endLo (StM86.stateF x.1 x.2.1 x.2.2.1 x.2.2.2) l lo) := ⟨_, Lib.hid rfl⟩
 obtain ⟨zh, hzh⟩ : ∃ z, Hid (z = StM86.endHi (StM86.stateF x.1 x.2.1 x.2.2.1 x.2.2.2) l lo) := ⟨_, Lib.hid rfl⟩
 have hans : endS 2 kh kl (stateS 2 x) l lo = (leb z 8 ++ leb zh 8).take sz := by
  obtain rfl : sz = 16 := by have : sizeN 2 = 16 := rfl; omega
  rw [stateS_m86, hz.out, hzh.out]
  exact (take_all _ _).symm
 rw [hans]
 clear hans hsz
 have hU := row2_new w 30 (.int .u64 (W64 kh)) (.int .u64 (W64 kl))
 have hF := (Fr.refl No w).alloc (.cells #[.int .u64 (W64 kh), .int .u64 (W64 kl)] 30)
 have hV := row4_new (w.alloc (.cells #[.int .u64 (W64 kh), .int .u64 (W64 kl)] 30)) 31 (.int .u64 (W64 x.1)) (.int .u64 (W64 x.2.1)) (.int .u64 (W64 x.2.2.1)) (.int .u64 (W64 x.2.2.2))
 replace hU := hU.no ((Fr.refl No _).alloc (.cells #[.int .u64 (W64 x.1), .int .u64 (W64 x.2.1), .int .u64 (W64 x.2.2.1), .int .u64 (W64 x.2.2.2)] 31))
 replace hF := hF.alloc (.cells #[.int .u64 (W64 x.1), .int .u64 (W64 x.2.1), .int .u64 (W64 x.2.2.1), .int .u64 (W64 x.2.2.2)] 31)
 have hX := row2_new ((w.alloc (.cells #[.int .u64 (W64 kh), .int .u64 (W64 kl)] 30)).alloc (.cells #[.int .u64 (W64 x.1), .int .u64 (W64 x.2.1), .int .u64 (W64 x.2.2.1), .int .u64 (W64 x.2.2.2)] 31)) 30 (.int .u64 0) (.int .u64 0)
 replace hU := hU.no ((Fr.refl No _).alloc (.cells #[.int .u64 0, .int .u64 0] 30))
 replace hV := hV.no ((Fr.refl No _).alloc (.cells #[.int .u64 0, .int .u64 0] 30))
 replace hF := hF.alloc (.cells #[.int .u64 0, .int .u64 0] 30)
 simp only [World.size_alloc] at hV hX
 have hlt := hF.size
 have u0 := hU.c0
 have u1 := hU.c1
 have v0 := hV.c0
 have v1 := hV.c1
 have v2 := hV.c2
 have v3 := hV.c3
 go_enter Tryz.func11, Tryz.ntmps11
 go_wp2_with fail
 have hge : w.heap.size ≤ w.heap.size + 1 + 1 := by omega
 try rw [mod32k]
 generalize w.heap.size + 1 + 1 = xb at hX hge ⊢
 generalize (((w.alloc (.cells #[.int .u64 (W64 kh), .int .u64 (W64 kl)] 30)).alloc (.cells #[.int .u64 (W64 x.1), .int .u64 (W64 x.2.1), .int .u64 (W64 x.2.2.1), .int .u64 (W64 x.2.2.2)] 31)).alloc (.cells #[.int .u64 0, .int .u64 0] 30)) = w1 at hF hU hV hX hlt u0 u1 v0 v1 v2 v3 ⊢
 refine (StM86.refEnd_any _ x.1 x.2.1 x.2.2.1 x.2.2.2 (StM86.stateF x.1 x.2.1 x.2.2.1 x.2.2.2) a n c l lo _ (Lib.hid rfl) (hb.no hF)).mono ?_
 rintro e w2 ⟨rfl, hf⟩
 rw [← hz.out, ← hzh.out]
 replace hX := hX.no hf
 replace hF := hF.no hf
 have hs2 := hF.size
 clear hU hV u0 u1 v0 v1 v2 v3
 have x0 := hX.c0
 have x1 := hX.c1
 have y0 := hX.fz 0
 have y1 := hX.fz 1
 go_upto_region 15 with fail
 have hR := row_put2 hX (.int .u64 (W64 zh)) (.int .u64 (W64 z))
 have hP := fr_put2 w2 xb (.int .u64 (W64 zh)) (.int .u64 (W64 z))
 replace hF := hF.trans hP (fun q hq => .inr (by omega))
 clear hX x0 x1 y0 y1 hP
 generalize ((w2.setCell ⟨xb, 0, none⟩ (.int .u64 (W64 zh))).setCell ⟨xb, 1, none⟩ (.int .u64 (W64 z))) = w3 at hR hF ⊢
 refine rsq (by kernel_rfl) [(0, 1), (1, 1), (3, 1), (4, 1), (2, 0), (5, 0), (6, 0), (7, 1)] (by kernel_rfl) ?_
 have hS0 : Fr No w3 w3.drew := (Fr.refl No w3).drew
 refine wpSeq_take (v := ?_) 68 rfl rfl (fun _ _ _ h => h) (Or.inl ⟨rfl, ?_⟩) ?_
 rotate_left 1
 · (intro w9 h9; go_simp; try with_reducible rfl)
 simp only [es1, es2, es3]
 refine wpSeq_take (v := ?_) 69 rfl rfl (fun _ _ _ h => h) (Or.inl ⟨rfl, ?_⟩) ?_
 rotate_left 1
 · (intro w9 h9; have q0 := (hR.no h9).c0; have q1 := (hR.no h9).c1; go_simp; try with_reducible rfl)
 simp only [es1, es2, es3]
 refine wpSeq_take (v := ?_) 71 rfl rfl (fun _ _ _ h => h) (Or.inl ⟨rfl, ?_⟩) ?_
 rotate_left 1
 · (intro w9 h9; go_simp; try with_reducible rfl)
 simp only [es1, es2, es3]
 refine wpSeq_take (v := ?_) 72 rfl rfl (fun _ _ _ h => h) (Or.inl ⟨rfl, ?_⟩) ?_
 rotate_left 1
 · (intro w9 h9; have q0 := (hR.no h9).c0; have q1 := (hR.no h9).c1; go_simp; try with_reducible rfl)
 simp only [es1, es2, es3]
 refine wpSeq_next rfl rfl (fun K hK => ?_)
 go_wp2_with fail
 refine (refBytes_any z 8 _ (by omega)).mono ?_
 rintro e w4 ⟨v4, rfl, hO4, hf4⟩
 obtain ⟨a4, c4, rfl, hb4, _⟩ := hO4.bytes
 rw [leb_length] at hb4 ⊢
 have hs4 : Fr No w3 w4 := (hS0).no hf4
 refine hK.out _ _ (fun _ => hs4) ?_
 clear hK K
 refine wpSeq_next rfl rfl (fun K hK => ?_)
 go_wp2_with fail
 refine (refBytes_any zh 8 _ (by omega)).mono ?_
 rintro e w5 ⟨v5, rfl, hO5, hf5⟩
 obtain ⟨a5, c5, rfl, hb5, _⟩ := hO5.bytes
 rw [leb_length] at hb5 ⊢
 replace hb4 := hb4.no hf5
 have hs5 : Fr No w3 w5 := (hs4).no hf5
 refine hK.out _ _ (fun _ => hs5) ?_
 clear hK K
 refine wpSeq_next rfl rfl (fun K hK => ?_)
 go_wp2_with fail
 refine (refBoth_any _ _ _ _ _ _ _ _ _ hb4 hb5 (by omega)).mono ?_
 rintro e w6 ⟨v6, rfl, hO6, hf6⟩
 obtain ⟨a6, c6, rfl, hb6, _⟩ := hO6.bytes
 have hl6 : (leb z 8 ++ leb zh 8).length = 16 := by rw [List.length_append, leb_length, leb_length]
 rw [hl6]
 rw [hl6] at hO6 hb6
 have hs6 : Fr No w3 w6 := (hs5).no hf6
 have hsz5 := (hs5).size
 refine hK.out _ _ (fun _ => hs6) ?_
 clear hK K
 refine wpSeq_take (v := ?_) 13 rfl rfl (fun _ _ _ h => h) (Or.inl ⟨rfl, ?_⟩) ?_
 rotate_left 1
 · (intro w9 h9; go_simp; try with_reducible rfl)
 simp only [es1, es2, es3]
 refine wpSeq_done ?_
 have i2 : sz ≤ c6 := by have := hb6.2.1; omega
 go_wp2_with fail
 refine (hS _).mono ?_
 rintro e w7 ⟨rfl, hf7⟩
 go_wp2_with fail
 go_ret
 have hsz3 := hF.size
 refine ⟨_, rfl, ((owns_take hO6 hl6 hle).no hf7).mono (by omega), (hF.no hs6).no hf7⟩
set_option maxHeartbeats 2000000 in
theorem refEnd_m64 (kh kl : BitVec 64) (x : L4) (a : Option Addr) (n c : Nat) (l : Bytes) (lo : BitVec 64) (w : World) (hb : IsBytes w a n c l) :
 Calls Tryz.prog 11 #[.int .i64 3, .agg #[.int .u64 (W64 kh), .int .u64 (W64 kl)], .agg #[.int .u64 (W64 x.1), .int .u64 (W64 x.2.1), .int .u64 (W64 x.2.2.1), .int .u64 (W64 x.2.2.2)], .slice a n c, .int .u64 (W64 lo)] w (GivesBytes (endS 3 kh kl (stateS 3 x) l lo) w) := by
 obtain ⟨sz, hsz, hle⟩ : ∃ sz : Nat, sizeN 3 = sz ∧ sz ≤ 16 := ⟨(sizeN 3).toNat, by have := size_nn 3; omega, size_le 3⟩
 have hS := refSize_any 3
 rw [hsz] at hS
 obtain ⟨z, hz⟩ : ∃ z, Hid (z = StM64.endLo (StM64.stateF x.1 x.2.1 x.2.2.1 x.2.2.2) l lo) := ⟨_, Lib.hid rfl⟩
 obtain ⟨zh, hzh⟩ : ∃ z, Hid (z = StM64.endHi (StM64.stateF x.1 x.2.1 x.2.2.1 x.2.2.2) l lo) := ⟨_, Lib.hid rfl⟩
 have hans : endS 3 kh kl (stateS 3 x) l lo = (leb z 8 ++ leb zh 8).take sz := by
  obtain rfl : sz = 16 := by have : sizeN 3 = 16 := rfl; omega
  rw [stateS_m64, hz.out, hzh.out]
  exact (take_all _ _).symm
 rw [hans]
 clear hans hsz
 have hU := row2_new w 30 (.int .u64 (W64 kh)) (.int .u64 (W64 kl))
 have hF := (Fr.refl No w).alloc (.cells #[.int .u64 (W64 kh), .int .u64 (W64 kl)] 30)
 have hV := row4_new (w.alloc (.cells #[.int .u64 (W64 kh), .int .u64 (W64 kl)] 30)) 31 (.int .u64 (W64 x.1)) (.int .u64 (W64 x.2.1)) (.int .u64 (W64 x.2.2.1)) (.int .u64 (W64 x.2.2.2))
 replace hU := hU.no ((Fr.refl No _).alloc (.cells #[.int .u64 (W64 x.1), .int .u64 (W64 x.2.1), .int .u64 (W64 x.2.2.1), .int .u64 (W64 x.2.2.2)] 31))
 replace hF := hF.alloc (.cells #[.int .u64 (W64 x.1), .int .u64 (W64 x.2.1), .int .u64 (W64 x.2.2.1), .int .u64 (W64 x.2.2.2)] 31)
 have hX := row2_new ((w.alloc (.cells #[.int .u64 (W64 kh), .int .u64 (W64 kl)] 30)).alloc (.cells #[.int .u64 (W64 x.1), .int .u64 (W64 x.2.1), .int .u64 (W64 x.2.2.1), .int .u64 (W64 x.2.2.2)] 31)) 30 (.int .u64 0) (.int .u64 0)
 replace hU := hU.no ((Fr.refl No _).alloc (.cells #[.int .u64 0, .int .u64 0] 30))
 replace hV := hV.no ((Fr.refl No _).alloc (.cells #[.int .u64 0, .int .u64 0] 30))
 replace hF := hF.alloc (.cells #[.int .u64 0, .int .u64 0] 30)
 simp only [World.size_alloc] at hV hX
 have hlt := hF.size
 have u0 := hU.c0
 have u1 := hU.c1
 have v0 := hV.c0
 have v1 := hV.c1
 have v2 := hV.c2
 have v3 := hV.c3
 go_enter Tryz.func11, Tryz.ntmps11
 go_wp2_with fail
 have hge : w.heap.size ≤ w.heap.size + 1 + 1 := by omega
 try rw [mod32k]
 generalize w.heap.size + 1 + 1 = xb at hX hge ⊢
 generalize (((w.alloc (.cells #[.int .u64 (W64 kh), .int .u64 (W64 kl)] 30)).alloc (.cells #[.int .u64 (W64 x.1), .int .u64 (W64 x.2.1), .int .u64 (W64 x.2.2.1), .int .u64 (W64 x.2.2.2)] 31)).alloc (.cells #[.int .u64 0, .int .u64 0] 30)) = w1 at hF hU hV hX hlt u0 u1 v0 v1 v2 v3 ⊢
 refine (StM64.refEnd_any _ (StM64.stateF x.1 x.2.1 x.2.2.1 x.2.2.2) _ _ a n c l lo _ (hb.no hF)).mono ?_
 rintro e w2 ⟨rfl, hf⟩
 rw [← hz.out, ← hzh.out]
 replace hX := hX.no hf
 replace hF := hF.no hf
 have hs2 := hF.size
 clear hU hV u0 u1 v0 v1 v2 v3
 have x0 := hX.c0
 have x1 := hX.c1
 have y0 := hX.fz 0
 have y1 := hX.fz 1
 go_upto_region 15 with fail
 have hR := row_put2 hX (.int .u64 (W64 zh)) (.int .u64 (W64 z))
 have hP := fr_put2 w2 xb (.int .u64 (W64 zh)) (.int .u64 (W64 z))
 replace hF := hF.trans hP (fun q hq => .inr (by omega))
 clear hX x0 x1 y0 y1 hP
 generalize ((w2.setCell ⟨xb, 0, none⟩ (.int .u64 (W64 zh))).setCell ⟨xb, 1, none⟩ (.int .u64 (W64 z))) = w3 at hR hF ⊢
 refine rsq (by kernel_rfl) [(0, 1), (1, 1), (3, 1), (4, 1), (2, 0), (5, 0), (6, 0), (7, 1)] (by kernel_rfl) ?_
 have hS0 : Fr No w3 w3.drew := (Fr.refl No w3).drew
 refine wpSeq_take (v := ?_) 68 rfl rfl (fun _ _ _ h => h) (Or.inl ⟨rfl, ?_⟩) ?_
 rotate_left 1
 · (intro w9 h9; go_simp; try with_reducible rfl)
 simp only [es1, es2, es3]
 refine wpSeq_take (v := ?_) 69 rfl rfl (fun _ _ _ h => h) (Or.inl ⟨rfl, ?_⟩) ?_
 rotate_left 1
 · (intro w9 h9; have q0 := (hR.no h9).c0; have q1 := (hR.no h9).c1; go_simp; try with_reducible rfl)
 simp only [es1, es2, es3]
 refine wpSeq_take (v := ?_) 71 rfl rfl (fun _ _ _ h => h) (Or.inl ⟨rfl, ?_⟩) ?_
 rotate_left 1
 · (intro w9 h9; go_simp; try with_reducible rfl)
 simp only [es1, es2, es3]
 refine wpSeq_take (v := ?_) 72 rfl rfl (fun _ _ _ h => h) (Or.inl ⟨rfl, ?_⟩) ?_
 rotate_left 1
 · (intro w9 h9; have q0 := (hR.no h9).c0; have q1 := (hR.no h9).c1; go_simp; try with_reducible rfl)
 simp only [es1, es2, es3]
 refine wpSeq_next rfl rfl (fun K hK => ?_)
 go_wp2_with fail
 refine (refBytes_any z 8 _ (by omega)).mono ?_
 rintro e w4 ⟨v4, rfl, hO4, hf4⟩
 obtain ⟨a4, c4, rfl, hb4, _⟩ := hO4.bytes
 rw [leb_length] at hb4 ⊢
 have hs4 : Fr No w3 w4 := (hS0).no hf4
 refine hK.out _ _ (fun _ => hs4) ?_
 clear hK K
 refine wpSeq_next rfl rfl (fun K hK => ?_)
 go_wp2_with fail
 refine (refBytes_any zh 8 _ (by omega)).mono ?_
 rintro e w5 ⟨v5, rfl, hO5, hf5⟩
 obtain ⟨a5, c5, rfl, hb5, _⟩ := hO5.bytes
 rw [leb_length] at hb5 ⊢
 replace hb4 := hb4.no hf5
 have hs5 : Fr No w3 w5 := (hs4).no hf5
 refine hK.out _ _ (fun _ => hs5) ?_
 clear hK K
 refine wpSeq_next rfl rfl (fun K hK => ?_)
 go_wp2_with fail
 refine (refBoth_any _ _ _ _ _ _ _ _ _ hb4 hb5 (by omega)).mono ?_
 rintro e w6 ⟨v6, rfl, hO6, hf6⟩
 obtain ⟨a6, c6, rfl, hb6, _⟩ := hO6.bytes
 have hl6 : (leb z 8 ++ leb zh 8).length = 16 := by rw [List.length_append, leb_length, leb_length]
 rw [hl6]
 rw [hl6] at hO6 hb6
 have hs6 : Fr No w3 w6 := (hs5).no hf6
 have hsz5 := (hs5).size
 refine hK.out _ _ (fun _ => hs6) ?_
 clear hK K
 refine wpSeq_take (v := ?_) 13 rfl rfl (fun _ _ _ h => h) (Or.inl ⟨rfl, ?_⟩) ?_
 rotate_left 1
 · (intro w9 h9; go_simp; try with_reducible rfl)
 simp only [es1, es2, es3]
 refine wpSeq_done ?_
 have i2 : sz ≤ c6 := by have := hb6.2.1; omega
 go_wp2_with fail
 refine (hS _).mono ?_
 rintro e w7 ⟨rfl, hf7⟩
 go_wp2_with fail
 go_ret
 have hsz3 := hF.size
 refine ⟨_, rfl, ((owns_take hO6 hl6 hle).no hf7).mono (by omega), (hF.no hs6).no hf7⟩
set_option maxHeartbeats 2000000 in
theorem refEnd_x32 (kh kl : BitVec 64) (x : L4) (a : Option Addr) (n c : Nat) (l : Bytes) (lo : BitVec 64) (w : World) (hb : IsBytes w a n c l) :
 Calls Tryz.prog 11 #[.int .i64 4, .agg #[.int .u64 (W64 kh), .int .u64 (W64 kl)], .agg #[.int .u64 (W64 x.1), .int .u64 (W64 x.2.1), .int .u64 (W64 x.2.2.1), .int .u64 (W64 x.2.2.2)], .slice a n c, .int .u64 (W64 lo)] w (GivesBytes (endS 4 kh kl (stateS 4 x) l lo) w) := by
 obtain ⟨sz, hsz, hle⟩ : ∃ sz : Nat, sizeN 4 = sz ∧ sz ≤ 16 := ⟨(sizeN 4).toNat, by have := size_nn 4; omega, size_le 4⟩
 have hS := refSize_any 4
 rw [hsz] at hS
 obtain ⟨z, hz⟩ : ∃ z, Hid (z = StX32.endF (kl.setWidth 32) (StX32.stateF x.1 x.2.1 x.2.2.1 x.2.2.2) l lo) := ⟨_, Lib.hid rfl⟩
 have hans : endS 4 kh kl (stateS 4 x) l lo = (leb (z.setWidth 64) 8 ++ leb 0#64 8).take sz := by
  obtain rfl : sz = 4 := by have : sizeN 4 = 4 := rfl; omega
  rw [stateS_x32, hz.out]
  exact (take_leb _ _ 4 (by omega)).symm
 rw [hans]
 clear hans hsz
 have hU := row2_new w 30 (.int .u64 (W64 kh)) (.int .u64 (W64 kl))
 have hF := (Fr.refl No w).alloc (.cells #[.int .u64 (W64 kh), .int .u64 (W64 kl)] 30)
 have hV := row4_new (w.alloc (.cells #[.int .u64 (W64 kh), .int .u64 (W64 kl)] 30)) 31 (.int .u64 (W64 x.1)) (.int .u64 (W64 x.2.1)) (.int .u64 (W64 x.2.2.1)) (.int .u64 (W64 x.2.2.2))
 replace hU := hU.no ((Fr.refl No _).alloc (.cells #[.int .u64 (W64 x.1), .int .u64 (W64 x.2.1), .int .u64 (W64 x.2.2.1), .int .u64 (W64 x.2.2.2)] 31))
 replace hF := hF.alloc (.cells #[.int .u64 (W64 x.1), .int .u64 (W64 x.2.1), .int .u64 (W64 x.2.2.1), .int .u64 (W64 x.2.2.2)] 31)
 have hX := row2_new ((w.alloc (.cells #[.int .u64 (W64 kh), .int .u64 (W64 kl)] 30)).alloc (.cells #[.int .u64 (W64 x.1), .int .u64 (W64 x.2.1), .int .u64 (W64 x.2.2.1), .int .u64 (W64 x.2.2.2)] 31)) 30 (.int .u64 0) (.int .u64 0)
 replace hU := hU.no ((Fr.refl No _).alloc (.cells #[.int .u64 0, .int .u64 0] 30))
 replace hV := hV.no ((Fr.refl No _).alloc (.cells #[.int .u64 0, .int .u64 0] 30))
 replace hF := hF.alloc (.cells #[.int .u64 0, .int .u64 0] 30)
 simp only [World.size_alloc] at hV hX
 have hlt := hF.size
 have u0 := hU.c0
 have u1 := hU.c1
 have v0 := hV.c0
 have v1 := hV.c1
 have v2 := hV.c2
 have v3 := hV.c3
 go_enter Tryz.func11, Tryz.ntmps11
 go_wp2_with fail
 have hge : w.heap.size ≤ w.heap.size + 1 + 1 := by omega
 try rw [mod32k]
 generalize w.heap.size + 1 + 1 = xb at hX hge ⊢
 generalize (((w.alloc (.cells #[.int .u64 (W64 kh), .int .u64 (W64 kl)] 30)).alloc (.cells #[.int .u64 (W64 x.1), .int .u64 (W64 x.2.1), .int .u64 (W64 x.2.2.1), .int .u64 (W64 x.2.2.2)] 31)).alloc (.cells #[.int .u64 0, .int .u64 0] 30)) = w1 at hF hU hV hX hlt u0 u1 v0 v1 v2 v3 ⊢
 refine (StX32.refEnd_any (kl.setWidth 32) x.1 x.2.1 x.2.2.1 x.2.2.2 (StX32.stateF x.1 x.2.1 x.2.2.1 x.2.2.2) a n c l lo _ (Lib.hid rfl) (hb.no hF)).mono ?_
 rintro e w2 ⟨rfl, hf⟩
 rw [← hz.out]
 replace hX := hX.no hf
 replace hF := hF.no hf
 have hs2 := hF.size
 clear hU hV u0 u1 v0 v1 v2 v3
 have x0 := hX.c0
 have x1 := hX.c1
 have y0 := hX.fz 0
 have y1 := hX.fz 1
 go_upto_region 15 with fail
 have hR := hX.put1 (.int .u64 (W64 (z.setWidth 64)))
 have hP := fr_put1 w2 xb 1 (.int .u64 (W64 (z.setWidth 64)))
 replace hF := hF.trans hP (fun q hq => .inr (by omega))
 clear hX x0 x1 y0 y1 hP
 generalize (w2.setCell ⟨xb, 1, none⟩ (.int .u64 (W64 (z.setWidth 64)))) = w3 at hR hF ⊢
 refine rsq (by kernel_rfl) [(0, 1), (1, 1), (3, 1), (4, 1), (2, 0), (5, 0), (6, 0), (7, 1)] (by kernel_rfl) ?_
 have hS0 : Fr No w3 w3.drew := (Fr.refl No w3).drew
 refine wpSeq_take (v := ?_) 68 rfl rfl (fun _ _ _ h => h) (Or.inl ⟨rfl, ?_⟩) ?_
 rotate_left 1
 · (intro w9 h9; go_simp; try with_reducible rfl)
 simp only [es1, es2, es3]
 refine wpSeq_take (v := ?_) 69 rfl rfl (fun _ _ _ h => h) (Or.inl ⟨rfl, ?_⟩) ?_
 rotate_left 1
 · (intro w9 h9; have q0 : w9.cell? ⟨xb, 0, none⟩ = some (.int .u64 (W64 0#64)) := (hR.no h9).c0; have q1 := (hR.no h9).c1; go_simp; try with_reducible rfl)
 simp only [es1, es2, es3]
 refine wpSeq_take (v := ?_) 71 rfl rfl (fun _ _ _ h => h) (Or.inl ⟨rfl, ?_⟩) ?_
 rotate_left 1
 · (intro w9 h9; go_simp; try with_reducible rfl)
 simp only [es1, es2, es3]
 refine wpSeq_take (v := ?_) 72 rfl rfl (fun _ _ _ h => h) (Or.inl ⟨rfl, ?_⟩) ?_
 rotate_left 1
 · (intro w9 h9; have q0 : w9.cell? ⟨xb, 0, none⟩ = some (.int .u64 (W64 0#64)) := (hR.no h9).c0; have q1 := (hR.no h9).c1; go_simp; try with_reducible rfl)
 simp only [es1, es2, es3]
 refine wpSeq_next rfl rfl (fun K hK => ?_)
 go_wp2_with fail
 refine (refBytes_any (z.setWidth 64) 8 _ (by omega)).mono ?_
 rintro e w4 ⟨v4, rfl, hO4, hf4⟩
 obtain ⟨a4, c4, rfl, hb4, _⟩ := hO4.bytes
 rw [leb_length] at hb4 ⊢
 have hs4 : Fr No w3 w4 := (hS0).no hf4
 refine hK.out _ _ (fun _ => hs4) ?_
 clear hK K
 refine wpSeq_next rfl rfl (fun K hK => ?_)
 go_wp2_with fail
 refine (refBytes_any 0#64 8 _ (by omega)).mono ?_
 rintro e w5 ⟨v5, rfl, hO5, hf5⟩
 obtain ⟨a5, c5, rfl, hb5, _⟩ := hO5.bytes
 rw [leb_length] at hb5 ⊢
 replace hb4 := hb4.no hf5
 have hs5 : Fr No w3 w5 := (hs4).no hf5
 refine hK.out _ _ (fun _ => hs5) ?_
 clear hK K
 refine wpSeq_next rfl rfl (fun K hK => ?_)
 go_wp2_with fail
 refine (refBoth_any _ _ _ _ _ _ _ _ _ hb4 hb5 (by omega)).mono ?_
 rintro e w6 ⟨v6, rfl, hO6, hf6⟩
 obtain ⟨a6, c6, rfl, hb6, _⟩ := hO6.bytes
 have hl6 : (leb (z.setWidth 64) 8 ++ leb 0#64 8).length = 16 := by rw [List.length_append, leb_length, leb_length]
 rw [hl6]
 rw [hl6] at hO6 hb6
 have hs6 : Fr No w3 w6 := (hs5).no hf6
 have hsz5 := (hs5).size
 refine hK.out _ _ (fun _ => hs6) ?_
 clear hK K
 refine wpSeq_take (v := ?_) 13 rfl rfl (fun _ _ _ h => h) (Or.inl ⟨rfl, ?_⟩) ?_
 rotate_left 1
 · (intro w9 h9; go_simp; try with_reducible rfl)
 simp only [es1, es2, es3]
 refine wpSeq_done ?_
 have i2 : sz ≤ c6 := by have := hb6.2.1; omega
 go_wp2_with fail
 refine (hS _).mono ?_
 rintro e w7 ⟨rfl, hf7⟩
 go_wp2_with fail
 go_ret
 have hsz3 := hF.size
 refine ⟨_, rfl, ((owns_take hO6 hl6 hle).no hf7).mono (by omega), (hF.no hs6).no hf7⟩
set_option maxHeartbeats 2000000 in
theorem refEnd_x64 (kh kl : BitVec 64) (x : L4) (a : Option Addr) (n c : Nat) (l : Bytes) (lo : BitVec 64) (w : World) (hb : IsBytes w a n c l) :
 Calls Tryz.prog 11 #[.int .i64 5, .agg #[.int .u64 (W64 kh), .int .u64 (W64 kl)], .agg #[.int .u64 (W64 x.1), .int .u64 (W64 x.2.1), .int .u64 (W64 x.2.2.1), .int .u64 (W64 x.2.2.2)], .slice a n c, .int .u64 (W64 lo)] w (GivesBytes (endS 5 kh kl (stateS 5 x) l lo) w) := by
 obtain ⟨sz, hsz, hle⟩ : ∃ sz : Nat, sizeN 5 = sz ∧ sz ≤ 16 := ⟨(sizeN 5).toNat, by have := size_nn 5; omega, size_le 5⟩
 have hS := refSize_any 5
 rw [hsz] at hS
 obtain ⟨z, hz⟩ : ∃ z, Hid (z = StX64.endF kl (StX64.stateF x.1 x.2.1 x.2.2.1 x.2.2.2) l lo) := ⟨_, Lib.hid rfl⟩
 have hans : endS 5 kh kl (stateS 5 x) l lo = (leb z 8 ++ leb 0#64 8).take sz := by
  obtain rfl : sz = 8 := by have : sizeN 5 = 8 := rfl; omega
  rw [stateS_x64, hz.out]
  exact (take_leb _ _ 8 (by omega)).symm
 rw [hans]
 clear hans hsz
 have hU := row2_new w 30 (.int .u64 (W64 kh)) (.int .u64 (W64 kl))
 have hF := (Fr.refl No w).alloc (.cells #[.int .u64 (W64 kh), .int .u64 (W64 kl)] 30)
 have hV := row4_new (w.alloc (.cells #[.int .u64 (W64 kh), .int .u64 (W64 kl)] 30)) 31 (.int .u64 (W64 x.1)) (.int .u64 (W64 x.2.1)) (.int .u64 (W64 x.2.2.1)) (.int .u64 (W64 x.2.2.2))
 replace hU := hU.no ((Fr.refl No _).alloc (.cells #[.int .u64 (W64 x.1), .int .u64 (W64 x.2.1), .int .u64 (W64 x.2.2.1), .int .u64 (W64 x.2.2.2)] 31))
 replace hF := hF.alloc (.cells #[.int .u64 (W64 x.1), .int .u64 (W64 x.2.1), .int .u64 (W64 x.2.2.1), .int .u64 (W64 x.2.2.2)] 31)
 have hX := row2_new ((w.alloc (.cells #[.int .u64 (W64 kh), .int .u64 (W64 kl)] 30)).alloc (.cells #[.int .u64 (W64 x.1), .int .u64 (W64 x.2.1), .int .u64 (W64 x.2.2.1), .int .u64 (W64 x.2.2.2)] 31)) 30 (.int .u64 0) (.int .u64 0)
 replace hU := hU.no ((Fr.refl No _).alloc (.cells #[.int .u64 0, .int .u64 0] 30))
 replace hV := hV.no ((Fr.refl No _).alloc (.cells #[.int .u64 0, .int .u64 0] 30))
 replace hF := hF.alloc (.cells #[.int .u64 0, .int .u64 0] 30)
 simp only [World.size_alloc] at hV hX
 have hlt := hF.size
 have u0 := hU.c0
 have u1 := hU.c1
 have v0 := hV.c0
 have v1 := hV.c1
 have v2 := hV.c2
 have v3 := hV.c3
 go_enter Tryz.func11, Tryz.ntmps11
 go_wp2_with fail
 have hge : w.heap.size ≤ w.heap.size + 1 + 1 := by omega
 generalize w.heap.size + 1 + 1 = xb at hX hge ⊢
 generalize (((w.alloc (.cells #[.int .u64 (W64 kh), .int .u64 (W64 kl)] 30)).alloc (.cells #[.int .u64 (W64 x.1), .int .u64 (W64 x.2.1), .int .u64 (W64 x.2.2.1), .int .u64 (W64 x.2.2.2)] 31)).alloc (.cells #[.int .u64 0, .int .u64 0] 30)) = w1 at hF hU hV hX hlt u0 u1 v0 v1 v2 v3 ⊢
 refine (StX64.refEnd_any kl (StX64.stateF x.1 x.2.1 x.2.2.1 x.2.2.2) a n c l lo _ (hb.no hF)).mono ?_
 rintro e w2 ⟨rfl, hf⟩
 rw [← hz.out]
 replace hX := hX.no hf
 replace hF := hF.no hf
 have hs2 := hF.size
 clear hU hV u0 u1 v0 v1 v2 v3
 have x0 := hX.c0
 have x1 := hX.c1
 have y0 := hX.fz 0
 have y1 := hX.fz 1
 go_upto_region 15 with fail
 have hR := hX.put1 (.int .u64 (W64 z))
 have hP := fr_put1 w2 xb 1 (.int .u64 (W64 z))
 replace hF := hF.trans hP (fun q hq => .inr (by omega))
 clear hX x0 x1 y0 y1 hP
 generalize (w2.setCell ⟨xb, 1, none⟩ (.int .u64 (W64 z))) = w3 at hR hF ⊢
 refine rsq (by kernel_rfl) [(0, 1), (1, 1), (3, 1), (4, 1), (2, 0), (5, 0), (6, 0), (7, 1)] (by kernel_rfl) ?_
 have hS0 : Fr No w3 w3.drew := (Fr.refl No w3).drew
 refine wpSeq_take (v := ?_) 68 rfl rfl (fun _ _ _ h => h) (Or.inl ⟨rfl, ?_⟩) ?_
 rotate_left 1
 · (intro w9 h9; go_simp; try with_reducible rfl)
 simp only [es1, es2, es3]
 refine wpSeq_take (v := ?_) 69 rfl rfl (fun _ _ _ h => h) (Or.inl ⟨rfl, ?_⟩) ?_
 rotate_left 1
 · (intro w9 h9; have q0 : w9.cell? ⟨xb, 0, none⟩ = some (.int .u64 (W64 0#64)) := (hR.no h9).c0; have q1 := (hR.no h9).c1; go_simp; try with_reducible rfl)
 simp only [es1, es2, es3]
 refine wpSeq_take (v := ?_) 71 rfl rfl (fun _ _ _ h => h) (Or.inl ⟨rfl, ?_⟩) ?_
 rotate_left 1
 · (intro w9 h9; go_simp; try with_reducible rfl)
 simp only [es1, es2, es3]
 refine wpSeq_take (v := ?_) 72 rfl rfl (fun _ _ _ h => h) (Or.inl ⟨rfl, ?_⟩) ?_
 rotate_left 1
 · (intro w9 h9; have q0 : w9.cell? ⟨xb, 0, none⟩ = some (.int .u64 (W64 0#64)) := (hR.no h9).c0; have q1 := (hR.no h9).c1; go_simp; try with_reducible rfl)
 simp only [es1, es2, es3]
 refine wpSeq_next rfl rfl (fun K hK => ?_)
 go_wp2_with fail
 refine (refBytes_any z 8 _ (by omega)).mono ?_
 rintro e w4 ⟨v4, rfl, hO4, hf4⟩
 obtain ⟨a4, c4, rfl, hb4, _⟩ := hO4.bytes
 rw [leb_length] at hb4 ⊢
 have hs4 : Fr No w3 w4 := (hS0).no hf4
 refine hK.out _ _ (fun _ => hs4) ?_
 clear hK K
 refine wpSeq_next rfl rfl (fun K hK => ?_)
 go_wp2_with fail
 refine (refBytes_any 0#64 8 _ (by omega)).mono ?_
 rintro e w5 ⟨v5, rfl, hO5, hf5⟩
 obtain ⟨a5, c5, rfl, hb5, _⟩ := hO5.bytes
 rw [leb_length] at hb5 ⊢
 replace hb4 := hb4.no hf5
 have hs5 : Fr No w3 w5 := (hs4).no hf5
 refine hK.out _ _ (fun _ => hs5) ?_
 clear hK K
 refine wpSeq_next rfl rfl (fun K hK => ?_)
 go_wp2_with fail
 refine (refBoth_any _ _ _ _ _ _ _ _ _ hb4 hb5 (by omega)).mono ?_
 rintro e w6 ⟨v6, rfl, hO6, hf6⟩
 obtain ⟨a6, c6, rfl, hb6, _⟩ := hO6.bytes
 have hl6 : (leb z 8 ++ leb 0#64 8).length = 16 := by rw [List.length_append, leb_length, leb_length]
 rw [hl6]
 rw [hl6] at hO6 hb6
 have hs6 : Fr No w3 w6 := (hs5).no hf6
 have hsz5 := (hs5).size
 refine hK.out _ _ (fun _ => hs6) ?_
 clear hK K
 refine wpSeq_take (v := ?_) 13 rfl rfl (fun _ _ _ h => h) (Or.inl ⟨rfl, ?_⟩) ?_
 rotate_left 1
 · (intro w9 h9; go_simp; try with_reducible rfl)
 simp only [es1, es2, es3]
 refine wpSeq_done ?_
 have i2 : sz ≤ c6 := by have := hb6.2.1; omega
 go_wp2_with fail
 refine (hS _).mono ?_
 rintro e w7 ⟨rfl, hf7⟩
 go_wp2_with fail
 go_ret
 have hsz3 := hF.size
 refine ⟨_, rfl, ((owns_take hO6 hl6 hle).no hf7).mono (by omega), (hF.no hs6).no hf7⟩
set_option maxHeartbeats 2000000 in
theorem refEnd_sip (k : Int) (hk : StSip.IsK k) (kh kl : BitVec 64) (x : L4) (a : Option Addr) (n c : Nat) (l : Bytes) (lo : BitVec 64) (w : World) (hb : IsBytes w a n c l) (hl8 : l.length < 8) :
 Calls Tryz.prog 11 #[.int .i64 k, .agg #[.int .u64 (W64 kh), .int .u64 (W64 kl)], .agg #[.int .u64 (W64 x.1), .int .u64 (W64 x.2.1), .int .u64 (W64 x.2.2.1), .int .u64 (W64 x.2.2.2)], .slice a n c, .int .u64 (W64 lo)] w (GivesBytes (endS k kh kl (stateS k x) l lo) w) := by
 obtain ⟨sz, hsz, hle⟩ : ∃ sz : Nat, sizeN k = sz ∧ sz ≤ 16 := ⟨(sizeN k).toNat, by have := size_nn k; omega, size_le k⟩
 have hS := refSize_any k
 rw [hsz] at hS
 obtain ⟨z, hz⟩ : ∃ z, Hid (z = StSip.endLo k (StSip.stateF x.1 x.2.1 x.2.2.1 x.2.2.2) l lo) := ⟨_, Lib.hid rfl⟩
 obtain ⟨zh, hzh⟩ : ∃ z, Hid (z = StSip.endHi k (StSip.stateF x.1 x.2.1 x.2.2.1 x.2.2.2) l lo) := ⟨_, Lib.hid rfl⟩
 have hans : endS k kh kl (stateS k x) l lo = (leb z 8 ++ leb zh 8).take sz := by
  rw [stateS_sip hk, hz.out, hzh.out]
  show List.take (sizeN k).toNat _ = _
  rw [hsz]; rfl
 rw [hans]
 clear hans hsz
 obtain ⟨h1, h2, h3, h4, h5⟩ := isK_no hk
 have h6 : 6 ≤ k := by unfold StSip.IsK at hk; omega
 have hU := row2_new w 30 (.int .u64 (W64 kh)) (.int .u64 (W64 kl))
 have hF := (Fr.refl No w).alloc (.cells #[.int .u64 (W64 kh), .int .u64 (W64 kl)] 30)
 have hV := row4_new (w.alloc (.cells #[.int .u64 (W64 kh), .int .u64 (W64 kl)] 30)) 31 (.int .u64 (W64 x.1)) (.int .u64 (W64 x.2.1)) (.int .u64 (W64 x.2.2.1)) (.int .u64 (W64 x.2.2.2))
 replace hU := hU.no ((Fr.refl No _).alloc (.cells #[.int .u64 (W64 x.1), .int .u64 (W64 x.2.1), .int .u64 (W64 x.2.2.1), .int .u64 (W64 x.2.2.2)] 31))
 replace hF := hF.alloc (.cells #[.int .u64 (W64 x.1), .int .u64 (W64 x.2.1), .int .u64 (W64 x.2.2.1), .int .u64 (W64 x.2.2.2)] 31)
 have hX := row2_new ((w.alloc (.cells #[.int .u64 (W64 kh), .int .u64 (W64 kl)] 30)).alloc (.cells #[.int .u64 (W64 x.1), .int .u64 (W64 x.2.1), .int .u64 (W64 x.2.2.1), .int .u64 (W64 x.2.2.2)] 31)) 30 (.int .u64 0) (.int .u64 0)
 replace hU := hU.no ((Fr.refl No _).alloc (.cells #[.int .u64 0, .int .u64 0] 30))
 replace hV := hV.no ((Fr.refl No _).alloc (.cells #[.int .u64 0, .int .u64 0] 30))
 replace hF := hF.alloc (.cells #[.int .u64 0, .int .u64 0] 30)
 simp only [World.size_alloc] at hV hX
 have hlt := hF.size
 have u0 := hU.c0
 have u1 := hU.c1
 have v0 := hV.c0
 have v1 := hV.c1
 have v2 := hV.c2
 have v3 := hV.c3
 go_enter Tryz.func11, Tryz.ntmps11
 go_wp2_with fail
 have hge : w.heap.size ≤ w.heap.size + 1 + 1 := by omega
 generalize w.heap.size + 1 + 1 = xb at hX hge ⊢
 generalize (((w.alloc (.cells #[.int .u64 (W64 kh), .int .u64 (W64 kl)] 30)).alloc (.cells #[.int .u64 (W64 x.1), .int .u64 (W64 x.2.1), .int .u64 (W64 x.2.2.1), .int .u64 (W64 x.2.2.2)] 31)).alloc (.cells #[.int .u64 0, .int .u64 0] 30)) = w1 at hF hU hV hX hlt u0 u1 v0 v1 v2 v3 ⊢
 refine (StSip.refEnd_any k hk kh kl (StSip.stateF x.1 x.2.1 x.2.2.1 x.2.2.2) a n c l lo _ (hb.no hF) hl8).mono ?_
 rintro e w2 ⟨rfl, hf⟩
 rw [← hz.out, ← hzh.out]
 replace hX := hX.no hf
 replace hF := hF.no hf
 have hs2 := hF.size
 clear hU hV u0 u1 v0 v1 v2 v3
 have x0 := hX.c0
 have x1 := hX.c1
 have y0 := hX.fz 0
 have y1 := hX.fz 1
 go_upto_region 15 with fail
 have hR := row_put2 hX (.int .u64 (W64 zh)) (.int .u64 (W64 z))
 have hP := fr_put2 w2 xb (.int .u64 (W64 zh)) (.int .u64 (W64 z))
 replace hF := hF.trans hP (fun q hq => .inr (by omega))
 clear hX x0 x1 y0 y1 hP
 generalize ((w2.setCell ⟨xb, 0, none⟩ (.int .u64 (W64 zh))).setCell ⟨xb, 1, none⟩ (.int .u64 (W64 z))) = w3 at hR hF ⊢
 refine rsq (by kernel_rfl) [(0, 1), (1, 1), (3, 1), (4, 1), (2, 0), (5, 0), (6, 0), (7, 1)] (by kernel_rfl) ?_
 have hS0 : Fr No w3 w3.drew := (Fr.refl No w3).drew
 refine wpSeq_take (v := ?_) 68 rfl rfl (fun _ _ _ h => h) (Or.inl ⟨rfl, ?_⟩) ?_
 rotate_left 1
 · (intro w9 h9; go_simp; try with_reducible rfl)
 simp only [es1, es2, es3]
 refine wpSeq_take (v := ?_) 69 rfl rfl (fun _ _ _ h => h) (Or.inl ⟨rfl, ?_⟩) ?_
 rotate_left 1
 · (intro w9 h9; have q0 := (hR.no h9).c0; have q1 := (hR.no h9).c1; go_simp; try with_reducible rfl)
 simp only [es1, es2, es3]
 refine wpSeq_take (v := ?_) 71 rfl rfl (fun _ _ _ h => h) (Or.inl ⟨rfl, ?_⟩) ?_
 rotate_left 1
 · (intro w9 h9; go_simp; try with_reducible rfl)
 simp only [es1, es2, es3]
 refine wpSeq_take (v := ?_) 72 rfl rfl (fun _ _ _ h => h) (Or.inl ⟨rfl, ?_⟩) ?_
 rotate_left 1
 · (intro w9 h9; have q0 := (hR.no h9).c0; have q1 := (hR.no h9).c1; go_simp; try with_reducible rfl)
 simp only [es1, es2, es3]
 refine wpSeq_next rfl rfl (fun K hK => ?_)
 go_wp2_with fail
 refine (refBytes_any z 8 _ (by omega)).mono ?_
 rintro e w4 ⟨v4, rfl, hO4, hf4⟩
 obtain ⟨a4, c4, rfl, hb4, _⟩ := hO4.bytes
 rw [leb_length] at hb4 ⊢
 have hs4 : Fr No w3 w4 := (hS0).no hf4
 refine hK.out _ _ (fun _ => hs4) ?_
 clear hK K
 refine wpSeq_next rfl rfl (fun K hK => ?_)
 go_wp2_with fail
 refine (refBytes_any zh 8 _ (by omega)).mono ?_
 rintro e w5 ⟨v5, rfl, hO5, hf5⟩
 obtain ⟨a5, c5, rfl, hb5, _⟩ := hO5.bytes
 rw [leb_length] at hb5 ⊢
 replace hb4 := hb4.no hf5
 have hs5 : Fr No w3 w5 := (hs4).no hf5
 refine hK.out _ _ (fun _ => hs5) ?_
 clear hK K
 refine wpSeq_next rfl rfl (fun K hK => ?_)
 go_wp2_with fail
 refine (refBoth_any _ _ _ _ _ _ _ _ _ hb4 hb5 (by omega)).mono ?_
 rintro e w6 ⟨v6, rfl, hO6, hf6⟩
 obtain ⟨a6, c6, rfl, hb6, _⟩ := hO6.bytes
 have hl6 : (leb z 8 ++ leb zh 8).length = 16 := by rw [List.length_append, leb_length, leb_length]
 rw [hl6]
 rw [hl6] at hO6 hb6
 have hs6 : Fr No w3 w6 := (hs5).no hf6
 have hsz5 := (hs5).size
 refine hK.out _ _ (fun _ => hs6) ?_
 clear hK K
 refine wpSeq_take (v := ?_) 13 rfl rfl (fun _ _ _ h => h) (Or.inl ⟨rfl, ?_⟩) ?_
 rotate_left 1
 · (intro w9 h9; go_simp; try with_reducible rfl)
 simp only [es1, es2, es3]
 refine wpSeq_done ?_
 have i2 : sz ≤ c6 := by have := hb6.2.1; omega
 go_wp2_with fail
 refine (hS _).mono ?_
 rintro e w7 ⟨rfl, hf7⟩
 go_wp2_with fail
 go_ret
 have hsz3 := hF.size
 refine ⟨_, rfl, ((owns_take hO6 hl6 hle).no hf7).mono (by omega), (hF.no hs6).no hf7⟩
theorem refEnd_all {k : Int} (hk : KindOk k) (kh kl : BitVec 64) (x : L4) (a : Option Addr) (n c : Nat) (l : Bytes) (lo : BitVec 64) (w : World) (hb : IsBytes w a n c l) (hl : (l.length : Int) < blockN k) :
 Calls Tryz.prog 11 #[.int .i64 k, .agg #[.int .u64 (W64 kh), .int .u64 (W64 kl)], .agg #[.int .u64 (W64 x.1), .int .u64 (W64 x.2.1), .int .u64 (W64 x.2.2.1), .int .u64 (W64 x.2.2.2)], .slice a n c, .int .u64 (W64 lo)] w (GivesBytes (endS k kh kl (stateS k x) l lo) w) := by
 revert hl
 refine kind_cases (C := fun k => (l.length : Int) < blockN k → Calls Tryz.prog 11 #[.int .i64 k, .agg #[.int .u64 (W64 kh), .int .u64 (W64 kl)], .agg #[.int .u64 (W64 x.1), .int .u64 (W64 x.2.1), .int .u64 (W64 x.2.2.1), .int .u64 (W64 x.2.2.2)], .slice a n c, .int .u64 (W64 lo)] w (GivesBytes (endS k kh kl (stateS k x) l lo) w)) (fun _ => refEnd_m32 kh kl x a n c l lo w hb) (fun _ => refEnd_m86 kh kl x a n c l lo w hb) (fun _ => refEnd_m64 kh kl x a n c l lo w hb) (fun _ => refEnd_x32 kh kl x a n c l lo w hb) (fun _ => refEnd_x64 kh kl x a n c l lo w hb) (fun k hk hl => refEnd_sip k hk kh kl x a n c l lo w hb (by rw [block_sip hk] at hl; omega)) hk
end Go.Proofs.YtidlpihoafnobaaGreatDoor
