/- StrEnd StrBlocks StrNew LOneStr -/
import Derived.Test.YtidlpihoafnobaaGreatPStrAnyAx
import Derived.Test.YtidlpihoafnobaaGreatPStrNew
import Derived.Test.YtidlpihoafnobaaGreatPStrBlocks
set_option linter.unusedVariables false
set_option linter.unusedSimpArgs false
namespace Go.Proofs.YtidlpihoafnobaaGreat
set_option maxRecDepth 100000
open Go.RowKit
open StSip (owns_take)
theorem size_nn (k : Int) : 0 ≤ sizeN k := by unfold sizeN; (repeat' split) <;> decide
theorem take_leb (z zh : BitVec 64) (m : Nat) (hm : m ≤ 8) : (leb z 8 ++ leb zh 8).take m = leb z m := by
 rw [List.take_append_of_le_length (by rw [leb_length]; omega)]
 unfold leb
 rw [← List.map_take, List.take_range, Nat.min_eq_left hm]
theorem take_all (z zh : BitVec 64) : (leb z 8 ++ leb zh 8).take 16 = leb z 8 ++ leb zh 8 := List.take_of_length_le (by rw [List.length_append, leb_length, leb_length]; omega)
set_option maxHeartbeats 2000000 in
theorem refEnd_m32 (kh kl : BitVec 64) (x : L4) (a : Option Addr) (n c : Nat) (l : Bytes) (lo : BitVec 64) (w : World) (hb : IsBytes w a n c l) :
 Calls Tryz.prog 33 #[.int .i64 1, .agg #[.int .u64 (W64 kh), .int .u64 (W64 kl)], .agg #[.int .u64 (W64 x.1), .int .u64 (W64 x.2.1), .int .u64 (W64 x.2.2.1), .int .u64 (W64 x.2.2.2)], .slice a n c, .int .u64 (W64 lo)] w (GivesBytes (endS 1 kh kl (stateS 1 x) l lo) w) := by
 obtain ⟨sz, hsz, hle⟩ : ∃ sz : Nat, sizeN 1 = sz ∧ sz ≤ 16 := ⟨(sizeN 1).toNat, by have := size_nn 1; omega, size_le 1⟩
 have hS := refSize_any 1
 rw [hsz] at hS
 obtain ⟨z, hz⟩ : ∃ z, Hid (z = StM32.endF (StM32.stateF x.1 x.2.1 x.2.2.1 x.2.2.2) l lo) := ⟨_, Lib.hid rfl⟩
 have hans : endS 1 kh kl (stateS 1 x) l lo = (leb (z.setWidth 64) 8 ++ leb 0#64 8).take sz := by
  obtain rfl : sz = 4 := by have : sizeN 1 = 4 := rfl; omega
  rw [stateS_m32, hz.out]
  exact (take_leb _ _ 4 (by omega)).symm
 rw [hans]
 clear hans hsz
 have hU := row2_new w 24 (.int .u64 (W64 kh)) (.int .u64 (W64 kl))
 have hF := (Fr.refl No w).alloc (.cells #[.int .u64 (W64 kh), .int .u64 (W64 kl)] 24)
 have hV := row4_new (w.alloc (.cells #[.int .u64 (W64 kh), .int .u64 (W64 kl)] 24)) 49 (.int .u64 (W64 x.1)) (.int .u64 (W64 x.2.1)) (.int .u64 (W64 x.2.2.1)) (.int .u64 (W64 x.2.2.2))
 replace hU := hU.no ((Fr.refl No _).alloc (.cells #[.int .u64 (W64 x.1), .int .u64 (W64 x.2.1), .int .u64 (W64 x.2.2.1), .int .u64 (W64 x.2.2.2)] 49))
 replace hF := hF.alloc (.cells #[.int .u64 (W64 x.1), .int .u64 (W64 x.2.1), .int .u64 (W64 x.2.2.1), .int .u64 (W64 x.2.2.2)] 49)
 have hX := row2_new ((w.alloc (.cells #[.int .u64 (W64 kh), .int .u64 (W64 kl)] 24)).alloc (.cells #[.int .u64 (W64 x.1), .int .u64 (W64 x.2.1), .int .u64 (W64 x.2.2.1), .int .u64 (W64 x.2.2.2)] 49)) 24 (.int .u64 0) (.int .u64 0)
 replace hU := hU.no ((Fr.refl No _).alloc (.cells #[.int .u64 0, .int .u64 0] 24))
 replace hV := hV.no ((Fr.refl No _).alloc (.cells #[.int .u64 0, .int .u64 0] 24))
 replace hF := hF.alloc (.cells #[.int .u64 0, .int .u64 0] 24)
 simp only [World.size_alloc] at hV hX
 have hlt := hF.size
 have u0 := hU.c0
 have u1 := hU.c1
 have v0 := hV.c0
 have v1 := hV.c1
 have v2 := hV.c2
 have v3 := hV.c3
 go_enter Tryz.func33, Tryz.ntmps33
 go_wp2_with fail
 have hge : w.heap.size ≤ w.heap.size + 1 + 1 := by omega
 try rw [mod32k]
 generalize w.heap.size + 1 + 1 = xb at hX hge ⊢
 generalize (((w.alloc (.cells #[.int .u64 (W64 kh), .int .u64 (W64 kl)] 24)).alloc (.cells #[.int .u64 (W64 x.1), .int .u64 (W64 x.2.1), .int .u64 (W64 x.2.2.1), .int .u64 (W64 x.2.2.2)] 49)).alloc (.cells #[.int .u64 0, .int .u64 0] 24)) = w1 at hF hU hV hX hlt u0 u1 v0 v1 v2 v3 ⊢
 refine (StM32.refEnd_any _ x.1 (StM32.stateF x.1 x.2.1 x.2.2.1 x.2.2.2) _ _ _ a n c l lo _ (Lib.hid rfl) (hb.no hF)).mono ?_
 rintro e w2 ⟨rfl, hf⟩
 rw [← hz.out]
 replace hX := hX.no hf
 replace hF := hF.no hf
 have hs2 := hF.size
 clear hU hV u0 u1 v0 v1 v2 v3
 have x0 := hX.c0
 have x1 := hX.c1
 have y0 := hX.fz 0
 have y1 := hX.fz 1
 go_upto_region 15 with fail
 have hR := hX.put1 (.int .u64 (W64 (z.setWidth 64)))
 have hP := fr_put1 w2 xb 1 (.int .u64 (W64 (z.setWidth 64)))
 replace hF := hF.trans hP (fun q hq => .inr (by omega))
 clear hX x0 x1 y0 y1 hP
 generalize (w2.setCell ⟨xb, 1, none⟩ (.int .u64 (W64 (z.setWidth 64)))) = w3 at hR hF ⊢
 refine rsq (by kernel_rfl) [(0, 1), (1, 1), (3, 1), (4, 1), (2, 0), (5, 0), (6, 0), (7, 1)] (by kernel_rfl) ?_
 have hS0 : Fr No w3 w3.drew := (Fr.refl No w3).drew
 refine wpSeq_take (v := ?_) 68 rfl rfl (fun _ _ _ h => h) (Or.inl ⟨rfl, ?_⟩) ?_
 rotate_left 1
 · (intro w9 h9; go_simp; try with_reducible rfl)
 simp only [es1, es2, es3]
 refine wpSeq_take (v := ?_) 69 rfl rfl (fun _ _ _ h => h) (Or.inl ⟨rfl, ?_⟩) ?_
 rotate_left 1
 · (intro w9 h9; have q0 : w9.cell? ⟨xb, 0, none⟩ = some (.int .u64 (W64 0#64)) := (hR.no h9).c0; have q1 := (hR.no h9).c1; go_simp; try with_reducible rfl)
 simp only [es1, es2, es3]
 refine wpSeq_take (v := ?_) 71 rfl rfl (fun _ _ _ h => h) (Or.inl ⟨rfl, ?_⟩) ?_
 rotate_left 1
 · (intro w9 h9; go_simp; try with_reducible rfl)
 simp only [es1, es2, es3]
 refine wpSeq_take (v := ?_) 72 rfl rfl (fun _ _ _ h => h) (Or.inl ⟨rfl, ?_⟩) ?_
 rotate_left 1
 · (intro w9 h9; have q0 : w9.cell? ⟨xb, 0, none⟩ = some (.int .u64 (W64 0#64)) := (hR.no h9).c0; have q1 := (hR.no h9).c1; go_simp; try with_reducible rfl)
 simp only [es1, es2, es3]
 refine wpSeq_next rfl rfl (fun K hK => ?_)
 go_wp2_with fail
 refine (refBytes_any (z.setWidth 64) 8 _ (by omega)).mono ?_
 rintro e w4 ⟨v4, rfl, hO4, hf4⟩
 obtain ⟨a4, c4, rfl, hb4, _⟩ := hO4.bytes
 rw [leb_length] at hb4 ⊢
 have hs4 : Fr No w3 w4 := (hS0).no hf4
 refine hK.out _ _ (fun _ => hs4) ?_
 clear hK K
 refine wpSeq_next rfl rfl (fun K hK => ?_)
 go_wp2_with fail
 refine (refBytes_any 0#64 8 _ (by omega)).mono ?_
 rintro e w5 ⟨v5, rfl, hO5, hf5⟩
 obtain ⟨a5, c5, rfl, hb5, _⟩ := hO5.bytes
 rw [leb_length] at hb5 ⊢
 replace hb4 := hb4.no hf5
 have hs5 : Fr No w3 w5 := (hs4).no hf5
 refine hK.out _ _ (fun _ => hs5) ?_
 clear hK K
 refine wpSeq_next rfl rfl (fun K hK => ?_)
 go_wp2_with fail
 refine (refBoth_any _ _ _ _ _ _ _ _ _ hb4 hb5 (by omega)).mono ?_
 rintro e w6 ⟨v6, rfl, hO6, hf6⟩
 obtain ⟨a6, c6, rfl, hb6, _⟩ := hO6.bytes
 have hl6 : (leb (z.setWidth 64) 8 ++ leb 0#64 8).length = 16 := by rw [List.length_append, leb_length, leb_length]
 rw [hl6]
 rw [hl6] at hO6 hb6
 have hs6 : Fr No w3 w6 := (hs5).no hf6
 have hsz5 := (hs5).size
 refine hK.out _ _ (fun _ => hs6) ?_
 clear hK K
 refine wpSeq_take (v := ?_) 13 rfl rfl (fun _ _ _ h => h) (Or.inl ⟨rfl, ?_⟩) ?_
 rotate_left 1
 · (intro w9 h9; go_simp; try with_reducible rfl)
 simp only [es1, es2, es3]
 refine wpSeq_done ?_
 have i2 : sz ≤ c6 := by have := hb6.2.1; omega
 go_wp2_with fail
 refine (hS _).mono ?_
 rintro e w7 ⟨rfl, hf7⟩
 go_wp2_with fail
 go_ret
 have hsz3 := hF.size
 refine ⟨_, rfl, ((owns_take hO6 hl6 hle).no hf7).mono (by omega), (hF.no hs6).no hf7⟩
set_option maxHeartbeats 2000000 in
theorem refEnd_m86 (kh kl : BitVec 64) (x : L4) (a : Option Addr) (n c : Nat) (l : Bytes) (lo : BitVec 64) (w : World) (hb : IsBytes w a n c l) :
 Calls Tryz.prog 33 #[.int .i64 2, .agg #[.int .u64 (W64 kh), .int .u64 (W64 kl)], .agg #[.int .u64 (W64 x.1), .int .u64 (W64 x.2.1), .int .u64 (W64 x.2.2.1), .int .u64 (W64 x.2.2.2)], .slice a n c, .int .u64 (W64 lo)] w (GivesBytes (endS 2 kh kl (stateS 2 x) l lo) w) := by
 obtain ⟨sz, hsz, hle⟩ : ∃ sz : Nat, sizeN 2 = sz ∧ sz ≤ 16 := ⟨(sizeN 2).toNat, by have := size_nn 2; omega, size_le 2⟩
 have hS := refSize_any 2
 rw [hsz] at hS
 obtain ⟨z, hz⟩ : ∃ z, Hid (z = StM86.endLo (StM86.stateF x.1 x.2.1 x.2.2.1 x.2.2.2) l lo) := ⟨_, Lib.hid rfl⟩
 obtain ⟨zh, hzh⟩ : ∃ z, Hid (z = StM86.endHi (StM86.stateF x.1 x.2.1 x.2.2.1 x.2.2.2) l lo) := ⟨_, Lib.hid rfl⟩
 have hans : endS 2 kh kl (stateS 2 x) l lo = (leb z 8 ++ leb zh 8).take sz := by
  obtain rfl : sz = 16 := by have : sizeN 2 = 16 := rfl; omega
  rw [stateS_m86, hz.out, hzh.out]
  exact (take_all _ _).symm
 rw [hans]
 clear hans hsz
 have hU := row2_new w 24 (.int .u64 (W64 kh)) (.int .u64 (W64 kl))
 have hF := (Fr.refl No w).alloc (.cells #[.int .u64 (W64 kh), .int .u64 (W64 kl)] 24)
 have hV := row4_new (w.alloc (.cells #[.int .u64 (W64 kh), .int .u64 (W64 kl)] 24)) 49 (.int .u64 (W64 x.1)) (.int .u64 (W64 x.2.1)) (.int .u64 (W64 x.2.2.1)) (.int .u64 (W64 x.2.2.2))
 replace hU := hU.no ((Fr.refl No _).alloc (.cells #[.int .u64 (W64 x.1), .int .u64 (W64 x.2.1), .int .u64 (W64 x.2.2.1), .int .u64 (W64 x.2.2.2)] 49))
 replace hF := hF.alloc (.cells #[.int .u64 (W64 x.1), .int .u64 (W64 x.2.1), .int .u64 (W64 x.2.2.1), .int .u64 (W64 x.2.2.2)] 49)
 have hX := row2_new ((w.alloc (.cells #[.int .u64 (W64 kh), .int .u64 (W64 kl)] 24)).alloc (.cells #[.int .u64 (W64 x.1), .int .u64 (W64 x.2.1), .int .u64 (W64 x.2.2.1), .int .u64 (W64 x.2.2.2)] 49)) 24 (.int .u64 0) (.int .u64 0)
 replace hU := hU.no ((Fr.refl No _).alloc (.cells #[.int .u64 0, .int .u64 0] 24))
 replace hV := hV.no ((Fr.refl No _).alloc (.cells #[.int .u64 0, .int .u64 0] 24))
 replace hF := hF.alloc (.cells #[.int .u64 0, .int .u64 0] 24)
 simp only [World.size_alloc] at hV hX
 have hlt := hF.size
 have u0 := hU.c0
 have u1 := hU.c1
 have v0 := hV.c0
 have v1 := hV.c1
 have v2 := hV.c2
 have v3 := hV.c3
 go_enter Tryz.func33, Tryz.ntmps33
 go_wp2_with fail
 have hge : w.heap.size ≤ w.heap.size + 1 + 1 := by omega
 try rw [mod32k]
 generalize w.heap.size + 1 + 1 = xb at hX hge ⊢
 generalize (((w.alloc (.cells #[.int .u64 (W64 kh), .int .u64 (W64 kl)] 24)).alloc (.cells #[.int .u64 (W64 x.1), .int .u64 (W64 x.2.1), .int .u64 (W64 x.2.2.1), .int .u64 (W64 x.2.2.2)] 49)).alloc (.cells #[.int .u64 0, .int .u64 0] 24)) = w1 at hF hU hV hX hlt u0 u1 v0 v1 v2 v3 ⊢
 refine (StM86.refEnd_any _ x.1 x.2.1 x.2.2.1 x.2.2.2 (StM86.stateF x.1 x.2.1 x.2.2.1 x.2.2.2) a n c l lo _ (Lib.hid rfl) (hb.no hF)).mono ?_
 rintro e w2 ⟨rfl, hf⟩
 rw [← hz.out, ← hzh.out]
 replace hX := hX.no hf
 replace hF := hF.no hf
 have hs2 := hF.size
 clear hU hV u0 u1 v0 v1 v2 v3
 have x0 := hX.c0
 have x1 := hX.c1
 have y0 := hX.fz 0
 have y1 := hX.fz 1
 go_upto_region 15 with fail
 have hR := row_put2 hX (.int .u64 (W64 zh)) (.int .u64 (W64 z))
 have hP := fr_put2 w2 xb (.int .u64 (W64 zh)) (.int .u64 (W64 z))
 replace hF := hF.trans hP (fun q hq => .inr (by omega))
 clear hX x0 x1 y0 y1 hP
 generalize ((w2.setCell ⟨xb, 0, none⟩ (.int .u64 (W64 zh))).setCell ⟨xb, 1, none⟩ (.int .u64 (W64 z))) = w3 at hR hF ⊢
 refine rsq (by kernel_rfl) [(0, 1), (1, 1), (3, 1), (4, 1), (2, 0), (5, 0), (6, 0), (7, 1)] (by kernel_rfl) ?_
 have hS0 : Fr No w3 w3.drew := (Fr.refl No w3).drew
 refine wpSeq_take (v := ?_) 68 rfl rfl (fun _ _ _ h => h) (Or.inl ⟨rfl, ?_⟩) ?_
 rotate_left 1
 · (intro w9 h9; go_simp; try with_reducible rfl)
 simp only [es1, es2, es3]
 refine wpSeq_take (v := ?_) 69 rfl rfl (fun _ _ _ h => h) (Or.inl ⟨rfl, ?_⟩) ?_
 rotate_left 1
 · (intro w9 h9; have q0 := (hR.no h9).c0; have q1 := (hR.no h9).c1; go_simp; try with_reducible rfl)
 simp only [es1, es2, es3]
 refine wpSeq_take (v := ?_) 71 rfl rfl (fun _ _ _ h => h) (Or.inl ⟨rfl, ?_⟩) ?_
 rotate_left 1
 · (intro w9 h9; go_simp; try with_reducible rfl)
 simp only [es1, es2, es3]
 refine wpSeq_take (v := ?_) 72 rfl rfl (fun _ _ _ h => h) (Or.inl ⟨rfl, ?_⟩) ?_
 rotate_left 1
 · (intro w9 h9; have q0 := (hR.no h9).c0; have q1 := (hR.no h9).c1; go_simp; try with_reducible rfl)
 simp only [es1, es2, es3]
 refine wpSeq_next rfl rfl (fun K hK => ?_)
 go_wp2_with fail
 refine (refBytes_any z 8 _ (by omega)).mono ?_
 rintro e w4 ⟨v4, rfl, hO4, hf4⟩
 obtain ⟨a4, c4, rfl, hb4, _⟩ := hO4.bytes
 rw [leb_length] at hb4 ⊢
 have hs4 : Fr No w3 w4 := (hS0).no hf4
 refine hK.out _ _ (fun _ => hs4) ?_
 clear hK K
 refine wpSeq_next rfl rfl (fun K hK => ?_)
 go_wp2_with fail
 refine (refBytes_any zh 8 _ (by omega)).mono ?_
 rintro e w5 ⟨v5, rfl, hO5, hf5⟩
 obtain ⟨a5, c5, rfl, hb5, _⟩ := hO5.bytes
 rw [leb_length] at hb5 ⊢
 replace hb4 := hb4.no hf5
 have hs5 : Fr No w3 w5 := (hs4).no hf5
 refine hK.out _ _ (fun _ => hs5) ?_
 clear hK K
 refine wpSeq_next rfl rfl (fun K hK => ?_)
 go_wp2_with fail
 refine (refBoth_any _ _ _ _ _ _ _ _ _ hb4 hb5 (by omega)).mono ?_
 rintro e w6 ⟨v6, rfl, hO6, hf6⟩
 obtain ⟨a6, c6, rfl, hb6, _⟩ := hO6.bytes
 have hl6 : (leb z 8 ++ leb zh 8).length = 16 := by rw [List.length_append, leb_length, leb_length]
 rw [hl6]
 rw [hl6] at hO6 hb6
 have hs6 : Fr No w3 w6 := (hs5).no hf6
 have hsz5 := (hs5).size
 refine hK.out _ _ (fun _ => hs6) ?_
 clear hK K
 refine wpSeq_take (v := ?_) 13 rfl rfl (fun _ _ _ h => h) (Or.inl ⟨rfl, ?_⟩) ?_
 rotate_left 1
 · (intro w9 h9; go_simp; try with_reducible rfl)
 simp only [es1, es2, es3]
 refine wpSeq_done ?_
 have i2 : sz ≤ c6 := by have := hb6.2.1; omega
 go_wp2_with fail
 refine (hS _).mono ?_
 rintro e w7 ⟨rfl, hf7⟩
 go_wp2_with fail
 go_ret
 have hsz3 := hF.size
 refine ⟨_, rfl, ((owns_take hO6 hl6 hle).no hf7).mono (by omega), (hF.no hs6).no hf7⟩
set_option maxHeartbeats 2000000 in
theorem refEnd_m64 (kh kl : BitVec 64) (x : L4) (a : Option Addr) (n c : Nat) (l : Bytes) (lo : BitVec 64) (w : World) (hb : IsBytes w a n c l) :
 Calls Tryz.prog 33 #[.int .i64 3, .agg #[.int .u64 (W64 kh), .int .u64 (W64 kl)], .agg #[.int .u64 (W64 x.1), .int .u64 (W64 x.2.1), .int .u64 (W64 x.2.2.1), .int .u64 (W64 x.2.2.2)], .slice a n c, .int .u64 (W64 lo)] w (GivesBytes (endS 3 kh kl (stateS 3 x) l lo) w) := by
 obtain ⟨sz, hsz, hle⟩ : ∃ sz : Nat, sizeN 3 = sz ∧ sz ≤ 16 := ⟨(sizeN 3).toNat, by have := size_nn 3; omega, size_le 3⟩
 have hS := refSize_any 3
 rw [hsz] at hS
 obtain ⟨z, hz⟩ : ∃ z, Hid (z = StM64.endLo (StM64.stateF x.1 x.2.1 x.2.2.1 x.2.2.2) l lo) := ⟨_, Lib.hid rfl⟩
 obtain ⟨zh, hzh⟩ : ∃ z, Hid (z = StM64.endHi (StM64.stateF x.1 x.2.1 x.2.2.1 x.2.2.2) l lo) := ⟨_, Lib.hid rfl⟩
 have hans : endS 3 kh kl (stateS 3 x) l lo = (leb z 8 ++ leb zh 8).take sz := by
  obtain rfl : sz = 16 := by have : sizeN 3 = 16 := rfl; omega
  rw [stateS_m64, hz.out, hzh.out]
  exact (take_all _ _).symm
 rw [hans]
 clear hans hsz
 have hU := row2_new w 24 (.int .u64 (W64 kh)) (.int .u64 (W64 kl))
 have hF := (Fr.refl No w).alloc (.cells #[.int .u64 (W64 kh), .int .u64 (W64 kl)] 24)
 have hV := row4_new (w.alloc (.cells #[.int .u64 (W64 kh), .int .u64 (W64 kl)] 24)) 49 (.int .u64 (W64 x.1)) (.int .u64 (W64 x.2.1)) (.int .u64 (W64 x.2.2.1)) (.int .u64 (W64 x.2.2.2))
 replace hU := hU.no ((Fr.refl No _).alloc (.cells #[.int .u64 (W64 x.1), .int .u64 (W64 x.2.1), .int .u64 (W64 x.2.2.1), .int .u64 (W64 x.2.2.2)] 49))
 replace hF := hF.alloc (.cells #[.int .u64 (W64 x.1), .int .u64 (W64 x.2.1), .int .u64 (W64 x.2.2.1), .int .u64 (W64 x.2.2.2)] 49)
 have hX := row2_new ((w.alloc (.cells #[.int .u64 (W64 kh), .int .u64 (W64 kl)] 24)).alloc (.cells #[.int .u64 (W64 x.1), .int .u64 (W64 x.2.1), .int .u64 (W64 x.2.2.1), .int .u64 (W64 x.2.2.2)] 49)) 24 (.int .u64 0) (.int .u64 0)
 replace hU := hU.no ((Fr.refl No _).alloc (.cells #[.int .u64 0, .int .u64 0] 24))
 replace hV := hV.no ((Fr.refl No _).alloc (.cells #[.int .u64 0, .int .u64 0] 24))
 replace hF := hF.alloc (.cells #[.int .u64 0, .int .u64 0] 24)
 simp only [World.size_alloc] at hV hX
 have hlt := hF.size
 have u0 := hU.c0
 have u1 := hU.c1
 have v0 := hV.c0
 have v1 := hV.c1
 have v2 := hV.c2
 have v3 := hV.c3
 go_enter Tryz.func33, Tryz.ntmps33
 go_wp2_with fail
 have hge : w.heap.size ≤ w.heap.size + 1 + 1 := by omega
 try rw [mod32k]
 generalize w.heap.size + 1 + 1 = xb at hX hge ⊢
 generalize (((w.alloc (.cells #[.int .u64 (W64 kh), .int .u64 (W64 kl)] 24)).alloc (.cells #[.int .u64 (W64 x.1), .int .u64 (W64 x.2.1), .int .u64 (W64 x.2.2.1), .int .u64 (W64 x.2.2.2)] 49)).alloc (.cells #[.int .u64 0, .int .u64 0] 24)) = w1 at hF hU hV hX hlt u0 u1 v0 v1 v2 v3 ⊢
 refine (StM64.refEnd_any _ (StM64.stateF x.1 x.2.1 x.2.2.1 x.2.2.2) _ _ a n c l lo _ (hb.no hF)).mono ?_
 rintro e w2 ⟨rfl, hf⟩
 rw [← hz.out, ← hzh.out]
 replace hX := hX.no hf
 replace hF := hF.no hf
 have hs2 := hF.size
 clear hU hV u0 u1 v0 v1 v2 v3
 have x0 := hX.c0
 have x1 := hX.c1
 have y0 := hX.fz 0
 have y1 := hX.fz 1
 go_upto_region 15 with fail
 have hR := row_put2 hX (.int .u64 (W64 zh)) (.int .u64 (W64 z))
 have hP := fr_put2 w2 xb (.int .u64 (W64 zh)) (.int .u64 (W64 z))
 replace hF := hF.trans hP (fun q hq => .inr (by omega))
 clear hX x0 x1 y0 y1 hP
 generalize ((w2.setCell ⟨xb, 0, none⟩ (.int .u64 (W64 zh))).setCell ⟨xb, 1, none⟩ (.int .u64 (W64 z))) = w3 at hR hF ⊢
 refine rsq (by kernel_rfl) [(0, 1), (1, 1), (3, 1), (4, 1), (2, 0), (5, 0), (6, 0), (7, 1)] (by kernel_rfl) ?_
 have hS0 : Fr No w3 w3.drew := (Fr.refl No w3).drew
 refine wpSeq_take (v := ?_) 68 rfl rfl (fun _ _ _ h => h) (Or.inl ⟨rfl, ?_⟩) ?_
 rotate_left 1
 · (intro w9 h9; go_simp; try with_reducible rfl)
 simp only [es1, es2, es3]
 refine wpSeq_take (v := ?_) 69 rfl rfl (fun _ _ _ h => h) (Or.inl ⟨rfl, ?_⟩) ?_
 rotate_left 1
 · (intro w9 h9; have q0 := (hR.no h9).c0; have q1 := (hR.no h9).c1; go_simp; try with_reducible rfl)
 simp only [es1, es2, es3]
 refine wpSeq_take (v := ?_) 71 rfl rfl (fun _ _ _ h => h) (Or.inl ⟨rfl, ?_⟩) ?_
 rotate_left 1
 · (intro w9 h9; go_simp; try with_reducible rfl)
 simp only [es1, es2, es3]
 refine wpSeq_take (v := ?_) 72 rfl rfl (fun _ _ _ h => h) (Or.inl ⟨rfl, ?_⟩) ?_
 rotate_left 1
 · (intro w9 h9; have q0 := (hR.no h9).c0; have q1 := (hR.no h9).c1; go_simp; try with_reducible rfl)
 simp only [es1, es2, es3]
 refine wpSeq_next rfl rfl (fun K hK => ?_)
 go_wp2_with fail
 refine (refBytes_any z 8 _ (by omega)).mono ?_
 rintro e w4 ⟨v4, rfl, hO4, hf4⟩
 obtain ⟨a4, c4, rfl, hb4, _⟩ := hO4.bytes
 rw [leb_length] at hb4 ⊢
 have hs4 : Fr No w3 w4 := (hS0).no hf4
 refine hK.out _ _ (fun _ => hs4) ?_
 clear hK K
 refine wpSeq_next rfl rfl (fun K hK => ?_)
 go_wp2_with fail
 refine (refBytes_any zh 8 _ (by omega)).mono ?_
 rintro e w5 ⟨v5, rfl, hO5, hf5⟩
 obtain ⟨a5, c5, rfl, hb5, _⟩ := hO5.bytes
 rw [leb_length] at hb5 ⊢
 replace hb4 := hb4.no hf5
 have hs5 : Fr No w3 w5 := (hs4).no hf5
 refine hK.out _ _ (fun _ => hs5) ?_
 clear hK K
 refine wpSeq_next rfl rfl (fun K hK => ?_)
 go_wp2_with fail
 refine (refBoth_any _ _ _ _ _ _ _ _ _ hb4 hb5 (by omega)).mono ?_
 rintro e w6 ⟨v6, rfl, hO6, hf6⟩
 obtain ⟨a6, c6, rfl, hb6, _⟩ := hO6.bytes
 have hl6 : (leb z 8 ++ leb zh 8).length = 16 := by rw [List.length_append, leb_length, leb_length]
 rw [hl6]
 rw [hl6] at hO6 hb6
 have hs6 : Fr No w3 w6 := (hs5).no hf6
 have hsz5 := (hs5).size
 refine hK.out _ _ (fun _ => hs6) ?_
 clear hK K
 refine wpSeq_take (v := ?_) 13 rfl rfl (fun _ _ _ h => h) (Or.inl ⟨rfl, ?_⟩) ?_
 rotate_left 1
 · (intro w9 h9; go_simp; try with_reducible rfl)
 simp only [es1, es2, es3]
 refine wpSeq_done ?_
 have i2 : sz ≤ c6 := by have := hb6.2.1; omega
 go_wp2_with fail
 refine (hS _).mono ?_
 rintro e w7 ⟨rfl, hf7⟩
 go_wp2_with fail
 go_ret
 have hsz3 := hF.size
 refine ⟨_, rfl, ((owns_take hO6 hl6 hle).no hf7).mono (by omega), (hF.no hs6).no hf7⟩
set_option maxHeartbeats 2000000 in
theorem refEnd_x32 (kh kl : BitVec 64) (x : L4) (a : Option Addr) (n c : Nat) (l : Bytes) (lo : BitVec 64) (w : World) (hb : IsBytes w a n c l) :
 Calls Tryz.prog 33 #[.int .i64 4, .agg #[.int .u64 (W64 kh), .int .u64 (W64 kl)], .agg #[.int .u64 (W64 x.1), .int .u64 (W64 x.2.1), .int .u64 (W64 x.2.2.1), .int .u64 (W64 x.2.2.2)], .slice a n c, .int .u64 (W64 lo)] w (GivesBytes (endS 4 kh kl (stateS 4 x) l lo) w) := by
 obtain ⟨sz, hsz, hle⟩ : ∃ sz : Nat, sizeN 4 = sz ∧ sz ≤ 16 := ⟨(sizeN 4).toNat, by have := size_nn 4; omega, size_le 4⟩
 have hS := refSize_any 4
 rw [hsz] at hS
 obtain ⟨z, hz⟩ : ∃ z, Hid (z = StX32.endF (kl.setWidth 32) (StX32.stateF x.1 x.2.1 x.2.2.1 x.2.2.2) l lo) := ⟨_, Lib.hid rfl⟩
 have hans : endS 4 kh kl (stateS 4 x) l lo = (leb (z.setWidth 64) 8 ++ leb 0#64 8).take sz := by
  obtain rfl : sz = 4 := by have : sizeN 4 = 4 := rfl; omega
  rw [stateS_x32, hz.out]
  exact (take_leb _ _ 4 (by omega)).symm
 rw [hans]
 clear hans hsz
 have hU := row2_new w 24 (.int .u64 (W64 kh)) (.int .u64 (W64 kl))
 have hF := (Fr.refl No w).alloc (.cells #[.int .u64 (W64 kh), .int .u64 (W64 kl)] 24)
 have hV := row4_new (w.alloc (.cells #[.int .u64 (W64 kh), .int .u64 (W64 kl)] 24)) 49 (.int .u64 (W64 x.1)) (.int .u64 (W64 x.2.1)) (.int .u64 (W64 x.2.2.1)) (.int .u64 (W64 x.2.2.2))
 replace hU := hU.no ((Fr.refl No _).alloc (.cells #[.int .u64 (W64 x.1), .int .u64 (W64 x.2.1), .int .u64 (W64 x.2.2.1), .int .u64 (W64 x.2.2.2)] 49))
 replace hF := hF.alloc (.cells #[.int .u64 (W64 x.1), .int .u64 (W64 x.2.1), .int .u64 (W64 x.2.2.1), .int .u64 (W64 x.2.2.2)] 49)
 have hX := row2_new ((w.alloc (.cells #[.int .u64 (W64 kh), .int .u64 (W64 kl)] 24)).alloc (.cells #[.int .u64 (W64 x.1), .int .u64 (W64 x.2.1), .int .u64 (W64 x.2.2.1), .int .u64 (W64 x.2.2.2)] 49)) 24 (.int .u64 0) (.int .u64 0)
 replace hU := hU.no ((Fr.refl No _).alloc (.cells #[.int .u64 0, .int .u64 0] 24))
 replace hV := hV.no ((Fr.refl No _).alloc (.cells #[.int .u64 0, .int .u64 0] 24))
 replace hF := hF.alloc (.cells #[.int .u64 0, .int .u64 0] 24)
 simp only [World.size_alloc] at hV hX
 have hlt := hF.size
 have u0 := hU.c0
 have u1 := hU.c1
 have v0 := hV.c0
 have v1 := hV.c1
 have v2 := hV.c2
 have v3 := hV.c3
 go_enter Tryz.func33, Tryz.ntmps33
 go_wp2_with fail
 have hge : w.heap.size ≤ w.heap.size + 1 + 1 := by omega
 try rw [mod32k]
 generalize w.heap.size + 1 + 1 = xb at hX hge ⊢
 generalize (((w.alloc (.cells #[.int .u64 (W64 kh), .int .u64 (W64 kl)] 24)).alloc (.cells #[.int .u64 (W64 x.1), .int .u64 (W64 x.2.1), .int .u64 (W64 x.2.2.1), .int .u64 (W64 x.2.2.2)] 49)).alloc (.cells #[.int .u64 0, .int .u64 0] 24)) = w1 at hF hU hV hX hlt u0 u1 v0 v1 v2 v3 ⊢
 refine (StX32.refEnd_any (kl.setWidth 32) x.1 x.2.1 x.2.2.1 x.2.2.2 (StX32.stateF x.1 x.2.1 x.2.2.1 x.2.2.2) a n c l lo _ (Lib.hid rfl) (hb.no hF)).mono ?_
 rintro e w2 ⟨rfl, hf⟩
 rw [← hz.out]
 replace hX := hX.no hf
 replace hF := hF.no hf
 have hs2 := hF.size
 clear hU hV u0 u1 v0 v1 v2 v3
 have x0 := hX.c0
 have x1 := hX.c1
 have y0 := hX.fz 0
 have y1 := hX.fz 1
 go_upto_region 15 with fail
 have hR := hX.put1 (.int .u64 (W64 (z.setWidth 64)))
 have hP := fr_put1 w2 xb 1 (.int .u64 (W64 (z.setWidth 64)))
 replace hF := hF.trans hP (fun q hq => .inr (by omega))
 clear hX x0 x1 y0 y1 hP
 generalize (w2.setCell ⟨xb, 1, none⟩ (.int .u64 (W64 (z.setWidth 64)))) = w3 at hR hF ⊢
 refine rsq (by kernel_rfl) [(0, 1), (1, 1), (3, 1), (4, 1), (2, 0), (5, 0), (6, 0), (7, 1)] (by kernel_rfl) ?_
 have hS0 : Fr No w3 w3.drew := (Fr.refl No w3).drew
 refine wpSeq_take (v := ?_) 68 rfl rfl (fun _ _ _ h => h) (Or.inl ⟨rfl, ?_⟩) ?_
 rotate_left 1
 · (intro w9 h9; go_simp; try with_reducible rfl)
 simp only [es1, es2, es3]
 refine wpSeq_take (v := ?_) 69 rfl rfl (fun _ _ _ h => h) (Or.inl ⟨rfl, ?_⟩) ?_
 rotate_left 1
 · (intro w9 h9; have q0 : w9.cell? ⟨xb, 0, none⟩ = some (.int .u64 (W64 0#64)) := (hR.no h9).c0; have q1 := (hR.no h9).c1; go_simp; try with_reducible rfl)
 simp only [es1, es2, es3]
 refine wpSeq_take (v := ?_) 71 rfl rfl (fun _ _ _ h => h) (Or.inl ⟨rfl, ?_⟩) ?_
 rotate_left 1
 · (intro w9 h9; go_simp; try with_reducible rfl)
 simp only [es1, es2, es3]
 refine wpSeq_take (v := ?_) 72 rfl rfl (fun _ _ _ h => h) (Or.inl ⟨rfl, ?_⟩) ?_
 rotate_left 1
 · (intro w9 h9; have q0 : w9.cell? ⟨xb, 0, none⟩ = some (.int .u64 (W64 0#64)) := (hR.no h9).c0; have q1 := (hR.no h9).c1; go_simp; try with_reducible rfl)
 simp only [es1, es2, es3]
 refine wpSeq_next rfl rfl (fun K hK => ?_)
 go_wp2_with fail
 refine (refBytes_any (z.setWidth 64) 8 _ (by omega)).mono ?_
 rintro e w4 ⟨v4, rfl, hO4, hf4⟩
 obtain ⟨a4, c4, rfl, hb4, _⟩ := hO4.bytes
 rw [leb_length] at hb4 ⊢
 have hs4 : Fr No w3 w4 := (hS0).no hf4
 refine hK.out _ _ (fun _ => hs4) ?_
 clear hK K
 refine wpSeq_next rfl rfl (fun K hK => ?_)
 go_wp2_with fail
 refine (refBytes_any 0#64 8 _ (by omega)).mono ?_
 rintro e w5 ⟨v5, rfl, hO5, hf5⟩
 obtain ⟨a5, c5, rfl, hb5, _⟩ := hO5.bytes
 rw [leb_length] at hb5 ⊢
 replace hb4 := hb4.no hf5
 have hs5 : Fr No w3 w5 := (hs4).no hf5
 refine hK.out _ _ (fun _ => hs5) ?_
 clear hK K
 refine wpSeq_next rfl rfl (fun K hK => ?_)
 go_wp2_with fail
 refine (refBoth_any _ _ _ _ _ _ _ _ _ hb4 hb5 (by omega)).mono ?_
 rintro e w6 ⟨v6, rfl, hO6, hf6⟩
 obtain ⟨a6, c6, rfl, hb6, _⟩ := hO6.bytes
 have hl6 : (leb (z.setWidth 64) 8 ++ leb 0#64 8).length = 16 := by rw [List.length_append, leb_length, leb_length]
 rw [hl6]
 rw [hl6] at hO6 hb6
 have hs6 : Fr No w3 w6 := (hs5).no hf6
 have hsz5 := (hs5).size
 refine hK.out _ _ (fun _ => hs6) ?_
 clear hK K
 refine wpSeq_take (v := ?_) 13 rfl rfl (fun _ _ _ h => h) (Or.inl ⟨rfl, ?_⟩) ?_
 rotate_left 1
 · (intro w9 h9; go_simp; try with_reducible rfl)
 simp only [es1, es2, es3]
 refine wpSeq_done ?_
 have i2 : sz ≤ c6 := by have := hb6.2.1; omega
 go_wp2_with fail
 refine (hS _).mono ?_
 rintro e w7 ⟨rfl, hf7⟩
 go_wp2_with fail
 go_ret
 have hsz3 := hF.size
 refine ⟨_, rfl, ((owns_take hO6 hl6 hle).no hf7).mono (by omega), (hF.no hs6).no hf7⟩
set_option maxHeartbeats 2000000 in
theorem refEnd_x64 (kh kl : BitVec 64) (x : L4) (a : Option Addr) (n c : Nat) (l : Bytes) (lo : BitVec 64) (w : World) (hb : IsBytes w a n c l) :
 Calls Tryz.prog 33 #[.int .i64 5, .agg #[.int .u64 (W64 kh), .int .u64 (W64 kl)], .agg #[.int .u64 (W64 x.1), .int .u64 (W64 x.2.1), .int .u64 (W64 x.2.2.1), .int .u64 (W64 x.2.2.2)], .slice a n c, .int .u64 (W64 lo)] w (GivesBytes (endS 5 kh kl (stateS 5 x) l lo) w) := by
 obtain ⟨sz, hsz, hle⟩ : ∃ sz : Nat, sizeN 5 = sz ∧ sz ≤ 16 := ⟨(sizeN 5).toNat, by have := size_nn 5; omega, size_le 5⟩
 have hS := refSize_any 5
 rw [hsz] at hS
 obtain ⟨z, hz⟩ : ∃ z, Hid (z = StX64.endF kl (StX64.stateF x.1 x.2.1 x.2.2.1 x.2.2.2) l lo) := ⟨_, Lib.hid rfl⟩
 have hans : endS 5 kh kl (stateS 5 x) l lo = (leb z 8 ++ leb 0#64 8).take sz := by
  obtain rfl : sz = 8 := by have : sizeN 5 = 8 := rfl; omega
  rw [stateS_x64, hz.out]
  exact (take_leb _ _ 8 (by omega)).symm
 rw [hans]
 clear hans hsz
 have hU := row2_new w 24 (.int .u64 (W64 kh)) (.int .u64 (W64 kl))
 have hF := (Fr.refl No w).alloc (.cells #[.int .u64 (W64 kh), .int .u64 (W64 kl)] 24)
 have hV := row4_new (w.alloc (.cells #[.int .u64 (W64 kh), .int .u64 (W64 kl)] 24)) 49 (.int .u64 (W64 x.1)) (.int .u64 (W64 x.2.1)) (.int .u64 (W64 x.2.2.1)) (.int .u64 (W64 x.2.2.2))
 replace hU := hU.no ((Fr.refl No _).alloc (.cells #[.int .u64 (W64 x.1), .int .u64 (W64 x.2.1), .int .u64 (W64 x.2.2.1), .int .u64 (W64 x.2.2.2)] 49))
 replace hF := hF.alloc (.cells #[.int .u64 (W64 x.1), .int .u64 (W64 x.2.1), .int .u64 (W64 x.2.2.1), .int .u64 (W64 x.2.2.2)] 49)
 have hX := row2_new ((w.alloc (.cells #[.int .u64 (W64 kh), .int .u64 (W64 kl)] 24)).alloc (.cells #[.int .u64 (W64 x.1), .int .u64 (W64 x.2.1), .int .u64 (W64 x.2.2.1), .int .u64 (W64 x.2.2.2)] 49)) 24 (.int .u64 0) (.int .u64 0)
 replace hU := hU.no ((Fr.refl No _).alloc (.cells #[.int .u64 0, .int .u64 0] 24))
 replace hV := hV.no ((Fr.refl No _).alloc (.cells #[.int .u64 0, .int .u64 0] 24))
 replace hF := hF.alloc (.cells #[.int .u64 0, .int .u64 0] 24)
 simp only [World.size_alloc] at hV hX
 have hlt := hF.size
 have u0 := hU.c0
 have u1 := hU.c1
 have v0 := hV.c0
 have v1 := hV.c1
 have v2 := hV.c2
 have v3 := hV.c3
 go_enter Tryz.func33, Tryz.ntmps33
 go_wp2_with fail
 have hge : w.heap.size ≤ w.heap.size + 1 + 1 := by omega
 generalize w.heap.size + 1 + 1 = xb at hX hge ⊢
 generalize (((w.alloc (.cells #[.int .u64 (W64 kh), .int .u64 (W64 kl)] 24)).alloc (.cells #[.int .u64 (W64 x.1), .int .u64 (W64 x.2.1), .int .u64 (W64 x.2.2.1), .int .u64 (W64 x.2.2.2)] 49)).alloc (.cells #[.int .u64 0, .int .u64 0] 24)) = w1 at hF hU hV hX hlt u0 u1 v0 v1 v2 v3 ⊢
 refine (StX64.refEnd_any kl (StX64.stateF x.1 x.2.1 x.2.2.1 x.2.2.2) a n c l lo _ (hb.no hF)).mono ?_
 rintro e w2 ⟨rfl, hf⟩
 rw [← hz.out]
 replace hX := hX.no hf
 replace hF := hF.no hf
 have hs2 := hF.size
 clear hU hV u0 u1 v0 v1 v2 v3
 have x0 := hX.c0
 have x1 := hX.c1
 have y0 := hX.fz 0
 have y1 := hX.fz 1
 go_upto_region 15 with fail
 have hR := hX.put1 (.int .u64 (W64 z))
 have hP := fr_put1 w2 xb 1 (.int .u64 (W64 z))
 replace hF := hF.trans hP (fun q hq => .inr (by omega))
 clear hX x0 x1 y0 y1 hP
 generalize (w2.setCell ⟨xb, 1, none⟩ (.int .u64 (W64 z))) = w3 at hR hF ⊢
 refine rsq (by kernel_rfl) [(0, 1), (1, 1), (3, 1), (4, 1), (2, 0), (5, 0), (6, 0), (7, 1)] (by kernel_rfl) ?_
 have hS0 : Fr No w3 w3.drew := (Fr.refl No w3).drew
 refine wpSeq_take (v := ?_) 68 rfl rfl (fun _ _ _ h => h) (Or.inl ⟨rfl, ?_⟩) ?_
 rotate_left 1
 · (intro w9 h9; go_simp; try with_reducible rfl)
 simp only [es1, es2, es3]
 refine wpSeq_take (v := ?_) 69 rfl rfl (fun _ _ _ h => h) (Or.inl ⟨rfl, ?_⟩) ?_
 rotate_left 1
 · (intro w9 h9; have q0 : w9.cell? ⟨xb, 0, none⟩ = some (.int .u64 (W64 0#64)) := (hR.no h9).c0; have q1 := (hR.no h9).c1; go_simp; try with_reducible rfl)
 simp only [es1, es2, es3]
 refine wpSeq_take (v := ?_) 71 rfl rfl (fun _ _ _ h => h) (Or.inl ⟨rfl, ?_⟩) ?_
 rotate_left 1
 · (intro w9 h9; go_simp; try with_reducible rfl)
 simp only [es1, es2, es3]
 refine wpSeq_take (v := ?_) 72 rfl rfl (fun _ _ _ h => h) (Or.inl ⟨rfl, ?_⟩) ?_
 rotate_left 1
 · (intro w9 h9; have q0 : w9.cell? ⟨xb, 0, none⟩ = some (.int .u64 (W64 0#64)) := (hR.no h9).c0; have q1 := (hR.no h9).c1; go_simp; try with_reducible rfl)
 simp only [es1, es2, es3]
 refine wpSeq_next rfl rfl (fun K hK => ?_)
 go_wp2_with fail
 refine (refBytes_any z 8 _ (by omega)).mono ?_
 rintro e w4 ⟨v4, rfl, hO4, hf4⟩
 obtain ⟨a4, c4, rfl, hb4, _⟩ := hO4.bytes
 rw [leb_length] at hb4 ⊢
 have hs4 : Fr No w3 w4 := (hS0).no hf4
 refine hK.out _ _ (fun _ => hs4) ?_
 clear hK K
 refine wpSeq_next rfl rfl (fun K hK => ?_)
 go_wp2_with fail
 refine (refBytes_any 0#64 8 _ (by omega)).mono ?_
 rintro e w5 ⟨v5, rfl, hO5, hf5⟩
 obtain ⟨a5, c5, rfl, hb5, _⟩ := hO5.bytes
 rw [leb_length] at hb5 ⊢
 replace hb4 := hb4.no hf5
 have hs5 : Fr No w3 w5 := (hs4).no hf5
 refine hK.out _ _ (fun _ => hs5) ?_
 clear hK K
 refine wpSeq_next rfl rfl (fun K hK => ?_)
 go_wp2_with fail
 refine (refBoth_any _ _ _ _ _ _ _ _ _ hb4 hb5 (by omega)).mono ?_
 rintro e w6 ⟨v6, rfl, hO6, hf6⟩
 obtain ⟨a6, c6, rfl, hb6, _⟩ := hO6.bytes
 have hl6 : (leb z 8 ++ leb 0#64 8).length = 16 := by rw [List.length_append, leb_length, leb_length]
 rw [hl6]
 rw [hl6] at hO6 hb6
 have hs6 : Fr No w3 w6 := (hs5).no hf6
 have hsz5 := (hs5).size
 refine hK.out _ _ (fun _ => hs6) ?_
 clear hK K
 refine wpSeq_take (v := ?_) 13 rfl rfl (fun _ _ _ h => h) (Or.inl ⟨rfl, ?_⟩) ?_
 rotate_left 1
 · (intro w9 h9; go_simp; try with_reducible rfl)
 simp only [es1, es2, es3]
 refine wpSeq_done ?_
 have i2 : sz ≤ c6 := by have := hb6.2.1; omega
 go_wp2_with fail
 refine (hS _).mono ?_
 rintro e w7 ⟨rfl, hf7⟩
 go_wp2_with fail
 go_ret
 have hsz3 := hF.size
 refine ⟨_, rfl, ((owns_take hO6 hl6 hle).no hf7).mono (by omega), (hF.no hs6).no hf7⟩
set_option maxHeartbeats 2000000 in
theorem refEnd_sip (k : Int) (hk : StSip.IsK k) (kh kl : BitVec 64) (x : L4) (a : Option Addr) (n c : Nat) (l : Bytes) (lo : BitVec 64) (w : World) (hb : IsBytes w a n c l) (hl8 : l.length < 8) :
 Calls Tryz.prog 33 #[.int .i64 k, .agg #[.int .u64 (W64 kh), .int .u64 (W64 kl)], .agg #[.int .u64 (W64 x.1), .int .u64 (W64 x.2.1), .int .u64 (W64 x.2.2.1), .int .u64 (W64 x.2.2.2)], .slice a n c, .int .u64 (W64 lo)] w (GivesBytes (endS k kh kl (stateS k x) l lo) w) := by
 obtain ⟨sz, hsz, hle⟩ : ∃ sz : Nat, sizeN k = sz ∧ sz ≤ 16 := ⟨(sizeN k).toNat, by have := size_nn k; omega, size_le k⟩
 have hS := refSize_any k
 rw [hsz] at hS
 obtain ⟨z, hz⟩ : ∃ z, Hid (z = StSip.endLo k (StSip.stateF x.1 x.2.1 x.2.2.1 x.2.2.2) l lo) := ⟨_, Lib.hid rfl⟩
 obtain ⟨zh, hzh⟩ : ∃ z, Hid (z = StSip.endHi k (StSip.stateF x.1 x.2.1 x.2.2.1 x.2.2.2) l lo) := ⟨_, Lib.hid rfl⟩
 have hans : endS k kh kl (stateS k x) l lo = (leb z 8 ++ leb zh 8).take sz := by
  rw [stateS_sip hk, hz.out, hzh.out]
  show List.take (sizeN k).toNat _ = _
  rw [hsz]; rfl
 rw [hans]
 clear hans hsz
 obtain ⟨h1, h2, h3, h4, h5⟩ := isK_no hk
 have h6 : 6 ≤ k := by unfold StSip.IsK at hk; omega
 have hU := row2_new w 24 (.int .u64 (W64 kh)) (.int .u64 (W64 kl))
 have hF := (Fr.refl No w).alloc (.cells #[.int .u64 (W64 kh), .int .u64 (W64 kl)] 24)
 have hV := row4_new (w.alloc (.cells #[.int .u64 (W64 kh), .int .u64 (W64 kl)] 24)) 49 (.int .u64 (W64 x.1)) (.int .u64 (W64 x.2.1)) (.int .u64 (W64 x.2.2.1)) (.int .u64 (W64 x.2.2.2))
 replace hU := hU.no ((Fr.refl No _).alloc (.cells #[.int .u64 (W64 x.1), .int .u64 (W64 x.2.1), .int .u64 (W64 x.2.2.1), .int .u64 (W64 x.2.2.2)] 49))
 replace hF := hF.alloc (.cells #[.int .u64 (W64 x.1), .int .u64 (W64 x.2.1), .int .u64 (W64 x.2.2.1), .int .u64 (W64 x.2.2.2)] 49)
 have hX := row2_new ((w.alloc (.cells #[.int .u64 (W64 kh), .int .u64 (W64 kl)] 24)).alloc (.cells #[.int .u64 (W64 x.1), .int .u64 (W64 x.2.1), .int .u64 (W64 x.2.2.1), .int .u64 (W64 x.2.2.2)] 49)) 24 (.int .u64 0) (.int .u64 0)
 replace hU := hU.no ((Fr.refl No _).alloc (.cells #[.int .u64 0, .int .u64 0] 24))
 replace hV := hV.no ((Fr.refl No _).alloc (.cells #[.int .u64 0, .int .u64 0] 24))
 replace hF := hF.alloc (.cells #[.int .u64 0, .int .u64 0] 24)
 simp only [World.size_alloc] at hV hX
 have hlt := hF.size
 have u0 := hU.c0
 have u1 := hU.c1
 have v0 := hV.c0
 have v1 := hV.c1
 have v2 := hV.c2
 have v3 := hV.c3
 go_enter Tryz.func33, Tryz.ntmps33
 go_wp2_with fail
 have hge : w.heap.size ≤ w.heap.size + 1 + 1 := by omega
 generalize w.heap.size + 1 + 1 = xb at hX hge ⊢
 generalize (((w.alloc (.cells #[.int .u64 (W64 kh), .int .u64 (W64 kl)] 24)).alloc (.cells #[.int .u64 (W64 x.1), .int .u64 (W64 x.2.1), .int .u64 (W64 x.2.2.1), .int .u64 (W64 x.2.2.2)] 49)).alloc (.cells #[.int .u64 0, .int .u64 0] 24)) = w1 at hF hU hV hX hlt u0 u1 v0 v1 v2 v3 ⊢
 refine (StSip.refEnd_any k hk kh kl (StSip.stateF x.1 x.2.1 x.2.2.1 x.2.2.2) a n c l lo _ (hb.no hF) hl8).mono ?_
 rintro e w2 ⟨rfl, hf⟩
 rw [← hz.out, ← hzh.out]
 replace hX := hX.no hf
 replace hF := hF.no hf
 have hs2 := hF.size
 clear hU hV u0 u1 v0 v1 v2 v3
 have x0 := hX.c0
 have x1 := hX.c1
 have y0 := hX.fz 0
 have y1 := hX.fz 1
 go_upto_region 15 with fail
 have hR := row_put2 hX (.int .u64 (W64 zh)) (.int .u64 (W64 z))
 have hP := fr_put2 w2 xb (.int .u64 (W64 zh)) (.int .u64 (W64 z))
 replace hF := hF.trans hP (fun q hq => .inr (by omega))
 clear hX x0 x1 y0 y1 hP
 generalize ((w2.setCell ⟨xb, 0, none⟩ (.int .u64 (W64 zh))).setCell ⟨xb, 1, none⟩ (.int .u64 (W64 z))) = w3 at hR hF ⊢
 refine rsq (by kernel_rfl) [(0, 1), (1, 1), (3, 1), (4, 1), (2, 0), (5, 0), (6, 0), (7, 1)] (by kernel_rfl) ?_
 have hS0 : Fr No w3 w3.drew := (Fr.refl No w3).drew
 refine wpSeq_take (v := ?_) 68 rfl rfl (fun _ _ _ h => h) (Or.inl ⟨rfl, ?_⟩) ?_
 rotate_left 1
 · (intro w9 h9; go_simp; try with_reducible rfl)
 simp only [es1, es2, es3]
 refine wpSeq_take (v := ?_) 69 rfl rfl (fun _ _ _ h => h) (Or.inl ⟨rfl, ?_⟩) ?_
 rotate_left 1
 · (intro w9 h9; have q0 := (hR.no h9).c0; have q1 := (hR.no h9).c1; go_simp; try with_reducible rfl)
 simp only [es1, es2, es3]
 refine wpSeq_take (v := ?_) 71 rfl rfl (fun _ _ _ h => h) (Or.inl ⟨rfl, ?_⟩) ?_
 rotate_left 1
 · (intro w9 h9; go_simp; try with_reducible rfl)
 simp only [es1, es2, es3]
 refine wpSeq_take (v := ?_) 72 rfl rfl (fun _ _ _ h => h) (Or.inl ⟨rfl, ?_⟩) ?_
 rotate_left 1
 · (intro w9 h9; have q0 := (hR.no h9).c0; have q1 := (hR.no h9).c1; go_simp; try with_reducible rfl)
 simp only [es1, es2, es3]
 refine wpSeq_next rfl rfl (fun K hK => ?_)
 go_wp2_with fail
 refine (refBytes_any z 8 _ (by omega)).mono ?_
 rintro e w4 ⟨v4, rfl, hO4, hf4⟩
 obtain ⟨a4, c4, rfl, hb4, _⟩ := hO4.bytes
 rw [leb_length] at hb4 ⊢
 have hs4 : Fr No w3 w4 := (hS0).no hf4
 refine hK.out _ _ (fun _ => hs4) ?_
 clear hK K
 refine wpSeq_next rfl rfl (fun K hK => ?_)
 go_wp2_with fail
 refine (refBytes_any zh 8 _ (by omega)).mono ?_
 rintro e w5 ⟨v5, rfl, hO5, hf5⟩
 obtain ⟨a5, c5, rfl, hb5, _⟩ := hO5.bytes
 rw [leb_length] at hb5 ⊢
 replace hb4 := hb4.no hf5
 have hs5 : Fr No w3 w5 := (hs4).no hf5
 refine hK.out _ _ (fun _ => hs5) ?_
 clear hK K
 refine wpSeq_next rfl rfl (fun K hK => ?_)
 go_wp2_with fail
 refine (refBoth_any _ _ _ _ _ _ _ _ _ hb4 hb5 (by omega)).mono ?_
 rintro e w6 ⟨v6, rfl, hO6, hf6⟩
 obtain ⟨a6, c6, rfl, hb6, _⟩ := hO6.bytes
 have hl6 : (leb z 8 ++ leb zh 8).length = 16 := by rw [List.length_append, leb_length, leb_length]
 rw [hl6]
 rw [hl6] at hO6 hb6
 have hs6 : Fr No w3 w6 := (hs5).no hf6
 have hsz5 := (hs5).size
 refine hK.out _ _ (fun _ => hs6) ?_
 clear hK K
 refine wpSeq_take (v := ?_) 13 rfl rfl (fun _ _ _ h => h) (Or.inl ⟨rfl, ?_⟩) ?_
 rotate_left 1
 · (intro w9 h9; go_simp; try with_reducible rfl)
 simp only [es1, es2, es3]
 refine wpSeq_done ?_
 have i2 : sz ≤ c6 := by have := hb6.2.1; omega
 go_wp2_with fail
 refine (hS _).mono ?_
 rintro e w7 ⟨rfl, hf7⟩
 go_wp2_with fail
 go_ret
 have hsz3 := hF.size
 refine ⟨_, rfl, ((owns_take hO6 hl6 hle).no hf7).mono (by omega), (hF.no hs6).no hf7⟩
theorem refEnd_all {k : Int} (hk : KindOk k) (kh kl : BitVec 64) (x : L4) (a : Option Addr) (n c : Nat) (l : Bytes) (lo : BitVec 64) (w : World) (hb : IsBytes w a n c l) (hl : (l.length : Int) < blockN k) :
 Calls Tryz.prog 33 #[.int .i64 k, .agg #[.int .u64 (W64 kh), .int .u64 (W64 kl)], .agg #[.int .u64 (W64 x.1), .int .u64 (W64 x.2.1), .int .u64 (W64 x.2.2.1), .int .u64 (W64 x.2.2.2)], .slice a n c, .int .u64 (W64 lo)] w (GivesBytes (endS k kh kl (stateS k x) l lo) w) := by
 revert hl
 refine kind_cases (C := fun k => (l.length : Int) < blockN k → Calls Tryz.prog 33 #[.int .i64 k, .agg #[.int .u64 (W64 kh), .int .u64 (W64 kl)], .agg #[.int .u64 (W64 x.1), .int .u64 (W64 x.2.1), .int .u64 (W64 x.2.2.1), .int .u64 (W64 x.2.2.2)], .slice a n c, .int .u64 (W64 lo)] w (GivesBytes (endS k kh kl (stateS k x) l lo) w)) (fun _ => refEnd_m32 kh kl x a n c l lo w hb) (fun _ => refEnd_m86 kh kl x a n c l lo w hb) (fun _ => refEnd_m64 kh kl x a n c l lo w hb) (fun _ => refEnd_x32 kh kl x a n c l lo w hb) (fun _ => refEnd_x64 kh kl x a n c l lo w hb) (fun k hk hl => refEnd_sip k hk kh kl x a n c l lo w hb (by rw [block_sip hk] at hl; omega)) hk
end Go.Proofs.YtidlpihoafnobaaGreat
namespace Go.Proofs.YtidlpihoafnobaaGreat
set_option maxRecDepth 100000
open Go.RowKit
set_option maxHeartbeats 1000000 in
theorem refOne_all {k : Int} (hk : KindOk k) (kh kl : BitVec 64) (a : Option Addr) (n c : Nat) (l : Bytes) (w : World) (hb : IsBytes w a n c l) (hn : n ≤ 1099511627776) :
 Calls Tryz.prog 20 #[.int .i64 k, .agg #[.int .u64 (W64 kh), .int .u64 (W64 kl)], .slice a n c] w (GivesBytes (oneS k kh kl l) w) := by
 have hk0 := first_ofK hk kh kl
 have hB := fun w hb => refBlocks_all hk kh kl a n c l w hb hn
 have hE := fun x a n c l lo w hb hl => refEnd_all hk kh kl x a n c l lo w hb hl
 have hst := state_lanes (fold_ofK hk0 l)
 have hmod := fold_mod hk0 l
 have hbp := block_pos hk
 unfold oneS
 generalize foldS k (firstS k kh kl) l = r at hB hst hmod ⊢
 have hlt : (r.2.length : Int) < blockN k := by rw [hmod]; exact Int.emod_lt_of_pos _ hbp.1
 have HM := Lib.hid hlt
 have HL := Lib.hid hb.1
 clear hmod hbp hlt hk0
 have hU := row2_new w 24 (.int .u64 (W64 kh)) (.int .u64 (W64 kl))
 have hF := (Fr.refl No w).alloc (.cells #[.int .u64 (W64 kh), .int .u64 (W64 kl)] 24)
 have u0 := hU.c0
 have u1 := hU.c1
 go_enter Tryz.func20, Tryz.ntmps20
 go_wp2_with fail
 generalize w.heap.size = ub at hU u0 u1 ⊢
 generalize w.alloc (.cells #[.int .u64 (W64 kh), .int .u64 (W64 kl)] 24) = w1 at hF hU u0 u1 ⊢
 refine (hB _ (hb.no hF)).mono ?_
 rintro e w2 ⟨a', n', c', rfl, hb2, hp, hf⟩
 clear u0 u1 hB
 generalize lanesS r.1 = x at hst ⊢
 have hV := row4_new w2 49 (.int .u64 (W64 x.1)) (.int .u64 (W64 x.2.1)) (.int .u64 (W64 x.2.2.1)) (.int .u64 (W64 x.2.2.2))
 have hG := (Fr.refl No w2).alloc (.cells #[.int .u64 (W64 x.1), .int .u64 (W64 x.2.1), .int .u64 (W64 x.2.2.1), .int .u64 (W64 x.2.2.2)] 49)
 have u0 := ((hU.no hf).no hG).c0
 have u1 := ((hU.no hf).no hG).c1
 have v0 := hV.c0
 have v1 := hV.c1
 have v2 := hV.c2
 have v3 := hV.c3
 have hb3 := hb2.no hG
 have hF3 := (hF.no hf).no hG
 go_wp2_with fail
 have hn' : r.2.length = n' := hb2.1
 refine (hE x a' n' c' r.2 (BitVec.ofNat 64 n) _ hb3 HM.out).mono ?_
 rw [hst, ← HL.out]
 rintro e w4 ⟨v4, rfl, hO4, hf4⟩
 have hsz := hF3.size
 obtain ⟨a4, c4, rfl, hb4, _⟩ := hO4.bytes
 go_wp2_with fail
 go_ret
 exact ⟨_, rfl, hO4.mono hsz, hF3.no hf4⟩
end Go.Proofs.YtidlpihoafnobaaGreat
namespace Go.Proofs.YtidlpihoafnobaaGreat
set_option maxRecDepth 100000
open Go.RowKit
set_option maxHeartbeats 1000000 in
theorem One_yes {k : Int} {kh kl : BitVec 64} (hc : checkN k kh kl = 0) (w : World) (a : Option Addr) (n c : Nat) (l : Bytes) (hb : IsBytes w a n c l) (hn : n ≤ 1099511627776) : Calls Tryz.prog 9 #[.int .i64 k, .agg #[.int .u64 (W64 kh), .int .u64 (W64 kl)], .slice a n c] w (fun e w' => ∃ v, e = .returned (.tuple #[v, .int .i64 0]) ∧ Owns w' w.heap.size v (oneS k kh kl l) ∧ Fr No w w') := by
 have hk := check_ok hc
 have hC := Check_any k kh kl
 rw [hc] at hC
 have hO := of_yes hk
 clear hc hk
 generalize nameN k = x0 at hO
 generalize sizeN k = x1 at hO
 generalize blockN k = x2 at hO
 generalize bitsN k = x3 at hO
 have hU := row2_new w 24 (.int .u64 (W64 kh)) (.int .u64 (W64 kl))
 have hF := (Fr.refl No w).alloc (.cells #[.int .u64 (W64 kh), .int .u64 (W64 kl)] 24)
 have u0 := hU.c0
 have u1 := hU.c1
 go_enter Tryz.func9, Tryz.ntmps9
 go_wp2_with fail
 obtain ⟨ub, hub⟩ : ∃ ub, ub = w.heap.size := ⟨_, rfl⟩
 have hge : w.heap.size ≤ ub := by omega
 rw [← hub] at hU u0 u1 ⊢
 clear hub
 generalize w.alloc (.cells #[.int .u64 (W64 kh), .int .u64 (W64 kl)] 24) = wa at hU hF u0 u1 ⊢
 refine (hC _).mono ?_
 rintro e w1 ⟨rfl, hf⟩
 clear u0 u1
 have u0 := (hU.no hf).c0
 have u1 := (hU.no hf).c1
 go_wp2_with fail
 refine (hO _).mono ?_
 rintro e w2 ⟨f1, c1, f2, c2, rfl, hI, hf2⟩
 clear u0 u1 hO hC
 have hZ := row6_new w2 65 (.string x0) (.int .i64 x1) (.int .i64 x2) (.int .i64 x3) (.func (.func f1) #[] c1) (.func (.func f2) #[] c2)
 have hG := (Fr.refl No w2).alloc (.cells #[.string x0, .int .i64 x1, .int .i64 x2, .int .i64 x3, .func (.func f1) #[] c1, .func (.func f2) #[] c2] 65)
 have u0 := (((hU.no hf).no hf2).no hG).c0
 have u1 := (((hU.no hf).no hf2).no hG).c1
 have z4 := hZ.c4
 have z5 := hZ.c5
 have e1 := hI.e1
 have e2 := hI.e2
 have hFz := ((hF.no hf).no hf2).no hG
 go_wp2_with fail
 refine (hI.one _ kh kl a n c l hG (hb.no hFz) hn).mono ?_
 rintro e w3 ⟨v3, rfl, hO3, hf3⟩
 have hsz := hFz.size
 obtain ⟨a3, c3, rfl, hb3, _⟩ := hO3.bytes
 go_wp2_with fail
 go_ret2
 exact ⟨_, rfl, hO3.mono hsz, hFz.no hf3⟩
end Go.Proofs.YtidlpihoafnobaaGreat
namespace Go.Proofs.YtidlpihoafnobaaGreat
set_option maxRecDepth 100000
open Go.RowKit
theorem awake_one : (oneS 4 0#64 0#64 []).length = 4 ∧ (oneS 4 0#64 0#64 []).getD 0 0 = 5#8 := ⟨by kernel_rfl, by kernel_rfl⟩
theorem strAwake_yes (w : World) : Calls Tryz.prog 8 #[] w (Yes w) := by
 obtain ⟨h4, h5⟩ := awake_one
 have hOne := fun w => One_yes (k := 4) (kh := 0#64) (kl := 0#64) (by decide) w none 0 0 [] (IsBytes.nil _) (by omega)
 generalize oneS 4 0#64 0#64 [] = ans at h4 h5 hOne
 go_enter Tryz.func8, Tryz.ntmps8
 go_wp2_with fail
 refine (hOne _).mono ?_
 rintro e w1 ⟨v1, rfl, hO1, hf1⟩
 obtain ⟨a1, c1, rfl, hb1, _⟩ := hO1.bytes
 rw [h4] at hb1 ⊢
 obtain ⟨b, off, rfl, hcell⟩ := hb1.known (by omega)
 have hc0 := hcell 0 (by omega)
 rw [h5, Nat.add_zero] at hc0
 clear h4 h5 hOne hO1 hcell
 go_wp2_with fail
 refine (New_yes (k := 6) (kh := 0#64) (kl := 0#64) (by decide) _ w hf1).mono ?_
 rintro e w2 ⟨hb, rfl, F, h2, _, hf2⟩
 have hd0 := hf2.cell (fun h => h) hc0
 clear hc0
 go_wp2_with fail
 refine h2.kind.mono ?_
 rintro e w3 ⟨rfl, rfl⟩
 go_wp2_with fail
 go_ret
 exact ⟨rfl, hf1.no hf2⟩
end Go.Proofs.YtidlpihoafnobaaGreat
