/- StrNew ScoTell LTells ScoPlain -/
import Derived.Test.YtidlpihoafnobaaGreatDoorPStrOf
import Derived.Test.YtidlpihoafnobaaGreatDoorPStrBlocks
set_option linter.unusedVariables false
set_option linter.unusedSimpArgs false
namespace Go.Proofs.YtidlpihoafnobaaGreatDoor
set_option maxRecDepth 100000
open Go.RowKit
theorem Size_any (k : Int) (w : World) : Calls Tryz.prog 45 #[.int .i64 k] w (GivesNew (.int .i64 (sizeN k)) w) := by
 by_cases hk : KindOk k
 · have hO := of_yes hk
   generalize nameN k = x0 at hO ⊢
   generalize sizeN k = x1 at hO ⊢
   generalize blockN k = x2 at hO ⊢
   generalize bitsN k = x3 at hO ⊢
   clear hk
   go_enter Tryz.func45, Tryz.ntmps45
   go_wp2_with fail
   refine (hO _).mono ?_
   rintro e w1 ⟨f1, c1, f2, c2, rfl, hI, hf⟩
   have hZ := row6_new w1 89 (.string x0) (.int .i64 x1) (.int .i64 x2) (.int .i64 x3) (.func (.func f1) #[] c1) (.func (.func f2) #[] c2)
   have hF := (Fr.refl No w1).alloc (.cells #[.string x0, .int .i64 x1, .int .i64 x2, .int .i64 x3, .func (.func f1) #[] c1, .func (.func f2) #[] c2] 89)
   have z0 := hZ.c0
   have z1 := hZ.c1
   have z2 := hZ.c2
   have z3 := hZ.c3
   have z4 := hZ.c4
   have z5 := hZ.c5
   go_wp2_with fail
   go_ret
   exact ⟨rfl, hf.no hF⟩
 · have hO := of_no hk
   have hv : sizeN k = 0 := by
    unfold sizeN
    have h := kindOk_of k hk
    iterate 8 rw [if_neg (by omega)]
   rw [hv]
   clear hv hk
   go_enter Tryz.func45, Tryz.ntmps45
   go_wp2_with fail
   refine (hO _).mono ?_
   rintro e w1 ⟨rfl, hf⟩
   have hZ := row6_new w1 89 (.string ⟨#[]⟩) (.int .i64 0) (.int .i64 0) (.int .i64 0) .nilFunc .nilFunc
   have hF := (Fr.refl No w1).alloc (.cells #[.string ⟨#[]⟩, .int .i64 0, .int .i64 0, .int .i64 0, .nilFunc, .nilFunc] 89)
   have z0 := hZ.c0
   have z1 := hZ.c1
   have z2 := hZ.c2
   have z3 := hZ.c3
   have z4 := hZ.c4
   have z5 := hZ.c5
   go_wp2_with fail
   go_ret
   exact ⟨rfl, hf.no hF⟩
theorem Check_any (k : Int) (kh kl : BitVec 64) (w : World) : Calls Tryz.prog 41 #[.int .i64 k, .agg #[.int .u64 (W64 kh), .int .u64 (W64 kl)]] w (GivesNew (.int .i64 (checkN k kh kl)) w) := by
 have hU := row2_new w 30 (.int .u64 (W64 kh)) (.int .u64 (W64 kl))
 have hA := (Fr.refl No w).alloc (.cells #[.int .u64 (W64 kh), .int .u64 (W64 kl)] 30)
 by_cases hk : KindOk k
 · have hO := of_yes hk
   have hb : bitsN k = 32 ∧ k ≤ 4 ∨ bitsN k = 64 ∧ k = 5 ∨ bitsN k = 128 ∧ 6 ≤ k := by rcases hk with rfl | rfl | rfl | rfl | rfl | rfl | rfl | rfl <;> decide
   have hs : ¬ sizeN k = 0 := by rcases hk with rfl | rfl | rfl | rfl | rfl | rfl | rfl | rfl <;> decide
   generalize nameN k = x0 at hO
   have hc : checkN k kh kl = if (bitsN k < 128 ∧ 0 < W64 kh) ∨ (bitsN k < 64 ∧ 4294967296 ≤ W64 kl) then 13 else 0 := by
    unfold checkN
    rw [if_neg hs]
    congr 1
    exact propext (by omega)
   rw [hc]
   clear hc hs
   generalize sizeN k = x1 at hO
   generalize blockN k = x2 at hO
   obtain ⟨z9, hz9⟩ : ∃ z9 : Int, z9 = (if (bitsN k < 128 ∧ 0 < W64 kh) ∨ (bitsN k < 64 ∧ 4294967296 ≤ W64 kl) then 13 else 0) := ⟨_, rfl⟩
   rw [← hz9]
   have HZ := Lib.hid hz9
   clear hz9
   have hsh : (kl / 4294967296#64 = 0#64) = (W64 kl < 4294967296) := by
    unfold W64
    rw [← BitVec.toNat_inj]
    simp only [BitVec.toNat_udiv, BitVec.toNat_ofNat]
    rw [show 4294967296 % 2 ^ 64 = 4294967296 from rfl, show 0 % 2 ^ 64 = 0 from rfl]
    exact propext (by omega)
   have hkh : (kh = 0#64) = ¬ (0 < W64 kh) := by
    unfold W64
    rw [← BitVec.toNat_inj]
    simp only [BitVec.toNat_ofNat]
    exact propext (by omega)
   have hb' : bitsN k = 32 ∨ bitsN k = 64 ∨ bitsN k = 128 := by omega
   clear hb hk
   generalize bitsN k = x3 at hO hb' HZ
   have fin : Hid (z9 = if (x3 < 128 ∧ ¬ kh = 0#64) ∨ (x3 < 64 ∧ ¬ kl / 4294967296#64 = 0#64) then 13 else 0) := by
    show _ = _
    rw [HZ.out]
    have e1 : (¬ kh = 0#64) ↔ 0 < W64 kh := by rw [hkh]; omega
    have e2 : (¬ kl / 4294967296#64 = 0#64) ↔ 4294967296 ≤ W64 kl := by rw [hsh]; omega
    simp only [e1, e2]
   clear HZ hsh hkh
   go_enter Tryz.func41, Tryz.ntmps41
   go_wp2_with fail
   generalize w.heap.size = ub at hU ⊢
   generalize w.alloc (.cells #[.int .u64 (W64 kh), .int .u64 (W64 kl)] 30) = wa at hU hA ⊢
   refine (hO _).mono ?_
   rintro e w1 ⟨f1, c1, f2, c2, rfl, hI, hf⟩
   have hZ := row6_new w1 89 (.string x0) (.int .i64 x1) (.int .i64 x2) (.int .i64 x3) (.func (.func f1) #[] c1) (.func (.func f2) #[] c2)
   have hF := (Fr.refl No w1).alloc (.cells #[.string x0, .int .i64 x1, .int .i64 x2, .int .i64 x3, .func (.func f1) #[] c1, .func (.func f2) #[] c2] 89)
   have u0 := ((hU.no hf).no hF).c0
   have u1 := ((hU.no hf).no hF).c1
   have z0 := hZ.c0
   have z1 := hZ.c1
   have z2 := hZ.c2
   have z3 := hZ.c3
   have z4 := hZ.c4
   have z5 := hZ.c5
   rcases hb' with rfl | rfl | rfl
   all_goals go_wp2_with fail
   all_goals go_ret
   all_goals
    refine ⟨?_, (hA.no hf).no hF⟩
    have hz := fin.out
    clear fin hO hZ hF u0 u1 hU hA hI
    split at hz <;> first | (subst hz; rfl) | (exfalso; simp_all; done)
 · have hO := of_no hk
   have hv : checkN k kh kl = 6 := by
    unfold checkN
    rw [if_pos]
    unfold sizeN
    have h := kindOk_of k hk
    iterate 8 rw [if_neg (by omega)]
   rw [hv]
   clear hv hk
   go_enter Tryz.func41, Tryz.ntmps41
   go_wp2_with fail
   generalize w.heap.size = ub at hU ⊢
   generalize w.alloc (.cells #[.int .u64 (W64 kh), .int .u64 (W64 kl)] 30) = wa at hU hA ⊢
   refine (hO _).mono ?_
   rintro e w1 ⟨rfl, hf⟩
   have hF := (Fr.refl No w1).alloc (.cells #[.string ⟨#[]⟩, .int .i64 0, .int .i64 0, .int .i64 0, .nilFunc, .nilFunc] 89)
   go_wp2_with fail
   go_ret
   exact ⟨rfl, (hA.no hf).no hF⟩
theorem check_ok {k : Int} {kh kl : BitVec 64} (h : checkN k kh kl = 0) : KindOk k := by
 refine Classical.byContradiction fun hk => ?_
 have hv : sizeN k = 0 := by
  unfold sizeN
  have h := kindOk_of k hk
  iterate 8 rw [if_neg (by omega)]
 unfold checkN at h
 rw [if_pos hv] at h
 omega
set_option maxHeartbeats 1000000 in
theorem New_yes {k : Int} {kh kl : BitVec 64} (hc : checkN k kh kl = 0) (w : World) (w0 : World) (hw : Fr No w0 w) : Calls Tryz.prog 13 #[.int .i64 k, .agg #[.int .u64 (W64 kh), .int .u64 (W64 kl)]] w (fun e w' => ∃ hb, e = .returned (.tuple #[.pointer (some ⟨hb, 0, none⟩), .int .i64 0]) ∧ ∃ F, HSAny w0 w' hb F k kh kl (firstS k kh kl) [] 0#64 ∧ (∀ x, F x → w.heap.size ≤ x) ∧ Fr No w w') := by
 have hk := check_ok hc
 have hC := Check_any k kh kl
 rw [hc] at hC
 have hO := of_yes hk
 clear hc hk
 generalize nameN k = x0 at hO
 generalize sizeN k = x1 at hO
 generalize blockN k = x2 at hO
 generalize bitsN k = x3 at hO
 have hU := row2_new w 30 (.int .u64 (W64 kh)) (.int .u64 (W64 kl))
 have hF := (Fr.refl No w).alloc (.cells #[.int .u64 (W64 kh), .int .u64 (W64 kl)] 30)
 have u0 := hU.c0
 have u1 := hU.c1
 go_enter Tryz.func13, Tryz.ntmps13
 go_wp2_with fail
 obtain ⟨ub, hub⟩ : ∃ ub, ub = w.heap.size := ⟨_, rfl⟩
 have hge : w.heap.size ≤ ub := by omega
 rw [← hub] at hU u0 u1 ⊢
 clear hub
 generalize w.alloc (.cells #[.int .u64 (W64 kh), .int .u64 (W64 kl)] 30) = wa at hU hF u0 u1 ⊢
 refine (hC _).mono ?_
 rintro e w1 ⟨rfl, hf⟩
 clear u0 u1
 have u0 := (hU.no hf).c0
 have u1 := (hU.no hf).c1
 go_wp2_with fail
 refine (hO _).mono ?_
 rintro e w2 ⟨f1, c1, f2, c2, rfl, hI, hf2⟩
 clear u0 u1 hO hC
 have hZ := row6_new w2 89 (.string x0) (.int .i64 x1) (.int .i64 x2) (.int .i64 x3) (.func (.func f1) #[] c1) (.func (.func f2) #[] c2)
 have hG := (Fr.refl No w2).alloc (.cells #[.string x0, .int .i64 x1, .int .i64 x2, .int .i64 x3, .func (.func f1) #[] c1, .func (.func f2) #[] c2] 89)
 have u0 := (((hU.no hf).no hf2).no hG).c0
 have u1 := (((hU.no hf).no hf2).no hG).c1
 have z4 := hZ.c4
 have z5 := hZ.c5
 have e1 := hI.e1
 have e2 := hI.e2
 have hFz := ((hF.no hf).no hf2).no hG
 go_wp2_with fail
 refine (hI.made w0 _ kh kl hG (hw.no hFz)).mono ?_
 rintro e w3 ⟨hb, rfl, F, h3, hnew, hf3⟩
 have hsz := hFz.size
 go_wp2_with fail
 go_ret2
 exact ⟨hb, rfl, F, h3, fun x hx => by have := hnew x hx; omega, hFz.no hf3⟩
end Go.Proofs.YtidlpihoafnobaaGreatDoor
namespace Go.Proofs.YtidlpihoafnobaaGreatDoor
set_option maxRecDepth 100000
open Go.RowKit
def wordsT (kh kl : BitVec 64) (x : L4) (lo : BitVec 64) : List (BitVec 64) := [kl, kh, x.1, x.2.1, x.2.2.1, x.2.2.2, lo]
def headT (k : Int) (ws : List (BitVec 64)) (n : Nat) : Bytes := [104#8, O8 k] ++ ((ws.take n).map (fun y => leb y 8)).flatten
def tellT (k : Int) (kh kl : BitVec 64) (x : L4) (lo : BitVec 64) (tl : Bytes) : Bytes := sealF (headT k (wordsT kh kl x lo) 7 ++ tl)
theorem headT_next (k : Int) (ws : List (BitVec 64)) (n : Nat) (h : n < ws.length) : headT k ws (n + 1) = headT k ws n ++ leb (ws.getD n 0) 8 := by
 unfold headT
 rw [List.take_succ_eq_append_getElem h, List.map_append, List.flatten_append, List.append_assoc, List.getD_eq_getElem?_getD, List.getElem?_eq_getElem h]
 simp
theorem headT_len (k : Int) (ws : List (BitVec 64)) (h : ws.length = 7) : ∀ n, n ≤ 7 → (headT k ws n).length = 2 + 8 * n := by
 intro n
 induction n with
 | zero => intro _; rfl
 | succ n ih => intro hn; rw [headT_next k ws n (by omega), List.length_append, ih (by omega), leb_length]; omega
theorem tellT_len (k : Int) (kh kl : BitVec 64) (x : L4) (lo : BitVec 64) (tl : Bytes) : (tellT k kh kl x lo tl).length = 62 + tl.length := by
 unfold tellT
 rw [sealF_length, List.length_append, headT_len k _ rfl 7 (by omega)]
 omega
theorem tellT_head (k : Int) (kh kl : BitVec 64) (x : L4) (lo : BitVec 64) (tl : Bytes) : (tellT k kh kl x lo tl).getD 0 0 = 104#8 := rfl
def Words7 (w : World) (b : Nat) (ws : List (BitVec 64)) : Prop := ∀ i, i < 7 → w.cell? ⟨b, i, none⟩ = some (.int .u64 (W64 (ws.getD i 0)))
theorem Words7.no {w w' : World} {b : Nat} {ws : List (BitVec 64)} (h : Words7 w b ws) (f : Fr No w w') : Words7 w' b ws := fun i hi => f.cell (fun h => h) (h i hi)
theorem words7_new (w : World) (kh kl : BitVec 64) (x : L4) (lo : BitVec 64) (T : TypeId) : Words7 (w.alloc (.cells #[.int .u64 (W64 kl), .int .u64 (W64 kh), .int .u64 (W64 x.1), .int .u64 (W64 x.2.1), .int .u64 (W64 x.2.2.1), .int .u64 (W64 x.2.2.2), .int .u64 (W64 lo)] T)) w.heap.size (wordsT kh kl x lo) := by
 intro i hi
 rw [cell_of_row _ w.heap.size i _ _ _ (heap_alloc_new w _)]
 rcases (show i = 0 ∨ i = 1 ∨ i = 2 ∨ i = 3 ∨ i = 4 ∨ i = 5 ∨ i = 6 by omega) with rfl | rfl | rfl | rfl | rfl | rfl | rfl <;> rfl
theorem owns_pair (w : World) (x y : BitVec 8) : Owns (w.alloc (.cells #[.int .u8 (B8 x), .int .u8 (B8 y)] 5)) w.heap.size (.slice (some ⟨w.heap.size, 0, none⟩) 2 2) [x, y] :=
 ⟨rfl, .inr ⟨_, _, _, rfl, Nat.le_refl _, heap_alloc_new w _, Nat.le_refl _, by decide, rfl, rfl⟩⟩
def TellAt (w0 : World) (base : Nat) (k : Int) (ws : List (BitVec 64)) (sb : Nat) (b i : Value) (wr : World) (n : Nat) : Prop :=
 n ≤ 7 ∧ i = .int .i64 n ∧ Owns wr base b (headT k ws n) ∧ Words7 wr sb ws ∧ Fr No w0 wr
set_option maxHeartbeats 4000000 in
theorem Marshal_any {w0 w : World} {hb : Nat} {F : Nat → Prop} {k : Int} {kh kl : BitVec 64} {s : HSt} {tl : Bytes} {lo : BitVec 64} (h : HSAny w0 w hb F k kh kl s tl lo) (hl : tl.length ≤ 1000) :
 Calls Tryz.prog 8 #[.pointer (some ⟨hb, 0, none⟩)] w (fun e w' => ∃ v, e = .returned (.tuple #[v, .int .i64 0]) ∧ Owns w' w.heap.size v (tellT k kh kl (lanesS s) lo tl) ∧ Fr No w w') := by
 have hk := h.ofK.ok
 have hk0 : (k == 0) = false := by rcases hk with rfl | rfl | rfl | rfl | rfl | rfl | rfl | rfl <;> rfl
 have hlanes := h.lanes
 unfold tellT
 generalize lanesS s = x at hlanes ⊢
 obtain ⟨ws, hws⟩ : ∃ ws, Hid (ws = wordsT kh kl x lo) := ⟨_, Lib.hid rfl⟩
 rw [← hws.out]
 have hwl : Hid (ws.length = 7) := Lib.hid (by rw [hws.out]; rfl)
 clear hk
 go_enter Tryz.func8, Tryz.ntmps8
 go_wp2_with fail
 refine h.kind.mono ?_
 rintro e w' ⟨rfl, rfl⟩
 go_wp2_with fail
 refine hlanes.mono ?_
 rintro e w1 ⟨v1, rfl, hO1, hf1⟩
 obtain ⟨a1, c1, rfl, hb1, _⟩ := hO1.bytes
 have hX := row4_new w1 31 (.int .u64 (W64 x.1)) (.int .u64 (W64 x.2.1)) (.int .u64 (W64 x.2.2.1)) (.int .u64 (W64 x.2.2.2))
 have hF := hf1.alloc (.cells #[.int .u64 (W64 x.1), .int .u64 (W64 x.2.1), .int .u64 (W64 x.2.2.1), .int .u64 (W64 x.2.2.2)] 31)
 have hbt := hb1.no ((Fr.refl No w1).alloc (.cells #[.int .u64 (W64 x.1), .int .u64 (W64 x.2.1), .int .u64 (W64 x.2.2.1), .int .u64 (W64 x.2.2.2)] 31))
 have h2 := h.no hF
 clear hO1 hb1 hlanes h
 go_wp2_with fail
 generalize w1.heap.size = xb at hX ⊢
 generalize w1.alloc (.cells #[.int .u64 (W64 x.1), .int .u64 (W64 x.2.1), .int .u64 (W64 x.2.2.1), .int .u64 (W64 x.2.2.2)] 31) = w2 at hX hF hbt h2 ⊢
 refine h2.kind.mono ?_
 rintro e w' ⟨rfl, rfl⟩
 have hP := owns_pair w2 104#8 (O8 k)
 have hge : w.heap.size ≤ w2.heap.size := hF.size
 replace hP := hP.mono hge
 have hA := (Fr.refl No w2).alloc (.cells #[.int .u8 (B8 104#8), .int .u8 (B8 (O8 k))] 5)
 replace hX := hX.no hA
 replace hbt := hbt.no hA
 replace h2 := h2.no hA
 replace hF := hF.no hA
 have e104 : B8 104#8 = 104 := by decide
 rw [e104] at hP hX hbt h2 hF
 clear hA e104
 go_wp2_with fail
 generalize w2.heap.size = pb at hP ⊢
 generalize w2.alloc (.cells #[.int .u8 104, .int .u8 (B8 (O8 k))] 5) = w3 at hP hX hbt h2 hF ⊢
 refine h2.key.mono ?_
 rintro e w4 ⟨rfl, hf4⟩
 have hU := row2_new w4 30 (.int .u64 (W64 kh)) (.int .u64 (W64 kl))
 have hA := hf4.alloc (.cells #[.int .u64 (W64 kh), .int .u64 (W64 kl)] 30)
 replace hP := hP.no hA
 replace hX := hX.no hA
 replace hbt := hbt.no hA
 replace hF := hF.no hA
 clear h2
 have u0 := hU.c0
 have u1 := hU.c1
 have x0 := hX.c0
 have x1 := hX.c1
 have x2 := hX.c2
 have x3 := hX.c3
 go_upto_region 6 with fail
 generalize w4.heap.size = ub at hU u0 u1 ⊢
 generalize w4.alloc (.cells #[.int .u64 (W64 kh), .int .u64 (W64 kl)] 30) = w5 at hU hP hX hbt hF u0 u1 x0 x1 x2 x3 ⊢
 have hW := words7_new w5 kh kl x lo 28
 rw [← hws.out] at hW
 have hA2 := (Fr.refl No w5).alloc (.cells #[.int .u64 (W64 kl), .int .u64 (W64 kh), .int .u64 (W64 x.1), .int .u64 (W64 x.2.1), .int .u64 (W64 x.2.2.1), .int .u64 (W64 x.2.2.2), .int .u64 (W64 lo)] 28)
 replace hP := hP.no hA2
 replace hbt := hbt.no hA2
 replace hF := hF.no hA2
 go_wp2_with fail
 clear u0 u1 x0 x1 x2 x3 hU hX hA hA2
 generalize w5.heap.size = sb at hW ⊢
 generalize w5.alloc (.cells #[.int .u64 (W64 kl), .int .u64 (W64 kh), .int .u64 (W64 x.1), .int .u64 (W64 x.2.1), .int .u64 (W64 x.2.2.1), .int .u64 (W64 x.2.2.2), .int .u64 (W64 lo)] 28) = w6 at hW hP hbt hF ⊢
 have hT : TellAt w w.heap.size k ws sb (.slice (some ⟨pb, 0, none⟩) 2 2) (.int .i64 0) w6 0 := ⟨by omega, rfl, hP, hW, hF⟩
 have hbo := hbt
 clear hP hW hF
 have hS : Fr No w6 w6 := Fr.refl No w6
 go_loopw [7, 41] (fun b i wr => ∃ n, TellAt w w.heap.size k ws sb b i wr n ∧ Fr No w6 wr) (fun _ i _ => 7 - (intOf i).toNat)
 case atStart => exact ⟨0, hT, hS⟩
 case round =>
  obtain ⟨n, ⟨hn, rfl, hP, hW, hF⟩, hS6⟩ := hrel
  clear hT hS
  obtain ⟨ap, cp, rfl, hbp, hnp⟩ := hP.bytes
  have hlen := headT_len k ws hwl.out n hn
  by_cases hlt : n < 7
  · have i1 : (n : Int) < 7 := by omega
    have hc := hW n hlt
    have hnx := Lib.hid (headT_next k ws n (by have := hwl.out; omega))
    generalize ws.getD n 0 = y at hc hnx
    have HLN := Lib.hid hlen
    have hP0 := hP
    clear hlen hP
    generalize hhd : headT k ws n = hd at hbp hnx HLN hP0 ⊢
    have HHD := Lib.hid hhd
    clear hhd
    go_wp2_with fail
    refine (Put64_any _ _ _ hd y _ hbp (by have := HLN.out; omega)).mono ?_
    rintro e w7 ⟨v7, rfl, hO7, hf7⟩
    rw [← hnx.out] at hO7
    have hsz := hF.size
    go_wp2_with fail
    go_roundw
    case rel => exact ⟨n + 1, ⟨by omega, by simp, hO7.mono hsz, hW.no hf7, hF.no hf7⟩, hS6.no hf7⟩
    case measure => simp [intOf]; omega
  · obtain rfl : n = 7 := by omega
    have hbt2 := hbo.no hS6
    have hsz := hF.size
    clear hlt hn hW hwl hws
    obtain ⟨hd, hhd⟩ : ∃ hd, Hid (hd = headT k ws 7) := ⟨_, Lib.hid rfl⟩
    rw [← hhd.out] at hlen hbp hP ⊢
    rw [show ((7 : Nat) : Int) = 7 from rfl]
    have HLN := Lib.hid hlen
    clear hlen
    go_wp2_with (at_builtin; refine wpList_append_bytes _ _ _ _ _ _ w.heap.size _ hd rfl hP _ _ _ tl rfl hbt2 (by have := HLN.out; omega) hsz ?_; intro v8 w8 hO8 hf8 _; have hf8' : Fr No w w8 := hF.append hf8 hP (Nat.le_refl _); obtain ⟨a8, c8, rfl, hb8, _⟩ := hO8.bytes)
    rw [List.length_append] at hb8
    refine (Seal_any _ _ _ (hd ++ tl) _ hb8 (by have := HLN.out; omega)).mono ?_
    rintro e w9 ⟨v9, rfl, hO9, hf9⟩
    have hsz9 := hf8'.size
    obtain ⟨an, han⟩ : ∃ an, Hid (an = sealF (hd ++ tl)) := ⟨_, Lib.hid rfl⟩
    rw [← han.out] at hO9
    obtain ⟨a9, c9, rfl, hb9, _⟩ := hO9.bytes
    go_wp2_with fail
    go_ret2
    rw [← hhd.out, ← han.out]
    exact ⟨_, rfl, hO9.mono hsz9, hf8'.no hf9⟩
end Go.Proofs.YtidlpihoafnobaaGreatDoor
namespace Go.Proofs.YtidlpihoafnobaaGreatDoor
set_option maxRecDepth 100000
open Go.RowKit
theorem scoAwake_yes (w : World) : Calls Tryz.prog 5 #[] w (Yes w) := by
 go_enter Tryz.func5, Tryz.ntmps5
 go_wp2_with fail
 refine (New_yes (k := 7) (kh := 0#64) (kl := 0#64) (by decide) _ w (Fr.refl No w)).mono ?_
 rintro e w1 ⟨hb, rfl, F, h1, _, hf1⟩
 go_wp2_with fail
 have hM := Marshal_any h1 (by simp)
 have h4 := tellT_len 7 0#64 0#64 (lanesS (firstS 7 0#64 0#64)) 0#64 []
 have h5 := tellT_head 7 0#64 0#64 (lanesS (firstS 7 0#64 0#64)) 0#64 []
 generalize tellT 7 0#64 0#64 (lanesS (firstS 7 0#64 0#64)) 0#64 [] = ans at hM h4 h5
 have h4' : ans.length = 62 := h4
 clear h4
 refine hM.mono ?_
 rintro e w2 ⟨v2, rfl, hO2, hf2⟩
 obtain ⟨a2, c2, rfl, hb2, _⟩ := hO2.bytes
 rw [h4'] at hb2 ⊢
 obtain ⟨b, off, rfl, hcell⟩ := hb2.known (by omega)
 have hc0 := hcell 0 (by omega)
 rw [h5, Nat.add_zero] at hc0
 clear h4' h5 hM hO2 hcell
 go_wp2_with fail
 go_ret
 exact ⟨rfl, hf1.no hf2⟩
end Go.Proofs.YtidlpihoafnobaaGreatDoor
namespace Go.Proofs.YtidlpihoafnobaaGreatDoor
set_option maxRecDepth 100000
open Go.RowKit
@[go_sem] theorem wrap64_B8 (y : BitVec 8) : wrap64 (B8 y) = B8 y := by have := B8_lt y; unfold wrap64; omega
theorem B8_ne104 {y : BitVec 8} (h : ¬ y = 104#8) : (B8 y != 104) = true := by
 rw [bne_iff_ne]
 intro e
 apply h
 apply BitVec.eq_of_toNat_eq
 unfold B8 at e
 simp only [BitVec.toNat_ofNat]
 omega
theorem le_leb' (k : Nat) : ∀ (x : BitVec 64), k ≤ 8 → (le (leb x k)).toNat = x.toNat % 2 ^ (8 * k) := by
 induction k with
 | zero => intro x _; simp [leb, le, Nat.mod_one]
 | succ k ih =>
  intro x hk
  rw [leb_consS, le, BitVec.toNat_add, BitVec.toNat_mul, ih (x >>> 8) (by omega), BitVec.toNat_ushiftRight, Nat.shiftRight_eq_div_pow, BitVec.toNat_setWidth, BitVec.toNat_setWidth]
  have h1 : 2 ^ (8 * (k + 1)) = 2 ^ 8 * 2 ^ (8 * k) := by rw [← Nat.pow_add]; congr 1; omega
  have h2 : x.toNat % 2 ^ (8 * (k + 1)) < 2 ^ 64 := Nat.lt_of_le_of_lt (Nat.mod_le _ _) x.isLt
  rw [h1, Nat.mod_mul] at h2 ⊢
  have e : (256#64).toNat = 2 ^ 8 := rfl
  rw [e]
  omega
theorem le_leb8' (x : BitVec 64) : le (leb x 8) = x := by
 apply BitVec.eq_of_toNat_eq; rw [le_leb' 8 x (by omega)]; exact Nat.mod_eq_of_lt x.isLt
def formN (b : Bytes) : Int := if b.length < 2 then 3 else if ¬ b.getD 0 0 = 104#8 then 5 else if sizeN (B8 (b.getD 1 0)) = 0 then 6 else if b.length < 62 then 3 else (openF b).2
def innerB (b : Bytes) : Bytes := b.take (b.length - 4)
def wordB (i : Bytes) (j : Nat) : BitVec 64 := le ((i.drop (2 + 8 * j)).take 8)
def kindB (b : Bytes) : Int := B8 (b.getD 1 0)
def lanesB (i : Bytes) : L4 := (wordB i 2, wordB i 3, wordB i 4, wordB i 5)
def RightB (b : Bytes) : Prop := RightS (kindB b) (lanesB (innerB b)) ∧ FitS (kindB b) ((innerB b).drop 58).length (wordB (innerB b) 6)
def checkB (b : Bytes) : Int := checkN (kindB b) (wordB (innerB b) 1) (wordB (innerB b) 0)
theorem openF_zero {b : Bytes} (h : (openF b).2 = 0) : 4 ≤ b.length ∧ sealedB b = true ∧ (openF b).1 = innerB b := by
 unfold openF at h ⊢
 by_cases h1 : b.length < 4
 · rw [if_pos h1] at h; cases h
 · rw [if_neg h1] at h ⊢
   cases h2 : sealedB b with
   | false => rw [h2] at h; simp at h
   | true => exact ⟨by omega, rfl, rfl⟩
structure Formed (b : Bytes) : Prop where
 len : 62 ≤ b.length
 head : b.getD 0 0 = 104#8
 size : ¬ sizeN (kindB b) = 0
 opens : (openF b).2 = 0
theorem formed_of {b : Bytes} (h : formN b = 0) : Formed b := by
 unfold formN at h
 by_cases h1 : b.length < 2
 · rw [if_pos h1] at h; cases h
 rw [if_neg h1] at h
 by_cases h2 : b.getD 0 0 = 104#8
 · rw [if_neg (by simpa using h2)] at h
   by_cases h3 : sizeN (B8 (b.getD 1 0)) = 0
   · rw [if_pos h3] at h; cases h
   rw [if_neg h3] at h
   by_cases h4 : b.length < 62
   · rw [if_pos h4] at h; cases h
   rw [if_neg h4] at h
   exact ⟨by omega, h2, h3, h⟩
 · rw [if_pos h2] at h; cases h
theorem formN_of {b : Bytes} (h : Formed b) : formN b = 0 := by
 have := h.len
 unfold formN
 rw [if_neg (by omega), if_neg (by simpa using h.head), if_neg (show ¬ sizeN (B8 (b.getD 1 0)) = 0 from h.size), if_neg (by omega)]
 exact h.opens
theorem headT_parts (k : Int) (ws : List (BitVec 64)) (n : Nat) (hn : n < ws.length) : ∀ m, n < m → m ≤ ws.length → ∃ R, headT k ws m = headT k ws n ++ leb (ws.getD n 0) 8 ++ R := by
 intro m
 induction m with
 | zero => intro h; omega
 | succ m ih =>
  intro h1 h2
  rw [headT_next k ws m (by omega)]
  by_cases e : n = m
  · subst e; exact ⟨[], by simp⟩
  · obtain ⟨R, hR⟩ := ih (by omega) (by omega)
    exact ⟨R ++ leb (ws.getD m 0) 8, by rw [hR]; simp [List.append_assoc]⟩
theorem read_tell (k : Int) (kh kl : BitVec 64) (x : L4) (lo : BitVec 64) (tl : Bytes) (hk : KindOk k) :
 Formed (tellT k kh kl x lo tl) ∧ kindB (tellT k kh kl x lo tl) = k ∧ wordB (innerB (tellT k kh kl x lo tl)) 0 = kl ∧ wordB (innerB (tellT k kh kl x lo tl)) 1 = kh ∧ lanesB (innerB (tellT k kh kl x lo tl)) = x ∧ wordB (innerB (tellT k kh kl x lo tl)) 6 = lo ∧ (innerB (tellT k kh kl x lo tl)).drop 58 = tl := by
 have hi : innerB (tellT k kh kl x lo tl) = headT k (wordsT kh kl x lo) 7 ++ tl := seal_take _
 have hkb : kindB (tellT k kh kl x lo tl) = k := by
  show B8 (O8 k) = k
  rcases hk with rfl | rfl | rfl | rfl | rfl | rfl | rfl | rfl <;> decide
 have hw : ∀ n, n < 7 → wordB (innerB (tellT k kh kl x lo tl)) n = (wordsT kh kl x lo).getD n 0 := by
  intro n hn
  rw [hi]
  have hwl : (wordsT kh kl x lo).length = 7 := rfl
  obtain ⟨R, hR⟩ := headT_parts k (wordsT kh kl x lo) n (by omega) 7 (by omega) (by omega)
  have hl := headT_len k (wordsT kh kl x lo) hwl n (by omega)
  unfold wordB
  rw [hR, List.append_assoc, List.append_assoc, ← hl, List.drop_left, List.take_append_of_le_length (by rw [leb_length]; exact Nat.le_refl _), List.take_of_length_le (by rw [leb_length]; exact Nat.le_refl _)]
  exact le_leb8' _
 have hl7 := headT_len k (wordsT kh kl x lo) rfl 7 (by omega)
 refine ⟨⟨by rw [tellT_len]; omega, tellT_head k kh kl x lo tl, ?_, ?_⟩, hkb, hw 0 (by omega), hw 1 (by omega), ?_, hw 6 (by omega), ?_⟩
 · rw [hkb]
   rcases hk with rfl | rfl | rfl | rfl | rfl | rfl | rfl | rfl <;> decide
 · show (openF (sealF _)).2 = 0
   rw [openF_yes (by rw [sealF_length, List.length_append, hl7]; omega) (seal_sealed _)]
 · unfold lanesB
   rw [hw 2 (by omega), hw 3 (by omega), hw 4 (by omega), hw 5 (by omega)]
   rfl
 · rw [hi, show 58 = (headT k (wordsT kh kl x lo) 7).length by rw [hl7], List.drop_left]
end Go.Proofs.YtidlpihoafnobaaGreatDoor
