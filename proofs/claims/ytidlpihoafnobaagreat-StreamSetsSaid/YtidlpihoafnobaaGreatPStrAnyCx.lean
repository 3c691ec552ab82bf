/- HashM64 HashX64 StrHasher StrHX64 StrHM64 HashSip StrHSip HashM86 StrHM86 HashX32 StrHX32 HashM32 StrHM32 StrAny -/
import Derived.Deep.Cut
import Derived.Stop.IfaceNil
import Derived.Test.YtidlpihoafnobaaGreatPStrAny
import Derived.Test.YtidlpihoafnobaaGreatPStrAnyAx
set_option linter.unusedVariables false
set_option linter.unusedSimpArgs false
namespace Go.Proofs.YtidlpihoafnobaaGreat.StM64
set_option maxRecDepth 100000
open Go.RowKit
set_option maxHeartbeats 1000000 in
theorem Sum_h {w0 w : World} {hb sb : Nat} {sd : BitVec 32} {s : ST} {tl : Bytes} {lo : BitVec 64} {tv : Value} (h : HLive w0 w hb sb sd s tl lo tv) : Calls Tryz.prog 73 #[.pointer (some ⟨hb, 0, none⟩)] w (GivesNew (.agg #[.int .u64 (W64 ((endHi s tl lo))), .int .u64 (W64 ((endLo s tl lo)))]) w) := by
 have hf1 : Fr No w (w.alloc (.cells #[.int .u64 0, .int .u64 0] 24)) := (Fr.refl No w).alloc _
 have hT : Row2 (w.alloc (.cells #[.int .u64 0, .int .u64 0] 24)) w.heap.size 24 (.int .u64 0) (.int .u64 0) := row2_new w _ _ _
 have h1 := h.no hf1
 go_enter Tryz.func73, Tryz.ntmps73
 go_wp2_with (go_at_call 136; refine (made_h h1).mono ?_; rintro e w' ⟨rfl, rfl⟩)
 obtain ⟨pb, hpb⟩ : ∃ pb, pb = w.heap.size := ⟨_, rfl⟩
 have hpw : w.heap.size ≤ pb := by omega
 rw [← hpb] at hT ⊢
 clear hpb
 generalize w.alloc (.cells #[.int .u64 0, .int .u64 0] 24) = w1 at hf1 hT h1 ⊢
 have cc := h1.cell
 refine wp_region_seq (by kernel_rfl) (fun w' => Fr No w1 w') (fun i => decide (16 ≤ i)) [(0, 1), (1, 1), (2, 1), (3, 1), (5, 1), (6, 1), (7, 1), (8, 1), (10, 1), (11, 1), (12, 1), (13, 1), (4, 0), (9, 0), (14, 0), (15, 0), (16, 0)] (by kernel_rfl) (Fr.refl No w1).drew ?_
 have hv0 : Fr No w1 w1.drew := (Fr.refl No w1).drew
 iterate 12 refine tq _ rfl rfl (by intro w9 h9; have ccc := h9.cell (fun h => h) cc; clear h9; go_simp; try with_reducible rfl) ?_; simp only [es1, es2, es3]
 refine wpSeq_next rfl rfl (fun K hK => ?_)
 go_wp2_with fail
 refine (State_any (h1.no hv0).on.st).mono ?_
 rintro e xhv1 ⟨rfl, hx⟩
 have hv1 := hv0.no hx
 clear hx
 refine hK.out _ _ (fun _ => hv1) ?_
 clear hK K
 refine wpSeq_next rfl rfl (fun K hK => ?_)
 go_wp2_with fail
 refine (Tail_any (h1.no hv1).on.st (h1.no hv1).on.ow (by have := h.tlen; omega)).mono ?_
 rintro e xhv2 ⟨vt, rfl, ho, hx⟩
 have hv2 := hv1.no hx
 obtain ⟨at_, ct, rfl, hbt, _⟩ := ho.bytes
 clear hx
 refine hK.out _ _ (fun _ => hv2) ?_
 clear hK K
 refine wpSeq_next rfl rfl (fun K hK => ?_)
 go_wp2_with fail
 refine (Long_any (h1.no hv2).on.st).mono ?_
 rintro e w' ⟨rfl, rfl⟩
 refine hK.out _ _ (fun _ => hv2) ?_
 clear hK K
 refine wpSeq_next rfl rfl (fun K hK => ?_)
 go_wp2_with fail
 refine (end_any s _ _ _ tl lo _ hbt).mono ?_
 rintro e xhv3 ⟨rfl, hx⟩
 have hv3 := hv2.no hx
 clear hx
 refine hK.out _ _ (fun _ => hv3) ?_
 clear hK K
 have hTx := hT.no hv3
 have cx := hTx.c0
 have fx := hTx.fz 0
 have cy := hTx.c1
 have fy := hTx.fz 1
 refine wpSeq_next rfl rfl (fun K hK => ?_)
 go_wp2_with fail
 refine hK.out _ _ (fun h => by simp at h) ?_
 clear hK K
 refine wpSeq_done ?_
 obtain ⟨z1, hz1⟩ : ∃ z, z = endHi s tl lo := ⟨_, rfl⟩
 obtain ⟨z2, hz2⟩ : ∃ z, z = endLo s tl lo := ⟨_, rfl⟩
 rw [← hz1, ← hz2]
 have HZ1 := Lib.hid hz1
 have HZ2 := Lib.hid hz2
 clear hz1 hz2
 have hF8 := hf1.no hv3
 have hF9 := fr_put2 xhv3 pb (.int .u64 (W64 (z1))) (.int .u64 (W64 (z2)))
 have hR9 := row_put2 hTx (.int .u64 (W64 (z1))) (.int .u64 (W64 (z2)))
 clear hTx cx fx cy fy hT h1 hf1 hv0 hv1 hv2 hv3
 generalize (xhv3.setCell ⟨pb, 0, none⟩ (.int .u64 (W64 (z1)))).setCell ⟨pb, 1, none⟩ (.int .u64 (W64 (z2))) = w9 at hF9 hR9 ⊢
 have cd0 := hR9.c0
 have cd1 := hR9.c1
 go_wp2_with fail
 refine bodyPost_ret (v := .agg #[.int .u64 (W64 (z1)), .int .u64 (W64 (z2))]) (by simp [results, Tryz.results73, go_sem, cd0, cd1]) rfl ?_
 exact ⟨by rw [HZ1.out, HZ2.out], hF8.trans hF9 (fun x hx => .inr (by omega))⟩
end Go.Proofs.YtidlpihoafnobaaGreat.StM64
namespace Go.Proofs.YtidlpihoafnobaaGreat.StX64
set_option maxRecDepth 100000
open Go.Proofs.YtidlpihoafnobaaGreat.StG64
open Go.RowKit
set_option maxHeartbeats 800000 in
theorem Sum_h {w0 w : World} {hb sb : Nat} {sd : BitVec 64} {s : ST} {tl : Bytes} {lo : BitVec 64} {tv : Value} (h : HLive w0 w hb sb sd s tl lo tv) : Calls Tryz.prog 154 #[.pointer (some ⟨hb, 0, none⟩)] w (GivesNew (.int .u64 (W64 (endF sd s tl lo))) w) := by
 go_enter Tryz.func154, Tryz.ntmps154
 go_wp2_with (go_at_call 209; refine (made_h h).mono ?_; rintro e w' ⟨rfl, rfl⟩)
 obtain ⟨w1, rfl⟩ : ∃ w1 : World, w1 = w := ⟨_, rfl⟩
 have hf1 : Fr No w1 w1 := Fr.refl No w1
 have h1 := h
 have cc := h1.cell
 have cc0 := h1.cell0
 refine rsq (by kernel_rfl) [(0, 1), (1, 1), (2, 1), (3, 1), (4, 1), (5, 1), (6, 1), (7, 1), (9, 1), (10, 1), (11, 1), (12, 1), (14, 1), (15, 1), (16, 1), (17, 1), (8, 0), (13, 0), (18, 0), (19, 0), (20, 1)] (by kernel_rfl) ?_
 have hv0 : Fr No w1 w1.drew := (Fr.refl No w1).drew
 iterate 16 refine tq _ rfl rfl (by intro w9 h9; have ccc := h9.cell (fun h => h) cc; have ccc0 := h9.cell (fun h => h) cc0; clear h9; go_simp; try with_reducible rfl) ?_; simp only [es1, es2, es3]
 refine wpSeq_next rfl rfl (fun K hK => ?_)
 go_wp2_with fail
 refine (State_any (h1.no hv0).on.st).mono ?_
 rintro e xhv1 ⟨rfl, hx⟩
 have hv1 := hv0.no hx
 clear hx
 refine hK.out _ _ (fun _ => hv1) ?_
 clear hK K
 refine wpSeq_next rfl rfl (fun K hK => ?_)
 go_wp2_with fail
 refine (StG64.Tail_any (h1.no hv1).on.st (h1.no hv1).on.ow (by have := h.tlen; omega)).mono ?_
 rintro e xhv2 ⟨vt, rfl, ho, hx⟩
 have hv2 := hv1.no hx
 obtain ⟨at_, ct, rfl, hbt, _⟩ := ho.bytes
 clear hx
 refine hK.out _ _ (fun _ => hv2) ?_
 clear hK K
 refine wpSeq_next rfl rfl (fun K hK => ?_)
 go_wp2_with fail
 refine (Long_any (h1.no hv2).on.st).mono ?_
 rintro e w' ⟨rfl, rfl⟩
 refine hK.out _ _ (fun _ => hv2) ?_
 clear hK K
 refine wpSeq_next rfl rfl (fun K hK => ?_)
 go_wp2_with fail
 refine (end_any sd s _ _ _ tl lo _ hbt).mono ?_
 rintro e xhv3 ⟨rfl, hx⟩
 have hv3 := hv2.no hx
 clear hx
 refine hK.out _ _ (fun _ => hv3) ?_
 clear hK K
 refine tp _ rfl rfl ?_; simp only [es1, es2, es3]
 refine wpSeq_done ?_
 go_wp2_with fail
 go_ret
 exact ⟨rfl, hf1.no hv3⟩
end Go.Proofs.YtidlpihoafnobaaGreat.StX64
namespace Go.Proofs.YtidlpihoafnobaaGreat
set_option maxRecDepth 100000
open Go.RowKit
theorem hSum_of {w : World} {hb : Nat} {T : TypeId} {v : Value} (h3 : w.cell? ⟨hb, 3, none⟩ = some (.iface T v)) (f : FuncId) (cs : Array Value) (h4 : w.cell? ⟨hb, 4, none⟩ = some (.func (.func f) #[] cs)) (he : ∀ (args : Array Value) (W : World), Sem.run Tryz.prog (callFunc f args) W = .ok (.enter f args) W) {l : Bytes} (hc : Calls Tryz.prog f cs w (GivesBytes l w)) :
 Calls Tryz.prog 25 #[.pointer (some ⟨hb, 0, none⟩)] w (fun e w' => ∃ v, e = .returned (.tuple #[v, .int .i64 0]) ∧ Owns w' w.heap.size v l ∧ Fr No w w') := by
 go_enter Tryz.func25, Tryz.ntmps25
 go_wp2_with (go_at_call 38; refine (hmade_yes h3).mono ?_; rintro e w' ⟨rfl, rfl⟩)
 refine hc.mono ?_
 rintro e w1 ⟨v1, rfl, hO, hf⟩
 obtain ⟨a1, c1, rfl, hb1, _⟩ := hO.bytes
 go_wp2_with fail
 go_ret2
 exact ⟨_, rfl, hO, hf⟩
end Go.Proofs.YtidlpihoafnobaaGreat
namespace Go.Proofs.YtidlpihoafnobaaGreat.StX64
open Go.Proofs.YtidlpihoafnobaaGreat.StG64
set_option maxRecDepth 100000
open Go.RowKit
theorem sum_cl {w0 w : World} {k : Int} {kh kl : BitVec 64} {ib sb : Nat} {s : ST} {tl : Bytes} {lo : BitVec 64} {tv : Value} {c6 c7 c8 c9 c10 c11 : Nat} (hc : Cap6 w k kh kl ib c6 c7 c8 c9 c10 c11) (h : HLive w0 w ib sb kl s tl lo tv) : Calls Tryz.prog 206 #[.pointer (some ⟨c10, 0, none⟩), .pointer (some ⟨c9, 0, none⟩), .pointer (some ⟨c8, 0, none⟩)] w (GivesBytes (leb (endF kl s tl lo) 8) w) := by
 generalize hbb : leb (endF kl s tl lo) 8 = bb
 have HB := Lib.hid hbb
 clear hbb
 go_enter Tryz.func206, Tryz.ntmps206
 go_wp2_with fail
 refine rsq (by kernel_rfl) [(0, 1), (1, 1), (2, 1), (3, 0), (4, 0), (5, 1)] (by kernel_rfl) ?_
 have hS0 : Fr No w w.drew := (Fr.refl No w).drew
 iterate 3 refine tq _ rfl rfl (by intro w9 h9; have q10 := (hc.k10.no h9).c0; have q9 := (hc.k9.no h9).c0; have q8 := (hc.k8.no h9).c0; clear h9; go_simp; try with_reducible rfl) ?_; simp only [es1, es2, es3]
 refine wpSeq_next rfl rfl (fun K hK => ?_)
 go_wp2_with fail
 refine (Sum_h (h.no hS0)).mono ?_
 rintro e w2 ⟨rfl, hf2⟩
 have hs2 : Fr No w w2 := (hS0).no hf2
 refine hK.out _ _ (fun _ => hs2) ?_
 clear hK K
 refine wpSeq_next rfl rfl (fun K hK => ?_)
 go_wp2_with fail
 refine (eight_any _ _).mono ?_
 rintro e w3 ⟨v3, rfl, hO3, hf3⟩
 rw [HB.out] at hO3
 obtain ⟨a3, c3, rfl, hb3, _⟩ := hO3.bytes
 have hs3 : Fr No w w3 := (hs2).no hf3
 refine hK.out _ _ (fun _ => hs3) ?_
 clear hK K
 refine tp _ rfl rfl ?_; simp only [es1, es2, es3]
 refine wpSeq_done ?_
 go_wp2_with fail
 go_ret
 exact ⟨_, rfl, hO3.mono hs2.size, hs3⟩
theorem HS.sum {w0 w : World} {hb : Nat} {F : Nat → Prop} {k : Int} {kh kl : BitVec 64} {s : ST} {tl : Bytes} {lo : BitVec 64} (h : HS w0 w hb (F) k kh kl s tl lo) :
 Calls Tryz.prog 25 #[.pointer (some ⟨hb, 0, none⟩)] w (fun e w' => ∃ v, e = .returned (.tuple #[v, .int .i64 0]) ∧ Owns w' w.heap.size v (leb (endF kl s tl lo) 8) ∧ Fr No w w') := by
 obtain ⟨ib, sb, tv, c6, c7, c8, c9, c10, c11, hr, hc, hL, rfl⟩ := h
 exact hSum_of hr.c3 206 _ hr.c4 (calls_enter Tryz.func206 (by kernel_rfl) (by kernel_rfl)) (sum_cl hc hL)
end Go.Proofs.YtidlpihoafnobaaGreat.StX64
namespace Go.Proofs.YtidlpihoafnobaaGreat.StM64
set_option maxRecDepth 100000
open Go.RowKit
theorem sum_cl {w0 w : World} {k : Int} {kh kl : BitVec 64} {ib sb : Nat} {s : ST} {tl : Bytes} {lo : BitVec 64} {tv : Value} {c6 c7 c8 c9 c10 c11 : Nat} (hc : Cap6 w k kh kl ib c6 c7 c8 c9 c10 c11) (h : HLive w0 w ib sb (kl.setWidth 32) s tl lo tv) : Calls Tryz.prog 191 #[.pointer (some ⟨c10, 0, none⟩), .pointer (some ⟨c9, 0, none⟩), .pointer (some ⟨c8, 0, none⟩)] w (GivesBytes (leb (endLo s tl lo) 8 ++ leb (endHi s tl lo) 8) w) := by
 generalize hbb : leb (endLo s tl lo) 8 ++ leb (endHi s tl lo) 8 = bb
 have HB := Lib.hid hbb
 clear hbb
 go_enter Tryz.func191, Tryz.ntmps191
 go_wp2_with fail
 refine rsq (by kernel_rfl) [(0, 1), (1, 1), (2, 1), (3, 0), (4, 0), (5, 1)] (by kernel_rfl) ?_
 have hS0 : Fr No w w.drew := (Fr.refl No w).drew
 iterate 3 refine tq _ rfl rfl (by intro w9 h9; have q10 := (hc.k10.no h9).c0; have q9 := (hc.k9.no h9).c0; have q8 := (hc.k8.no h9).c0; clear h9; go_simp; try with_reducible rfl) ?_; simp only [es1, es2, es3]
 refine wpSeq_next rfl rfl (fun K hK => ?_)
 go_wp2_with fail
 refine (Sum_h (h.no hS0)).mono ?_
 rintro e w2 ⟨rfl, hf2⟩
 have hs2 : Fr No w w2 := (hS0).no hf2
 refine hK.out _ _ (fun _ => hs2) ?_
 clear hK K
 refine wpSeq_next rfl rfl (fun K hK => ?_)
 go_wp2_with fail
 refine (sixteen_any _ _ _).mono ?_
 rintro e w3 ⟨v3, rfl, hO3, hf3⟩
 rw [HB.out] at hO3
 obtain ⟨a3, c3, rfl, hb3, _⟩ := hO3.bytes
 have hs3 : Fr No w w3 := (hs2).no hf3
 refine hK.out _ _ (fun _ => hs3) ?_
 clear hK K
 refine tp _ rfl rfl ?_; simp only [es1, es2, es3]
 refine wpSeq_done ?_
 go_wp2_with fail
 go_ret
 exact ⟨_, rfl, hO3.mono hs2.size, hs3⟩
theorem HS.sum {w0 w : World} {hb : Nat} {F : Nat → Prop} {k : Int} {kh kl : BitVec 64} {s : ST} {tl : Bytes} {lo : BitVec 64} (h : HS w0 w hb (F) k kh kl s tl lo) :
 Calls Tryz.prog 25 #[.pointer (some ⟨hb, 0, none⟩)] w (fun e w' => ∃ v, e = .returned (.tuple #[v, .int .i64 0]) ∧ Owns w' w.heap.size v (leb (endLo s tl lo) 8 ++ leb (endHi s tl lo) 8) ∧ Fr No w w') := by
 obtain ⟨ib, sb, tv, c6, c7, c8, c9, c10, c11, hr, hc, hL, rfl⟩ := h
 exact hSum_of hr.c3 191 _ hr.c4 (calls_enter Tryz.func191 (by kernel_rfl) (by kernel_rfl)) (sum_cl hc hL)
end Go.Proofs.YtidlpihoafnobaaGreat.StM64
namespace Go.Proofs.YtidlpihoafnobaaGreat.StSip
set_option maxRecDepth 100000
open Go.Proofs.YtidlpihoafnobaaGreat.StG64
open Go.RowKit
set_option maxHeartbeats 1000000 in
theorem Sum_h {w0 w : World} {hb sb : Nat} {kd : Int} {kh kl : BitVec 64} {q : Nat} {s : ST} {tl : Bytes} {lo : BitVec 64} {tv : Value} (h : HLive w0 w hb sb kd kh kl q s tl lo tv) : Calls Tryz.prog 162 #[.pointer (some ⟨hb, 0, none⟩)] w (GivesNew (.agg #[.int .u64 (W64 ((endHi kd s tl lo))), .int .u64 (W64 ((endLo kd s tl lo)))]) w) := by
 have hf1 : Fr No w (w.alloc (.cells #[.int .u64 0, .int .u64 0] 24)) := (Fr.refl No w).alloc _
 have hT : Row2 (w.alloc (.cells #[.int .u64 0, .int .u64 0] 24)) w.heap.size 24 (.int .u64 0) (.int .u64 0) := row2_new w _ _ _
 have h1 := h.no hf1
 go_enter Tryz.func162, Tryz.ntmps162
 go_wp2_with (go_at_call 220; refine (made_h h1).mono ?_; rintro e w' ⟨rfl, rfl⟩)
 obtain ⟨pb, hpb⟩ : ∃ pb, pb = w.heap.size := ⟨_, rfl⟩
 have hpw : w.heap.size ≤ pb := by omega
 rw [← hpb] at hT ⊢
 clear hpb
 generalize w.alloc (.cells #[.int .u64 0, .int .u64 0] 24) = w1 at hf1 hT h1 ⊢
 have cc := h1.cell
 have cc0 := h1.cell0
 refine wp_region_seq (by kernel_rfl) (fun w' => Fr No w1 w') (fun i => decide (20 ≤ i)) [(0, 1), (1, 1), (2, 1), (3, 1), (4, 1), (5, 1), (6, 1), (7, 1), (9, 1), (10, 1), (11, 1), (12, 1), (14, 1), (15, 1), (16, 1), (17, 1), (8, 0), (13, 0), (18, 0), (19, 0), (20, 0)] (by kernel_rfl) (Fr.refl No w1).drew ?_
 have hv0 : Fr No w1 w1.drew := (Fr.refl No w1).drew
 iterate 16 refine tq _ rfl rfl (by intro w9 h9; have ccc := h9.cell (fun h => h) cc; have ccc0 := h9.cell (fun h => h) cc0; clear h9; go_simp; try with_reducible rfl) ?_; simp only [es1, es2, es3]
 refine wpSeq_next rfl rfl (fun K hK => ?_)
 go_wp2_with fail
 refine (State_any (h1.no hv0).on.st).mono ?_
 rintro e xhv1 ⟨rfl, hx⟩
 have hv1 := hv0.no hx
 clear hx
 refine hK.out _ _ (fun _ => hv1) ?_
 clear hK K
 refine wpSeq_next rfl rfl (fun K hK => ?_)
 go_wp2_with fail
 refine (StG64.Tail_any (h1.no hv1).on.st (h1.no hv1).on.ow (by have := h.tlen; omega)).mono ?_
 rintro e xhv2 ⟨vt, rfl, ho, hx⟩
 have hv2 := hv1.no hx
 obtain ⟨at_, ct, rfl, hbt, _⟩ := ho.bytes
 clear hx
 refine hK.out _ _ (fun _ => hv2) ?_
 clear hK K
 refine wpSeq_next rfl rfl (fun K hK => ?_)
 go_wp2_with fail
 refine (Long_any (h1.no hv2).on.st).mono ?_
 rintro e w' ⟨rfl, rfl⟩
 refine hK.out _ _ (fun _ => hv2) ?_
 clear hK K
 refine wpSeq_next rfl rfl (fun K hK => ?_)
 go_wp2_with fail
 refine (end_any kd s _ _ _ tl lo _ hbt).mono ?_
 rintro e xhv3 ⟨rfl, hx⟩
 have hv3 := hv2.no hx
 clear hx
 refine hK.out _ _ (fun _ => hv3) ?_
 clear hK K
 have hTx := hT.no hv3
 have cx := hTx.c0
 have fx := hTx.fz 0
 have cy := hTx.c1
 have fy := hTx.fz 1
 refine wpSeq_next rfl rfl (fun K hK => ?_)
 go_wp2_with fail
 refine hK.out _ _ (fun h => by simp at h) ?_
 clear hK K
 refine wpSeq_done ?_
 obtain ⟨z1, hz1⟩ : ∃ z, z = endHi kd s tl lo := ⟨_, rfl⟩
 obtain ⟨z2, hz2⟩ : ∃ z, z = endLo kd s tl lo := ⟨_, rfl⟩
 rw [← hz1, ← hz2]
 have HZ1 := Lib.hid hz1
 have HZ2 := Lib.hid hz2
 clear hz1 hz2
 have hF8 := hf1.no hv3
 have hF9 := fr_put2 xhv3 pb (.int .u64 (W64 (z1))) (.int .u64 (W64 (z2)))
 have hR9 := row_put2 hTx (.int .u64 (W64 (z1))) (.int .u64 (W64 (z2)))
 clear hTx cx fx cy fy hT h1 hf1 hv0 hv1 hv2 hv3
 generalize (xhv3.setCell ⟨pb, 0, none⟩ (.int .u64 (W64 (z1)))).setCell ⟨pb, 1, none⟩ (.int .u64 (W64 (z2))) = w9 at hF9 hR9 ⊢
 have cd0 := hR9.c0
 have cd1 := hR9.c1
 go_wp2_with fail
 refine bodyPost_ret (v := .agg #[.int .u64 (W64 (z1)), .int .u64 (W64 (z2))]) (by simp [results, Tryz.results162, go_sem, cd0, cd1]) rfl ?_
 exact ⟨by rw [HZ1.out, HZ2.out], hF8.trans hF9 (fun x hx => .inr (by omega))⟩
end Go.Proofs.YtidlpihoafnobaaGreat.StSip
namespace Go.Proofs.YtidlpihoafnobaaGreat.StSip
open Go.Proofs.YtidlpihoafnobaaGreat.StG64
set_option maxRecDepth 100000
open Go.RowKit
theorem sum_cl {w0 w : World} {k : Int} {kh kl : BitVec 64} {ib sb : Nat} {s : ST} {tl : Bytes} {lo : BitVec 64} {tv : Value} {c6 c7 c8 c9 c10 c11 : Nat} {q c5 sz : Nat} (hc : Cap6 w k kh kl ib c6 c7 c8 c9 c10 c11 c5 sz) (h : HLive w0 w ib sb k kh kl q s tl lo tv) (hsz : sz ≤ 16) : Calls Tryz.prog 218 #[.pointer (some ⟨c10, 0, none⟩), .pointer (some ⟨c9, 0, none⟩), .pointer (some ⟨c8, 0, none⟩)] w (GivesBytes ((leb (endLo k s tl lo) 8 ++ leb (endHi k s tl lo) 8).take sz) w) := by
 generalize hbb : (leb (endLo k s tl lo) 8 ++ leb (endHi k s tl lo) 8).take sz = bb
 have HB := Lib.hid hbb
 clear hbb
 go_enter Tryz.func218, Tryz.ntmps218
 go_wp2_with fail
 refine rsq (by kernel_rfl) [(0, 1), (1, 1), (2, 1), (3, 0), (4, 0), (5, 1)] (by kernel_rfl) ?_
 have hS0 : Fr No w w.drew := (Fr.refl No w).drew
 iterate 3 refine tq _ rfl rfl (by intro w9 h9; have q10 := (hc.1.k10.no h9).c0; have q9 := (hc.1.k9.no h9).c0; have q8 := (hc.1.k8.no h9).c0; clear h9; go_simp; try with_reducible rfl) ?_; simp only [es1, es2, es3]
 refine wpSeq_next rfl rfl (fun K hK => ?_)
 go_wp2_with fail
 refine (Sum_h (h.no hS0)).mono ?_
 rintro e w2 ⟨rfl, hf2⟩
 have hs2 : Fr No w w2 := (hS0).no hf2
 refine hK.out _ _ (fun _ => hs2) ?_
 clear hK K
 refine wpSeq_next rfl rfl (fun K hK => ?_)
 go_wp2_with fail
 refine (sipTell (hc.2.no hs2) hsz _ _).mono ?_
 rintro e w3 ⟨v3, rfl, hO3, hf3⟩
 rw [HB.out] at hO3
 obtain ⟨a3, c3, rfl, hb3, _⟩ := hO3.bytes
 have hs3 : Fr No w w3 := (hs2).no hf3
 refine hK.out _ _ (fun _ => hs3) ?_
 clear hK K
 refine tp _ rfl rfl ?_; simp only [es1, es2, es3]
 refine wpSeq_done ?_
 go_wp2_with fail
 go_ret
 exact ⟨_, rfl, hO3.mono hs2.size, hs3⟩
theorem HS.sum {w0 w : World} {hb : Nat} {F : Nat → Prop} {k : Int} {kh kl : BitVec 64} {s : ST} {tl : Bytes} {lo : BitVec 64} {sz : Nat} (h : HS w0 w hb (F) k kh kl s tl lo sz) (hsz : sz ≤ 16) :
 Calls Tryz.prog 25 #[.pointer (some ⟨hb, 0, none⟩)] w (fun e w' => ∃ v, e = .returned (.tuple #[v, .int .i64 0]) ∧ Owns w' w.heap.size v ((leb (endLo k s tl lo) 8 ++ leb (endHi k s tl lo) 8).take sz) ∧ Fr No w w') := by
 obtain ⟨ib, sb, tv, c6, c7, c8, c9, c10, c11, q, c5, hr, hc, hL, rfl⟩ := h
 exact hSum_of hr.c3 218 _ hr.c4 (calls_enter Tryz.func218 (by kernel_rfl) (by kernel_rfl)) (sum_cl hc hL hsz)
end Go.Proofs.YtidlpihoafnobaaGreat.StSip
namespace Go.Proofs.YtidlpihoafnobaaGreat.StM86
set_option maxRecDepth 100000
open Go.Proofs.YtidlpihoafnobaaGreat.StG32
open Go.RowKit
set_option maxHeartbeats 1000000 in
theorem Sum_h {w0 w : World} {hb sb : Nat} {sd : BitVec 32} {s : ST} {tl : Bytes} {lo : BitVec 64} {tv : Value} (h : HLive w0 w hb sb sd s tl lo tv) : Calls Tryz.prog 67 #[.pointer (some ⟨hb, 0, none⟩)] w (GivesNew (.agg #[.int .u64 (W64 ((endHi s tl lo))), .int .u64 (W64 ((endLo s tl lo)))]) w) := by
 have hf1 : Fr No w (w.alloc (.cells #[.int .u64 0, .int .u64 0] 24)) := (Fr.refl No w).alloc _
 have hT : Row2 (w.alloc (.cells #[.int .u64 0, .int .u64 0] 24)) w.heap.size 24 (.int .u64 0) (.int .u64 0) := row2_new w _ _ _
 have h1 := h.no hf1
 go_enter Tryz.func67, Tryz.ntmps67
 go_wp2_with (go_at_call 123; refine (made_h h1).mono ?_; rintro e w' ⟨rfl, rfl⟩)
 obtain ⟨pb, hpb⟩ : ∃ pb, pb = w.heap.size := ⟨_, rfl⟩
 have hpw : w.heap.size ≤ pb := by omega
 rw [← hpb] at hT ⊢
 clear hpb
 generalize w.alloc (.cells #[.int .u64 0, .int .u64 0] 24) = w1 at hf1 hT h1 ⊢
 have cc := h1.cell
 refine wp_region_seq (by kernel_rfl) (fun w' => Fr No w1 w') (fun i => decide (16 ≤ i)) [(0, 1), (1, 1), (2, 1), (3, 1), (5, 1), (6, 1), (7, 1), (8, 1), (10, 1), (11, 1), (12, 1), (13, 1), (4, 0), (9, 0), (14, 0), (15, 0), (16, 0)] (by kernel_rfl) (Fr.refl No w1).drew ?_
 have hv0 : Fr No w1 w1.drew := (Fr.refl No w1).drew
 iterate 12 refine tq _ rfl rfl (by intro w9 h9; have ccc := h9.cell (fun h => h) cc; clear h9; go_simp; try with_reducible rfl) ?_; simp only [es1, es2, es3]
 refine wpSeq_next rfl rfl (fun K hK => ?_)
 go_wp2_with fail
 refine (State_any (h1.no hv0).on.st).mono ?_
 rintro e xhv1 ⟨rfl, hx⟩
 have hv1 := hv0.no hx
 clear hx
 refine hK.out _ _ (fun _ => hv1) ?_
 clear hK K
 refine wpSeq_next rfl rfl (fun K hK => ?_)
 go_wp2_with fail
 refine (StG32.Tail_any (h1.no hv1).on.st (h1.no hv1).on.ow (by have := h.tlen; omega)).mono ?_
 rintro e xhv2 ⟨vt, rfl, ho, hx⟩
 have hv2 := hv1.no hx
 obtain ⟨at_, ct, rfl, hbt, _⟩ := ho.bytes
 clear hx
 refine hK.out _ _ (fun _ => hv2) ?_
 clear hK K
 refine wpSeq_next rfl rfl (fun K hK => ?_)
 go_wp2_with fail
 refine (Long_any (h1.no hv2).on.st).mono ?_
 rintro e w' ⟨rfl, rfl⟩
 refine hK.out _ _ (fun _ => hv2) ?_
 clear hK K
 refine wpSeq_next rfl rfl (fun K hK => ?_)
 go_wp2_with fail
 refine (end_any s _ _ _ tl lo _ hbt).mono ?_
 rintro e xhv3 ⟨rfl, hx⟩
 have hv3 := hv2.no hx
 clear hx
 refine hK.out _ _ (fun _ => hv3) ?_
 clear hK K
 have hTx := hT.no hv3
 have cx := hTx.c0
 have fx := hTx.fz 0
 have cy := hTx.c1
 have fy := hTx.fz 1
 refine wpSeq_next rfl rfl (fun K hK => ?_)
 go_wp2_with fail
 refine hK.out _ _ (fun h => by simp at h) ?_
 clear hK K
 refine wpSeq_done ?_
 obtain ⟨z1, hz1⟩ : ∃ z, z = endHi s tl lo := ⟨_, rfl⟩
 obtain ⟨z2, hz2⟩ : ∃ z, z = endLo s tl lo := ⟨_, rfl⟩
 rw [← hz1, ← hz2]
 have HZ1 := Lib.hid hz1
 have HZ2 := Lib.hid hz2
 clear hz1 hz2
 have hF8 := hf1.no hv3
 have hF9 := fr_put2 xhv3 pb (.int .u64 (W64 (z1))) (.int .u64 (W64 (z2)))
 have hR9 := row_put2 hTx (.int .u64 (W64 (z1))) (.int .u64 (W64 (z2)))
 clear hTx cx fx cy fy hT h1 hf1 hv0 hv1 hv2 hv3
 generalize (xhv3.setCell ⟨pb, 0, none⟩ (.int .u64 (W64 (z1)))).setCell ⟨pb, 1, none⟩ (.int .u64 (W64 (z2))) = w9 at hF9 hR9 ⊢
 have cd0 := hR9.c0
 have cd1 := hR9.c1
 go_wp2_with fail
 refine bodyPost_ret (v := .agg #[.int .u64 (W64 (z1)), .int .u64 (W64 (z2))]) (by simp [results, Tryz.results67, go_sem, cd0, cd1]) rfl ?_
 exact ⟨by rw [HZ1.out, HZ2.out], hF8.trans hF9 (fun x hx => .inr (by omega))⟩
end Go.Proofs.YtidlpihoafnobaaGreat.StM86
namespace Go.Proofs.YtidlpihoafnobaaGreat.StM86
open Go.Proofs.YtidlpihoafnobaaGreat.StG32
set_option maxRecDepth 100000
open Go.RowKit
theorem sum_cl {w0 w : World} {k : Int} {kh kl : BitVec 64} {ib sb : Nat} {s : ST} {tl : Bytes} {lo : BitVec 64} {tv : Value} {c6 c7 c8 c9 c10 c11 : Nat} (hc : Cap6 w k kh kl ib c6 c7 c8 c9 c10 c11) (h : HLive w0 w ib sb (kl.setWidth 32) s tl lo tv) : Calls Tryz.prog 178 #[.pointer (some ⟨c10, 0, none⟩), .pointer (some ⟨c9, 0, none⟩), .pointer (some ⟨c8, 0, none⟩)] w (GivesBytes (leb (endLo s tl lo) 8 ++ leb (endHi s tl lo) 8) w) := by
 generalize hbb : leb (endLo s tl lo) 8 ++ leb (endHi s tl lo) 8 = bb
 have HB := Lib.hid hbb
 clear hbb
 go_enter Tryz.func178, Tryz.ntmps178
 go_wp2_with fail
 refine rsq (by kernel_rfl) [(0, 1), (1, 1), (2, 1), (3, 0), (4, 0), (5, 1)] (by kernel_rfl) ?_
 have hS0 : Fr No w w.drew := (Fr.refl No w).drew
 iterate 3 refine tq _ rfl rfl (by intro w9 h9; have q10 := (hc.k10.no h9).c0; have q9 := (hc.k9.no h9).c0; have q8 := (hc.k8.no h9).c0; clear h9; go_simp; try with_reducible rfl) ?_; simp only [es1, es2, es3]
 refine wpSeq_next rfl rfl (fun K hK => ?_)
 go_wp2_with fail
 refine (Sum_h (h.no hS0)).mono ?_
 rintro e w2 ⟨rfl, hf2⟩
 have hs2 : Fr No w w2 := (hS0).no hf2
 refine hK.out _ _ (fun _ => hs2) ?_
 clear hK K
 refine wpSeq_next rfl rfl (fun K hK => ?_)
 go_wp2_with fail
 refine (sixteen_any _ _ _).mono ?_
 rintro e w3 ⟨v3, rfl, hO3, hf3⟩
 rw [HB.out] at hO3
 obtain ⟨a3, c3, rfl, hb3, _⟩ := hO3.bytes
 have hs3 : Fr No w w3 := (hs2).no hf3
 refine hK.out _ _ (fun _ => hs3) ?_
 clear hK K
 refine tp _ rfl rfl ?_; simp only [es1, es2, es3]
 refine wpSeq_done ?_
 go_wp2_with fail
 go_ret
 exact ⟨_, rfl, hO3.mono hs2.size, hs3⟩
theorem HS.sum {w0 w : World} {hb : Nat} {F : Nat → Prop} {k : Int} {kh kl : BitVec 64} {s : ST} {tl : Bytes} {lo : BitVec 64} (h : HS w0 w hb (F) k kh kl s tl lo) :
 Calls Tryz.prog 25 #[.pointer (some ⟨hb, 0, none⟩)] w (fun e w' => ∃ v, e = .returned (.tuple #[v, .int .i64 0]) ∧ Owns w' w.heap.size v (leb (endLo s tl lo) 8 ++ leb (endHi s tl lo) 8) ∧ Fr No w w') := by
 obtain ⟨ib, sb, tv, c6, c7, c8, c9, c10, c11, hr, hc, hL, rfl⟩ := h
 exact hSum_of hr.c3 178 _ hr.c4 (calls_enter Tryz.func178 (by kernel_rfl) (by kernel_rfl)) (sum_cl hc hL)
end Go.Proofs.YtidlpihoafnobaaGreat.StM86
namespace Go.Proofs.YtidlpihoafnobaaGreat.StX32
set_option maxRecDepth 100000
open Go.Proofs.YtidlpihoafnobaaGreat.StG32
open Go.RowKit
set_option maxHeartbeats 800000 in
theorem Sum_h {w0 w : World} {hb sb : Nat} {sd : BitVec 32} {s : ST} {tl : Bytes} {lo : BitVec 64} {tv : Value} (h : HLive w0 w hb sb sd s tl lo tv) : Calls Tryz.prog 78 #[.pointer (some ⟨hb, 0, none⟩)] w (GivesNew (.int .u32 (W32 (endF sd s tl lo))) w) := by
 go_enter Tryz.func78, Tryz.ntmps78
 go_wp2_with (go_at_call 147; refine (made_h h).mono ?_; rintro e w' ⟨rfl, rfl⟩)
 obtain ⟨w1, rfl⟩ : ∃ w1 : World, w1 = w := ⟨_, rfl⟩
 have hf1 : Fr No w1 w1 := Fr.refl No w1
 have h1 := h
 have cc := h1.cell
 have cc0 := h1.cell0
 refine rsq (by kernel_rfl) [(0, 1), (1, 1), (2, 1), (3, 1), (4, 1), (5, 1), (6, 1), (7, 1), (9, 1), (10, 1), (11, 1), (12, 1), (14, 1), (15, 1), (16, 1), (17, 1), (8, 0), (13, 0), (18, 0), (19, 0), (20, 1)] (by kernel_rfl) ?_
 have hv0 : Fr No w1 w1.drew := (Fr.refl No w1).drew
 iterate 16 refine tq _ rfl rfl (by intro w9 h9; have ccc := h9.cell (fun h => h) cc; have ccc0 := h9.cell (fun h => h) cc0; clear h9; go_simp; try with_reducible rfl) ?_; simp only [es1, es2, es3]
 refine wpSeq_next rfl rfl (fun K hK => ?_)
 go_wp2_with fail
 refine (State_any (h1.no hv0).on.st).mono ?_
 rintro e xhv1 ⟨rfl, hx⟩
 have hv1 := hv0.no hx
 clear hx
 refine hK.out _ _ (fun _ => hv1) ?_
 clear hK K
 refine wpSeq_next rfl rfl (fun K hK => ?_)
 go_wp2_with fail
 refine (StG32.Tail_any (h1.no hv1).on.st (h1.no hv1).on.ow (by have := h.tlen; omega)).mono ?_
 rintro e xhv2 ⟨vt, rfl, ho, hx⟩
 have hv2 := hv1.no hx
 obtain ⟨at_, ct, rfl, hbt, _⟩ := ho.bytes
 clear hx
 refine hK.out _ _ (fun _ => hv2) ?_
 clear hK K
 refine wpSeq_next rfl rfl (fun K hK => ?_)
 go_wp2_with fail
 refine (Long_any (h1.no hv2).on.st).mono ?_
 rintro e w' ⟨rfl, rfl⟩
 refine hK.out _ _ (fun _ => hv2) ?_
 clear hK K
 refine wpSeq_next rfl rfl (fun K hK => ?_)
 go_wp2_with fail
 refine (end_any sd s _ _ _ tl lo _ hbt).mono ?_
 rintro e xhv3 ⟨rfl, hx⟩
 have hv3 := hv2.no hx
 clear hx
 refine hK.out _ _ (fun _ => hv3) ?_
 clear hK K
 refine tp _ rfl rfl ?_; simp only [es1, es2, es3]
 refine wpSeq_done ?_
 go_wp2_with fail
 go_ret
 exact ⟨rfl, hf1.no hv3⟩
end Go.Proofs.YtidlpihoafnobaaGreat.StX32
namespace Go.Proofs.YtidlpihoafnobaaGreat.StX32
open Go.Proofs.YtidlpihoafnobaaGreat.StG32
set_option maxRecDepth 100000
open Go.RowKit
theorem sum_cl {w0 w : World} {k : Int} {kh kl : BitVec 64} {ib sb : Nat} {s : ST} {tl : Bytes} {lo : BitVec 64} {tv : Value} {c6 c7 c8 c9 c10 c11 : Nat} (hc : Cap6 w k kh kl ib c6 c7 c8 c9 c10 c11) (h : HLive w0 w ib sb (kl.setWidth 32) s tl lo tv) : Calls Tryz.prog 199 #[.pointer (some ⟨c10, 0, none⟩), .pointer (some ⟨c9, 0, none⟩), .pointer (some ⟨c8, 0, none⟩)] w (GivesBytes (leb ((endF (kl.setWidth 32) s tl lo).setWidth 64) 4) w) := by
 generalize hbb : leb ((endF (kl.setWidth 32) s tl lo).setWidth 64) 4 = bb
 have HB := Lib.hid hbb
 clear hbb
 go_enter Tryz.func199, Tryz.ntmps199
 go_wp2_with fail
 refine rsq (by kernel_rfl) [(0, 1), (1, 1), (2, 1), (3, 0), (4, 0), (5, 1)] (by kernel_rfl) ?_
 have hS0 : Fr No w w.drew := (Fr.refl No w).drew
 iterate 3 refine tq _ rfl rfl (by intro w9 h9; have q10 := (hc.k10.no h9).c0; have q9 := (hc.k9.no h9).c0; have q8 := (hc.k8.no h9).c0; clear h9; go_simp; try with_reducible rfl) ?_; simp only [es1, es2, es3]
 refine wpSeq_next rfl rfl (fun K hK => ?_)
 go_wp2_with fail
 refine (Sum_h (h.no hS0)).mono ?_
 rintro e w2 ⟨rfl, hf2⟩
 have hs2 : Fr No w w2 := (hS0).no hf2
 refine hK.out _ _ (fun _ => hs2) ?_
 clear hK K
 refine wpSeq_next rfl rfl (fun K hK => ?_)
 go_wp2_with fail
 refine (four_any _ _).mono ?_
 rintro e w3 ⟨v3, rfl, hO3, hf3⟩
 rw [HB.out] at hO3
 obtain ⟨a3, c3, rfl, hb3, _⟩ := hO3.bytes
 have hs3 : Fr No w w3 := (hs2).no hf3
 refine hK.out _ _ (fun _ => hs3) ?_
 clear hK K
 refine tp _ rfl rfl ?_; simp only [es1, es2, es3]
 refine wpSeq_done ?_
 go_wp2_with fail
 go_ret
 exact ⟨_, rfl, hO3.mono hs2.size, hs3⟩
theorem HS.sum {w0 w : World} {hb : Nat} {F : Nat → Prop} {k : Int} {kh kl : BitVec 64} {s : ST} {tl : Bytes} {lo : BitVec 64} (h : HS w0 w hb (F) k kh kl s tl lo) :
 Calls Tryz.prog 25 #[.pointer (some ⟨hb, 0, none⟩)] w (fun e w' => ∃ v, e = .returned (.tuple #[v, .int .i64 0]) ∧ Owns w' w.heap.size v (leb ((endF (kl.setWidth 32) s tl lo).setWidth 64) 4) ∧ Fr No w w') := by
 obtain ⟨ib, sb, tv, c6, c7, c8, c9, c10, c11, hr, hc, hL, rfl⟩ := h
 exact hSum_of hr.c3 199 _ hr.c4 (calls_enter Tryz.func199 (by kernel_rfl) (by kernel_rfl)) (sum_cl hc hL)
end Go.Proofs.YtidlpihoafnobaaGreat.StX32
namespace Go.Proofs.YtidlpihoafnobaaGreat.StM32
set_option maxRecDepth 100000
open Go.RowKit
set_option maxHeartbeats 800000 in
theorem Sum_h {w0 w : World} {hb sb : Nat} {sd : BitVec 32} {s : ST} {tl : Bytes} {lo : BitVec 64} {tv : Value} (h : HLive w0 w hb sb sd s tl lo tv) : Calls Tryz.prog 61 #[.pointer (some ⟨hb, 0, none⟩)] w (GivesNew (.int .u32 (W32 (endF s tl lo))) w) := by
 go_enter Tryz.func61, Tryz.ntmps61
 go_wp2_with (go_at_call 111; refine (made_h h).mono ?_; rintro e w' ⟨rfl, rfl⟩)
 have hf1 : Fr No w (w.alloc (.cells #[] 138)) := (Fr.refl No w).alloc _
 have h1 := h.no hf1
 generalize w.alloc (.cells #[] 138) = w1 at hf1 h1 ⊢
 have cc := h1.cell
 refine rsq (by kernel_rfl) [(0, 1), (1, 1), (2, 1), (3, 1), (4, 1), (6, 1), (7, 1), (8, 1), (9, 1), (11, 1), (12, 1), (13, 1), (14, 1), (5, 0), (10, 0), (15, 0), (16, 0), (17, 1)] (by kernel_rfl) ?_
 have hv0 : Fr No w1 w1.drew := (Fr.refl No w1).drew
 iterate 13 refine tq _ rfl rfl (by intro w9 h9; have ccc := h9.cell (fun h => h) cc; clear h9; go_simp; try with_reducible rfl) ?_; simp only [es1, es2, es3]
 refine wpSeq_next rfl rfl (fun K hK => ?_)
 go_wp2_with fail
 refine (State_any (h1.no hv0).on.st).mono ?_
 rintro e xhv1 ⟨rfl, hx⟩
 have hv1 := hv0.no hx
 clear hx
 refine hK.out _ _ (fun _ => hv1) ?_
 clear hK K
 refine wpSeq_next rfl rfl (fun K hK => ?_)
 go_wp2_with fail
 refine (Tail_any (h1.no hv1).on.st (h1.no hv1).on.ow (by have := h.tlen; omega)).mono ?_
 rintro e xhv2 ⟨vt, rfl, ho, hx⟩
 have hv2 := hv1.no hx
 obtain ⟨at_, ct, rfl, hbt, _⟩ := ho.bytes
 clear hx
 refine hK.out _ _ (fun _ => hv2) ?_
 clear hK K
 refine wpSeq_next rfl rfl (fun K hK => ?_)
 go_wp2_with fail
 refine (Long_any (h1.no hv2).on.st).mono ?_
 rintro e w' ⟨rfl, rfl⟩
 refine hK.out _ _ (fun _ => hv2) ?_
 clear hK K
 refine wpSeq_next rfl rfl (fun K hK => ?_)
 go_wp2_with fail
 refine (end_any s _ _ _ tl lo _ hbt h.tlen).mono ?_
 rintro e xhv3 ⟨rfl, hx⟩
 have hv3 := hv2.no hx
 clear hx
 refine hK.out _ _ (fun _ => hv3) ?_
 clear hK K
 refine tp _ rfl rfl ?_; simp only [es1, es2, es3]
 refine wpSeq_done ?_
 go_wp2_with fail
 go_ret
 exact ⟨rfl, hf1.no hv3⟩
end Go.Proofs.YtidlpihoafnobaaGreat.StM32
namespace Go.Proofs.YtidlpihoafnobaaGreat.StM32
set_option maxRecDepth 100000
open Go.RowKit
theorem sum_cl {w0 w : World} {k : Int} {kh kl : BitVec 64} {ib sb : Nat} {s : ST} {tl : Bytes} {lo : BitVec 64} {tv : Value} {c6 c7 c8 c9 c10 c11 : Nat} (hc : Cap6 w k kh kl ib c6 c7 c8 c9 c10 c11) (h : HLive w0 w ib sb (kl.setWidth 32) s tl lo tv) : Calls Tryz.prog 169 #[.pointer (some ⟨c10, 0, none⟩), .pointer (some ⟨c9, 0, none⟩), .pointer (some ⟨c8, 0, none⟩)] w (GivesBytes (leb ((endF s tl lo).setWidth 64) 4) w) := by
 generalize hbb : leb ((endF s tl lo).setWidth 64) 4 = bb
 have HB := Lib.hid hbb
 clear hbb
 go_enter Tryz.func169, Tryz.ntmps169
 go_wp2_with fail
 refine rsq (by kernel_rfl) [(0, 1), (1, 1), (2, 1), (3, 0), (4, 0), (5, 1)] (by kernel_rfl) ?_
 have hS0 : Fr No w w.drew := (Fr.refl No w).drew
 iterate 3 refine tq _ rfl rfl (by intro w9 h9; have q10 := (hc.k10.no h9).c0; have q9 := (hc.k9.no h9).c0; have q8 := (hc.k8.no h9).c0; clear h9; go_simp; try with_reducible rfl) ?_; simp only [es1, es2, es3]
 refine wpSeq_next rfl rfl (fun K hK => ?_)
 go_wp2_with fail
 refine (Sum_h (h.no hS0)).mono ?_
 rintro e w2 ⟨rfl, hf2⟩
 have hs2 : Fr No w w2 := (hS0).no hf2
 refine hK.out _ _ (fun _ => hs2) ?_
 clear hK K
 refine wpSeq_next rfl rfl (fun K hK => ?_)
 go_wp2_with fail
 refine (four_any _ _).mono ?_
 rintro e w3 ⟨v3, rfl, hO3, hf3⟩
 rw [HB.out] at hO3
 obtain ⟨a3, c3, rfl, hb3, _⟩ := hO3.bytes
 have hs3 : Fr No w w3 := (hs2).no hf3
 refine hK.out _ _ (fun _ => hs3) ?_
 clear hK K
 refine tp _ rfl rfl ?_; simp only [es1, es2, es3]
 refine wpSeq_done ?_
 go_wp2_with fail
 go_ret
 exact ⟨_, rfl, hO3.mono hs2.size, hs3⟩
theorem HS.sum {w0 w : World} {hb : Nat} {F : Nat → Prop} {k : Int} {kh kl : BitVec 64} {s : ST} {tl : Bytes} {lo : BitVec 64} (h : HS w0 w hb (F) k kh kl s tl lo) :
 Calls Tryz.prog 25 #[.pointer (some ⟨hb, 0, none⟩)] w (fun e w' => ∃ v, e = .returned (.tuple #[v, .int .i64 0]) ∧ Owns w' w.heap.size v (leb ((endF s tl lo).setWidth 64) 4) ∧ Fr No w w') := by
 obtain ⟨ib, sb, tv, c6, c7, c8, c9, c10, c11, hr, hc, hL, rfl⟩ := h
 exact hSum_of hr.c3 169 _ hr.c4 (calls_enter Tryz.func169 (by kernel_rfl) (by kernel_rfl)) (sum_cl hc hL)
end Go.Proofs.YtidlpihoafnobaaGreat.StM32
namespace Go.Proofs.YtidlpihoafnobaaGreat
set_option maxRecDepth 100000
open Go.RowKit
theorem HSAny.sum {w0 w : World} {hb : Nat} {F : Nat → Prop} {k : Int} {kh kl : BitVec 64} {s : HSt} {tl : Bytes} {lo : BitVec 64} (h : HSAny w0 w hb F k kh kl s tl lo)  :
 Calls Tryz.prog 25 #[.pointer (some ⟨hb, 0, none⟩)] w (fun e w' => ∃ v, e = .returned (.tuple #[v, .int .i64 0]) ∧ Owns w' w.heap.size v (endS k kh kl s tl lo) ∧ Fr No w w') := by
 cases s with
 | m32 s =>
  exact h.2.sum
 | m86 s =>
  exact h.2.sum
 | m64 s =>
  exact h.2.sum
 | x32 s =>
  exact h.2.sum
 | x64 s =>
  exact h.2.sum
 | sip s =>
  exact h.2.sum (size_le k)
theorem HDone.sum {w0 w : World} {hb : Nat} {F : Nat → Prop} {k : Int} {kh kl : BitVec 64} {d : Bytes} (h : HDone w0 w hb F k kh kl d) : Calls Tryz.prog 25 #[.pointer (some ⟨hb, 0, none⟩)] w (fun e w' => ∃ v, e = .returned (.tuple #[v, .int .i64 0]) ∧ Owns w' w.heap.size v (oneS k kh kl d) ∧ Fr No w w') := HSAny.sum h
end Go.Proofs.YtidlpihoafnobaaGreat
