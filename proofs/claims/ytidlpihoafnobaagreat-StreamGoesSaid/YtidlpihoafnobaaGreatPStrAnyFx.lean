/- RestG64 HashX64 StrHX64 HashSip StrHSip HashX32 StrHX32 StrHM64 StrPlain StrAny -/
import Derived.Deep.Cut
import Derived.Test.YtidlpihoafnobaaGreatPStrHM86
set_option linter.unusedVariables false
set_option linter.unusedSimpArgs false
namespace Go.Proofs.YtidlpihoafnobaaGreat.StG64
set_option maxRecDepth 100000
open Go.RowKit
def Clones (size : Int) (f s : ST) (q : QT) (tl : Bytes) (lo : BitVec 64) (w : World) (e : Ending) (w' : World) : Prop :=
 ∃ sb tv, e = .returned (.pointer (some ⟨sb, 0, none⟩)) ∧ w.heap.size ≤ sb ∧ StreamAt w' sb size f s q tv lo ∧ Owns w' w.heap.size tv tl ∧ Fr No w w'
set_option maxHeartbeats 1000000 in
theorem Clone_yes {w : World} {sb : Nat} {size : Int} {f s : ST} {q : QT} {tv : Value} {lo : BitVec 64} {base : Nat} {tl : Bytes} (hst : StreamAt w sb size f s q tv lo) (ho : Owns w base tv tl) (hl : tl.length ≤ 1099511627776) : Calls Tryz.prog 213 #[.pointer (some ⟨sb, 0, none⟩)] w (Clones size f s q tl lo w) := by
 obtain ⟨ta, tc, rfl, hb, _⟩ := ho.bytes
 have cz : w.cell? ⟨sb, 0, none⟩ = some (.int .i64 size) := hst.cell 0 rfl
 have cf0 : w.cell? ⟨sb, 1, none⟩ = some (cS f 0) := hst.cell 1 rfl
 have cf1 : w.cell? ⟨sb, 2, none⟩ = some (cS f 1) := hst.cell 2 rfl
 have cf2 : w.cell? ⟨sb, 3, none⟩ = some (cS f 2) := hst.cell 3 rfl
 have cf3 : w.cell? ⟨sb, 4, none⟩ = some (cS f 3) := hst.cell 4 rfl
 have cn0 : w.cell? ⟨sb, 5, none⟩ = some (cS s 0) := hst.cell 5 rfl
 have cn1 : w.cell? ⟨sb, 6, none⟩ = some (cS s 1) := hst.cell 6 rfl
 have cn2 : w.cell? ⟨sb, 7, none⟩ = some (cS s 2) := hst.cell 7 rfl
 have cn3 : w.cell? ⟨sb, 8, none⟩ = some (cS s 3) := hst.cell 8 rfl
 have cst : w.cell? ⟨sb, 9, none⟩ = some ((.func (.func q.1) #[] q.2)) := hst.cell 9 rfl
 have ctl : w.cell? ⟨sb, 10, none⟩ = some (.slice ta tl.length tc) := hst.cell 10 rfl
 have clo : w.cell? ⟨sb, 11, none⟩ = some (.int .u64 (W64 lo)) := hst.cell 11 rfl
 have hmade := hst
 have hN : StreamAt (w.alloc (.cells (stCells size f s q (.slice ta tl.length tc) lo).toArray 245)) w.heap.size size f s q (.slice ta tl.length tc) lo := heap_alloc_new w _
 have hF1 : Fr No w (w.alloc (.cells (stCells size f s q (.slice ta tl.length tc) lo).toArray 245)) := (Fr.refl No w).alloc _
 have hlt := hst.lt
 go_enter Tryz.func213, Tryz.ntmps213
 go_wp2_with (go_at_call 234; refine (made_any hmade).mono ?_; rintro e w' ⟨rfl, rfl⟩)
 have ctl1 := (hst.fr hF1 (fun h => h)).cell 10 rfl
 have hb1 := hb.no hF1
 simp only [stCells, fvS] at ctl1 hN hF1 hb1
 go_wp2_with fail
 refine (Clone_any _ _ _ tl _ hb1 (by omega)).mono ?_
 rintro e w2 ⟨v2, rfl, ho2, hf2⟩
 obtain ⟨a2, c2, rfl, _, _⟩ := ho2.bytes
 have hN2 := StreamAt.fr hN hf2 (fun h => h)
 have ctl2 := hN2.cell 10 rfl
 have fz2 := hN2.frozen 10
 go_wp2_with fail
 go_ret
 exact ⟨w.heap.size, _, rfl, Nat.le_refl _, hN2.put 10 _ rfl, (ho2.fr ((Fr.refl (fun x => x = w.heap.size) w2).setCell (p := ⟨w.heap.size, 10, none⟩) (.inl rfl) _) (fun x hx e => hN2.apart ho2 (by rw [hx, e]))).mono hF1.size, (hF1.no hf2).trans ((Fr.refl (fun x => x = w.heap.size) w2).setCell (p := ⟨w.heap.size, 10, none⟩) (.inl rfl) _) (fun x hx => .inr (by omega))⟩
end Go.Proofs.YtidlpihoafnobaaGreat.StG64
namespace Go.Proofs.YtidlpihoafnobaaGreat.StX64
set_option maxRecDepth 100000
open Go.Proofs.YtidlpihoafnobaaGreat.StG64
open Go.RowKit
def HClones (w0 : World) (hb sb : Nat) (sd : BitVec 64) (s : ST) (tl : Bytes) (lo : BitVec 64) (tv : Value) (w : World) (e : Ending) (w' : World) : Prop :=
 ∃ hb' sb' tv', e = .returned (.pointer (some ⟨hb', 0, none⟩)) ∧ HLive w0 w' hb' sb' sd s tl lo tv' ∧ Fr No w w' ∧ ∀ x, HFoot hb' sb' tv' x → w.heap.size ≤ x
set_option maxHeartbeats 400000 in
theorem Clone_h {w0 w : World} {hb sb : Nat} {sd : BitVec 64} {s : ST} {tl : Bytes} {lo : BitVec 64} {tv : Value} (h : HLive w0 w hb sb sd s tl lo tv) : Calls Tryz.prog 155 #[.pointer (some ⟨hb, 0, none⟩)] w (HClones w0 hb sb sd s tl lo tv w) := by
 have cc := h.cell
 have cc0 := h.cell0
 have hlt := h.lt hb (.inl rfl)
 go_enter Tryz.func155, Tryz.ntmps155
 go_wp2_with (go_at_call 209; refine (made_h h).mono ?_; rintro e w' ⟨rfl, rfl⟩)
 go_wp2_with fail
 refine rsq (by kernel_rfl) [(0, 1), (1, 1), (2, 1), (3, 1), (4, 1), (5, 1), (6, 1), (7, 1), (8, 0), (9, 1), (10, 0), (11, 1)] (by kernel_rfl) ?_
 have hv0 : Fr No w w.drew := (Fr.refl No w).drew
 iterate 8 refine tq _ rfl rfl (by intro w9 h9; have ch := h9.cell (fun h => h) cc; have ch0 := h9.cell (fun h => h) cc0; clear h9; go_simp; try with_reducible rfl) ?_; simp only [es1, es2, es3]
 refine wpSeq_next rfl rfl (fun K hK => ?_)
 go_wp2_with fail
 refine (Clone_yes (h.no hv0).on.st (h.no hv0).on.ow (by have := h.tlen; omega)).mono ?_
 rintro e w2 ⟨sb2, tv2, rfl, hge, hst, hown, hfr⟩
 have hv1 := hv0.no hfr
 refine hK.out _ _ (fun _ => hv1) ?_
 clear hK K
 refine tp _ rfl rfl ?_; simp only [es1, es2, es3]
 have hv2 : Fr No w (w2.alloc (.cells #[.int .u64 (W64 sd), .pointer (some ⟨sb2, 0, none⟩)] 222)) := hv1.alloc _
 refine wpSeq_next rfl rfl (fun K hK => ?_)
 go_wp2_with fail
 refine hK.out _ _ (fun _ => hv2) ?_
 clear hK K
 refine tp _ rfl rfl ?_; simp only [es1, es2, es3]
 refine wpSeq_done ?_
 clear cc cc0
 go_wp2_with fail
 go_ret
 have hge' : w.heap.size ≤ sb2 := hge
 have hown' : Owns w2 w.heap.size tv2 tl := hown
 have h3 : Fr No w2 (w2.alloc (.cells #[.int .u64 (W64 sd), .pointer (some ⟨sb2, 0, none⟩)] 222)) := (Fr.refl No w2).alloc _
 have g1 := h.on.fr.size
 have g2 := hv1.size
 have g3 := hst.lt
 refine ⟨w2.heap.size, sb2, tv2, rfl, ⟨⟨hst.fr h3 (fun h => h), (hown'.no h3).mono h.on.fr.size, by omega, h.on.fr.no hv2⟩, heap_alloc_new w2 _, by omega, ?_, h.tlen⟩, hv2, ?_⟩
 · rintro (g | g)
   · omega
   · have := own_lt hown' g; omega
 · rintro x (rfl | rfl | g)
   · exact g2
   · exact hge'
   · exact own_ge hown' g
end Go.Proofs.YtidlpihoafnobaaGreat.StX64
namespace Go.Proofs.YtidlpihoafnobaaGreat.StX64
open Go.Proofs.YtidlpihoafnobaaGreat.StG64
set_option maxRecDepth 100000
open Go.RowKit
theorem twin_cl {w0 w : World} {k : Int} {kh kl : BitVec 64} {ib sb : Nat} {s : ST} {tl : Bytes} {lo : BitVec 64} {tv : Value} {c6 c7 c8 c9 c10 c11 : Nat} (hc : Cap6 w k kh kl ib c6 c7 c8 c9 c10 c11) (h : HLive w0 w ib sb kl s tl lo tv) : Calls Tryz.prog 207 #[.pointer (some ⟨c6, 0, none⟩), .pointer (some ⟨c7, 0, none⟩), .pointer (some ⟨c11, 0, none⟩), .pointer (some ⟨c8, 0, none⟩), .pointer (some ⟨c9, 0, none⟩), .pointer (some ⟨c10, 0, none⟩)] w (fun e w' => ∃ hb', e = .returned (.pointer (some ⟨hb', 0, none⟩)) ∧ ∃ F', HS w0 w' hb' (F') k kh kl s tl lo ∧ (∀ x, F' x → w.heap.size ≤ x) ∧ Fr No w w') := by
 go_enter Tryz.func207, Tryz.ntmps207
 go_wp2_with fail
 refine rsq (by kernel_rfl) [(0, 1), (1, 1), (2, 1), (3, 1), (5, 1), (6, 1), (7, 1), (4, 0), (8, 0), (9, 1)] (by kernel_rfl) ?_
 have hS0 : Fr No w w.drew := (Fr.refl No w).drew
 iterate 7 refine tq _ rfl rfl (by intro w9 h9; have q6 := (hc.k6.no h9).c0; have q7 := (hc.k7.no h9).c0; have q7' := (hc.k7.no h9).c1; have q11 := (hc.k11.no h9).c0; have q8 := (hc.k8.no h9).c0; have q9 := (hc.k9.no h9).c0; have q10 := (hc.k10.no h9).c0; clear h9; go_simp; try with_reducible rfl) ?_; simp only [es1, es2, es3]
 refine wpSeq_next rfl rfl (fun K hK => ?_)
 go_wp2_with fail
 refine (Clone_h (h.no hS0)).mono ?_
 rintro e w2 ⟨ib2, sb2, tv2, rfl, hL2, hf2, hnew⟩
 have hs2 : Fr No w w2 := (hS0).no hf2
 refine hK.out _ _ (fun _ => hs2) ?_
 clear hK K
 refine wpSeq_next rfl rfl (fun K hK => ?_)
 go_wp2_with fail
 refine (wrapped_h hL2).mono ?_
 rintro e w3 ⟨hb3, rfl, hH3, hge3, hf3⟩
 have hs3 : Fr No w w3 := (hs2).no hf3
 refine hK.out _ _ (fun _ => hs3) ?_
 clear hK K
 refine tp _ rfl rfl ?_; simp only [es1, es2, es3]
 refine wpSeq_done ?_
 go_wp2_with fail
 go_ret
 exact ⟨hb3, rfl, _, hH3, fun x hx => hnew x (.inr hx), hs3⟩
theorem HS.clone {w0 w : World} {hb : Nat} {F : Nat → Prop} {k : Int} {kh kl : BitVec 64} {s : ST} {tl : Bytes} {lo : BitVec 64} (h : HS w0 w hb (F) k kh kl s tl lo) :
 Calls Tryz.prog 30 #[.pointer (some ⟨hb, 0, none⟩)] w (fun e w' => ∃ hb', e = .returned (.pointer (some ⟨hb', 0, none⟩)) ∧ ∃ F', HS w0 w' hb' (F') k kh kl s tl lo ∧ (∀ x, F' x → w.heap.size ≤ x) ∧ Fr No w w') := by
 obtain ⟨ib, sb, tv, c6, c7, c8, c9, c10, c11, hr, hc, hL, rfl⟩ := h
 exact hClone_of hr.c3 207 _ hr.c5 (calls_enter Tryz.func207 (by kernel_rfl) (by kernel_rfl)) (twin_cl hc hL)
end Go.Proofs.YtidlpihoafnobaaGreat.StX64
namespace Go.Proofs.YtidlpihoafnobaaGreat.StSip
set_option maxRecDepth 100000
open Go.Proofs.YtidlpihoafnobaaGreat.StG64
open Go.RowKit
def HClones (w0 : World) (hb sb : Nat) (kd : Int) (kh kl : BitVec 64) (q : Nat) (s : ST) (tl : Bytes) (lo : BitVec 64) (tv : Value) (w : World) (e : Ending) (w' : World) : Prop :=
 ∃ hb' sb' tv', e = .returned (.pointer (some ⟨hb', 0, none⟩)) ∧ HLive w0 w' hb' sb' kd kh kl q s tl lo tv' ∧ Fr No w w' ∧ ∀ x, HFoot hb' sb' tv' x → w.heap.size ≤ x
set_option maxHeartbeats 400000 in
theorem Clone_h {w0 w : World} {hb sb : Nat} {kd : Int} {kh kl : BitVec 64} {q : Nat} {s : ST} {tl : Bytes} {lo : BitVec 64} {tv : Value} (h : HLive w0 w hb sb kd kh kl q s tl lo tv) : Calls Tryz.prog 163 #[.pointer (some ⟨hb, 0, none⟩)] w (HClones w0 hb sb kd kh kl q s tl lo tv w) := by
 have cc := h.cell
 have cc0 := h.cell0
 have hlt := h.lt hb (.inl rfl)
 go_enter Tryz.func163, Tryz.ntmps163
 go_wp2_with (go_at_call 220; refine (made_h h).mono ?_; rintro e w' ⟨rfl, rfl⟩)
 go_wp2_with fail
 refine rsq (by kernel_rfl) [(0, 1), (1, 1), (2, 1), (3, 1), (4, 1), (5, 1), (6, 1), (7, 1), (8, 0), (9, 1), (10, 0), (11, 1)] (by kernel_rfl) ?_
 have hv0 : Fr No w w.drew := (Fr.refl No w).drew
 iterate 8 refine tq _ rfl rfl (by intro w9 h9; have ch := h9.cell (fun h => h) cc; have ch0 := h9.cell (fun h => h) cc0; clear h9; go_simp; try with_reducible rfl) ?_; simp only [es1, es2, es3]
 refine wpSeq_next rfl rfl (fun K hK => ?_)
 go_wp2_with fail
 refine (Clone_yes (h.no hv0).on.st (h.no hv0).on.ow (by have := h.tlen; omega)).mono ?_
 rintro e w2 ⟨sb2, tv2, rfl, hge, hst, hown, hfr⟩
 have hv1 := hv0.no hfr
 refine hK.out _ _ (fun _ => hv1) ?_
 clear hK K
 refine tp _ rfl rfl ?_; simp only [es1, es2, es3]
 have hv2 : Fr No w (w2.alloc (.cells #[.int .i64 kd, .pointer (some ⟨sb2, 0, none⟩)] 231)) := hv1.alloc _
 refine wpSeq_next rfl rfl (fun K hK => ?_)
 go_wp2_with fail
 refine hK.out _ _ (fun _ => hv2) ?_
 clear hK K
 refine tp _ rfl rfl ?_; simp only [es1, es2, es3]
 refine wpSeq_done ?_
 clear cc cc0
 go_wp2_with fail
 go_ret
 have hge' : w.heap.size ≤ sb2 := hge
 have hown' : Owns w2 w.heap.size tv2 tl := hown
 have h3 : Fr No w2 (w2.alloc (.cells #[.int .i64 kd, .pointer (some ⟨sb2, 0, none⟩)] 231)) := (Fr.refl No w2).alloc _
 have g1 := h.on.fr.size
 have g2 := hv1.size
 have g3 := hst.lt
 refine ⟨w2.heap.size, sb2, tv2, rfl, ⟨⟨hst.fr h3 (fun h => h), (hown'.no h3).mono h.on.fr.size, by omega, h.on.fr.no hv2⟩, heap_alloc_new w2 _, by omega, ?_, h.tlen, h.hq.no hv2, h.kk⟩, hv2, ?_⟩
 · rintro (g | g)
   · omega
   · have := own_lt hown' g; omega
 · rintro x (rfl | rfl | g)
   · exact g2
   · exact hge'
   · exact own_ge hown' g
end Go.Proofs.YtidlpihoafnobaaGreat.StSip
namespace Go.Proofs.YtidlpihoafnobaaGreat.StSip
open Go.Proofs.YtidlpihoafnobaaGreat.StG64
set_option maxRecDepth 100000
open Go.RowKit
theorem twin_cl {w0 w : World} {k : Int} {kh kl : BitVec 64} {ib sb : Nat} {s : ST} {tl : Bytes} {lo : BitVec 64} {tv : Value} {c6 c7 c8 c9 c10 c11 : Nat} {q c5 sz : Nat} (hc : Cap6 w k kh kl ib c6 c7 c8 c9 c10 c11 c5 sz) (h : HLive w0 w ib sb k kh kl q s tl lo tv) : Calls Tryz.prog 219 #[.pointer (some ⟨c6, 0, none⟩), .pointer (some ⟨c7, 0, none⟩), .pointer (some ⟨c11, 0, none⟩), .pointer (some ⟨c8, 0, none⟩), .pointer (some ⟨c9, 0, none⟩), .pointer (some ⟨c10, 0, none⟩)] w (fun e w' => ∃ hb', e = .returned (.pointer (some ⟨hb', 0, none⟩)) ∧ ∃ F', HS w0 w' hb' (F') k kh kl s tl lo sz ∧ (∀ x, F' x → w.heap.size ≤ x) ∧ Fr No w w') := by
 go_enter Tryz.func219, Tryz.ntmps219
 go_wp2_with fail
 refine rsq (by kernel_rfl) [(0, 1), (1, 1), (2, 1), (3, 1), (5, 1), (6, 1), (7, 1), (4, 0), (8, 0), (9, 1)] (by kernel_rfl) ?_
 have hS0 : Fr No w w.drew := (Fr.refl No w).drew
 iterate 7 refine tq _ rfl rfl (by intro w9 h9; have q6 := (hc.1.k6.no h9).c0; have q7 := (hc.1.k7.no h9).c0; have q7' := (hc.1.k7.no h9).c1; have q11 := (hc.1.k11.no h9).c0; have q8 := (hc.1.k8.no h9).c0; have q9 := (hc.1.k9.no h9).c0; have q10 := (hc.1.k10.no h9).c0; clear h9; go_simp; try with_reducible rfl) ?_; simp only [es1, es2, es3]
 refine wpSeq_next rfl rfl (fun K hK => ?_)
 go_wp2_with fail
 refine (Clone_h (h.no hS0)).mono ?_
 rintro e w2 ⟨ib2, sb2, tv2, rfl, hL2, hf2, hnew⟩
 have hs2 : Fr No w w2 := (hS0).no hf2
 refine hK.out _ _ (fun _ => hs2) ?_
 clear hK K
 refine wpSeq_next rfl rfl (fun K hK => ?_)
 go_wp2_with fail
 refine (wrapped_h hL2 (hc.2.no hs2)).mono ?_
 rintro e w3 ⟨hb3, rfl, hH3, hge3, hf3⟩
 have hs3 : Fr No w w3 := (hs2).no hf3
 refine hK.out _ _ (fun _ => hs3) ?_
 clear hK K
 refine tp _ rfl rfl ?_; simp only [es1, es2, es3]
 refine wpSeq_done ?_
 go_wp2_with fail
 go_ret
 exact ⟨hb3, rfl, _, hH3, fun x hx => hnew x (.inr hx), hs3⟩
theorem HS.clone {w0 w : World} {hb : Nat} {F : Nat → Prop} {k : Int} {kh kl : BitVec 64} {s : ST} {tl : Bytes} {lo : BitVec 64} {sz : Nat} (h : HS w0 w hb (F) k kh kl s tl lo sz) :
 Calls Tryz.prog 30 #[.pointer (some ⟨hb, 0, none⟩)] w (fun e w' => ∃ hb', e = .returned (.pointer (some ⟨hb', 0, none⟩)) ∧ ∃ F', HS w0 w' hb' (F') k kh kl s tl lo sz ∧ (∀ x, F' x → w.heap.size ≤ x) ∧ Fr No w w') := by
 obtain ⟨ib, sb, tv, c6, c7, c8, c9, c10, c11, q, c5, hr, hc, hL, rfl⟩ := h
 exact hClone_of hr.c3 219 _ hr.c5 (calls_enter Tryz.func219 (by kernel_rfl) (by kernel_rfl)) (twin_cl hc hL)
end Go.Proofs.YtidlpihoafnobaaGreat.StSip
namespace Go.Proofs.YtidlpihoafnobaaGreat.StX32
set_option maxRecDepth 100000
open Go.Proofs.YtidlpihoafnobaaGreat.StG32
open Go.RowKit
def HClones (w0 : World) (hb sb : Nat) (sd : BitVec 32) (s : ST) (tl : Bytes) (lo : BitVec 64) (tv : Value) (w : World) (e : Ending) (w' : World) : Prop :=
 ∃ hb' sb' tv', e = .returned (.pointer (some ⟨hb', 0, none⟩)) ∧ HLive w0 w' hb' sb' sd s tl lo tv' ∧ Fr No w w' ∧ ∀ x, HFoot hb' sb' tv' x → w.heap.size ≤ x
set_option maxHeartbeats 400000 in
theorem Clone_h {w0 w : World} {hb sb : Nat} {sd : BitVec 32} {s : ST} {tl : Bytes} {lo : BitVec 64} {tv : Value} (h : HLive w0 w hb sb sd s tl lo tv) : Calls Tryz.prog 79 #[.pointer (some ⟨hb, 0, none⟩)] w (HClones w0 hb sb sd s tl lo tv w) := by
 have cc := h.cell
 have cc0 := h.cell0
 have hlt := h.lt hb (.inl rfl)
 go_enter Tryz.func79, Tryz.ntmps79
 go_wp2_with (go_at_call 147; refine (made_h h).mono ?_; rintro e w' ⟨rfl, rfl⟩)
 go_wp2_with fail
 refine rsq (by kernel_rfl) [(0, 1), (1, 1), (2, 1), (3, 1), (4, 1), (5, 1), (6, 1), (7, 1), (8, 0), (9, 1), (10, 0), (11, 1)] (by kernel_rfl) ?_
 have hv0 : Fr No w w.drew := (Fr.refl No w).drew
 iterate 8 refine tq _ rfl rfl (by intro w9 h9; have ch := h9.cell (fun h => h) cc; have ch0 := h9.cell (fun h => h) cc0; clear h9; go_simp; try with_reducible rfl) ?_; simp only [es1, es2, es3]
 refine wpSeq_next rfl rfl (fun K hK => ?_)
 go_wp2_with fail
 refine (Clone_yes (h.no hv0).on.st (h.no hv0).on.ow (by have := h.tlen; omega)).mono ?_
 rintro e w2 ⟨sb2, tv2, rfl, hge, hst, hown, hfr⟩
 have hv1 := hv0.no hfr
 refine hK.out _ _ (fun _ => hv1) ?_
 clear hK K
 refine tp _ rfl rfl ?_; simp only [es1, es2, es3]
 have hv2 : Fr No w (w2.alloc (.cells #[.int .u32 (W32 sd), .pointer (some ⟨sb2, 0, none⟩)] 176)) := hv1.alloc _
 refine wpSeq_next rfl rfl (fun K hK => ?_)
 go_wp2_with fail
 refine hK.out _ _ (fun _ => hv2) ?_
 clear hK K
 refine tp _ rfl rfl ?_; simp only [es1, es2, es3]
 refine wpSeq_done ?_
 clear cc cc0
 go_wp2_with fail
 go_ret
 have hge' : w.heap.size ≤ sb2 := hge
 have hown' : Owns w2 w.heap.size tv2 tl := hown
 have h3 : Fr No w2 (w2.alloc (.cells #[.int .u32 (W32 sd), .pointer (some ⟨sb2, 0, none⟩)] 176)) := (Fr.refl No w2).alloc _
 have g1 := h.on.fr.size
 have g2 := hv1.size
 have g3 := hst.lt
 refine ⟨w2.heap.size, sb2, tv2, rfl, ⟨⟨hst.fr h3 (fun h => h), (hown'.no h3).mono h.on.fr.size, by omega, h.on.fr.no hv2⟩, heap_alloc_new w2 _, by omega, ?_, h.tlen⟩, hv2, ?_⟩
 · rintro (g | g)
   · omega
   · have := own_lt hown' g; omega
 · rintro x (rfl | rfl | g)
   · exact g2
   · exact hge'
   · exact own_ge hown' g
end Go.Proofs.YtidlpihoafnobaaGreat.StX32
namespace Go.Proofs.YtidlpihoafnobaaGreat.StX32
open Go.Proofs.YtidlpihoafnobaaGreat.StG32
set_option maxRecDepth 100000
open Go.RowKit
theorem twin_cl {w0 w : World} {k : Int} {kh kl : BitVec 64} {ib sb : Nat} {s : ST} {tl : Bytes} {lo : BitVec 64} {tv : Value} {c6 c7 c8 c9 c10 c11 : Nat} (hc : Cap6 w k kh kl ib c6 c7 c8 c9 c10 c11) (h : HLive w0 w ib sb (kl.setWidth 32) s tl lo tv) : Calls Tryz.prog 200 #[.pointer (some ⟨c6, 0, none⟩), .pointer (some ⟨c7, 0, none⟩), .pointer (some ⟨c11, 0, none⟩), .pointer (some ⟨c8, 0, none⟩), .pointer (some ⟨c9, 0, none⟩), .pointer (some ⟨c10, 0, none⟩)] w (fun e w' => ∃ hb', e = .returned (.pointer (some ⟨hb', 0, none⟩)) ∧ ∃ F', HS w0 w' hb' (F') k kh kl s tl lo ∧ (∀ x, F' x → w.heap.size ≤ x) ∧ Fr No w w') := by
 go_enter Tryz.func200, Tryz.ntmps200
 go_wp2_with fail
 refine rsq (by kernel_rfl) [(0, 1), (1, 1), (2, 1), (3, 1), (5, 1), (6, 1), (7, 1), (4, 0), (8, 0), (9, 1)] (by kernel_rfl) ?_
 have hS0 : Fr No w w.drew := (Fr.refl No w).drew
 iterate 7 refine tq _ rfl rfl (by intro w9 h9; have q6 := (hc.k6.no h9).c0; have q7 := (hc.k7.no h9).c0; have q7' := (hc.k7.no h9).c1; have q11 := (hc.k11.no h9).c0; have q8 := (hc.k8.no h9).c0; have q9 := (hc.k9.no h9).c0; have q10 := (hc.k10.no h9).c0; clear h9; go_simp; try with_reducible rfl) ?_; simp only [es1, es2, es3]
 refine wpSeq_next rfl rfl (fun K hK => ?_)
 go_wp2_with fail
 refine (Clone_h (h.no hS0)).mono ?_
 rintro e w2 ⟨ib2, sb2, tv2, rfl, hL2, hf2, hnew⟩
 have hs2 : Fr No w w2 := (hS0).no hf2
 refine hK.out _ _ (fun _ => hs2) ?_
 clear hK K
 refine wpSeq_next rfl rfl (fun K hK => ?_)
 go_wp2_with fail
 refine (wrapped_h hL2).mono ?_
 rintro e w3 ⟨hb3, rfl, hH3, hge3, hf3⟩
 have hs3 : Fr No w w3 := (hs2).no hf3
 refine hK.out _ _ (fun _ => hs3) ?_
 clear hK K
 refine tp _ rfl rfl ?_; simp only [es1, es2, es3]
 refine wpSeq_done ?_
 go_wp2_with fail
 go_ret
 exact ⟨hb3, rfl, _, hH3, fun x hx => hnew x (.inr hx), hs3⟩
theorem HS.clone {w0 w : World} {hb : Nat} {F : Nat → Prop} {k : Int} {kh kl : BitVec 64} {s : ST} {tl : Bytes} {lo : BitVec 64} (h : HS w0 w hb (F) k kh kl s tl lo) :
 Calls Tryz.prog 30 #[.pointer (some ⟨hb, 0, none⟩)] w (fun e w' => ∃ hb', e = .returned (.pointer (some ⟨hb', 0, none⟩)) ∧ ∃ F', HS w0 w' hb' (F') k kh kl s tl lo ∧ (∀ x, F' x → w.heap.size ≤ x) ∧ Fr No w w') := by
 obtain ⟨ib, sb, tv, c6, c7, c8, c9, c10, c11, hr, hc, hL, rfl⟩ := h
 exact hClone_of hr.c3 200 _ hr.c5 (calls_enter Tryz.func200 (by kernel_rfl) (by kernel_rfl)) (twin_cl hc hL)
end Go.Proofs.YtidlpihoafnobaaGreat.StX32
namespace Go.Proofs.YtidlpihoafnobaaGreat.StM64
set_option maxRecDepth 100000
open Go.RowKit
theorem twin_cl {w0 w : World} {k : Int} {kh kl : BitVec 64} {ib sb : Nat} {s : ST} {tl : Bytes} {lo : BitVec 64} {tv : Value} {c6 c7 c8 c9 c10 c11 : Nat} (hc : Cap6 w k kh kl ib c6 c7 c8 c9 c10 c11) (h : HLive w0 w ib sb (kl.setWidth 32) s tl lo tv) : Calls Tryz.prog 192 #[.pointer (some ⟨c6, 0, none⟩), .pointer (some ⟨c7, 0, none⟩), .pointer (some ⟨c11, 0, none⟩), .pointer (some ⟨c8, 0, none⟩), .pointer (some ⟨c9, 0, none⟩), .pointer (some ⟨c10, 0, none⟩)] w (fun e w' => ∃ hb', e = .returned (.pointer (some ⟨hb', 0, none⟩)) ∧ ∃ F', HS w0 w' hb' (F') k kh kl s tl lo ∧ (∀ x, F' x → w.heap.size ≤ x) ∧ Fr No w w') := by
 go_enter Tryz.func192, Tryz.ntmps192
 go_wp2_with fail
 refine rsq (by kernel_rfl) [(0, 1), (1, 1), (2, 1), (3, 1), (5, 1), (6, 1), (7, 1), (4, 0), (8, 0), (9, 1)] (by kernel_rfl) ?_
 have hS0 : Fr No w w.drew := (Fr.refl No w).drew
 iterate 7 refine tq _ rfl rfl (by intro w9 h9; have q6 := (hc.k6.no h9).c0; have q7 := (hc.k7.no h9).c0; have q7' := (hc.k7.no h9).c1; have q11 := (hc.k11.no h9).c0; have q8 := (hc.k8.no h9).c0; have q9 := (hc.k9.no h9).c0; have q10 := (hc.k10.no h9).c0; clear h9; go_simp; try with_reducible rfl) ?_; simp only [es1, es2, es3]
 refine wpSeq_next rfl rfl (fun K hK => ?_)
 go_wp2_with fail
 refine (Clone_h (h.no hS0)).mono ?_
 rintro e w2 ⟨ib2, sb2, tv2, rfl, hL2, hf2, hnew⟩
 have hs2 : Fr No w w2 := (hS0).no hf2
 refine hK.out _ _ (fun _ => hs2) ?_
 clear hK K
 refine wpSeq_next rfl rfl (fun K hK => ?_)
 go_wp2_with fail
 refine (wrapped_h hL2).mono ?_
 rintro e w3 ⟨hb3, rfl, hH3, hge3, hf3⟩
 have hs3 : Fr No w w3 := (hs2).no hf3
 refine hK.out _ _ (fun _ => hs3) ?_
 clear hK K
 refine tp _ rfl rfl ?_; simp only [es1, es2, es3]
 refine wpSeq_done ?_
 go_wp2_with fail
 go_ret
 exact ⟨hb3, rfl, _, hH3, fun x hx => hnew x (.inr hx), hs3⟩
theorem HS.clone {w0 w : World} {hb : Nat} {F : Nat → Prop} {k : Int} {kh kl : BitVec 64} {s : ST} {tl : Bytes} {lo : BitVec 64} (h : HS w0 w hb (F) k kh kl s tl lo) :
 Calls Tryz.prog 30 #[.pointer (some ⟨hb, 0, none⟩)] w (fun e w' => ∃ hb', e = .returned (.pointer (some ⟨hb', 0, none⟩)) ∧ ∃ F', HS w0 w' hb' (F') k kh kl s tl lo ∧ (∀ x, F' x → w.heap.size ≤ x) ∧ Fr No w w') := by
 obtain ⟨ib, sb, tv, c6, c7, c8, c9, c10, c11, hr, hc, hL, rfl⟩ := h
 exact hClone_of hr.c3 192 _ hr.c5 (calls_enter Tryz.func192 (by kernel_rfl) (by kernel_rfl)) (twin_cl hc hL)
end Go.Proofs.YtidlpihoafnobaaGreat.StM64
namespace Go.Proofs.YtidlpihoafnobaaGreat
set_option maxRecDepth 100000
open Go.RowKit
theorem right_lanes {k : Int} {s : HSt} (h : OfK k s) : RightS k (lanesS s) := by
 refine ofK_cases (C := fun k s => RightS k (lanesS s)) ?_ ?_ ?_ ?_ ?_ ?_ h
 · intro s; exact ⟨rfl, rfl, rfl, wide_div s⟩
 · intro s; exact ⟨by simp only [lanesS, back32'], by simp only [lanesS, back32'], by simp only [lanesS, back32'], by simp only [lanesS, back32']⟩
 · intro s; exact ⟨rfl, rfl⟩
 · intro s; exact ⟨by simp only [lanesS, back32'], by simp only [lanesS, back32'], by simp only [lanesS, back32'], by simp only [lanesS, back32']⟩
 · intro s; exact trivial
 · intro k s hk; rw [RightS_sip hk]; exact trivial
theorem fit_fold {k : Int} {s : HSt} (h : OfK k s) (d : Bytes) (hd : d.length ≤ 1099511627776) : FitS k (foldS k s d).2.length (BitVec.ofNat 64 d.length) := by
 have h1 := fold_mod h d
 have h2 := block_pos h.ok
 unfold FitS
 obtain ⟨b, hb⟩ := Int.eq_ofNat_of_zero_le (show 0 ≤ blockN k by omega)
 rw [hb] at h1 h2 ⊢
 rw [beq_iff_eq, O64_nat]
 apply BitVec.eq_of_toNat_eq
 have h3 : (foldS k s d).2.length = d.length % b := by omega
 have h4 := Nat.mod_le d.length b
 rw [h3]
 simp only [BitVec.toNat_ofNat, BitVec.toNat_umod]
 rw [Nat.mod_eq_of_lt (a := d.length % b) (b := 2 ^ 64) (by omega), Nat.mod_eq_of_lt (a := d.length) (b := 2 ^ 64) (by omega), Nat.mod_eq_of_lt (a := b) (b := 2 ^ 64) (by omega)]
end Go.Proofs.YtidlpihoafnobaaGreat
namespace Go.Proofs.YtidlpihoafnobaaGreat
set_option maxRecDepth 100000
open Go.RowKit
theorem HSAny.clone {w0 w : World} {hb : Nat} {F : Nat → Prop} {k : Int} {kh kl : BitVec 64} {s : HSt} {tl : Bytes} {lo : BitVec 64} (h : HSAny w0 w hb F k kh kl s tl lo)  :
 Calls Tryz.prog 30 #[.pointer (some ⟨hb, 0, none⟩)] w (fun e w' => ∃ hb', e = .returned (.pointer (some ⟨hb', 0, none⟩)) ∧ ∃ F', HSAny w0 w' hb' F' k kh kl s tl lo ∧ (∀ x, F' x → w.heap.size ≤ x) ∧ Fr No w w') := by
 cases s with
 | m32 s =>
  obtain ⟨hk, h⟩ := h
  refine h.clone.mono ?_
  rintro e w' ⟨hb', rfl, F', h', r⟩
  exact ⟨hb', rfl, F', ⟨hk, h'⟩, r⟩
 | m86 s =>
  obtain ⟨hk, h⟩ := h
  refine h.clone.mono ?_
  rintro e w' ⟨hb', rfl, F', h', r⟩
  exact ⟨hb', rfl, F', ⟨hk, h'⟩, r⟩
 | m64 s =>
  obtain ⟨hk, h⟩ := h
  refine h.clone.mono ?_
  rintro e w' ⟨hb', rfl, F', h', r⟩
  exact ⟨hb', rfl, F', ⟨hk, h'⟩, r⟩
 | x32 s =>
  obtain ⟨hk, h⟩ := h
  refine h.clone.mono ?_
  rintro e w' ⟨hb', rfl, F', h', r⟩
  exact ⟨hb', rfl, F', ⟨hk, h'⟩, r⟩
 | x64 s =>
  obtain ⟨hk, h⟩ := h
  refine h.clone.mono ?_
  rintro e w' ⟨hb', rfl, F', h', r⟩
  exact ⟨hb', rfl, F', ⟨hk, h'⟩, r⟩
 | sip s =>
  obtain ⟨hk, h⟩ := h
  refine h.clone.mono ?_
  rintro e w' ⟨hb', rfl, F', h', r⟩
  exact ⟨hb', rfl, F', ⟨hk, h'⟩, r⟩
theorem HDone.clone {w0 w : World} {hb : Nat} {F : Nat → Prop} {k : Int} {kh kl : BitVec 64} {d : Bytes} (h : HDone w0 w hb F k kh kl d) : Calls Tryz.prog 30 #[.pointer (some ⟨hb, 0, none⟩)] w (fun e w' => ∃ hb', e = .returned (.pointer (some ⟨hb', 0, none⟩)) ∧ ∃ F', HDone w0 w' hb' F' k kh kl d ∧ (∀ x, F' x → w.heap.size ≤ x) ∧ Fr No w w') := HSAny.clone h
end Go.Proofs.YtidlpihoafnobaaGreat
