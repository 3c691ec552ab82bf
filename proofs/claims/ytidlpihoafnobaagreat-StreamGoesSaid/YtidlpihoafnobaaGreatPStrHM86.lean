/- RestM64 RestM32 Words2 HashM32 HashM64 StrHasher StrHM32 RestG32 HashM86 StrHM86 -/
import Derived.Deep.Cut
import Derived.Stop.IfaceNil
import Derived.Test.YtidlpihoafnobaaGreatPStrAnyDx
import Derived.Test.YtidlpihoafnobaaGreatPStrAnyEx
set_option linter.unusedVariables false
set_option linter.unusedSimpArgs false
namespace Go.Proofs.YtidlpihoafnobaaGreat.StM64
set_option maxRecDepth 100000
open Go.RowKit
def Clones (size : Int) (f s : ST) (q : Nat) (tl : Bytes) (lo : BitVec 64) (w : World) (e : Ending) (w' : World) : Prop :=
 ∃ sb tv, e = .returned (.pointer (some ⟨sb, 0, none⟩)) ∧ w.heap.size ≤ sb ∧ StreamAt w' sb size f s q tv lo ∧ Owns w' w.heap.size tv tl ∧ Fr No w w'
set_option maxHeartbeats 1000000 in
theorem Clone_yes {w : World} {sb : Nat} {size : Int} {f s : ST} {q : Nat} {tv : Value} {lo : BitVec 64} {base : Nat} {tl : Bytes} (hst : StreamAt w sb size f s q tv lo) (ho : Owns w base tv tl) (hl : tl.length ≤ 1099511627776) : Calls Tryz.prog 140 #[.pointer (some ⟨sb, 0, none⟩)] w (Clones size f s q tl lo w) := by
 obtain ⟨ta, tc, rfl, hb, _⟩ := ho.bytes
 have cz : w.cell? ⟨sb, 0, none⟩ = some (.int .i64 size) := hst.cell 0 rfl
 have cf0 : w.cell? ⟨sb, 1, none⟩ = some (cS f 0) := hst.cell 1 rfl
 have cf1 : w.cell? ⟨sb, 2, none⟩ = some (cS f 1) := hst.cell 2 rfl
 have cn0 : w.cell? ⟨sb, 3, none⟩ = some (cS s 0) := hst.cell 3 rfl
 have cn1 : w.cell? ⟨sb, 4, none⟩ = some (cS s 1) := hst.cell 4 rfl
 have cst : w.cell? ⟨sb, 5, none⟩ = some ((.func (.func 133) #[] #[])) := hst.cell 5 rfl
 have ctl : w.cell? ⟨sb, 6, none⟩ = some (.slice ta tl.length tc) := hst.cell 6 rfl
 have clo : w.cell? ⟨sb, 7, none⟩ = some (.int .u64 (W64 lo)) := hst.cell 7 rfl
 have hmade := hst
 have hN : StreamAt (w.alloc (.cells (stCells size f s q (.slice ta tl.length tc) lo).toArray 213)) w.heap.size size f s q (.slice ta tl.length tc) lo := heap_alloc_new w _
 have hF1 : Fr No w (w.alloc (.cells (stCells size f s q (.slice ta tl.length tc) lo).toArray 213)) := (Fr.refl No w).alloc _
 have hlt := hst.lt
 go_enter Tryz.func140, Tryz.ntmps140
 go_wp2_with (go_at_call 198; refine (made_any hmade).mono ?_; rintro e w' ⟨rfl, rfl⟩)
 have ctl1 := (hst.fr hF1 (fun h => h)).cell 6 rfl
 have hb1 := hb.no hF1
 simp only [stCells, fvS] at ctl1 hN hF1 hb1
 go_wp2_with fail
 refine (Clone_any _ _ _ tl _ hb1 (by omega)).mono ?_
 rintro e w2 ⟨v2, rfl, ho2, hf2⟩
 obtain ⟨a2, c2, rfl, _, _⟩ := ho2.bytes
 have hN2 := StreamAt.fr hN hf2 (fun h => h)
 have ctl2 := hN2.cell 6 rfl
 have fz2 := hN2.frozen 6
 go_wp2_with fail
 go_ret
 exact ⟨w.heap.size, _, rfl, Nat.le_refl _, hN2.put 6 _ rfl, (ho2.fr ((Fr.refl (fun x => x = w.heap.size) w2).setCell (p := ⟨w.heap.size, 6, none⟩) (.inl rfl) _) (fun x hx e => hN2.apart ho2 (by rw [hx, e]))).mono hF1.size, (hF1.no hf2).trans ((Fr.refl (fun x => x = w.heap.size) w2).setCell (p := ⟨w.heap.size, 6, none⟩) (.inl rfl) _) (fun x hx => .inr (by omega))⟩
end Go.Proofs.YtidlpihoafnobaaGreat.StM64
namespace Go.Proofs.YtidlpihoafnobaaGreat.StM32
set_option maxRecDepth 100000
open Go.RowKit
def Clones (size : Int) (f s : ST) (q : Nat) (tl : Bytes) (lo : BitVec 64) (w : World) (e : Ending) (w' : World) : Prop :=
 ∃ sb tv, e = .returned (.pointer (some ⟨sb, 0, none⟩)) ∧ w.heap.size ≤ sb ∧ StreamAt w' sb size f s q tv lo ∧ Owns w' w.heap.size tv tl ∧ Fr No w w'
set_option maxHeartbeats 1000000 in
theorem Clone_yes {w : World} {sb : Nat} {size : Int} {f s : ST} {q : Nat} {tv : Value} {lo : BitVec 64} {base : Nat} {tl : Bytes} (hst : StreamAt w sb size f s q tv lo) (ho : Owns w base tv tl) (hl : tl.length ≤ 1099511627776) : Calls Tryz.prog 115 #[.pointer (some ⟨sb, 0, none⟩)] w (Clones size f s q tl lo w) := by
 obtain ⟨ta, tc, rfl, hb, _⟩ := ho.bytes
 have cz : w.cell? ⟨sb, 0, none⟩ = some (.int .i64 size) := hst.cell 0 rfl
 have cf0 : w.cell? ⟨sb, 1, none⟩ = some (.int .u32 (W32 f)) := hst.cell 1 rfl
 have cn0 : w.cell? ⟨sb, 2, none⟩ = some (.int .u32 (W32 s)) := hst.cell 2 rfl
 have cst : w.cell? ⟨sb, 3, none⟩ = some ((.func (.func 108) #[.agg #[]] #[])) := hst.cell 3 rfl
 have ctl : w.cell? ⟨sb, 4, none⟩ = some (.slice ta tl.length tc) := hst.cell 4 rfl
 have clo : w.cell? ⟨sb, 5, none⟩ = some (.int .u64 (W64 lo)) := hst.cell 5 rfl
 have hmade := hst
 have hN : StreamAt (w.alloc (.cells (stCells size f s q (.slice ta tl.length tc) lo).toArray 197)) w.heap.size size f s q (.slice ta tl.length tc) lo := heap_alloc_new w _
 have hF1 : Fr No w (w.alloc (.cells (stCells size f s q (.slice ta tl.length tc) lo).toArray 197)) := (Fr.refl No w).alloc _
 have hlt := hst.lt
 go_enter Tryz.func115, Tryz.ntmps115
 go_wp2_with (go_at_call 177; refine (made_any hmade).mono ?_; rintro e w' ⟨rfl, rfl⟩)
 have ctl1 := (hst.fr hF1 (fun h => h)).cell 4 rfl
 have hb1 := hb.no hF1
 simp only [stCells, fvS] at ctl1 hN hF1 hb1
 go_wp2_with fail
 refine (Clone_any _ _ _ tl _ hb1 (by omega)).mono ?_
 rintro e w2 ⟨v2, rfl, ho2, hf2⟩
 obtain ⟨a2, c2, rfl, _, _⟩ := ho2.bytes
 have hN2 := StreamAt.fr hN hf2 (fun h => h)
 have ctl2 := hN2.cell 4 rfl
 have fz2 := hN2.frozen 4
 go_wp2_with fail
 go_ret
 exact ⟨w.heap.size, _, rfl, Nat.le_refl _, hN2.put 4 _ rfl, (ho2.fr ((Fr.refl (fun x => x = w.heap.size) w2).setCell (p := ⟨w.heap.size, 4, none⟩) (.inl rfl) _) (fun x hx e => hN2.apart ho2 (by rw [hx, e]))).mono hF1.size, (hF1.no hf2).trans ((Fr.refl (fun x => x = w.heap.size) w2).setCell (p := ⟨w.heap.size, 4, none⟩) (.inl rfl) _) (fun x hx => .inr (by omega))⟩
end Go.Proofs.YtidlpihoafnobaaGreat.StM32
namespace Go.Proofs.YtidlpihoafnobaaGreat
set_option maxRecDepth 100000
open Go.RowKit
theorem wide_div (s : BitVec 32) : s.setWidth 64 / 4294967296#64 = 0#64 := by
 apply BitVec.eq_of_toNat_eq
 have := s.isLt
 simp only [BitVec.toNat_udiv, BitVec.toNat_setWidth, BitVec.toNat_ofNat]
 rw [show 4294967296 % 2 ^ 64 = 4294967296 from rfl, show 0 % 2 ^ 64 = 0 from rfl]
 omega
end Go.Proofs.YtidlpihoafnobaaGreat
namespace Go.Proofs.YtidlpihoafnobaaGreat.StM32
set_option maxRecDepth 100000
open Go.RowKit
def HClones (w0 : World) (hb sb : Nat) (sd : BitVec 32) (s : ST) (tl : Bytes) (lo : BitVec 64) (tv : Value) (w : World) (e : Ending) (w' : World) : Prop :=
 ∃ hb' sb' tv', e = .returned (.pointer (some ⟨hb', 0, none⟩)) ∧ HLive w0 w' hb' sb' sd s tl lo tv' ∧ Fr No w w' ∧ ∀ x, HFoot hb' sb' tv' x → w.heap.size ≤ x
set_option maxHeartbeats 400000 in
theorem Clone_h {w0 w : World} {hb sb : Nat} {sd : BitVec 32} {s : ST} {tl : Bytes} {lo : BitVec 64} {tv : Value} (h : HLive w0 w hb sb sd s tl lo tv) : Calls Tryz.prog 63 #[.pointer (some ⟨hb, 0, none⟩)] w (HClones w0 hb sb sd s tl lo tv w) := by
 have cc := h.cell
 have hlt := h.lt hb (.inl rfl)
 go_enter Tryz.func63, Tryz.ntmps63
 go_wp2_with (go_at_call 111; refine (made_h h).mono ?_; rintro e w' ⟨rfl, rfl⟩)
 refine (Clone_yes h.on.st h.on.ow (by have := h.tlen; omega)).mono ?_
 rintro e w2 ⟨sb2, tv2, rfl, hge, hst, hown, hfr⟩
 clear cc 
 go_wp2_with fail
 go_ret
 have hf3 := hfr.alloc (.cells #[.pointer (some ⟨sb2, 0, none⟩)] 145)
 have h3 : Fr No w2 (w2.alloc (.cells #[.pointer (some ⟨sb2, 0, none⟩)] 145)) := (Fr.refl No w2).alloc _
 have g1 := h.on.fr.size
 have g2 := hfr.size
 have g3 := hst.lt
 refine ⟨w2.heap.size, sb2, tv2, rfl, ⟨⟨hst.fr h3 (fun h => h), (hown.no h3).mono h.on.fr.size, by omega, h.on.fr.no hf3⟩, heap_alloc_new w2 _, by omega, ?_, h.tlen⟩, hf3, ?_⟩
 · rintro (g | g)
   · omega
   · have := own_lt hown g; omega
 · rintro x (rfl | rfl | g)
   · exact g2
   · exact hge
   · exact own_ge hown g
end Go.Proofs.YtidlpihoafnobaaGreat.StM32
namespace Go.Proofs.YtidlpihoafnobaaGreat.StM64
set_option maxRecDepth 100000
open Go.RowKit
def HClones (w0 : World) (hb sb : Nat) (sd : BitVec 32) (s : ST) (tl : Bytes) (lo : BitVec 64) (tv : Value) (w : World) (e : Ending) (w' : World) : Prop :=
 ∃ hb' sb' tv', e = .returned (.pointer (some ⟨hb', 0, none⟩)) ∧ HLive w0 w' hb' sb' sd s tl lo tv' ∧ Fr No w w' ∧ ∀ x, HFoot hb' sb' tv' x → w.heap.size ≤ x
set_option maxHeartbeats 400000 in
theorem Clone_h {w0 w : World} {hb sb : Nat} {sd : BitVec 32} {s : ST} {tl : Bytes} {lo : BitVec 64} {tv : Value} (h : HLive w0 w hb sb sd s tl lo tv) : Calls Tryz.prog 74 #[.pointer (some ⟨hb, 0, none⟩)] w (HClones w0 hb sb sd s tl lo tv w) := by
 have cc := h.cell
 have hlt := h.lt hb (.inl rfl)
 go_enter Tryz.func74, Tryz.ntmps74
 go_wp2_with (go_at_call 136; refine (made_h h).mono ?_; rintro e w' ⟨rfl, rfl⟩)
 refine (Clone_yes h.on.st h.on.ow (by have := h.tlen; omega)).mono ?_
 rintro e w2 ⟨sb2, tv2, rfl, hge, hst, hown, hfr⟩
 clear cc 
 go_wp2_with fail
 go_ret
 have hf3 := hfr.alloc (.cells #[.pointer (some ⟨sb2, 0, none⟩)] 169)
 have h3 : Fr No w2 (w2.alloc (.cells #[.pointer (some ⟨sb2, 0, none⟩)] 169)) := (Fr.refl No w2).alloc _
 have g1 := h.on.fr.size
 have g2 := hfr.size
 have g3 := hst.lt
 refine ⟨w2.heap.size, sb2, tv2, rfl, ⟨⟨hst.fr h3 (fun h => h), (hown.no h3).mono h.on.fr.size, by omega, h.on.fr.no hf3⟩, heap_alloc_new w2 _, by omega, ?_, h.tlen⟩, hf3, ?_⟩
 · rintro (g | g)
   · omega
   · have := own_lt hown g; omega
 · rintro x (rfl | rfl | g)
   · exact g2
   · exact hge
   · exact own_ge hown g
end Go.Proofs.YtidlpihoafnobaaGreat.StM64
namespace Go.Proofs.YtidlpihoafnobaaGreat
set_option maxRecDepth 100000
open Go.RowKit
theorem hClone_of {w : World} {hb : Nat} {T : TypeId} {v : Value} (h3 : w.cell? ⟨hb, 3, none⟩ = some (.iface T v)) (f : FuncId) (cs : Array Value) (h5 : w.cell? ⟨hb, 5, none⟩ = some (.func (.func f) #[] cs)) (he : ∀ (args : Array Value) (W : World), Sem.run Tryz.prog (callFunc f args) W = .ok (.enter f args) W) {Q : Nat → World → Prop} (hc : Calls Tryz.prog f cs w (fun e w' => ∃ hb', e = .returned (.pointer (some ⟨hb', 0, none⟩)) ∧ Q hb' w')) :
 Calls Tryz.prog 30 #[.pointer (some ⟨hb, 0, none⟩)] w (fun e w' => ∃ hb', e = .returned (.pointer (some ⟨hb', 0, none⟩)) ∧ Q hb' w') := by
 go_enter Tryz.func30, Tryz.ntmps30
 go_wp2_with (go_at_call 38; refine (hmade_yes h3).mono ?_; rintro e w' ⟨rfl, rfl⟩)
 refine hc.mono ?_
 rintro e w1 ⟨hb1, rfl, hQ⟩
 go_wp2_with fail
 go_ret
 exact ⟨_, rfl, hQ⟩
end Go.Proofs.YtidlpihoafnobaaGreat
namespace Go.Proofs.YtidlpihoafnobaaGreat.StM32
set_option maxRecDepth 100000
open Go.RowKit
theorem twin_cl {w0 w : World} {k : Int} {kh kl : BitVec 64} {ib sb : Nat} {s : ST} {tl : Bytes} {lo : BitVec 64} {tv : Value} {c6 c7 c8 c9 c10 c11 : Nat} (hc : Cap6 w k kh kl ib c6 c7 c8 c9 c10 c11) (h : HLive w0 w ib sb (kl.setWidth 32) s tl lo tv) : Calls Tryz.prog 170 #[.pointer (some ⟨c6, 0, none⟩), .pointer (some ⟨c7, 0, none⟩), .pointer (some ⟨c11, 0, none⟩), .pointer (some ⟨c8, 0, none⟩), .pointer (some ⟨c9, 0, none⟩), .pointer (some ⟨c10, 0, none⟩)] w (fun e w' => ∃ hb', e = .returned (.pointer (some ⟨hb', 0, none⟩)) ∧ ∃ F', HS w0 w' hb' (F') k kh kl s tl lo ∧ (∀ x, F' x → w.heap.size ≤ x) ∧ Fr No w w') := by
 go_enter Tryz.func170, Tryz.ntmps170
 go_wp2_with fail
 refine rsq (by kernel_rfl) [(0, 1), (1, 1), (2, 1), (3, 1), (5, 1), (6, 1), (7, 1), (4, 0), (8, 0), (9, 1)] (by kernel_rfl) ?_
 have hS0 : Fr No w w.drew := (Fr.refl No w).drew
 iterate 7 refine tq _ rfl rfl (by intro w9 h9; have q6 := (hc.k6.no h9).c0; have q7 := (hc.k7.no h9).c0; have q7' := (hc.k7.no h9).c1; have q11 := (hc.k11.no h9).c0; have q8 := (hc.k8.no h9).c0; have q9 := (hc.k9.no h9).c0; have q10 := (hc.k10.no h9).c0; clear h9; go_simp; try with_reducible rfl) ?_; simp only [es1, es2, es3]
 refine wpSeq_next rfl rfl (fun K hK => ?_)
 go_wp2_with fail
 refine (Clone_h (h.no hS0)).mono ?_
 rintro e w2 ⟨ib2, sb2, tv2, rfl, hL2, hf2, hnew⟩
 have hs2 : Fr No w w2 := (hS0).no hf2
 refine hK.out _ _ (fun _ => hs2) ?_
 clear hK K
 refine wpSeq_next rfl rfl (fun K hK => ?_)
 go_wp2_with fail
 refine (wrapped_h hL2).mono ?_
 rintro e w3 ⟨hb3, rfl, hH3, hge3, hf3⟩
 have hs3 : Fr No w w3 := (hs2).no hf3
 refine hK.out _ _ (fun _ => hs3) ?_
 clear hK K
 refine tp _ rfl rfl ?_; simp only [es1, es2, es3]
 refine wpSeq_done ?_
 go_wp2_with fail
 go_ret
 exact ⟨hb3, rfl, _, hH3, fun x hx => hnew x (.inr hx), hs3⟩
theorem HS.clone {w0 w : World} {hb : Nat} {F : Nat → Prop} {k : Int} {kh kl : BitVec 64} {s : ST} {tl : Bytes} {lo : BitVec 64} (h : HS w0 w hb (F) k kh kl s tl lo) :
 Calls Tryz.prog 30 #[.pointer (some ⟨hb, 0, none⟩)] w (fun e w' => ∃ hb', e = .returned (.pointer (some ⟨hb', 0, none⟩)) ∧ ∃ F', HS w0 w' hb' (F') k kh kl s tl lo ∧ (∀ x, F' x → w.heap.size ≤ x) ∧ Fr No w w') := by
 obtain ⟨ib, sb, tv, c6, c7, c8, c9, c10, c11, hr, hc, hL, rfl⟩ := h
 exact hClone_of hr.c3 170 _ hr.c5 (calls_enter Tryz.func170 (by kernel_rfl) (by kernel_rfl)) (twin_cl hc hL)
end Go.Proofs.YtidlpihoafnobaaGreat.StM32
namespace Go.Proofs.YtidlpihoafnobaaGreat.StG32
set_option maxRecDepth 100000
open Go.RowKit
def Clones (size : Int) (f s : ST) (q : QT) (tl : Bytes) (lo : BitVec 64) (w : World) (e : Ending) (w' : World) : Prop :=
 ∃ sb tv, e = .returned (.pointer (some ⟨sb, 0, none⟩)) ∧ w.heap.size ≤ sb ∧ StreamAt w' sb size f s q tv lo ∧ Owns w' w.heap.size tv tl ∧ Fr No w w'
set_option maxHeartbeats 1000000 in
theorem Clone_yes {w : World} {sb : Nat} {size : Int} {f s : ST} {q : QT} {tv : Value} {lo : BitVec 64} {base : Nat} {tl : Bytes} (hst : StreamAt w sb size f s q tv lo) (ho : Owns w base tv tl) (hl : tl.length ≤ 1099511627776) : Calls Tryz.prog 127 #[.pointer (some ⟨sb, 0, none⟩)] w (Clones size f s q tl lo w) := by
 obtain ⟨ta, tc, rfl, hb, _⟩ := ho.bytes
 have cz : w.cell? ⟨sb, 0, none⟩ = some (.int .i64 size) := hst.cell 0 rfl
 have cf0 : w.cell? ⟨sb, 1, none⟩ = some (cS f 0) := hst.cell 1 rfl
 have cf1 : w.cell? ⟨sb, 2, none⟩ = some (cS f 1) := hst.cell 2 rfl
 have cf2 : w.cell? ⟨sb, 3, none⟩ = some (cS f 2) := hst.cell 3 rfl
 have cf3 : w.cell? ⟨sb, 4, none⟩ = some (cS f 3) := hst.cell 4 rfl
 have cn0 : w.cell? ⟨sb, 5, none⟩ = some (cS s 0) := hst.cell 5 rfl
 have cn1 : w.cell? ⟨sb, 6, none⟩ = some (cS s 1) := hst.cell 6 rfl
 have cn2 : w.cell? ⟨sb, 7, none⟩ = some (cS s 2) := hst.cell 7 rfl
 have cn3 : w.cell? ⟨sb, 8, none⟩ = some (cS s 3) := hst.cell 8 rfl
 have cst : w.cell? ⟨sb, 9, none⟩ = some ((.func (.func q.1) #[] q.2)) := hst.cell 9 rfl
 have ctl : w.cell? ⟨sb, 10, none⟩ = some (.slice ta tl.length tc) := hst.cell 10 rfl
 have clo : w.cell? ⟨sb, 11, none⟩ = some (.int .u64 (W64 lo)) := hst.cell 11 rfl
 have hmade := hst
 have hN : StreamAt (w.alloc (.cells (stCells size f s q (.slice ta tl.length tc) lo).toArray 209)) w.heap.size size f s q (.slice ta tl.length tc) lo := heap_alloc_new w _
 have hF1 : Fr No w (w.alloc (.cells (stCells size f s q (.slice ta tl.length tc) lo).toArray 209)) := (Fr.refl No w).alloc _
 have hlt := hst.lt
 go_enter Tryz.func127, Tryz.ntmps127
 go_wp2_with (go_at_call 190; refine (made_any hmade).mono ?_; rintro e w' ⟨rfl, rfl⟩)
 have ctl1 := (hst.fr hF1 (fun h => h)).cell 10 rfl
 have hb1 := hb.no hF1
 simp only [stCells, fvS] at ctl1 hN hF1 hb1
 go_wp2_with fail
 refine (Clone_any _ _ _ tl _ hb1 (by omega)).mono ?_
 rintro e w2 ⟨v2, rfl, ho2, hf2⟩
 obtain ⟨a2, c2, rfl, _, _⟩ := ho2.bytes
 have hN2 := StreamAt.fr hN hf2 (fun h => h)
 have ctl2 := hN2.cell 10 rfl
 have fz2 := hN2.frozen 10
 go_wp2_with fail
 go_ret
 exact ⟨w.heap.size, _, rfl, Nat.le_refl _, hN2.put 10 _ rfl, (ho2.fr ((Fr.refl (fun x => x = w.heap.size) w2).setCell (p := ⟨w.heap.size, 10, none⟩) (.inl rfl) _) (fun x hx e => hN2.apart ho2 (by rw [hx, e]))).mono hF1.size, (hF1.no hf2).trans ((Fr.refl (fun x => x = w.heap.size) w2).setCell (p := ⟨w.heap.size, 10, none⟩) (.inl rfl) _) (fun x hx => .inr (by omega))⟩
end Go.Proofs.YtidlpihoafnobaaGreat.StG32
namespace Go.Proofs.YtidlpihoafnobaaGreat.StM86
set_option maxRecDepth 100000
open Go.Proofs.YtidlpihoafnobaaGreat.StG32
open Go.RowKit
def HClones (w0 : World) (hb sb : Nat) (sd : BitVec 32) (s : ST) (tl : Bytes) (lo : BitVec 64) (tv : Value) (w : World) (e : Ending) (w' : World) : Prop :=
 ∃ hb' sb' tv', e = .returned (.pointer (some ⟨hb', 0, none⟩)) ∧ HLive w0 w' hb' sb' sd s tl lo tv' ∧ Fr No w w' ∧ ∀ x, HFoot hb' sb' tv' x → w.heap.size ≤ x
set_option maxHeartbeats 400000 in
theorem Clone_h {w0 w : World} {hb sb : Nat} {sd : BitVec 32} {s : ST} {tl : Bytes} {lo : BitVec 64} {tv : Value} (h : HLive w0 w hb sb sd s tl lo tv) : Calls Tryz.prog 69 #[.pointer (some ⟨hb, 0, none⟩)] w (HClones w0 hb sb sd s tl lo tv w) := by
 have cc := h.cell
 have hlt := h.lt hb (.inl rfl)
 go_enter Tryz.func69, Tryz.ntmps69
 go_wp2_with (go_at_call 123; refine (made_h h).mono ?_; rintro e w' ⟨rfl, rfl⟩)
 refine (Clone_yes h.on.st h.on.ow (by have := h.tlen; omega)).mono ?_
 rintro e w2 ⟨sb2, tv2, rfl, hge, hst, hown, hfr⟩
 clear cc 
 go_wp2_with fail
 go_ret
 have hf3 := hfr.alloc (.cells #[.pointer (some ⟨sb2, 0, none⟩)] 156)
 have h3 : Fr No w2 (w2.alloc (.cells #[.pointer (some ⟨sb2, 0, none⟩)] 156)) := (Fr.refl No w2).alloc _
 have g1 := h.on.fr.size
 have g2 := hfr.size
 have g3 := hst.lt
 refine ⟨w2.heap.size, sb2, tv2, rfl, ⟨⟨hst.fr h3 (fun h => h), (hown.no h3).mono h.on.fr.size, by omega, h.on.fr.no hf3⟩, heap_alloc_new w2 _, by omega, ?_, h.tlen⟩, hf3, ?_⟩
 · rintro (g | g)
   · omega
   · have := own_lt hown g; omega
 · rintro x (rfl | rfl | g)
   · exact g2
   · exact hge
   · exact own_ge hown g
end Go.Proofs.YtidlpihoafnobaaGreat.StM86
namespace Go.Proofs.YtidlpihoafnobaaGreat.StM86
open Go.Proofs.YtidlpihoafnobaaGreat.StG32
set_option maxRecDepth 100000
open Go.RowKit
theorem twin_cl {w0 w : World} {k : Int} {kh kl : BitVec 64} {ib sb : Nat} {s : ST} {tl : Bytes} {lo : BitVec 64} {tv : Value} {c6 c7 c8 c9 c10 c11 : Nat} (hc : Cap6 w k kh kl ib c6 c7 c8 c9 c10 c11) (h : HLive w0 w ib sb (kl.setWidth 32) s tl lo tv) : Calls Tryz.prog 179 #[.pointer (some ⟨c6, 0, none⟩), .pointer (some ⟨c7, 0, none⟩), .pointer (some ⟨c11, 0, none⟩), .pointer (some ⟨c8, 0, none⟩), .pointer (some ⟨c9, 0, none⟩), .pointer (some ⟨c10, 0, none⟩)] w (fun e w' => ∃ hb', e = .returned (.pointer (some ⟨hb', 0, none⟩)) ∧ ∃ F', HS w0 w' hb' (F') k kh kl s tl lo ∧ (∀ x, F' x → w.heap.size ≤ x) ∧ Fr No w w') := by
 go_enter Tryz.func179, Tryz.ntmps179
 go_wp2_with fail
 refine rsq (by kernel_rfl) [(0, 1), (1, 1), (2, 1), (3, 1), (5, 1), (6, 1), (7, 1), (4, 0), (8, 0), (9, 1)] (by kernel_rfl) ?_
 have hS0 : Fr No w w.drew := (Fr.refl No w).drew
 iterate 7 refine tq _ rfl rfl (by intro w9 h9; have q6 := (hc.k6.no h9).c0; have q7 := (hc.k7.no h9).c0; have q7' := (hc.k7.no h9).c1; have q11 := (hc.k11.no h9).c0; have q8 := (hc.k8.no h9).c0; have q9 := (hc.k9.no h9).c0; have q10 := (hc.k10.no h9).c0; clear h9; go_simp; try with_reducible rfl) ?_; simp only [es1, es2, es3]
 refine wpSeq_next rfl rfl (fun K hK => ?_)
 go_wp2_with fail
 refine (Clone_h (h.no hS0)).mono ?_
 rintro e w2 ⟨ib2, sb2, tv2, rfl, hL2, hf2, hnew⟩
 have hs2 : Fr No w w2 := (hS0).no hf2
 refine hK.out _ _ (fun _ => hs2) ?_
 clear hK K
 refine wpSeq_next rfl rfl (fun K hK => ?_)
 go_wp2_with fail
 refine (wrapped_h hL2).mono ?_
 rintro e w3 ⟨hb3, rfl, hH3, hge3, hf3⟩
 have hs3 : Fr No w w3 := (hs2).no hf3
 refine hK.out _ _ (fun _ => hs3) ?_
 clear hK K
 refine tp _ rfl rfl ?_; simp only [es1, es2, es3]
 refine wpSeq_done ?_
 go_wp2_with fail
 go_ret
 exact ⟨hb3, rfl, _, hH3, fun x hx => hnew x (.inr hx), hs3⟩
theorem HS.clone {w0 w : World} {hb : Nat} {F : Nat → Prop} {k : Int} {kh kl : BitVec 64} {s : ST} {tl : Bytes} {lo : BitVec 64} (h : HS w0 w hb (F) k kh kl s tl lo) :
 Calls Tryz.prog 30 #[.pointer (some ⟨hb, 0, none⟩)] w (fun e w' => ∃ hb', e = .returned (.pointer (some ⟨hb', 0, none⟩)) ∧ ∃ F', HS w0 w' hb' (F') k kh kl s tl lo ∧ (∀ x, F' x → w.heap.size ≤ x) ∧ Fr No w w') := by
 obtain ⟨ib, sb, tv, c6, c7, c8, c9, c10, c11, hr, hc, hL, rfl⟩ := h
 exact hClone_of hr.c3 179 _ hr.c5 (calls_enter Tryz.func179 (by kernel_rfl) (by kernel_rfl)) (twin_cl hc hL)
end Go.Proofs.YtidlpihoafnobaaGreat.StM86
