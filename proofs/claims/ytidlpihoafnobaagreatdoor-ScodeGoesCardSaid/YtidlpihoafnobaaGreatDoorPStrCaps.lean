/- WriteAG64 RestG64 WriteG64 Con LiveG32 LiveG64 StrHasher StrCaps -/
import Derived.Stop.IfaceNil
import Derived.Test.YtidlpihoafnobaaGreatDoorPStrTell
import Derived.Test.YtidlpihoafnobaaGreatDoorPWriteG32
import Derived.Test.YtidlpihoafnobaaGreatDoorPWriteCG64
set_option linter.unusedVariables false
set_option linter.unusedSimpArgs false
namespace Go.Proofs.YtidlpihoafnobaaGreatDoor.StG64
set_option maxRecDepth 100000
open Go.RowKit
set_option maxHeartbeats 4000000 in
theorem Write_empty (E : World → Prop) (base sb : Nat) (size : Nat) (f s : ST) (q : QT) (ta : Option Addr) (tc : Nat) (lo0 : BitVec 64) (a : Option Addr) (n c : Nat) (l : Bytes) (w : World) (G : ST → Bytes → ST)
 (hE : E w) (hkeep : ∀ w', Fr (Foot sb (.slice ta 0 tc)) w w' → E w') (hstep : Hid (Steps E G size q))
 (hst : StreamAt w sb size f s q (.slice ta 0 tc) lo0) (ho : Owns w base (.slice ta 0 tc) []) (hb : base ≤ w.heap.size) (hz1 : 1 ≤ size) (hz2 : size ≤ 64) (h : IsBytes w a n c l) (hap : Apart (Foot sb (.slice ta 0 tc)) a n) (hn : n ≤ 1099511627776) :
 Calls Tryz.prog 319 #[.pointer (some ⟨sb, 0, none⟩), .slice a n c] w (Wrote base sb size f q (.slice ta 0 tc) (foldF G size s l) (lo0 + BitVec.ofNat 64 n) w) := by
 obtain ⟨lo, hlo⟩ : ∃ lo, lo = lo0 + BitVec.ofNat 64 n := ⟨_, rfl⟩
 have hst1 : StreamAt (w.setCell ⟨sb, 11, none⟩ (.int .u64 (W64 (lo0 + BitVec.ofNat 64 n)))) sb size f s q (.slice ta 0 tc) lo := by rw [hlo]; exact hst.put _ _ rfl
 have hfr1 : Fr (Foot sb (.slice ta 0 tc)) w (w.setCell ⟨sb, 11, none⟩ (.int .u64 (W64 (lo0 + BitVec.ofNat 64 n)))) := (Fr.refl _ w).setCell (.inl (.inl rfl)) _
 have hapo := hst.apart ho
 obtain ⟨r, hr⟩ : ∃ r, r = foldF G size s l := ⟨_, rfl⟩
 have hloop : LoopAt E G base sb size f q (.slice ta 0 tc) w r lo (.slice a n c) (w.setCell ⟨sb, 11, none⟩ (.int .u64 (W64 (lo0 + BitVec.ofNat 64 n)))) n :=
  ⟨a, c, l, s, (.slice ta 0 tc), rfl, h.fr hfr1 hap, hap, hn, hst1, ho.fr ((Fr.refl (fun x => x = sb) w).setCell (p := ⟨sb, 11, none⟩) (.inl rfl) _) (fun x hx e => hapo (by rw [hx, e])), by simpa using hb, hkeep _ hfr1, hr.symm, .inl rfl, hfr1⟩
 rw [← hr, ← hlo]
 have cz : w.cell? ⟨sb, 0, none⟩ = some (.int .i64 size) := hst.cell 0 rfl
 have cst : w.cell? ⟨sb, 9, none⟩ = some ((.func (.func q.1) #[] q.2)) := hst.cell 9 rfl
 have ctl : w.cell? ⟨sb, 10, none⟩ = some (.slice ta 0 tc) := hst.cell 10 rfl
 have clo : w.cell? ⟨sb, 11, none⟩ = some (.int .u64 (W64 lo0)) := hst.cell 11 rfl
 have fzl := hst.frozen 11
 have HL := Lib.hid hlo
 clear hlo hr
 go_enter Tryz.func319, Tryz.ntmps319
 go_wp2_with (go_at_call 240; refine (made_any hst).mono ?_; rintro e w' ⟨rfl, rfl⟩)
 go_loopw [1] (fun v wr => ∃ m, LoopAt E G base sb size f q (.slice ta 0 tc) w r lo v wr m) (fun v _ => match v with | .slice _ m _ => m | _ => 0)
 case atStart => exact ⟨_, hloop⟩
 case round =>
  obtain ⟨m, a', c', l', s', tv', rfl, hb', hap', hm', hst', ho', hbs', hE', hr', hnew', hfr'⟩ := hrel
  clear hloop
  have hlen' := Lib.hid hb'.1
  have hc' : m ≤ c' := hb'.2.1
  have hc'' : c' ≤ 9223372036854775807 := hb'.2.2.1
  have cz : wr.cell? ⟨sb, 0, none⟩ = some (.int .i64 size) := hst'.cell 0 rfl
  have cn0 : wr.cell? ⟨sb, 5, none⟩ = some (cS s' 0) := hst'.cell 5 rfl
  have cn1 : wr.cell? ⟨sb, 6, none⟩ = some (cS s' 1) := hst'.cell 6 rfl
  have cn2 : wr.cell? ⟨sb, 7, none⟩ = some (cS s' 2) := hst'.cell 7 rfl
  have cn3 : wr.cell? ⟨sb, 8, none⟩ = some (cS s' 3) := hst'.cell 8 rfl
  have cst : wr.cell? ⟨sb, 9, none⟩ = some ((.func (.func q.1) #[] q.2)) := hst'.cell 9 rfl
  have ctl : wr.cell? ⟨sb, 10, none⟩ = some (tv') := hst'.cell 10 rfl
  by_cases hlt : size ≤ m
  · have i1 : (size : Int) ≤ (m : Int) := by omega
    have i2 : (size : Int) ≤ (c' : Int) := by omega
    go_wp2_with fail
    have hcut := Lib.hid (hb'.head size size (n' := size) (c' := size) hlt (Nat.le_refl _) (by omega) rfl rfl)
    have hS0 : StreamAt wr.drew sb size f s' q tv' lo := hst'
    refine wp_region_late (by kernel_rfl) (fun w' => StreamAt w' sb size f s' q tv' lo) (fun i => decide (21 ≤ i)) hS0 (fun _ => ?_)
    refine lp 0 rfl hS0 ?_; simp only [Act.put, es1, es2, es3]
    refine lp 1 rfl hS0 ?_; simp only [Act.put, es1, es2, es3]
    refine lp 2 rfl hS0 ?_; simp only [Act.put, es1, es2, es3]
    refine lp 3 rfl hS0 ?_; simp only [Act.put, es1, es2, es3]
    refine lk 4 rfl (by kernel_rfl) (fun _ _ _ h => h) rfl (by intro w9 h9; have cst : w9.cell? ⟨sb, 9, none⟩ = some ((.func (.func q.1) #[] q.2)) := h9.cell 9 rfl; clear h9; go_simp; try with_reducible rfl) hS0 ?_; simp only [Act.put, es1, es2, es3]
    refine lp 5 rfl hS0 ?_; simp only [Act.put, es1, es2, es3]
    refine lp 6 rfl hS0 ?_; simp only [Act.put, es1, es2, es3]
    refine lp 7 rfl hS0 ?_; simp only [Act.put, es1, es2, es3]
    refine lk 8 rfl (by kernel_rfl) (fun _ _ _ h => h) rfl (by intro w9 h9; have cn0 : w9.cell? ⟨sb, 5, none⟩ = some (cS s' 0) := h9.cell 5 rfl; have cn1 : w9.cell? ⟨sb, 6, none⟩ = some (cS s' 1) := h9.cell 6 rfl; have cn2 : w9.cell? ⟨sb, 7, none⟩ = some (cS s' 2) := h9.cell 7 rfl; have cn3 : w9.cell? ⟨sb, 8, none⟩ = some (cS s' 3) := h9.cell 8 rfl; clear h9; go_simp; try with_reducible rfl) hS0 ?_; simp only [Act.put, es1, es2, es3]
    refine lp 9 rfl hS0 ?_; simp only [Act.put, es1, es2, es3]
    refine lp 10 rfl hS0 ?_; simp only [Act.put, es1, es2, es3]
    refine lp 11 rfl hS0 ?_; simp only [Act.put, es1, es2, es3]
    refine lp 12 rfl hS0 ?_; simp only [Act.put, es1, es2, es3]
    refine lk 13 rfl (by kernel_rfl) (fun _ _ _ h => h) rfl (by intro w9 h9; have cz : w9.cell? ⟨sb, 0, none⟩ = some (.int .i64 size) := h9.cell 0 rfl; clear h9; go_simp; try with_reducible rfl) hS0 ?_; simp only [Act.put, es1, es2, es3]
    refine lp 14 rfl hS0 ?_; simp only [Act.put, es1, es2, es3]
    refine lp 15 rfl hS0 ?_; simp only [Act.put, es1, es2, es3]
    refine lp 16 rfl hS0 ?_; simp only [Act.put, es1, es2, es3]
    refine lk 17 rfl (by kernel_rfl) (fun _ _ _ h => h) rfl (by intro w9 h9; have cz : w9.cell? ⟨sb, 0, none⟩ = some (.int .i64 size) := h9.cell 0 rfl; clear h9; go_simp; try with_reducible rfl) hS0 ?_; simp only [Act.put, es1, es2, es3]
    refine lp 18 rfl hS0 ?_; simp only [Act.put, es1, es2, es3]
    refine wpLate_next (k := 19) (by kernel_rfl) rfl rfl (fun K hK => ?_)
    go_wp2_with fail
    refine (Clone_any _ _ _ (l'.take size) _ (hcut.out.no (Fr.refl No wr).drew) (by omega)).mono ?_
    rintro e w2 ⟨v2, rfl, ho2, hf2d⟩
    have hf2 : Fr No wr w2 := (Fr.refl No wr).drew.no hf2d
    clear hf2d
    obtain ⟨a2, c2, rfl, hb2, _⟩ := ho2.bytes
    have hl2 : (l'.take size).length = size := by rw [List.length_take, hlen'.out]; omega
    rw [hl2] at hb2 ⊢
    have hS2 : StreamAt w2 sb size f s' q tv' lo := hst'.fr hf2 (fun h => h)
    have hE2 : E w2 := hkeep w2 (hfr'.no hf2)
    refine hK.out _ _ (fun _ => hS2) ?_
    clear hK K ho2 hS0
    refine wpLate_next (k := 20) (by kernel_rfl) rfl rfl (fun K hK => ?_)
    have hcl := hstep.out.1
    go_wp2_with fail
    clear hcl
    refine (hstep.out.2 _ _ _ _ _ _ hE2 hb2 hl2).mono ?_
    rintro e w3 ⟨rfl, hf3⟩
    have hS3 : StreamAt w3 sb size f s' q tv' lo := hS2.fr hf3 (fun h => h)
    refine hK.out _ _ (fun _ => hS3) ?_
    clear hK K hE2 hb2 hl2 hS2
    refine lk' 21 rfl (by kernel_rfl) (fun _ _ _ h => h) rfl (by intro w9 h9; go_simp; try with_reducible rfl) ?_; simp only [Act.put, es1, es2, es3]
    refine lk' 22 rfl (by kernel_rfl) (fun _ _ _ h => h) rfl (by intro w9 h9; go_simp; try with_reducible rfl) ?_; simp only [Act.put, es1, es2, es3]
    have cn0 : w3.cell? ⟨sb, 5, none⟩ = some (cS s' 0) := hS3.cell 5 rfl
    have cn1 : w3.cell? ⟨sb, 6, none⟩ = some (cS s' 1) := hS3.cell 6 rfl
    have cn2 : w3.cell? ⟨sb, 7, none⟩ = some (cS s' 2) := hS3.cell 7 rfl
    have cn3 : w3.cell? ⟨sb, 8, none⟩ = some (cS s' 3) := hS3.cell 8 rfl
    have fz0 := hS3.frozen 5
    have fz1 := hS3.frozen 6
    have fz2 := hS3.frozen 7
    have fz3 := hS3.frozen 8
    refine wpLate_next (k := 23) (by kernel_rfl) rfl rfl (fun K hK => ?_)
    go_wp2_with fail
    refine hK.out _ _ (fun h => by simp at h) ?_
    clear hK K
    refine wpLate_done (by kernel_rfl) ?_ _
    have hS4 : StreamAt (World.setCell (World.setCell (World.setCell (World.setCell w3 ⟨sb, 5, none⟩ (cS (G s' (l'.take size)) 0)) ⟨sb, 6, none⟩ (cS (G s' (l'.take size)) 1)) ⟨sb, 7, none⟩ (cS (G s' (l'.take size)) 2)) ⟨sb, 8, none⟩ (cS (G s' (l'.take size)) 3)) sb size f (G s' (l'.take size)) q tv' lo := (row_put (row_put (row_put (row_put hS3 5 (cS (G s' (l'.take size)) 0)) 6 (cS (G s' (l'.take size)) 1)) 7 (cS (G s' (l'.take size)) 2)) 8 (cS (G s' (l'.take size)) 3))
    have hF4 : Fr (fun x => x = sb) w3 (World.setCell (World.setCell (World.setCell (World.setCell w3 ⟨sb, 5, none⟩ (cS (G s' (l'.take size)) 0)) ⟨sb, 6, none⟩ (cS (G s' (l'.take size)) 1)) ⟨sb, 7, none⟩ (cS (G s' (l'.take size)) 2)) ⟨sb, 8, none⟩ (cS (G s' (l'.take size)) 3)) := ((((Fr.refl (fun x => x = sb) w3).setCell (p := ⟨sb, 5, none⟩) (.inl rfl) _).setCell (p := ⟨sb, 6, none⟩) (.inl rfl) _).setCell (p := ⟨sb, 7, none⟩) (.inl rfl) _).setCell (p := ⟨sb, 8, none⟩) (.inl rfl) _
    clear cn0 fz0 cn1 fz1 cn2 fz2 cn3 fz3 hS3
    generalize (World.setCell (World.setCell (World.setCell (World.setCell w3 ⟨sb, 5, none⟩ (cS (G s' (l'.take size)) 0)) ⟨sb, 6, none⟩ (cS (G s' (l'.take size)) 1)) ⟨sb, 7, none⟩ (cS (G s' (l'.take size)) 2)) ⟨sb, 8, none⟩ (cS (G s' (l'.take size)) 3)) = w4 at hS4 hF4 ⊢
    have hF34 : Fr (fun x => x = sb) wr w4 := ((hf2.no hf3).mono (fun _ _ f => f.elim)).trans hF4 (fun x h => .inl h)
    have cz4 : w4.cell? ⟨sb, 0, none⟩ = some (.int .i64 size) := hS4.cell 0 rfl
    clear cz cst ctl
    go_wp2_with fail
    have hcut2 := hb'.cut_to_end size (n' := m - size) (c' := c' - size) hlt rfl rfl
    have hap2 := hap'.sub (n' := m - size) (by omega) size c' 1
    have hfe := hfr'.trans hF34 (fun x h => .inl (.inl h))
    go_roundw
    case rel => exact ⟨m - size, _, _, _, _, tv', rfl, hcut2.fr hF34 (fun x hx e h => hap2 x hx e (.inl h)), hap2, by omega, hS4, ho'.fr hF34 (fun x hx e => hst'.apart ho' (by rw [hx, e])), Nat.le_trans hbs' hF34.size, hkeep _ hfe, by rw [← hr']; exact (foldF_step hz1 (by rw [hlen'.out]; exact hlt)).symm, hnew', hfe⟩
    case measure => simp; omega
  · have i1 : (m : Int) < (size : Int) := by omega
    obtain ⟨ta', tc', rfl, _, _⟩ := ho'.bytes
    have hne := hst'.apart ho'
    go_wp2_with (refine wpList_append_bytes _ _ _ _ _ _ base _ [] rfl ho' _ _ _ l' rfl hb' (by simp; omega) hbs' ?_; intro v2 w2 hown2 hfr2 hnew2; obtain ⟨a2, c2, rfl, _, _⟩ := hown2.bytes; have hst2 := hst'.fr hfr2 hne; have ctl2 := hst2.cell 10 rfl; have fz2 := hst2.frozen 10)
    go_end0
    have hsh : foldF G size s' l' = (s', l') := foldF_short (by rw [hlen'.out]; omega)
    refine ⟨rfl, .slice a2 (([] : Bytes) ++ l').length c2, ?_, ?_, ?_, ?_⟩
    · rw [← hr', hsh]; exact hst2.put 10 _ rfl
    · rw [← hr', hsh]; exact hown2.fr ((Fr.refl (fun x => x = sb) w2).setCell (p := ⟨sb, 10, none⟩) (.inl rfl) _) (fun x hx e => hst2.apart hown2 (by rw [hx, e]))
    · rcases hnew2 with e | e
      · rw [e]; exact hnew'
      · refine .inr fun x hx => ?_
        rw [e] at hx; cases hx; exact hfr'.size
    · exact (hfr'.trans hfr2 (fun x hx => by rcases hnew' with e | e; exact .inl (.inr (by rw [← e]; exact hx)); exact .inr (e x hx))).setCell (.inl (.inl rfl)) _
end Go.Proofs.YtidlpihoafnobaaGreatDoor.StG64
namespace Go.Proofs.YtidlpihoafnobaaGreatDoor.StG64
set_option maxRecDepth 100000
open Go.RowKit
theorem Long_any {w : World} {sb : Nat} {size : Int} {f s : ST} {q : QT} {tv : Value} {lo : BitVec 64} (hst : StreamAt w sb size f s q tv lo) : Calls Tryz.prog 219 #[.pointer (some ⟨sb, 0, none⟩)] w (Gives (.int .u64 (W64 lo)) w) := by
 have clo : w.cell? ⟨sb, 11, none⟩ = some (.int .u64 (W64 lo)) := hst.cell 11 rfl
 go_enter Tryz.func219, Tryz.ntmps219
 go_wp2_with (go_at_call 240; refine (made_any hst).mono ?_; rintro e w' ⟨rfl, rfl⟩)
 go_ret
 exact ⟨rfl, rfl⟩
theorem Tail_any {w : World} {sb : Nat} {size : Int} {f s : ST} {q : QT} {tv : Value} {lo : BitVec 64} {base : Nat} {tl : Bytes} (hst : StreamAt w sb size f s q tv lo) (ho : Owns w base tv tl) (hl : tl.length ≤ 1099511627776) : Calls Tryz.prog 218 #[.pointer (some ⟨sb, 0, none⟩)] w (GivesBytes tl w) := by
 obtain ⟨ta, tc, rfl, hb, _⟩ := ho.bytes
 have ctl : w.cell? ⟨sb, 10, none⟩ = some (.slice ta tl.length tc) := hst.cell 10 rfl
 go_enter Tryz.func218, Tryz.ntmps218
 go_wp2_with (first | (go_at_call 240; refine (made_any hst).mono ?_; rintro e w' ⟨rfl, rfl⟩) | (go_at_call 182; refine (Clone_any _ _ _ tl _ hb (by omega)).mono ?_; rintro e w2 ⟨v2, rfl, ho2, hf2⟩))
 go_ret
 exact ⟨v2, rfl, ho2, hf2⟩
theorem State_any {w : World} {sb : Nat} {size : Int} {f s : ST} {q : QT} {tv : Value} {lo : BitVec 64} (hst0 : StreamAt w sb size f s q tv lo) : Calls Tryz.prog 217 #[.pointer (some ⟨sb, 0, none⟩)] w (GivesS s w) := by
 have hst : StreamAt (w.alloc (.cells ([.int .u64 0, .int .u64 0, .int .u64 0, .int .u64 0]).toArray 31)) sb size f s q tv lo := hst0.fr ((Fr.refl No w).alloc _) (fun h => h)
 have cn0 : (w.alloc (.cells #[.int .u64 0, .int .u64 0, .int .u64 0, .int .u64 0] 31)).cell? ⟨sb, 5, none⟩ = some (cS s 0) := hst.cell 5 rfl
 have cn1 : (w.alloc (.cells #[.int .u64 0, .int .u64 0, .int .u64 0, .int .u64 0] 31)).cell? ⟨sb, 6, none⟩ = some (cS s 1) := hst.cell 6 rfl
 have cn2 : (w.alloc (.cells #[.int .u64 0, .int .u64 0, .int .u64 0, .int .u64 0] 31)).cell? ⟨sb, 7, none⟩ = some (cS s 2) := hst.cell 7 rfl
 have cn3 : (w.alloc (.cells #[.int .u64 0, .int .u64 0, .int .u64 0, .int .u64 0] 31)).cell? ⟨sb, 8, none⟩ = some (cS s 3) := hst.cell 8 rfl
 go_enter Tryz.func217, Tryz.ntmps217
 go_wp2_with (go_at_call 240; refine (made_any hst).mono ?_; rintro e w' ⟨rfl, rfl⟩)
 have hB : BoxAt (w.alloc (.cells (boxCells s).toArray 31)) w.heap.size s := heap_alloc_new w _
 have cd0 : (w.alloc (.cells #[cS s 0, cS s 1, cS s 2, cS s 3] 31)).cell? ⟨w.heap.size, 0, none⟩ = some (cS s 0) := hB.cell 0 rfl
 have cd1 : (w.alloc (.cells #[cS s 0, cS s 1, cS s 2, cS s 3] 31)).cell? ⟨w.heap.size, 1, none⟩ = some (cS s 1) := hB.cell 1 rfl
 have cd2 : (w.alloc (.cells #[cS s 0, cS s 1, cS s 2, cS s 3] 31)).cell? ⟨w.heap.size, 2, none⟩ = some (cS s 2) := hB.cell 2 rfl
 have cd3 : (w.alloc (.cells #[cS s 0, cS s 1, cS s 2, cS s 3] 31)).cell? ⟨w.heap.size, 3, none⟩ = some (cS s 3) := hB.cell 3 rfl
 exact bodyPost_ret (v := .agg #[cS s 0, cS s 1, cS s 2, cS s 3]) (by simp [results, Tryz.results217, go_sem, cd0, cd1, cd2, cd3]) rfl ⟨rfl, (Fr.refl No w).alloc _⟩
@[go_sem] theorem run_store_fv (k : Nat) (x y : Array Value) (w : World) (a : Addr) (md : Mode) : (store a (.func (.func k) x y) md).run Tryz.prog w = stored Tryz.prog w a (.func (.func k) x y) md := run_store Tryz.prog w a _ md rfl
end Go.Proofs.YtidlpihoafnobaaGreatDoor.StG64
namespace Go.Proofs.YtidlpihoafnobaaGreatDoor.StG64
set_option maxRecDepth 100000
open Go.RowKit
def Str (w : World) (base sb : Nat) (size : Nat) (f s : ST) (q : QT) (tl : Bytes) (lo : BitVec 64) (tv : Value) : Prop :=
 StreamAt w sb size f s q tv lo ∧ Owns w base tv tl ∧ base ≤ w.heap.size
theorem Write_any {w : World} {base sb size : Nat} {f s : ST} {q : QT} {tl : Bytes} {lo : BitVec 64} {tv : Value} (E : World → Prop) (G : ST → Bytes → ST) (hS : Str w base sb size f s q tl lo tv)
 (hkeep : ∀ w', Fr (Foot sb tv) w w' → E w') (hstep : Hid (Steps E G size q)) (hz1 : 1 ≤ size) (hz2 : size ≤ 64) (htl : tl.length < size) (a : Option Addr) (n c : Nat) (l : Bytes) (h : IsBytes w a n c l) (hap : Apart (Foot sb tv) a n) (hn : n ≤ 1099511627776) :
 Calls Tryz.prog 319 #[.pointer (some ⟨sb, 0, none⟩), .slice a n c] w (Wrote base sb size f q tv (foldF G size s (tl ++ l)) (lo + BitVec.ofNat 64 n) w) := by
 obtain ⟨hst, ho, hb⟩ := hS
 obtain ⟨ta, tc, rfl, hbt, _⟩ := ho.bytes
 have hE := hkeep w (Fr.refl _ w)
 obtain ⟨k, hk⟩ : ∃ k, tl.length = k := ⟨_, rfl⟩
 rw [hk] at hst ho hkeep htl hap ⊢
 rcases Nat.eq_zero_or_pos k with e | hpos
 · subst e
   obtain rfl : tl = [] := List.eq_nil_of_length_eq_zero hk
   exact Write_empty E base sb size f s q ta tc lo a n c l w G hE hkeep hstep hst ho hb hz1 hz2 h hap hn
 · by_cases hp : k + n < size
   · have := Write_part E base sb size f s q ta k tc tl lo a n c l w G hE hkeep hstep hst ho hb hz1 hz2 hk hpos htl h hap hn hp
     rwa [← foldF_short (F := G) (s := s) (size := size) (l := tl ++ l) (by rw [List.length_append, hk, h.1]; exact hp)] at this
   · exact Write_fill E base sb size f s q ta k tc tl lo a n c l w G hE hkeep hstep hst ho hb hz1 hz2 hk hpos htl h hap hn (by omega) _ rfl
end Go.Proofs.YtidlpihoafnobaaGreatDoor.StG64
namespace Go.Proofs.YtidlpihoafnobaaGreatDoor
set_option maxRecDepth 100000
open Go.RowKit
def wrT : List TypeId := [5
 , 248
 , 260
 , 264
 , 291
 ]
def Con (o : Obj) : Prop := ∃ cs T, o = .cells cs T (0, 0) ∧ wrT.contains T = false
def Keeps (w : World) (F : Nat → Prop) : Prop := ∀ x o, w.heap[x]? = some o → Con o → ¬ F x
theorem Keeps.sub {w : World} {F G : Nat → Prop} (h : Keeps w F) (hG : ∀ x, G x → F x) : Keeps w G := fun x o ho hc g => h x o ho hc (hG x g)
theorem Keeps.no (w : World) : Keeps w No := fun _ _ _ _ g => g.elim
theorem Keeps.fr {w w' : World} {F : Nat → Prop} (h : Keeps w F) (k : Fr F w w') {x : Nat} {o : Obj} (ho : w.heap[x]? = some o) (hc : Con o) : w'.heap[x]? = some o := k.heap (h x o ho hc) ho
theorem Keeps.own {w : World} {base : Nat} {v : Value} {l : Bytes} (h : Owns w base v l) : Keeps w (fun x => v.ownBlock = some x) := fun x o ho hc g => by
 rcases h.2 with ⟨rfl, _⟩ | ⟨b, cap, cur, rfl, _, hg, _⟩
 · simp [Value.ownBlock] at g
 · simp [Value.ownBlock] at g
   subst g
   rw [hg] at ho
   obtain ⟨cs, T, e, hT⟩ := hc
   rw [e] at ho
   simp at ho
   rw [← ho.2] at hT
   exact absurd hT (by decide)
end Go.Proofs.YtidlpihoafnobaaGreatDoor
namespace Go.Proofs.YtidlpihoafnobaaGreatDoor.StG32
set_option maxRecDepth 100000
open Go.RowKit
structure Live (w0 w : World) (sb size : Nat) (f s : ST) (q : QT) (tl : Bytes) (lo : BitVec 64) (tv : Value) : Prop where
 st : StreamAt w sb size f s q tv lo
 ow : Owns w w0.heap.size tv tl
 ge : w0.heap.size ≤ sb
 fr : Fr No w0 w
theorem own_lt {w : World} {base : Nat} {v : Value} {l : Bytes} (h : Owns w base v l) {x : Nat} (hx : v.ownBlock = some x) : x < w.heap.size := by
 obtain ⟨a, c, rfl, _, hb⟩ := h.bytes
 cases a with
 | none => simp [Value.ownBlock] at hx
 | some y => simp [Value.ownBlock] at hx; have := (hb y rfl).2; omega
section
variable {w0 w w' : World} {sb size : Nat} {f s : ST} {q : QT} {tl : Bytes} {lo : BitVec 64} {tv : Value}
theorem Live.lt (h : Live w0 w sb size f s q tl lo tv) : ∀ x, Foot sb tv x → x < w.heap.size := fun x hx => by
 rcases hx with rfl | hx
 · exact h.st.lt
 · exact own_lt h.ow hx
theorem Live.above (h : Live w0 w sb size f s q tl lo tv) : ∀ x, Foot sb tv x → w0.heap.size ≤ x := fun x hx => by
 rcases hx with rfl | hx
 · exact h.ge
 · exact own_ge h.ow hx
theorem Live.keep {F : Nat → Prop} (h : Live w0 w sb size f s q tl lo tv) (k : Fr F w w') (hF : ∀ x, F x → ¬ Foot sb tv x) (hA : ∀ x, F x → w0.heap.size ≤ x) : Live w0 w' sb size f s q tl lo tv :=
 ⟨h.st.fr k (fun g => hF _ g (.inl rfl)), h.ow.fr k (fun x hx g => hF x g (.inr hx)), h.ge, h.fr.trans k (fun x hx => .inr (hA x hx))⟩
theorem Live.no (h : Live w0 w sb size f s q tl lo tv) (k : Fr No w w') : Live w0 w' sb size f s q tl lo tv := h.keep k (fun _ g => g.elim) (fun _ g => g.elim)
theorem Live.drew (h : Live w0 w sb size f s q tl lo tv) : Live w0 w.drew sb size f s q tl lo tv := h.no (Fr.refl No w).drew
theorem Live.con (h : Live w0 w sb size f s q tl lo tv) : Keeps w (Foot sb tv) := fun x o ho hc g => by
 rcases g with rfl | g
 · obtain ⟨cs, T, e, hT⟩ := hc
   have hst := h.st
   unfold StreamAt at hst
   rw [hst] at ho
   rw [e] at ho
   simp at ho
   rw [← ho.2] at hT
   exact absurd hT (by decide)
 · exact Keeps.own h.ow x o ho hc g
def Sep (sb : Nat) (tv : Value) (sb' : Nat) (tv' : Value) : Prop := ∀ x, Foot sb tv x → ¬ Foot sb' tv' x
theorem Sep.symm {sb sb' : Nat} {tv tv' : Value} (h : Sep sb tv sb' tv') : Sep sb' tv' sb tv := fun x h1 h2 => h x h2 h1
def LiveWrote (w0 : World) (sb size : Nat) (f : ST) (q : QT) (tv : Value) (r : ST × Bytes) (lo : BitVec 64) (w : World) (e : Ending) (w' : World) : Prop :=
 e = .returned (.tuple #[]) ∧ ∃ tv', Live w0 w' sb size f r.1 q r.2 lo tv' ∧ Fr (Foot sb tv) w w' ∧ (tv'.ownBlock = tv.ownBlock ∨ ∀ x, tv'.ownBlock = some x → w.heap.size ≤ x)
theorem live_write (E : World → Prop) (G : ST → Bytes → ST) (h : Live w0 w sb size f s q tl lo tv) (hkeep : ∀ w', Fr (Foot sb tv) w w' → E w') (hstep : Hid (Steps E G size q)) (hz1 : 1 ≤ size) (hz2 : size ≤ 64) (htl : tl.length < size)
 (a : Option Addr) (n c : Nat) (l : Bytes) (hb : IsBytes w a n c l) (hap : Apart (Foot sb tv) a n) (hn : n ≤ 1099511627776) :
 Calls Tryz.prog 285 #[.pointer (some ⟨sb, 0, none⟩), .slice a n c] w (LiveWrote w0 sb size f q tv (foldF G size s (tl ++ l)) (lo + BitVec.ofNat 64 n) w) := by
 refine (Write_any E G ⟨h.st, h.ow, h.fr.size⟩ hkeep hstep hz1 hz2 htl a n c l hb hap hn).mono ?_
 rintro e w' ⟨rfl, tv', hst, hown, hnew, hfr⟩
 exact ⟨rfl, tv', ⟨hst, hown, h.ge, h.fr.trans hfr (fun x hx => .inr (h.above x hx))⟩, hfr, hnew⟩
end
end Go.Proofs.YtidlpihoafnobaaGreatDoor.StG32
namespace Go.Proofs.YtidlpihoafnobaaGreatDoor.StG64
set_option maxRecDepth 100000
open Go.RowKit
structure Live (w0 w : World) (sb size : Nat) (f s : ST) (q : QT) (tl : Bytes) (lo : BitVec 64) (tv : Value) : Prop where
 st : StreamAt w sb size f s q tv lo
 ow : Owns w w0.heap.size tv tl
 ge : w0.heap.size ≤ sb
 fr : Fr No w0 w
theorem own_lt {w : World} {base : Nat} {v : Value} {l : Bytes} (h : Owns w base v l) {x : Nat} (hx : v.ownBlock = some x) : x < w.heap.size := by
 obtain ⟨a, c, rfl, _, hb⟩ := h.bytes
 cases a with
 | none => simp [Value.ownBlock] at hx
 | some y => simp [Value.ownBlock] at hx; have := (hb y rfl).2; omega
section
variable {w0 w w' : World} {sb size : Nat} {f s : ST} {q : QT} {tl : Bytes} {lo : BitVec 64} {tv : Value}
theorem Live.lt (h : Live w0 w sb size f s q tl lo tv) : ∀ x, Foot sb tv x → x < w.heap.size := fun x hx => by
 rcases hx with rfl | hx
 · exact h.st.lt
 · exact own_lt h.ow hx
theorem Live.above (h : Live w0 w sb size f s q tl lo tv) : ∀ x, Foot sb tv x → w0.heap.size ≤ x := fun x hx => by
 rcases hx with rfl | hx
 · exact h.ge
 · exact own_ge h.ow hx
theorem Live.keep {F : Nat → Prop} (h : Live w0 w sb size f s q tl lo tv) (k : Fr F w w') (hF : ∀ x, F x → ¬ Foot sb tv x) (hA : ∀ x, F x → w0.heap.size ≤ x) : Live w0 w' sb size f s q tl lo tv :=
 ⟨h.st.fr k (fun g => hF _ g (.inl rfl)), h.ow.fr k (fun x hx g => hF x g (.inr hx)), h.ge, h.fr.trans k (fun x hx => .inr (hA x hx))⟩
theorem Live.no (h : Live w0 w sb size f s q tl lo tv) (k : Fr No w w') : Live w0 w' sb size f s q tl lo tv := h.keep k (fun _ g => g.elim) (fun _ g => g.elim)
theorem Live.drew (h : Live w0 w sb size f s q tl lo tv) : Live w0 w.drew sb size f s q tl lo tv := h.no (Fr.refl No w).drew
theorem Live.con (h : Live w0 w sb size f s q tl lo tv) : Keeps w (Foot sb tv) := fun x o ho hc g => by
 rcases g with rfl | g
 · obtain ⟨cs, T, e, hT⟩ := hc
   have hst := h.st
   unfold StreamAt at hst
   rw [hst] at ho
   rw [e] at ho
   simp at ho
   rw [← ho.2] at hT
   exact absurd hT (by decide)
 · exact Keeps.own h.ow x o ho hc g
def Sep (sb : Nat) (tv : Value) (sb' : Nat) (tv' : Value) : Prop := ∀ x, Foot sb tv x → ¬ Foot sb' tv' x
theorem Sep.symm {sb sb' : Nat} {tv tv' : Value} (h : Sep sb tv sb' tv') : Sep sb' tv' sb tv := fun x h1 h2 => h x h2 h1
def LiveWrote (w0 : World) (sb size : Nat) (f : ST) (q : QT) (tv : Value) (r : ST × Bytes) (lo : BitVec 64) (w : World) (e : Ending) (w' : World) : Prop :=
 e = .returned (.tuple #[]) ∧ ∃ tv', Live w0 w' sb size f r.1 q r.2 lo tv' ∧ Fr (Foot sb tv) w w' ∧ (tv'.ownBlock = tv.ownBlock ∨ ∀ x, tv'.ownBlock = some x → w.heap.size ≤ x)
theorem live_write (E : World → Prop) (G : ST → Bytes → ST) (h : Live w0 w sb size f s q tl lo tv) (hkeep : ∀ w', Fr (Foot sb tv) w w' → E w') (hstep : Hid (Steps E G size q)) (hz1 : 1 ≤ size) (hz2 : size ≤ 64) (htl : tl.length < size)
 (a : Option Addr) (n c : Nat) (l : Bytes) (hb : IsBytes w a n c l) (hap : Apart (Foot sb tv) a n) (hn : n ≤ 1099511627776) :
 Calls Tryz.prog 319 #[.pointer (some ⟨sb, 0, none⟩), .slice a n c] w (LiveWrote w0 sb size f q tv (foldF G size s (tl ++ l)) (lo + BitVec.ofNat 64 n) w) := by
 refine (Write_any E G ⟨h.st, h.ow, h.fr.size⟩ hkeep hstep hz1 hz2 htl a n c l hb hap hn).mono ?_
 rintro e w' ⟨rfl, tv', hst, hown, hnew, hfr⟩
 exact ⟨rfl, tv', ⟨hst, hown, h.ge, h.fr.trans hfr (fun x hx => .inr (h.above x hx))⟩, hfr, hnew⟩
end
end Go.Proofs.YtidlpihoafnobaaGreatDoor.StG64
namespace Go.Proofs.YtidlpihoafnobaaGreatDoor
set_option maxRecDepth 100000
open Go.RowKit
def HRow (w : World) (hb : Nat) (k : Int) (kh kl : BitVec 64) (iv sv tv : Value) : Prop := w.heap[hb]? = some (.cells #[.int .i64 k, .int .u64 (W64 kh), .int .u64 (W64 kl), iv, sv, tv] 78 (0, 0))
section
variable {w : World} {hb : Nat} {k : Int} {kh kl : BitVec 64} {iv sv tv : Value}
theorem HRow.c0 (h : HRow w hb k kh kl iv sv tv) : w.cell? ⟨hb, 0, none⟩ = some (.int .i64 k) := by rw [cell_of_row w hb 0 _ _ _ h]; rfl
theorem HRow.c1 (h : HRow w hb k kh kl iv sv tv) : w.cell? ⟨hb, 1, none⟩ = some (.int .u64 (W64 kh)) := by rw [cell_of_row w hb 1 _ _ _ h]; rfl
theorem HRow.c2 (h : HRow w hb k kh kl iv sv tv) : w.cell? ⟨hb, 2, none⟩ = some (.int .u64 (W64 kl)) := by rw [cell_of_row w hb 2 _ _ _ h]; rfl
theorem HRow.c3 (h : HRow w hb k kh kl iv sv tv) : w.cell? ⟨hb, 3, none⟩ = some (iv) := by rw [cell_of_row w hb 3 _ _ _ h]; rfl
theorem HRow.c4 (h : HRow w hb k kh kl iv sv tv) : w.cell? ⟨hb, 4, none⟩ = some (sv) := by rw [cell_of_row w hb 4 _ _ _ h]; rfl
theorem HRow.c5 (h : HRow w hb k kh kl iv sv tv) : w.cell? ⟨hb, 5, none⟩ = some (tv) := by rw [cell_of_row w hb 5 _ _ _ h]; rfl
theorem HRow.con (h : HRow w hb k kh kl iv sv tv) : ∃ o, w.heap[hb]? = some o ∧ Con o := ⟨_, h, _, _, rfl, by decide⟩
theorem HRow.fr {F : Nat → Prop} {w' : World} (h : HRow w hb k kh kl iv sv tv) (f : Fr F w w') (c : Keeps w F) : HRow w' hb k kh kl iv sv tv := c.fr f h ⟨_, _, rfl, by decide⟩
theorem HRow.no {w' : World} (h : HRow w hb k kh kl iv sv tv) (f : Fr No w w') : HRow w' hb k kh kl iv sv tv := f.heap (fun h => h) h
theorem HRow.lt (h : HRow w hb k kh kl iv sv tv) : hb < w.heap.size := (Array.getElem?_eq_some_iff.1 h).1
end
theorem neq_iface (T : TypeId) (v : Value) (w : World) : (binOp .neq 74 (.iface T v) .nilIface).run Tryz.prog w = .ok (.bool true) w := by
 exact run_neq_iface_nil w _ (by kernel_rfl) T v
theorem hmade_yes {w : World} {hb : Nat} {T : TypeId} {v : Value} (h : w.cell? ⟨hb, 3, none⟩ = some (.iface T v)) : Calls Tryz.prog 33 #[.pointer (some ⟨hb, 0, none⟩)] w (Gives (.bool true) w) := by
 have hq := neq_iface T v
 go_enter Tryz.func33, Tryz.ntmps33
 go_wp2
 go_ret
 exact ⟨rfl, rfl⟩
theorem hKind_yes {w : World} {hb : Nat} {T : TypeId} {v : Value} (h3 : w.cell? ⟨hb, 3, none⟩ = some (.iface T v)) {k : Int} (h0 : w.cell? ⟨hb, 0, none⟩ = some (.int .i64 k)) : Calls Tryz.prog 15 #[.pointer (some ⟨hb, 0, none⟩)] w (Gives (.int .i64 k) w) := by
 go_enter Tryz.func15, Tryz.ntmps15
 go_wp2_with (go_at_call 33; refine (hmade_yes h3).mono ?_; rintro e w' ⟨rfl, rfl⟩)
 go_ret
 exact ⟨rfl, rfl⟩
theorem hWrite_of {w : World} {hb : Nat} {T : TypeId} {v : Value} (h3 : w.cell? ⟨hb, 3, none⟩ = some (.iface T v)) (f : FuncId) (hm : ∀ W, (Go.method 428 T v "Write").run Tryz.prog W = .ok (f, v) W) (he : ∀ (args : Array Value) (W : World), Sem.run Tryz.prog (callFunc f args) W = .ok (.enter f args) W) (a : Option Addr) (n c : Nat) {Q : World → Prop} (hc : Calls Tryz.prog f #[v, .slice a n c] w (fun e w' => e = .returned (.tuple #[]) ∧ Q w')) :
 Calls Tryz.prog 14 #[.pointer (some ⟨hb, 0, none⟩), .slice a n c] w (fun e w' => e = .returned (.int .i64 0) ∧ Q w') := by
 go_enter Tryz.func14, Tryz.ntmps14
 go_wp2_with (go_at_call 33; refine (hmade_yes h3).mono ?_; rintro e w' ⟨rfl, rfl⟩)
 refine hc.mono ?_
 rintro e w1 ⟨rfl, hQ⟩
 go_wp2_with fail
 go_ret
 exact ⟨rfl, hQ⟩
theorem hSum_of {w : World} {hb : Nat} {T : TypeId} {v : Value} (h3 : w.cell? ⟨hb, 3, none⟩ = some (.iface T v)) (f : FuncId) (cs : Array Value) (h4 : w.cell? ⟨hb, 4, none⟩ = some (.func (.func f) #[] cs)) (he : ∀ (args : Array Value) (W : World), Sem.run Tryz.prog (callFunc f args) W = .ok (.enter f args) W) {l : Bytes} (hc : Calls Tryz.prog f cs w (GivesBytes l w)) :
 Calls Tryz.prog 9 #[.pointer (some ⟨hb, 0, none⟩)] w (fun e w' => ∃ v, e = .returned (.tuple #[v, .int .i64 0]) ∧ Owns w' w.heap.size v l ∧ Fr No w w') := by
 go_enter Tryz.func9, Tryz.ntmps9
 go_wp2_with (go_at_call 33; refine (hmade_yes h3).mono ?_; rintro e w' ⟨rfl, rfl⟩)
 refine hc.mono ?_
 rintro e w1 ⟨v1, rfl, hO, hf⟩
 obtain ⟨a1, c1, rfl, hb1, _⟩ := hO.bytes
 go_wp2_with fail
 go_ret2
 exact ⟨_, rfl, hO, hf⟩
theorem own_ge {w : World} {base : Nat} {v : Value} {l : Bytes} (h : Owns w base v l) {x : Nat} (hx : v.ownBlock = some x) : base ≤ x := by
 rcases h.2 with ⟨rfl, _⟩ | ⟨b, cap, cur, rfl, hb, _⟩
 · simp [Value.ownBlock] at hx
 · simp [Value.ownBlock] at hx
   omega
theorem hLanes_of {w : World} {hb : Nat} {T : TypeId} {v : Value} (h3 : w.cell? ⟨hb, 3, none⟩ = some (.iface T v)) (f : FuncId) (hm : ∀ W, (Go.method 428 T v "Lanes").run Tryz.prog W = .ok (f, v) W) (he : ∀ (args : Array Value) (W : World), Sem.run Tryz.prog (callFunc f args) W = .ok (.enter f args) W) (x0 x1 x2 x3 lo : BitVec 64) {l : Bytes} (hc : ∀ W, Fr No w W → Calls Tryz.prog f #[v] W (fun e w' => ∃ v, e = .returned (.tuple #[.agg #[.int .u64 (W64 x0), .int .u64 (W64 x1), .int .u64 (W64 x2), .int .u64 (W64 x3)], .int .u64 (W64 lo), v]) ∧ Owns w' W.heap.size v l ∧ Fr No W w')) :
 Calls Tryz.prog 30 #[.pointer (some ⟨hb, 0, none⟩)] w (fun e w' => ∃ v, e = .returned (.tuple #[.agg #[.int .u64 (W64 x0), .int .u64 (W64 x1), .int .u64 (W64 x2), .int .u64 (W64 x3)], .int .u64 (W64 lo), v]) ∧ Owns w' w.heap.size v l ∧ Fr No w w') := by
 have hF := (Fr.refl No w).alloc (.cells #[.int .u64 0, .int .u64 0, .int .u64 0, .int .u64 0] 31)
 have hA := row4_new w 31 (.int .u64 0) (.int .u64 0) (.int .u64 0) (.int .u64 0)
 have h3' := hF.cell (fun h => h) h3
 have hlt := hF.size
 clear h3
 have h3 := h3'
 clear h3'
 go_enter Tryz.func30, Tryz.ntmps30
 go_wp2_with (go_at_call 33; refine (hmade_yes h3).mono ?_; rintro e w' ⟨rfl, rfl⟩)
 obtain ⟨ab, hab⟩ : ∃ ab, ab = w.heap.size := ⟨_, rfl⟩
 have hge : w.heap.size ≤ ab := by omega
 rw [← hab] at hA ⊢
 clear hab
 generalize w.alloc (.cells #[.int .u64 0, .int .u64 0, .int .u64 0, .int .u64 0] 31) = w1 at hF hA h3 hlt ⊢
 refine (hc _ hF).mono ?_
 rintro e w2 ⟨v2, rfl, hO, hf⟩
 obtain ⟨a2, c2, rfl, hb2, hnew⟩ := hO.bytes
 have hA2 := hA.no hf
 have ca0 := hA2.c0
 have ca1 := hA2.c1
 have ca2 := hA2.c2
 have ca3 := hA2.c3
 have fa0 := hA2.fz 0
 have fa1 := hA2.fz 1
 have fa2 := hA2.fz 2
 have fa3 := hA2.fz 3
 go_wp2_with fail
 have hF3 := fr_put4 w2 ab (.int .u64 (W64 x0)) (.int .u64 (W64 x1)) (.int .u64 (W64 x2)) (.int .u64 (W64 x3))
 have hR3 := row_put4 hA2 (.int .u64 (W64 x0)) (.int .u64 (W64 x1)) (.int .u64 (W64 x2)) (.int .u64 (W64 x3))
 have hlt1 := hA.lt
 have cd0 := hR3.c0
 have cd1 := hR3.c1
 have cd2 := hR3.c2
 have cd3 := hR3.c3
 refine bodyPost_ret (v := .tuple #[.agg #[.int .u64 (W64 x0), .int .u64 (W64 x1), .int .u64 (W64 x2), .int .u64 (W64 x3)], .int .u64 (W64 lo), .slice a2 l.length c2]) (by simp [results, Tryz.results30, go_sem, cd0, cd1, cd2, cd3]) rfl ?_
 exact ⟨_, rfl, (hO.fr hF3 (fun x hx e => by have := own_ge hO hx; omega)).mono hlt, (hF.no hf).trans hF3 (fun x hx => .inr (by omega))⟩
theorem hSet_of {w : World} {hb : Nat} {T : TypeId} {v : Value} (h3 : w.cell? ⟨hb, 3, none⟩ = some (.iface T v)) (f : FuncId) (hm : ∀ W, (Go.method 428 T v "Set").run Tryz.prog W = .ok (f, v) W) (he : ∀ (args : Array Value) (W : World), Sem.run Tryz.prog (callFunc f args) W = .ok (.enter f args) W) (x0 x1 x2 x3 lo : BitVec 64) (a : Option Addr) (n c : Nat) (b : Bool) {F : Nat → Prop} {Q : World → Prop} (hFb : ¬ F hb) (hFl : ∀ x, F x → x < w.heap.size)
 (hc : ∀ W, Fr No w W → Calls Tryz.prog f #[v, .agg #[.int .u64 (W64 x0), .int .u64 (W64 x1), .int .u64 (W64 x2), .int .u64 (W64 x3)], .int .u64 (W64 lo), .slice a n c] W (fun e w' => e = .returned (.bool b) ∧ Q w' ∧ Fr F W w')) :
 Calls Tryz.prog 25 #[.pointer (some ⟨hb, 0, none⟩), .agg #[.int .u64 (W64 x0), .int .u64 (W64 x1), .int .u64 (W64 x2), .int .u64 (W64 x3)], .int .u64 (W64 lo), .slice a n c] w (fun e w' => e = .returned (.int .i64 (if b then 0 else 5)) ∧ Q w') := by
 have hF := (Fr.refl No w).alloc (.cells #[.int .u64 (W64 x0), .int .u64 (W64 x1), .int .u64 (W64 x2), .int .u64 (W64 x3)] 31)
 have hA := row4_new w 31 (.int .u64 (W64 x0)) (.int .u64 (W64 x1)) (.int .u64 (W64 x2)) (.int .u64 (W64 x3))
 have hFa : ¬ F w.heap.size := fun h => by have := hFl _ h; omega
 have h3' := hF.cell (fun h => h) h3
 clear h3
 have h3 := h3'
 clear h3'
 go_enter Tryz.func25, Tryz.ntmps25
 go_wp2_with (go_at_call 33; refine (hmade_yes h3).mono ?_; rintro e w' ⟨rfl, rfl⟩)
 generalize w.heap.size = ab at hA hFa ⊢
 generalize w.alloc (.cells #[.int .u64 (W64 x0), .int .u64 (W64 x1), .int .u64 (W64 x2), .int .u64 (W64 x3)] 31) = w1 at hF hA h3 ⊢
 refine wp_region_seq (by kernel_rfl) (fun w' => Fr F w1 w') (fun _ => false) [(0, 1), (1, 1), (2, 1), (3, 1), (4, 1), (5, 1), (6, 1), (7, 0), (8, 1), (9, 1)] (by kernel_rfl) (Fr.refl F w1).drew ?_
 have hS0 : Fr F w1 w1.drew := (Fr.refl F w1).drew
 iterate 7 refine tq _ rfl rfl (by intro w9 h9; have q3 := h9.cell hFb h3; have r0 := (hA.fr h9 hFa).c0; have r1 := (hA.fr h9 hFa).c1; have r2 := (hA.fr h9 hFa).c2; have r3 := (hA.fr h9 hFa).c3; clear h9; go_simp; try with_reducible rfl) ?_; simp only [es1, es2, es3]
 have hW : Fr No w w1.drew := hF.drew
 refine wpSeq_next rfl rfl (fun K hK => ?_)
 go_wp2_with fail
 refine (hc _ hW).mono ?_
 rintro e w2 ⟨rfl, hQ, hf⟩
 have hf2 : Fr F w1 w2 := hS0.trans hf (fun x hx => .inl hx)
 refine hK.out _ _ (fun _ => hf2) ?_
 clear hK K
 iterate 2 refine tp _ rfl rfl ?_; simp only [es1, es2, es3]
 refine wpSeq_done ?_
 cases b
 · go_wp2_with fail
   go_ret
   exact ⟨rfl, hQ⟩
 · go_wp2_with fail
   go_ret
   exact ⟨rfl, hQ⟩
theorem hKey_yes {w : World} {hb : Nat} {T : TypeId} {v : Value} (h3 : w.cell? ⟨hb, 3, none⟩ = some (.iface T v)) {kh kl : BitVec 64} (h1 : w.cell? ⟨hb, 1, none⟩ = some (.int .u64 (W64 kh))) (h2 : w.cell? ⟨hb, 2, none⟩ = some (.int .u64 (W64 kl))) : Calls Tryz.prog 16 #[.pointer (some ⟨hb, 0, none⟩)] w (GivesNew (.agg #[.int .u64 (W64 kh), .int .u64 (W64 kl)]) w) := by
 have hF := (Fr.refl No w).alloc (.cells #[.int .u64 0, .int .u64 0] 30)
 have hA := row2_new w 30 (.int .u64 0) (.int .u64 0)
 have h3' := hF.cell (fun h => h) h3
 have h1' := hF.cell (fun h => h) h1
 have h2' := hF.cell (fun h => h) h2
 clear h3 h1 h2
 have h3 := h3'
 clear h3'
 go_enter Tryz.func16, Tryz.ntmps16
 go_wp2_with (go_at_call 33; refine (hmade_yes h3).mono ?_; rintro e w' ⟨rfl, rfl⟩)
 have hR := row2_new w 30 (.int .u64 (W64 kh)) (.int .u64 (W64 kl))
 have hF1 := (Fr.refl No w).alloc (.cells #[.int .u64 (W64 kh), .int .u64 (W64 kl)] 30)
 clear hA hF h3 h1' h2'
 generalize w.alloc (.cells #[.int .u64 (W64 kh), .int .u64 (W64 kl)] 30) = w1 at hF1 hR ⊢
 have cd0 := hR.c0
 have cd1 := hR.c1
 refine bodyPost_ret (v := .agg #[.int .u64 (W64 kh), .int .u64 (W64 kl)]) (by simp [results, Tryz.results16, go_sem, cd0, cd1]) rfl ?_
 exact ⟨rfl, hF1⟩
end Go.Proofs.YtidlpihoafnobaaGreatDoor
namespace Go.Proofs.YtidlpihoafnobaaGreatDoor
set_option maxRecDepth 100000
open Go.RowKit
def Row1 (w : World) (b : Nat) (T : TypeId) (v : Value) : Prop := w.heap[b]? = some (.cells #[v] T (0, 0))
section
variable {w w' : World} {b : Nat} {T : TypeId} {v v0 v1 : Value}
theorem Row1.c0 (h : Row1 w b T v) : w.cell? ⟨b, 0, none⟩ = some v := by rw [cell_of_row w b 0 _ _ _ h]; rfl
theorem Row1.no (h : Row1 w b T v) (k : Fr No w w') : Row1 w' b T v := k.heap (fun h => h) h
theorem Row1.con {F : Nat → Prop} (h : Row1 w b T v) (k : Fr F w w') (c : Keeps w F) (hT : wrT.contains T = false) : Row1 w' b T v := c.fr k h ⟨_, _, rfl, hT⟩
theorem Row2.con {F : Nat → Prop} (h : Row2 w b T v0 v1) (k : Fr F w w') (c : Keeps w F) (hT : wrT.contains T = false) : Row2 w' b T v0 v1 := c.fr k h ⟨_, _, rfl, hT⟩
theorem row1_new (w : World) (T : TypeId) (v : Value) : Row1 (w.alloc (.cells #[v] T)) w.heap.size T v := heap_alloc_new w _
theorem Row1.up (h : Row1 w b T v) (o : Obj) : Row1 (w.alloc o) b T v := h.no ((Fr.refl No w).alloc o)
theorem Row2.up (h : Row2 w b T v0 v1) (o : Obj) : Row2 (w.alloc o) b T v0 v1 := h.no ((Fr.refl No w).alloc o)
end
def Row6 (w : World) (b : Nat) (T : TypeId) (v0 v1 v2 v3 v4 v5 : Value) : Prop := w.heap[b]? = some (.cells #[v0, v1, v2, v3, v4, v5] T (0, 0))
section
variable {w w' : World} {b : Nat} {T : TypeId} {v0 v1 v2 v3 v4 v5 : Value}
theorem Row6.c0 (h : Row6 w b T v0 v1 v2 v3 v4 v5) : w.cell? ⟨b, 0, none⟩ = some v0 := by rw [cell_of_row w b 0 _ _ _ h]; rfl
theorem Row6.c1 (h : Row6 w b T v0 v1 v2 v3 v4 v5) : w.cell? ⟨b, 1, none⟩ = some v1 := by rw [cell_of_row w b 1 _ _ _ h]; rfl
theorem Row6.c2 (h : Row6 w b T v0 v1 v2 v3 v4 v5) : w.cell? ⟨b, 2, none⟩ = some v2 := by rw [cell_of_row w b 2 _ _ _ h]; rfl
theorem Row6.c3 (h : Row6 w b T v0 v1 v2 v3 v4 v5) : w.cell? ⟨b, 3, none⟩ = some v3 := by rw [cell_of_row w b 3 _ _ _ h]; rfl
theorem Row6.c4 (h : Row6 w b T v0 v1 v2 v3 v4 v5) : w.cell? ⟨b, 4, none⟩ = some v4 := by rw [cell_of_row w b 4 _ _ _ h]; rfl
theorem Row6.c5 (h : Row6 w b T v0 v1 v2 v3 v4 v5) : w.cell? ⟨b, 5, none⟩ = some v5 := by rw [cell_of_row w b 5 _ _ _ h]; rfl
theorem Row6.fz (h : Row6 w b T v0 v1 v2 v3 v4 v5) (k : Nat) : w.frozen? ⟨b, k, none⟩ = false := frozen_of_row w b k _ _ h
theorem Row6.put0 (h : Row6 w b T v0 v1 v2 v3 v4 v5) (x : Value) : Row6 (w.setCell ⟨b, 0, none⟩ x) b T x v1 v2 v3 v4 v5 := by unfold Row6; rw [heap_setCell_same w b 0 _ _ x h]; rfl
theorem Row6.put1 (h : Row6 w b T v0 v1 v2 v3 v4 v5) (x : Value) : Row6 (w.setCell ⟨b, 1, none⟩ x) b T v0 x v2 v3 v4 v5 := by unfold Row6; rw [heap_setCell_same w b 1 _ _ x h]; rfl
theorem Row6.put2 (h : Row6 w b T v0 v1 v2 v3 v4 v5) (x : Value) : Row6 (w.setCell ⟨b, 2, none⟩ x) b T v0 v1 x v3 v4 v5 := by unfold Row6; rw [heap_setCell_same w b 2 _ _ x h]; rfl
theorem Row6.put3 (h : Row6 w b T v0 v1 v2 v3 v4 v5) (x : Value) : Row6 (w.setCell ⟨b, 3, none⟩ x) b T v0 v1 v2 x v4 v5 := by unfold Row6; rw [heap_setCell_same w b 3 _ _ x h]; rfl
theorem Row6.put4 (h : Row6 w b T v0 v1 v2 v3 v4 v5) (x : Value) : Row6 (w.setCell ⟨b, 4, none⟩ x) b T v0 v1 v2 v3 x v5 := by unfold Row6; rw [heap_setCell_same w b 4 _ _ x h]; rfl
theorem Row6.put5 (h : Row6 w b T v0 v1 v2 v3 v4 v5) (x : Value) : Row6 (w.setCell ⟨b, 5, none⟩ x) b T v0 v1 v2 v3 v4 x := by unfold Row6; rw [heap_setCell_same w b 5 _ _ x h]; rfl
theorem row_put6 (h : Row6 w b T v0 v1 v2 v3 v4 v5) (x0 x1 x2 x3 x4 x5 : Value) : Row6 ((((((w.setCell ⟨b, 0, none⟩ x0).setCell ⟨b, 1, none⟩ x1).setCell ⟨b, 2, none⟩ x2).setCell ⟨b, 3, none⟩ x3).setCell ⟨b, 4, none⟩ x4).setCell ⟨b, 5, none⟩ x5) b T x0 x1 x2 x3 x4 x5 := ((((((h.put0 x0).put1 x1).put2 x2).put3 x3).put4 x4).put5 x5)
theorem fr_put6 (w : World) (b : Nat) (x0 x1 x2 x3 x4 x5 : Value) : Fr (fun x => x = b) w ((((((w.setCell ⟨b, 0, none⟩ x0).setCell ⟨b, 1, none⟩ x1).setCell ⟨b, 2, none⟩ x2).setCell ⟨b, 3, none⟩ x3).setCell ⟨b, 4, none⟩ x4).setCell ⟨b, 5, none⟩ x5) := (((((((Fr.refl (fun x => x = b) w).setCell (p := ⟨b, 0, none⟩) (.inl rfl) x0).setCell (p := ⟨b, 1, none⟩) (.inl rfl) x1).setCell (p := ⟨b, 2, none⟩) (.inl rfl) x2).setCell (p := ⟨b, 3, none⟩) (.inl rfl) x3).setCell (p := ⟨b, 4, none⟩) (.inl rfl) x4).setCell (p := ⟨b, 5, none⟩) (.inl rfl) x5)
theorem row6_new (w : World) (T : TypeId) (v0 v1 v2 v3 v4 v5 : Value) : Row6 (w.alloc (.cells #[v0, v1, v2, v3, v4, v5] T)) w.heap.size T v0 v1 v2 v3 v4 v5 := heap_alloc_new w _
end
theorem Row1.past {w w' : World} {c b : Nat} {T U : TypeId} {v v0 v1 v2 v3 v4 v5 : Value} (h : Row1 w c T v) (hk : Row6 w b U v0 v1 v2 v3 v4 v5) (f : Fr (fun x => x = b) w w') : Row1 w' c T v :=
 f.heap (fun e => by subst e; unfold Row1 at h; unfold Row6 at hk; rw [hk] at h; simp at h) h
structure Caps (w : World) (Th Ts Tb Tc : TypeId) (k : Int) (kh kl : BitVec 64) (ib : Nat) (sf bf cf : Value) (c6 c7 c8 c9 c10 c11 : Nat) : Prop where
 k6 : Row1 w c6 3 (.int .i64 k)
 k7 : Row2 w c7 30 (.int .u64 (W64 kh)) (.int .u64 (W64 kl))
 k8 : Row1 w c8 Th (.pointer (some ⟨ib, 0, none⟩))
 k9 : Row1 w c9 Ts sf
 k10 : Row1 w c10 Tb bf
 k11 : Row1 w c11 Tc cf
section
variable {w w' : World} {Th Ts Tb Tc : TypeId} {k : Int} {kh kl : BitVec 64} {ib : Nat} {sf bf cf : Value} {c6 c7 c8 c9 c10 c11 : Nat}
theorem Caps.no (h : Caps w Th Ts Tb Tc k kh kl ib sf bf cf c6 c7 c8 c9 c10 c11) (f : Fr No w w') : Caps w' Th Ts Tb Tc k kh kl ib sf bf cf c6 c7 c8 c9 c10 c11 := ⟨h.k6.no f, h.k7.no f, h.k8.no f, h.k9.no f, h.k10.no f, h.k11.no f⟩
theorem Caps.fr {F : Nat → Prop} (h : Caps w Th Ts Tb Tc k kh kl ib sf bf cf c6 c7 c8 c9 c10 c11) (f : Fr F w w') (c : Keeps w F) (hT : (wrT.contains Th || wrT.contains Ts || wrT.contains Tb || wrT.contains Tc) = false) : Caps w' Th Ts Tb Tc k kh kl ib sf bf cf c6 c7 c8 c9 c10 c11 := by
 simp only [Bool.or_eq_false_iff] at hT
 obtain ⟨⟨⟨a, b⟩, d⟩, e⟩ := hT
 exact ⟨h.k6.con f c (by decide), h.k7.con f c (by decide), h.k8.con f c a, h.k9.con f c b, h.k10.con f c d, h.k11.con f c e⟩
end
theorem calls_enter {P : Program} {f : FuncId} {fn : Func} (hf : P.funcs[f]? = some fn) (hname : (fn.name == "runtime.NumGoroutine") = false) (hb : fn.body.isSome = true) (args : Array Value) (w : World) : Sem.run P (callFunc f args) w = .ok (.enter f args) w := by
 obtain ⟨c, hc⟩ := Option.isSome_iff_exists.1 hb
 have h1 : fn.name ≠ "runtime.NumGoroutine" := by simpa using hname
 simp [callFunc, hf, h1, hc, mark]
end Go.Proofs.YtidlpihoafnobaaGreatDoor
