/- WriteAG64 WriteBG64 WriteG64 LiveG64 HashX64 AllX64 StrHX64 HashSip AllSip StrHSip -/
import Derived.Deep.Cut
import Derived.Test.YtidlpihoafnobaaGreatPWriteCG64
set_option linter.unusedVariables false
set_option linter.unusedSimpArgs false
namespace Go.Proofs.YtidlpihoafnobaaGreat.StG64
set_option maxRecDepth 100000
open Go.RowKit
set_option maxHeartbeats 4000000 in
theorem Write_empty (E : World → Prop) (base sb : Nat) (size : Nat) (f s : ST) (q : QT) (ta : Option Addr) (tc : Nat) (lo0 : BitVec 64) (a : Option Addr) (n c : Nat) (l : Bytes) (w : World) (G : ST → Bytes → ST)
 (hE : E w) (hkeep : ∀ w', Fr (Foot sb (.slice ta 0 tc)) w w' → E w') (hstep : Hid (Steps E G size q))
 (hst : StreamAt w sb size f s q (.slice ta 0 tc) lo0) (ho : Owns w base (.slice ta 0 tc) []) (hb : base ≤ w.heap.size) (hz1 : 1 ≤ size) (hz2 : size ≤ 64) (h : IsBytes w a n c l) (hap : Apart (Foot sb (.slice ta 0 tc)) a n) (hn : n ≤ 1099511627776) :
 Calls Tryz.prog 297 #[.pointer (some ⟨sb, 0, none⟩), .slice a n c] w (Wrote base sb size f q (.slice ta 0 tc) (foldF G size s l) (lo0 + BitVec.ofNat 64 n) w) := by
 obtain ⟨lo, hlo⟩ : ∃ lo, lo = lo0 + BitVec.ofNat 64 n := ⟨_, rfl⟩
 have hst1 : StreamAt (w.setCell ⟨sb, 11, none⟩ (.int .u64 (W64 (lo0 + BitVec.ofNat 64 n)))) sb size f s q (.slice ta 0 tc) lo := by rw [hlo]; exact hst.put _ _ rfl
 have hfr1 : Fr (Foot sb (.slice ta 0 tc)) w (w.setCell ⟨sb, 11, none⟩ (.int .u64 (W64 (lo0 + BitVec.ofNat 64 n)))) := (Fr.refl _ w).setCell (.inl (.inl rfl)) _
 have hapo := hst.apart ho
 obtain ⟨r, hr⟩ : ∃ r, r = foldF G size s l := ⟨_, rfl⟩
 have hloop : LoopAt E G base sb size f q (.slice ta 0 tc) w r lo (.slice a n c) (w.setCell ⟨sb, 11, none⟩ (.int .u64 (W64 (lo0 + BitVec.ofNat 64 n)))) n :=
  ⟨a, c, l, s, (.slice ta 0 tc), rfl, h.fr hfr1 hap, hap, hn, hst1, ho.fr ((Fr.refl (fun x => x = sb) w).setCell (p := ⟨sb, 11, none⟩) (.inl rfl) _) (fun x hx e => hapo (by rw [hx, e])), by simpa using hb, hkeep _ hfr1, hr.symm, .inl rfl, hfr1⟩
 rw [← hr, ← hlo]
 have cz : w.cell? ⟨sb, 0, none⟩ = some (.int .i64 size) := hst.cell 0 rfl
 have cst : w.cell? ⟨sb, 9, none⟩ = some ((.func (.func q.1) #[] q.2)) := hst.cell 9 rfl
 have ctl : w.cell? ⟨sb, 10, none⟩ = some (.slice ta 0 tc) := hst.cell 10 rfl
 have clo : w.cell? ⟨sb, 11, none⟩ = some (.int .u64 (W64 lo0)) := hst.cell 11 rfl
 have fzl := hst.frozen 11
 have HL := Lib.hid hlo
 clear hlo hr
 go_enter Tryz.func297, Tryz.ntmps297
 go_wp2_with (go_at_call 234; refine (made_any hst).mono ?_; rintro e w' ⟨rfl, rfl⟩)
 go_loopw [1] (fun v wr => ∃ m, LoopAt E G base sb size f q (.slice ta 0 tc) w r lo v wr m) (fun v _ => match v with | .slice _ m _ => m | _ => 0)
 case atStart => exact ⟨_, hloop⟩
 case round =>
  obtain ⟨m, a', c', l', s', tv', rfl, hb', hap', hm', hst', ho', hbs', hE', hr', hnew', hfr'⟩ := hrel
  clear hloop
  have hlen' := Lib.hid hb'.1
  have hc' : m ≤ c' := hb'.2.1
  have hc'' : c' ≤ 9223372036854775807 := hb'.2.2.1
  have cz : wr.cell? ⟨sb, 0, none⟩ = some (.int .i64 size) := hst'.cell 0 rfl
  have cn0 : wr.cell? ⟨sb, 5, none⟩ = some (cS s' 0) := hst'.cell 5 rfl
  have cn1 : wr.cell? ⟨sb, 6, none⟩ = some (cS s' 1) := hst'.cell 6 rfl
  have cn2 : wr.cell? ⟨sb, 7, none⟩ = some (cS s' 2) := hst'.cell 7 rfl
  have cn3 : wr.cell? ⟨sb, 8, none⟩ = some (cS s' 3) := hst'.cell 8 rfl
  have cst : wr.cell? ⟨sb, 9, none⟩ = some ((.func (.func q.1) #[] q.2)) := hst'.cell 9 rfl
  have ctl : wr.cell? ⟨sb, 10, none⟩ = some (tv') := hst'.cell 10 rfl
  by_cases hlt : size ≤ m
  · have i1 : (size : Int) ≤ (m : Int) := by omega
    have i2 : (size : Int) ≤ (c' : Int) := by omega
    go_wp2_with fail
    have hcut := Lib.hid (hb'.head size size (n' := size) (c' := size) hlt (Nat.le_refl _) (by omega) rfl rfl)
    have hS0 : StreamAt wr.drew sb size f s' q tv' lo := hst'
    refine wp_region_late (by kernel_rfl) (fun w' => StreamAt w' sb size f s' q tv' lo) (fun i => decide (21 ≤ i)) hS0 (fun _ => ?_)
    refine lp 0 rfl hS0 ?_; simp only [Act.put, es1, es2, es3]
    refine lp 1 rfl hS0 ?_; simp only [Act.put, es1, es2, es3]
    refine lp 2 rfl hS0 ?_; simp only [Act.put, es1, es2, es3]
    refine lp 3 rfl hS0 ?_; simp only [Act.put, es1, es2, es3]
    refine lk 4 rfl (by kernel_rfl) (fun _ _ _ h => h) rfl (by intro w9 h9; have cst : w9.cell? ⟨sb, 9, none⟩ = some ((.func (.func q.1) #[] q.2)) := h9.cell 9 rfl; clear h9; go_simp; try with_reducible rfl) hS0 ?_; simp only [Act.put, es1, es2, es3]
    refine lp 5 rfl hS0 ?_; simp only [Act.put, es1, es2, es3]
    refine lp 6 rfl hS0 ?_; simp only [Act.put, es1, es2, es3]
    refine lp 7 rfl hS0 ?_; simp only [Act.put, es1, es2, es3]
    refine lk 8 rfl (by kernel_rfl) (fun _ _ _ h => h) rfl (by intro w9 h9; have cn0 : w9.cell? ⟨sb, 5, none⟩ = some (cS s' 0) := h9.cell 5 rfl; have cn1 : w9.cell? ⟨sb, 6, none⟩ = some (cS s' 1) := h9.cell 6 rfl; have cn2 : w9.cell? ⟨sb, 7, none⟩ = some (cS s' 2) := h9.cell 7 rfl; have cn3 : w9.cell? ⟨sb, 8, none⟩ = some (cS s' 3) := h9.cell 8 rfl; clear h9; go_simp; try with_reducible rfl) hS0 ?_; simp only [Act.put, es1, es2, es3]
    refine lp 9 rfl hS0 ?_; simp only [Act.put, es1, es2, es3]
    refine lp 10 rfl hS0 ?_; simp only [Act.put, es1, es2, es3]
    refine lp 11 rfl hS0 ?_; simp only [Act.put, es1, es2, es3]
    refine lp 12 rfl hS0 ?_; simp only [Act.put, es1, es2, es3]
    refine lk 13 rfl (by kernel_rfl) (fun _ _ _ h => h) rfl (by intro w9 h9; have cz : w9.cell? ⟨sb, 0, none⟩ = some (.int .i64 size) := h9.cell 0 rfl; clear h9; go_simp; try with_reducible rfl) hS0 ?_; simp only [Act.put, es1, es2, es3]
    refine lp 14 rfl hS0 ?_; simp only [Act.put, es1, es2, es3]
    refine lp 15 rfl hS0 ?_; simp only [Act.put, es1, es2, es3]
    refine lp 16 rfl hS0 ?_; simp only [Act.put, es1, es2, es3]
    refine lk 17 rfl (by kernel_rfl) (fun _ _ _ h => h) rfl (by intro w9 h9; have cz : w9.cell? ⟨sb, 0, none⟩ = some (.int .i64 size) := h9.cell 0 rfl; clear h9; go_simp; try with_reducible rfl) hS0 ?_; simp only [Act.put, es1, es2, es3]
    refine lp 18 rfl hS0 ?_; simp only [Act.put, es1, es2, es3]
    refine wpLate_next (k := 19) (by kernel_rfl) rfl rfl (fun K hK => ?_)
    go_wp2_with fail
    refine (Clone_any _ _ _ (l'.take size) _ (hcut.out.no (Fr.refl No wr).drew) (by omega)).mono ?_
    rintro e w2 ⟨v2, rfl, ho2, hf2d⟩
    have hf2 : Fr No wr w2 := (Fr.refl No wr).drew.no hf2d
    clear hf2d
    obtain ⟨a2, c2, rfl, hb2, _⟩ := ho2.bytes
    have hl2 : (l'.take size).length = size := by rw [List.length_take, hlen'.out]; omega
    rw [hl2] at hb2 ⊢
    have hS2 : StreamAt w2 sb size f s' q tv' lo := hst'.fr hf2 (fun h => h)
    have hE2 : E w2 := hkeep w2 (hfr'.no hf2)
    refine hK.out _ _ (fun _ => hS2) ?_
    clear hK K ho2 hS0
    refine wpLate_next (k := 20) (by kernel_rfl) rfl rfl (fun K hK => ?_)
    have hcl := hstep.out.1
    go_wp2_with fail
    clear hcl
    refine (hstep.out.2 _ _ _ _ _ _ hE2 hb2 hl2).mono ?_
    rintro e w3 ⟨rfl, hf3⟩
    have hS3 : StreamAt w3 sb size f s' q tv' lo := hS2.fr hf3 (fun h => h)
    refine hK.out _ _ (fun _ => hS3) ?_
    clear hK K hE2 hb2 hl2 hS2
    refine lk' 21 rfl (by kernel_rfl) (fun _ _ _ h => h) rfl (by intro w9 h9; go_simp; try with_reducible rfl) ?_; simp only [Act.put, es1, es2, es3]
    refine lk' 22 rfl (by kernel_rfl) (fun _ _ _ h => h) rfl (by intro w9 h9; go_simp; try with_reducible rfl) ?_; simp only [Act.put, es1, es2, es3]
    have cn0 : w3.cell? ⟨sb, 5, none⟩ = some (cS s' 0) := hS3.cell 5 rfl
    have cn1 : w3.cell? ⟨sb, 6, none⟩ = some (cS s' 1) := hS3.cell 6 rfl
    have cn2 : w3.cell? ⟨sb, 7, none⟩ = some (cS s' 2) := hS3.cell 7 rfl
    have cn3 : w3.cell? ⟨sb, 8, none⟩ = some (cS s' 3) := hS3.cell 8 rfl
    have fz0 := hS3.frozen 5
    have fz1 := hS3.frozen 6
    have fz2 := hS3.frozen 7
    have fz3 := hS3.frozen 8
    refine wpLate_next (k := 23) (by kernel_rfl) rfl rfl (fun K hK => ?_)
    go_wp2_with fail
    refine hK.out _ _ (fun h => by simp at h) ?_
    clear hK K
    refine wpLate_done (by kernel_rfl) ?_ _
    have hS4 : StreamAt (World.setCell (World.setCell (World.setCell (World.setCell w3 ⟨sb, 5, none⟩ (cS (G s' (l'.take size)) 0)) ⟨sb, 6, none⟩ (cS (G s' (l'.take size)) 1)) ⟨sb, 7, none⟩ (cS (G s' (l'.take size)) 2)) ⟨sb, 8, none⟩ (cS (G s' (l'.take size)) 3)) sb size f (G s' (l'.take size)) q tv' lo := (row_put (row_put (row_put (row_put hS3 5 (cS (G s' (l'.take size)) 0)) 6 (cS (G s' (l'.take size)) 1)) 7 (cS (G s' (l'.take size)) 2)) 8 (cS (G s' (l'.take size)) 3))
    have hF4 : Fr (fun x => x = sb) w3 (World.setCell (World.setCell (World.setCell (World.setCell w3 ⟨sb, 5, none⟩ (cS (G s' (l'.take size)) 0)) ⟨sb, 6, none⟩ (cS (G s' (l'.take size)) 1)) ⟨sb, 7, none⟩ (cS (G s' (l'.take size)) 2)) ⟨sb, 8, none⟩ (cS (G s' (l'.take size)) 3)) := ((((Fr.refl (fun x => x = sb) w3).setCell (p := ⟨sb, 5, none⟩) (.inl rfl) _).setCell (p := ⟨sb, 6, none⟩) (.inl rfl) _).setCell (p := ⟨sb, 7, none⟩) (.inl rfl) _).setCell (p := ⟨sb, 8, none⟩) (.inl rfl) _
    clear cn0 fz0 cn1 fz1 cn2 fz2 cn3 fz3 hS3
    generalize (World.setCell (World.setCell (World.setCell (World.setCell w3 ⟨sb, 5, none⟩ (cS (G s' (l'.take size)) 0)) ⟨sb, 6, none⟩ (cS (G s' (l'.take size)) 1)) ⟨sb, 7, none⟩ (cS (G s' (l'.take size)) 2)) ⟨sb, 8, none⟩ (cS (G s' (l'.take size)) 3)) = w4 at hS4 hF4 ⊢
    have hF34 : Fr (fun x => x = sb) wr w4 := ((hf2.no hf3).mono (fun _ _ f => f.elim)).trans hF4 (fun x h => .inl h)
    have cz4 : w4.cell? ⟨sb, 0, none⟩ = some (.int .i64 size) := hS4.cell 0 rfl
    clear cz cst ctl
    go_wp2_with fail
    have hcut2 := hb'.cut_to_end size (n' := m - size) (c' := c' - size) hlt rfl rfl
    have hap2 := hap'.sub (n' := m - size) (by omega) size c' 1
    have hfe := hfr'.trans hF34 (fun x h => .inl (.inl h))
    go_roundw
    case rel => exact ⟨m - size, _, _, _, _, tv', rfl, hcut2.fr hF34 (fun x hx e h => hap2 x hx e (.inl h)), hap2, by omega, hS4, ho'.fr hF34 (fun x hx e => hst'.apart ho' (by rw [hx, e])), Nat.le_trans hbs' hF34.size, hkeep _ hfe, by rw [← hr']; exact (foldF_step hz1 (by rw [hlen'.out]; exact hlt)).symm, hnew', hfe⟩
    case measure => simp; omega
  · have i1 : (m : Int) < (size : Int) := by omega
    obtain ⟨ta', tc', rfl, _, _⟩ := ho'.bytes
    have hne := hst'.apart ho'
    go_wp2_with (refine wpList_append_bytes _ _ _ _ _ _ base _ [] rfl ho' _ _ _ l' rfl hb' (by simp; omega) hbs' ?_; intro v2 w2 hown2 hfr2 hnew2; obtain ⟨a2, c2, rfl, _, _⟩ := hown2.bytes; have hst2 := hst'.fr hfr2 hne; have ctl2 := hst2.cell 10 rfl; have fz2 := hst2.frozen 10)
    go_end0
    have hsh : foldF G size s' l' = (s', l') := foldF_short (by rw [hlen'.out]; omega)
    refine ⟨rfl, .slice a2 (([] : Bytes) ++ l').length c2, ?_, ?_, ?_, ?_⟩
    · rw [← hr', hsh]; exact hst2.put 10 _ rfl
    · rw [← hr', hsh]; exact hown2.fr ((Fr.refl (fun x => x = sb) w2).setCell (p := ⟨sb, 10, none⟩) (.inl rfl) _) (fun x hx e => hst2.apart hown2 (by rw [hx, e]))
    · rcases hnew2 with e | e
      · rw [e]; exact hnew'
      · refine .inr fun x hx => ?_
        rw [e] at hx; cases hx; exact hfr'.size
    · exact (hfr'.trans hfr2 (fun x hx => by rcases hnew' with e | e; exact .inl (.inr (by rw [← e]; exact hx)); exact .inr (e x hx))).setCell (.inl (.inl rfl)) _
end Go.Proofs.YtidlpihoafnobaaGreat.StG64
namespace Go.Proofs.YtidlpihoafnobaaGreat.StG64
set_option maxRecDepth 100000
open Go.RowKit
set_option maxHeartbeats 4000000 in
theorem Write_part (E : World → Prop) (base sb : Nat) (size : Nat) (f s : ST) (q : QT) (ta : Option Addr) (k tc : Nat) (tl : Bytes) (lo0 : BitVec 64) (a : Option Addr) (n c : Nat) (l : Bytes) (w : World) (G : ST → Bytes → ST)
 (hE : E w) (hkeep : ∀ w', Fr (Foot sb (.slice ta k tc)) w w' → E w') (hstep : Hid (Steps E G size q))
 (hst : StreamAt w sb size f s q (.slice ta k tc) lo0) (ho : Owns w base (.slice ta k tc) tl) (hb : base ≤ w.heap.size) (hz1 : 1 ≤ size) (hz2 : size ≤ 64) (hk : Hid (tl.length = k)) (htl : 0 < k) (htz : k < size) (h : IsBytes w a n c l) (hap : Apart (Foot sb (.slice ta k tc)) a n) (hn : n ≤ 1099511627776) (hpart : k + n < size) :
 Calls Tryz.prog 297 #[.pointer (some ⟨sb, 0, none⟩), .slice a n c] w (Wrote base sb size f q (.slice ta k tc) (s, tl ++ l) (lo0 + BitVec.ofNat 64 n) w) := by
 have hst1 : StreamAt (w.setCell ⟨sb, 11, none⟩ (.int .u64 (W64 (lo0 + BitVec.ofNat 64 n)))) sb size f s q (.slice ta k tc) (lo0 + BitVec.ofNat 64 n) := hst.put _ _ rfl
 have hfr1 : Fr (Foot sb (.slice ta k tc)) w (w.setCell ⟨sb, 11, none⟩ (.int .u64 (W64 (lo0 + BitVec.ofNat 64 n)))) := (Fr.refl _ w).setCell (.inl (.inl rfl)) _
 have hapo := hst.apart ho
 have ho1 := ho.fr ((Fr.refl (fun x => x = sb) w).setCell (p := ⟨sb, 11, none⟩) (.inl rfl) (.int .u64 (W64 (lo0 + BitVec.ofNat 64 n)))) (fun x hx e => hapo (by rw [hx, e]))
 have hb1 := h.fr hfr1 hap
 have hlen := Lib.hid h.1
 have hnc : n ≤ c := h.2.1
 have hcm : c ≤ 9223372036854775807 := h.2.2.1
 have hmade := hst
 have cz : w.cell? ⟨sb, 0, none⟩ = some (.int .i64 size) := hst.cell 0 rfl
 have cst : w.cell? ⟨sb, 9, none⟩ = some ((.func (.func q.1) #[] q.2)) := hst.cell 9 rfl
 have ctl : w.cell? ⟨sb, 10, none⟩ = some (.slice ta k tc) := hst.cell 10 rfl
 have clo : w.cell? ⟨sb, 11, none⟩ = some (.int .u64 (W64 lo0)) := hst.cell 11 rfl
 have fzl := hst.frozen 11
 have i1 : (n : Int) < (size : Int) - (k : Int) := by omega
 go_enter Tryz.func297, Tryz.ntmps297
 go_wp2_with (go_at_call 234; refine (made_any hmade).mono ?_; rintro e w' ⟨rfl, rfl⟩)
 go_quiet (fail)
 go_wp2_with fail
 have hS1 : StreamAt ((w.setCell ⟨sb, 11, none⟩ (.int .u64 (W64 (lo0 + BitVec.ofNat 64 n)))).drewN nq) sb size f s q (.slice ta k tc) (lo0 + BitVec.ofNat 64 n) := hst1
 have hF1 := hfr1.drewN nq
 have hown1 := ho1.no ((Fr.refl No _).drewN nq)
 have hbytes1 := (hb1.no ((Fr.refl No _).drewN nq)).head n c (n' := n) (c' := c) (Nat.le_refl _) hnc (Nat.le_refl _) rfl rfl
 have hbase1 : base ≤ ((w.setCell ⟨sb, 11, none⟩ (.int .u64 (W64 (lo0 + BitVec.ofNat 64 n)))).drewN nq).heap.size := Nat.le_trans hb hF1.size
 clear hst1 hfr1 ho1 hb1 clo cz cst ctl fzl
 generalize (w.setCell ⟨sb, 11, none⟩ (.int .u64 (W64 (lo0 + BitVec.ofNat 64 n)))).drewN nq = w1 at hS1 hF1 hown1 hbytes1 hbase1 ⊢
 generalize hlo : lo0 + BitVec.ofNat 64 n = lo at hS1 ⊢
 have HL := Lib.hid hlo
 clear hlo
 have j1 : (n : Int) ≤ (c : Int) := by omega
 obtain ⟨t2, ht2⟩ : ∃ t2, Hid (t2 = k + n) := ⟨_, rfl⟩
 have j2 : (t2 : Int) < (size : Int) := by have := ht2.out; omega
 have j3 : ((t2 : Int) == (size : Int)) = false := by simp; omega
 have hl4 : Hid ((tl ++ l.take n).length = t2) := by show _ = _; rw [List.length_append, List.length_take, hk.out, hlen.out]; have := ht2.out; omega
 refine wp_region_late (by kernel_rfl) (fun w' => StreamAt w' sb size f s q (.slice ta k tc) lo) (fun i => decide (9 ≤ i)) (show StreamAt w1.drew sb size f s q (.slice ta k tc) lo from hS1) (fun hS0 => ?_)
 refine lp 0 rfl hS0 ?_; simp only [Act.put, es1, es2, es3]
 refine lp 1 rfl hS0 ?_; simp only [Act.put, es1, es2, es3]
 refine lp 2 rfl hS0 ?_; simp only [Act.put, es1, es2, es3]
 refine lp 3 rfl hS0 ?_; simp only [Act.put, es1, es2, es3]
 refine lk 4 rfl (by kernel_rfl) (fun _ _ _ h => h) rfl (by intro w9 h9; have ctl : w9.cell? ⟨sb, 10, none⟩ = some (.slice ta k tc) := h9.cell 10 rfl; clear h9; go_simp; try with_reducible rfl) hS0 ?_; simp only [Act.put, es1, es2, es3]
 refine lp 5 rfl hS0 ?_; simp only [Act.put, es1, es2, es3]
 refine lp 6 rfl hS0 ?_; simp only [Act.put, es1, es2, es3]
 refine lp 7 rfl hS0 ?_; simp only [Act.put, es1, es2, es3]
 refine wpLate_next (k := 8) (by kernel_rfl) rfl rfl (fun K hK => ?_)
 refine wp_append_bytes _ _ _ _ _ _ base (.slice ta k tc) tl (by simp [Act.eval]) (hown1.no (Fr.refl No w1).drew) _ _ _ (l.take n) (by simp [Act.eval]) (hbytes1.no (Fr.refl No w1).drew) (by rw [hk.out]; omega) hbase1 ?_
 intro v2 w2 hown2 hfr2d hnew2
 have hfr2 : Fr (fun x => (Value.slice ta k tc).ownBlock = some x) w1 w2 := ((Fr.refl No w1).drew.mono (fun _ _ f => f.elim)).trans hfr2d (fun x h => .inl h)
 obtain ⟨a2, c2, hv2, hb2, _⟩ := hown2.bytes
 rw [hl4.out] at hv2
 subst hv2
 have hS2 : StreamAt w2 sb size f s q (.slice ta k tc) lo := hS1.fr hfr2 hapo
 refine hK.out _ _ (fun _ => hS2) ?_
 clear hK K hS0 hfr2d
 simp only [Act.put, es1, es2, es3]
 refine lk' 9 rfl (by kernel_rfl) (fun _ _ _ h => h) rfl (by intro w9 h9; go_simp; try with_reducible rfl) ?_; simp only [Act.put, es1, es2, es3]
 refine lk' 10 rfl (by kernel_rfl) (fun _ _ _ h => h) rfl (by intro w9 h9; go_simp; try with_reducible rfl) ?_; simp only [Act.put, es1, es2, es3]
 have ctl : w2.cell? ⟨sb, 10, none⟩ = some (.slice ta k tc) := hS2.cell 10 rfl
 have fz2 := hS2.frozen 10
 refine wpLate_next (k := 11) (by kernel_rfl) rfl rfl (fun K hK => ?_)
 go_wp2_with fail
 refine hK.out _ _ (fun h => by simp at h) ?_
 clear hK K
 refine wpLate_done (by kernel_rfl) ?_ _
 have hS3 : StreamAt (w2.setCell ⟨sb, 10, none⟩ (.slice a2 t2 c2)) sb size f s q (.slice a2 t2 c2) lo := hS2.put 10 _ rfl
 have hF23 : Fr (fun x => x = sb) w2 (w2.setCell ⟨sb, 10, none⟩ (.slice a2 t2 c2)) := (Fr.refl (fun x => x = sb) w2).setCell (p := ⟨sb, 10, none⟩) (.inl rfl) _
 have hown3 := hown2.fr hF23 (fun x hx e => hS2.apart hown2 (by rw [hx, e]))
 have hF3 : Fr (Foot sb (.slice ta k tc)) w (w2.setCell ⟨sb, 10, none⟩ (.slice a2 t2 c2)) := (hF1.trans hfr2 (fun x hx => .inl (.inr hx))).trans hF23 (fun x hx => .inl (.inl hx))
 have hnew3 : (Value.slice a2 t2 c2).ownBlock = (Value.slice ta k tc).ownBlock ∨ ∀ x, (Value.slice a2 t2 c2).ownBlock = some x → w.heap.size ≤ x := by
  rcases hnew2 with e | e
  · exact .inl e
  · refine .inr fun x hx => ?_
    rw [e] at hx; cases hx; exact hF1.size
 have hbs3 : base ≤ (w2.setCell ⟨sb, 10, none⟩ (.slice a2 t2 c2)).heap.size := Nat.le_trans hb hF3.size
 have hbo3 := h.fr hF3 hap
 clear hS2 hF23 hfr2 hnew2 hown2 hb2 ctl fz2 hS1 hown1 hF1 hbase1
 generalize (w2.setCell ⟨sb, 10, none⟩ (.slice a2 t2 c2)) = w3 at hS3 hown3 hF3 hbs3 hbo3 ⊢
 have cz : w3.cell? ⟨sb, 0, none⟩ = some (.int .i64 size) := hS3.cell 0 rfl
 have ctl : w3.cell? ⟨sb, 10, none⟩ = some (.slice a2 t2 c2) := hS3.cell 10 rfl
 have j4 : (0 : Int) < (size : Int) := by omega
 have htake : l.take n = l := List.take_of_length_le (by rw [hlen.out]; omega)
 have hdrop : l.drop n = [] := List.drop_of_length_le (by rw [hlen.out]; omega)
 rw [htake] at hown3
 go_wp2_with fail
 go_quiet (fail)
 have hS4 : StreamAt (w3.drewN nq) sb size f s q (.slice a2 t2 c2) lo := hS3
 have hown4 := hown3.no ((Fr.refl No w3).drewN nq)
 have hF4 := hF3.drewN nq
 have hbs4 : base ≤ (w3.drewN nq).heap.size := hbs3
 have hbo4 := (hbo3.no ((Fr.refl No w3).drewN nq)).cut_to_end n (n' := 0) (c' := c - n) (Nat.le_refl _) (by omega) rfl
 rw [hdrop] at hbo4
 clear htake hdrop hS3 hown3 hF3 hbs3 hbo3 cz ctl
 generalize w3.drewN nq = w4 at hS4 hown4 hF4 hbs4 hbo4 ⊢
 have cz : w4.cell? ⟨sb, 0, none⟩ = some (.int .i64 size) := hS4.cell 0 rfl
 have ctl : w4.cell? ⟨sb, 10, none⟩ = some (.slice a2 t2 c2) := hS4.cell 10 rfl
 go_wp2_with fail
 have hlen5 : Hid ((tl ++ l ++ []).length = t2) := by show _ = _; rw [List.length_append, List.length_append, hk.out, hlen.out, ht2.out]; rfl
 refine wp_loop_once ?_
 go_wp2_with (refine wpList_append_bytes _ _ _ _ _ _ base _ (tl ++ l) rfl hown4 _ _ _ [] rfl hbo4 (by rw [List.length_append, hk.out, hlen.out]; omega) hbs4 ?_; intro v5 w5 hown5 hfr5 hnew5; obtain ⟨a5, c5, hv5, _, _⟩ := hown5.bytes; rw [hlen5.out] at hv5; subst hv5; have hst5 := hS4.fr hfr5 (hS4.apart hown4); have ctl5 := hst5.cell 10 rfl; have fz5 := hst5.frozen 10)
 go_end0
 refine ⟨rfl, .slice a5 t2 c5, ?_, ?_, ?_, ?_⟩
 · rw [HL.out]; exact hst5.put 10 _ rfl
 · have := hown5.fr ((Fr.refl (fun x => x = sb) w5).setCell (p := ⟨sb, 10, none⟩) (.inl rfl) (.slice a5 t2 c5)) (fun x hx e => hst5.apart hown5 (by rw [hx, e]))
   simpa using this
 · rcases hnew5 with e | e
   · rw [e]; exact hnew3
   · refine .inr fun x hx => ?_
     rw [e] at hx; cases hx; exact hF4.size
 · exact (hF4.trans hfr5 (fun x hx => by rcases hnew3 with e | e; exact .inl (.inr (by rw [← e]; exact hx)); exact .inr (e x hx))).setCell (.inl (.inl rfl)) _
end Go.Proofs.YtidlpihoafnobaaGreat.StG64
namespace Go.Proofs.YtidlpihoafnobaaGreat.StG64
set_option maxRecDepth 100000
open Go.RowKit
def Str (w : World) (base sb : Nat) (size : Nat) (f s : ST) (q : QT) (tl : Bytes) (lo : BitVec 64) (tv : Value) : Prop :=
 StreamAt w sb size f s q tv lo ∧ Owns w base tv tl ∧ base ≤ w.heap.size
theorem Write_any {w : World} {base sb size : Nat} {f s : ST} {q : QT} {tl : Bytes} {lo : BitVec 64} {tv : Value} (E : World → Prop) (G : ST → Bytes → ST) (hS : Str w base sb size f s q tl lo tv)
 (hkeep : ∀ w', Fr (Foot sb tv) w w' → E w') (hstep : Hid (Steps E G size q)) (hz1 : 1 ≤ size) (hz2 : size ≤ 64) (htl : tl.length < size) (a : Option Addr) (n c : Nat) (l : Bytes) (h : IsBytes w a n c l) (hap : Apart (Foot sb tv) a n) (hn : n ≤ 1099511627776) :
 Calls Tryz.prog 297 #[.pointer (some ⟨sb, 0, none⟩), .slice a n c] w (Wrote base sb size f q tv (foldF G size s (tl ++ l)) (lo + BitVec.ofNat 64 n) w) := by
 obtain ⟨hst, ho, hb⟩ := hS
 obtain ⟨ta, tc, rfl, hbt, _⟩ := ho.bytes
 have hE := hkeep w (Fr.refl _ w)
 obtain ⟨k, hk⟩ : ∃ k, tl.length = k := ⟨_, rfl⟩
 rw [hk] at hst ho hkeep htl hap ⊢
 rcases Nat.eq_zero_or_pos k with e | hpos
 · subst e
   obtain rfl : tl = [] := List.eq_nil_of_length_eq_zero hk
   exact Write_empty E base sb size f s q ta tc lo a n c l w G hE hkeep hstep hst ho hb hz1 hz2 h hap hn
 · by_cases hp : k + n < size
   · have := Write_part E base sb size f s q ta k tc tl lo a n c l w G hE hkeep hstep hst ho hb hz1 hz2 hk hpos htl h hap hn hp
     rwa [← foldF_short (F := G) (s := s) (size := size) (l := tl ++ l) (by rw [List.length_append, hk, h.1]; exact hp)] at this
   · exact Write_fill E base sb size f s q ta k tc tl lo a n c l w G hE hkeep hstep hst ho hb hz1 hz2 hk hpos htl h hap hn (by omega) _ rfl
end Go.Proofs.YtidlpihoafnobaaGreat.StG64
namespace Go.Proofs.YtidlpihoafnobaaGreat.StG64
set_option maxRecDepth 100000
open Go.RowKit
section
variable {w0 w w' : World} {sb size : Nat} {f s : ST} {q : QT} {tl : Bytes} {lo : BitVec 64} {tv : Value}
theorem Live.above (h : Live w0 w sb size f s q tl lo tv) : ∀ x, Foot sb tv x → w0.heap.size ≤ x := fun x hx => by
 rcases hx with rfl | hx
 · exact h.ge
 · exact own_ge h.ow hx
def LiveWrote (w0 : World) (sb size : Nat) (f : ST) (q : QT) (tv : Value) (r : ST × Bytes) (lo : BitVec 64) (w : World) (e : Ending) (w' : World) : Prop :=
 e = .returned (.tuple #[]) ∧ ∃ tv', Live w0 w' sb size f r.1 q r.2 lo tv' ∧ Fr (Foot sb tv) w w' ∧ (tv'.ownBlock = tv.ownBlock ∨ ∀ x, tv'.ownBlock = some x → w.heap.size ≤ x)
theorem live_write (E : World → Prop) (G : ST → Bytes → ST) (h : Live w0 w sb size f s q tl lo tv) (hkeep : ∀ w', Fr (Foot sb tv) w w' → E w') (hstep : Hid (Steps E G size q)) (hz1 : 1 ≤ size) (hz2 : size ≤ 64) (htl : tl.length < size)
 (a : Option Addr) (n c : Nat) (l : Bytes) (hb : IsBytes w a n c l) (hap : Apart (Foot sb tv) a n) (hn : n ≤ 1099511627776) :
 Calls Tryz.prog 297 #[.pointer (some ⟨sb, 0, none⟩), .slice a n c] w (LiveWrote w0 sb size f q tv (foldF G size s (tl ++ l)) (lo + BitVec.ofNat 64 n) w) := by
 refine (Write_any E G ⟨h.st, h.ow, h.fr.size⟩ hkeep hstep hz1 hz2 htl a n c l hb hap hn).mono ?_
 rintro e w' ⟨rfl, tv', hst, hown, hnew, hfr⟩
 exact ⟨rfl, tv', ⟨hst, hown, h.ge, h.fr.trans hfr (fun x hx => .inr (h.above x hx))⟩, hfr, hnew⟩
end
end Go.Proofs.YtidlpihoafnobaaGreat.StG64
namespace Go.Proofs.YtidlpihoafnobaaGreat.StX64
set_option maxRecDepth 100000
open Go.Proofs.YtidlpihoafnobaaGreat.StG64
open Go.RowKit
section
variable {w0 w w' : World} {hb sb : Nat} {sd : BitVec 64} {s : ST} {tl : Bytes} {lo : BitVec 64} {tv : Value}
theorem HLive.above (h : HLive w0 w hb sb sd s tl lo tv) : ∀ x, HFoot hb sb tv x → w0.heap.size ≤ x := fun x hx => by
 rcases hx with rfl | hx
 · exact h.ge
 · exact h.on.above x hx
end
def HWrote (w0 : World) (hb sb : Nat) (sd : BitVec 64) (tv : Value) (r : ST × Bytes) (lo : BitVec 64) (w : World) (e : Ending) (w' : World) : Prop :=
 e = .returned (.tuple #[]) ∧ ∃ tv', HLive w0 w' hb sb sd r.1 r.2 lo tv' ∧ Fr (Foot sb tv) w w' ∧ (tv'.ownBlock = tv.ownBlock ∨ ∀ x, tv'.ownBlock = some x → w.heap.size ≤ x)
theorem Write_h {w0 w : World} {hb sb : Nat} {sd : BitVec 64} {s : ST} {tl : Bytes} {lo : BitVec 64} {tv : Value} (h : HLive w0 w hb sb sd s tl lo tv) (a : Option Addr) (n c : Nat) (l : Bytes) (hy : IsBytes w a n c l) (hap : Apart (Foot sb tv) a n) (hn : n ≤ 1099511627776) :
 Calls Tryz.prog 294 #[.pointer (some ⟨hb, 0, none⟩), .slice a n c] w (HWrote w0 hb sb sd tv (foldF stepG 32 s (tl ++ l)) (lo + BitVec.ofNat 64 n) w) := by
 have cc := h.cell
 have q4 := foldF_lt (F := stepG) (size := 32) (by omega) s (tl ++ l)
 have hlt := h.lt hb (.inl rfl)
 generalize hr : foldF stepG 32 s (tl ++ l) = r at q4 ⊢
 have HR := Lib.hid hr
 clear hr
 go_enter Tryz.func294, Tryz.ntmps294
 go_wp2_with (go_at_call 209; refine (made_h h).mono ?_; rintro e w' ⟨rfl, rfl⟩)
 refine (live_write (fun _ => True) stepG h.on (fun _ _ => trivial) steps_any (by omega) (by omega) h.tlen a n c l hy hap hn).mono ?_
 rw [HR.out]
 rintro e w2 ⟨rfl, tv2, hL, hf, hk⟩
 have hn2 : ¬ Foot sb tv2 hb := fun g => by
  rcases g with g | g
  · exact h.ne (.inl g)
  · rcases hk with e | e
    · exact h.ne (.inr (by rw [← e]; exact g))
    · have := e _ g; omega
 have hH : HLive w0 w2 hb sb sd r.1 r.2 (lo + BitVec.ofNat 64 n) tv2 := ⟨hL, hf.heap h.ne h.hc, h.ge, hn2, q4⟩
 clear cc
 go_wp2_with fail
 go_end0
 exact ⟨rfl, tv2, hH, hf, hk⟩
end Go.Proofs.YtidlpihoafnobaaGreat.StX64
namespace Go.Proofs.YtidlpihoafnobaaGreat.StX64
set_option maxRecDepth 100000
open Go.Proofs.YtidlpihoafnobaaGreat.StG64
open Go.RowKit
theorem HAll.above {w0 w : World} {hb sb : Nat} {sd : BitVec 64} {d : Bytes} {tv : Value} (h : HAll w0 w hb sb sd d tv) : ∀ x, HFoot hb sb tv x → w0.heap.size ≤ x := HLive.above h
end Go.Proofs.YtidlpihoafnobaaGreat.StX64
namespace Go.Proofs.YtidlpihoafnobaaGreat.StX64
open Go.Proofs.YtidlpihoafnobaaGreat.StG64
set_option maxRecDepth 100000
open Go.RowKit
section
variable {w0 w w' : World} {hb : Nat} {F : Nat → Prop} {k : Int} {kh kl : BitVec 64} {s : ST} {tl : Bytes} {lo : BitVec 64}
theorem HS.above (h : HS w0 w hb (F) k kh kl s tl lo) : ∀ x, F x → w0.heap.size ≤ x := by
 obtain ⟨ib, sb, tv, c6, c7, c8, c9, c10, c11, hr, hc, hL, rfl⟩ := h
 exact fun x hx => hL.above x (.inr hx)
end
theorem HS.write {w0 w : World} {hb : Nat} {F : Nat → Prop} {k : Int} {kh kl : BitVec 64} {s : ST} {tl : Bytes} {lo : BitVec 64} (h : HS w0 w hb (F) k kh kl s tl lo) (a : Option Addr) (n c : Nat) (l : Bytes) (hy : IsBytes w a n c l) (hap : Apart F a n) (hn : n ≤ 1099511627776) :
 Calls Tryz.prog 24 #[.pointer (some ⟨hb, 0, none⟩), .slice a n c] w (fun e w' => e = .returned (.int .i64 0) ∧ ∃ F', HS w0 w' hb F' k kh kl (foldF stepG 32 s (tl ++ l)).1 (foldF stepG 32 s (tl ++ l)).2 (lo + BitVec.ofNat 64 n) ∧ Fr F w w' ∧ ∀ x, F' x → F x ∨ w.heap.size ≤ x) := by
 obtain ⟨ib, sb, tv, c6, c7, c8, c9, c10, c11, hr, hc, hL, rfl⟩ := h
 refine hWrite_of hr.c3 294 (fun W => by kernel_rfl) (calls_enter Tryz.func294 (by kernel_rfl) (by kernel_rfl)) a n c ((Write_h hL a n c l hy hap hn).mono ?_)
 rintro e w' ⟨rfl, tv', hL', hf, hk⟩
 have hK := hL.on.con
 refine ⟨rfl, _, ⟨ib, sb, _, c6, c7, c8, c9, c10, c11, hr.fr hf hK, (hc.fr hf (hK) (by decide)), hL', rfl⟩, hf, fun x hx => ?_⟩
 rcases hx with rfl | hx
 · exact .inl (.inl rfl)
 · rcases hk with e | e
   · exact .inl (.inr (by rw [← e]; exact hx))
   · exact .inr (e _ hx)
end Go.Proofs.YtidlpihoafnobaaGreat.StX64
namespace Go.Proofs.YtidlpihoafnobaaGreat.StSip
set_option maxRecDepth 100000
open Go.Proofs.YtidlpihoafnobaaGreat.StG64
open Go.RowKit
section
variable {w0 w w' : World} {hb sb : Nat} {kd : Int} {kh kl : BitVec 64} {q : Nat} {s : ST} {tl : Bytes} {lo : BitVec 64} {tv : Value}
theorem HLive.above (h : HLive w0 w hb sb kd kh kl q s tl lo tv) : ∀ x, HFoot hb sb tv x → w0.heap.size ≤ x := fun x hx => by
 rcases hx with rfl | hx
 · exact h.ge
 · exact h.on.above x hx
end
def HWrote (w0 : World) (hb sb : Nat) (kd : Int) (kh kl : BitVec 64) (q : Nat) (tv : Value) (r : ST × Bytes) (lo : BitVec 64) (w : World) (e : Ending) (w' : World) : Prop :=
 e = .returned (.tuple #[]) ∧ ∃ tv', HLive w0 w' hb sb kd kh kl q r.1 r.2 lo tv' ∧ Fr (Foot sb tv) w w' ∧ (tv'.ownBlock = tv.ownBlock ∨ ∀ x, tv'.ownBlock = some x → w.heap.size ≤ x)
theorem Write_h {w0 w : World} {hb sb : Nat} {kd : Int} {kh kl : BitVec 64} {q : Nat} {s : ST} {tl : Bytes} {lo : BitVec 64} {tv : Value} (h : HLive w0 w hb sb kd kh kl q s tl lo tv) (a : Option Addr) (n c : Nat) (l : Bytes) (hy : IsBytes w a n c l) (hap : Apart (Foot sb tv) a n) (hn : n ≤ 1099511627776) :
 Calls Tryz.prog 301 #[.pointer (some ⟨hb, 0, none⟩), .slice a n c] w (HWrote w0 hb sb kd kh kl q tv (foldF (stepG (cOf kd)) 8 s (tl ++ l)) (lo + BitVec.ofNat 64 n) w) := by
 have cc := h.cell
 have q4 := foldF_lt (F := (stepG (cOf kd))) (size := 8) (by omega) s (tl ++ l)
 have hlt := h.lt hb (.inl rfl)
 generalize hr : foldF (stepG (cOf kd)) 8 s (tl ++ l) = r at q4 ⊢
 have HR := Lib.hid hr
 clear hr
 go_enter Tryz.func301, Tryz.ntmps301
 go_wp2_with (go_at_call 220; refine (made_h h).mono ?_; rintro e w' ⟨rfl, rfl⟩)
 refine (live_write (fun w' => Cap w' q (cOf kd)) (stepG (cOf kd)) h.on (fun w' k => h.on.con.fr k h.hq ⟨_, _, rfl, by decide⟩) (steps_any kd q) (by omega) (by omega) h.tlen a n c l hy hap hn).mono ?_
 rw [HR.out]
 rintro e w2 ⟨rfl, tv2, hL, hf, hk⟩
 have hn2 : ¬ Foot sb tv2 hb := fun g => by
  rcases g with g | g
  · exact h.ne (.inl g)
  · rcases hk with e | e
    · exact h.ne (.inr (by rw [← e]; exact g))
    · have := e _ g; omega
 have hH : HLive w0 w2 hb sb kd kh kl q r.1 r.2 (lo + BitVec.ofNat 64 n) tv2 := ⟨hL, hf.heap h.ne h.hc, h.ge, hn2, q4, h.on.con.fr hf h.hq ⟨_, _, rfl, by decide⟩, h.kk⟩
 clear cc
 go_wp2_with fail
 go_end0
 exact ⟨rfl, tv2, hH, hf, hk⟩
end Go.Proofs.YtidlpihoafnobaaGreat.StSip
namespace Go.Proofs.YtidlpihoafnobaaGreat.StSip
set_option maxRecDepth 100000
open Go.Proofs.YtidlpihoafnobaaGreat.StG64
open Go.RowKit
theorem HAll.above {w0 w : World} {hb sb : Nat} {kd : Int} {kh kl : BitVec 64} {d : Bytes} {tv : Value} (h : HAll w0 w hb sb kd kh kl d tv) : ∀ x, HFoot hb sb tv x → w0.heap.size ≤ x := by obtain ⟨q, h⟩ := h; exact h.above
end Go.Proofs.YtidlpihoafnobaaGreat.StSip
namespace Go.Proofs.YtidlpihoafnobaaGreat.StSip
open Go.Proofs.YtidlpihoafnobaaGreat.StG64
set_option maxRecDepth 100000
open Go.RowKit
section
variable {w0 w w' : World} {hb : Nat} {F : Nat → Prop} {k : Int} {kh kl : BitVec 64} {s : ST} {tl : Bytes} {lo : BitVec 64} {sz : Nat}
theorem HS.above (h : HS w0 w hb (F) k kh kl s tl lo sz) : ∀ x, F x → w0.heap.size ≤ x := by
 obtain ⟨ib, sb, tv, c6, c7, c8, c9, c10, c11, q, c5, hr, hc, hL, rfl⟩ := h
 exact fun x hx => hL.above x (.inr hx)
end
theorem HS.write {w0 w : World} {hb : Nat} {F : Nat → Prop} {k : Int} {kh kl : BitVec 64} {s : ST} {tl : Bytes} {lo : BitVec 64} {sz : Nat} (h : HS w0 w hb (F) k kh kl s tl lo sz) (a : Option Addr) (n c : Nat) (l : Bytes) (hy : IsBytes w a n c l) (hap : Apart F a n) (hn : n ≤ 1099511627776) :
 Calls Tryz.prog 24 #[.pointer (some ⟨hb, 0, none⟩), .slice a n c] w (fun e w' => e = .returned (.int .i64 0) ∧ ∃ F', HS w0 w' hb F' k kh kl (foldF (stepG (cOf k)) 8 s (tl ++ l)).1 (foldF (stepG (cOf k)) 8 s (tl ++ l)).2 (lo + BitVec.ofNat 64 n) sz ∧ Fr F w w' ∧ ∀ x, F' x → F x ∨ w.heap.size ≤ x) := by
 obtain ⟨ib, sb, tv, c6, c7, c8, c9, c10, c11, q, c5, hr, hc, hL, rfl⟩ := h
 refine hWrite_of hr.c3 301 (fun W => by kernel_rfl) (calls_enter Tryz.func301 (by kernel_rfl) (by kernel_rfl)) a n c ((Write_h hL a n c l hy hap hn).mono ?_)
 rintro e w' ⟨rfl, tv', hL', hf, hk⟩
 have hK := hL.on.con
 refine ⟨rfl, _, ⟨ib, sb, _, c6, c7, c8, c9, c10, c11, q, c5, hr.fr hf hK, ⟨hc.1.fr hf (hK) (by decide), hc.2.con hf (hK) (by decide)⟩, hL', rfl⟩, hf, fun x hx => ?_⟩
 rcases hx with rfl | hx
 · exact .inl (.inl rfl)
 · rcases hk with e | e
   · exact .inl (.inr (by rw [← e]; exact hx))
   · exact .inr (e _ hx)
end Go.Proofs.YtidlpihoafnobaaGreat.StSip
