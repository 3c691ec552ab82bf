/- WriteCG64 -/
import Derived.Test.YtidlpihoafnobaaGreatDoorPFoldG64
set_option linter.unusedVariables false
set_option linter.unusedSimpArgs false
namespace Go.Proofs.YtidlpihoafnobaaGreatDoor.StG64
set_option maxRecDepth 100000
open Go.RowKit
set_option maxHeartbeats 4000000 in
theorem Write_fill (E : World → Prop) (base sb : Nat) (size : Nat) (f s : ST) (q : QT) (ta : Option Addr) (k tc : Nat) (tl : Bytes) (lo0 : BitVec 64) (a : Option Addr) (n c : Nat) (l : Bytes) (w : World) (G : ST → Bytes → ST)
 (hE : E w) (hkeep : ∀ w', Fr (Foot sb (.slice ta k tc)) w w' → E w') (hstep : Hid (Steps E G size q))
 (hst : StreamAt w sb size f s q (.slice ta k tc) lo0) (ho : Owns w base (.slice ta k tc) tl) (hb : base ≤ w.heap.size) (hz1 : 1 ≤ size) (hz2 : size ≤ 64) (hk : Hid (tl.length = k)) (htl : 0 < k) (htz : k < size) (h : IsBytes w a n c l) (hap : Apart (Foot sb (.slice ta k tc)) a n) (hn : n ≤ 1099511627776) (hpart : size ≤ k + n) (lo : BitVec 64) (hlo : Hid (lo = lo0 + BitVec.ofNat 64 n)) :
 Calls Tryz.prog 319 #[.pointer (some ⟨sb, 0, none⟩), .slice a n c] w (Wrote base sb size f q (.slice ta k tc) (foldF G size s (tl ++ l)) lo w) := by
 have hst1 : StreamAt (w.setCell ⟨sb, 11, none⟩ (.int .u64 (W64 (lo0 + BitVec.ofNat 64 n)))) sb size f s q (.slice ta k tc) (lo0 + BitVec.ofNat 64 n) := hst.put _ _ rfl
 have hfr1 : Fr (Foot sb (.slice ta k tc)) w (w.setCell ⟨sb, 11, none⟩ (.int .u64 (W64 (lo0 + BitVec.ofNat 64 n)))) := (Fr.refl _ w).setCell (.inl (.inl rfl)) _
 have hapo := hst.apart ho
 have ho1 := ho.fr ((Fr.refl (fun x => x = sb) w).setCell (p := ⟨sb, 11, none⟩) (.inl rfl) (.int .u64 (W64 (lo0 + BitVec.ofNat 64 n)))) (fun x hx e => hapo (by rw [hx, e]))
 have hb1 := h.fr hfr1 hap
 have hlen := Lib.hid h.1
 have hnc : n ≤ c := h.2.1
 have hcm : c ≤ 9223372036854775807 := h.2.2.1
 have hmade := hst
 have cz : w.cell? ⟨sb, 0, none⟩ = some (.int .i64 size) := hst.cell 0 rfl
 have cst : w.cell? ⟨sb, 9, none⟩ = some ((.func (.func q.1) #[] q.2)) := hst.cell 9 rfl
 have ctl : w.cell? ⟨sb, 10, none⟩ = some (.slice ta k tc) := hst.cell 10 rfl
 have clo : w.cell? ⟨sb, 11, none⟩ = some (.int .u64 (W64 lo0)) := hst.cell 11 rfl
 have fzl := hst.frozen 11
 obtain ⟨z, hz⟩ : ∃ z, Hid (z = size - k) := ⟨_, rfl⟩
 have hzk : z + k = size := by have := hz.out; omega
 have HZ := Lib.hid hzk
 have e1 : (size : Int) - (k : Int) = (z : Int) := by omega
 have hzn : z ≤ n := by omega
 have hz0 : 0 < z := by omega
 have i0 : (z : Int) ≤ (n : Int) := by omega
 have i2 : (size : Int) - (k : Int) ≤ (n : Int) := by omega
 clear hzk
 obtain ⟨r, hr⟩ : ∃ r, r = foldF G size s (tl ++ l) := ⟨_, rfl⟩
 rw [← hr]
 have HR := Lib.hid hr
 clear hr
 go_enter Tryz.func319, Tryz.ntmps319
 go_wp2_with (go_at_call 240; refine (made_any hmade).mono ?_; rintro e w' ⟨rfl, rfl⟩)
 go_quiet (fail)
 go_wp2_with fail
 have hS1 : StreamAt ((w.setCell ⟨sb, 11, none⟩ (.int .u64 (W64 (lo0 + BitVec.ofNat 64 n)))).drewN nq) sb size f s q (.slice ta k tc) lo := by rw [hlo.out]; exact hst1
 have hF1 := hfr1.drewN nq
 have hown1 := ho1.no ((Fr.refl No _).drewN nq)
 have hbytes1 := (hb1.no ((Fr.refl No _).drewN nq)).head z c (n' := z) (c' := c) hzn (by omega) (Nat.le_refl _) rfl rfl
 have hbase1 : base ≤ ((w.setCell ⟨sb, 11, none⟩ (.int .u64 (W64 (lo0 + BitVec.ofNat 64 n)))).drewN nq).heap.size := Nat.le_trans hb hF1.size
 clear hst1 hfr1 ho1 hb1 clo cz cst ctl fzl
 generalize (w.setCell ⟨sb, 11, none⟩ (.int .u64 (W64 (lo0 + BitVec.ofNat 64 n)))).drewN nq = w1 at hS1 hF1 hown1 hbytes1 hbase1 ⊢
 have j1 : (z : Int) ≤ (c : Int) := by omega
 have hl4 : Hid ((tl ++ l.take z).length = size) := by show _ = _; rw [List.length_append, List.length_take, hk.out, hlen.out]; have := HZ.out; omega
 refine wp_region_late (by kernel_rfl) (fun w' => StreamAt w' sb size f s q (.slice ta k tc) lo) (fun i => decide (9 ≤ i)) (show StreamAt w1.drew sb size f s q (.slice ta k tc) lo from hS1) (fun hS0 => ?_)
 refine lp 0 rfl hS0 ?_; simp only [Act.put, es1, es2, es3]
 refine lp 1 rfl hS0 ?_; simp only [Act.put, es1, es2, es3]
 refine lp 2 rfl hS0 ?_; simp only [Act.put, es1, es2, es3]
 refine lp 3 rfl hS0 ?_; simp only [Act.put, es1, es2, es3]
 refine lk 4 rfl (by kernel_rfl) (fun _ _ _ h => h) rfl (by intro w9 h9; have ctl : w9.cell? ⟨sb, 10, none⟩ = some (.slice ta k tc) := h9.cell 10 rfl; clear h9; go_simp; try with_reducible rfl) hS0 ?_; simp only [Act.put, es1, es2, es3]
 refine lp 5 rfl hS0 ?_; simp only [Act.put, es1, es2, es3]
 refine lp 6 rfl hS0 ?_; simp only [Act.put, es1, es2, es3]
 refine lp 7 rfl hS0 ?_; simp only [Act.put, es1, es2, es3]
 refine wpLate_next (k := 8) (by kernel_rfl) rfl rfl (fun K hK => ?_)
 refine wp_append_bytes _ _ _ _ _ _ base (.slice ta k tc) tl (by simp [Act.eval]) (hown1.no (Fr.refl No w1).drew) _ _ _ (l.take z) (by simp [Act.eval]) (hbytes1.no (Fr.refl No w1).drew) (by rw [hk.out]; omega) hbase1 ?_
 intro v2 w2 hown2 hfr2d hnew2
 have hfr2 : Fr (fun x => (Value.slice ta k tc).ownBlock = some x) w1 w2 := ((Fr.refl No w1).drew.mono (fun _ _ f => f.elim)).trans hfr2d (fun x h => .inl h)
 obtain ⟨a2, c2, hv2, hb2, _⟩ := hown2.bytes
 rw [hl4.out] at hv2
 subst hv2
 have hS2 : StreamAt w2 sb size f s q (.slice ta k tc) lo := hS1.fr hfr2 hapo
 refine hK.out _ _ (fun _ => hS2) ?_
 clear hK K hS0 hfr2d
 simp only [Act.put, es1, es2, es3]
 refine lk' 9 rfl (by kernel_rfl) (fun _ _ _ h => h) rfl (by intro w9 h9; go_simp; try with_reducible rfl) ?_; simp only [Act.put, es1, es2, es3]
 refine lk' 10 rfl (by kernel_rfl) (fun _ _ _ h => h) rfl (by intro w9 h9; go_simp; try with_reducible rfl) ?_; simp only [Act.put, es1, es2, es3]
 have ctl : w2.cell? ⟨sb, 10, none⟩ = some (.slice ta k tc) := hS2.cell 10 rfl
 have fz2 := hS2.frozen 10
 refine wpLate_next (k := 11) (by kernel_rfl) rfl rfl (fun K hK => ?_)
 go_wp2_with fail
 refine hK.out _ _ (fun h => by simp at h) ?_
 clear hK K
 refine wpLate_done (by kernel_rfl) ?_ _
 have hS3 : StreamAt (w2.setCell ⟨sb, 10, none⟩ (.slice a2 size c2)) sb size f s q (.slice a2 size c2) lo := hS2.put 10 _ rfl
 have hF23 : Fr (fun x => x = sb) w2 (w2.setCell ⟨sb, 10, none⟩ (.slice a2 size c2)) := (Fr.refl (fun x => x = sb) w2).setCell (p := ⟨sb, 10, none⟩) (.inl rfl) _
 have hown3 := hown2.fr hF23 (fun x hx e => hS2.apart hown2 (by rw [hx, e]))
 have hF3 : Fr (Foot sb (.slice ta k tc)) w (w2.setCell ⟨sb, 10, none⟩ (.slice a2 size c2)) := (hF1.trans hfr2 (fun x hx => .inl (.inr hx))).trans hF23 (fun x hx => .inl (.inl hx))
 have hnew3 : (Value.slice a2 size c2).ownBlock = (Value.slice ta k tc).ownBlock ∨ ∀ x, (Value.slice a2 size c2).ownBlock = some x → w.heap.size ≤ x := by
  rcases hnew2 with e | e
  · exact .inl e
  · refine .inr fun x hx => ?_
    rw [e] at hx; cases hx; exact hF1.size
 have hbs3 : base ≤ (w2.setCell ⟨sb, 10, none⟩ (.slice a2 size c2)).heap.size := Nat.le_trans hb hF3.size
 have hbo3 := h.fr hF3 hap
 clear hS2 hF23 hfr2 hnew2 hown2 hb2 ctl fz2 hS1 hown1 hF1 hbase1
 generalize (w2.setCell ⟨sb, 10, none⟩ (.slice a2 size c2)) = w3 at hS3 hown3 hF3 hbs3 hbo3 ⊢
 have cz : w3.cell? ⟨sb, 0, none⟩ = some (.int .i64 size) := hS3.cell 0 rfl
 have ctl : w3.cell? ⟨sb, 10, none⟩ = some (.slice a2 size c2) := hS3.cell 10 rfl
 clear e1
 go_wp2_with fail
 go_quiet (fail)
 have hS4 : StreamAt (w3.drewN nq) sb size f s q (.slice a2 size c2) lo := hS3
 have hown4 := hown3.no ((Fr.refl No w3).drewN nq)
 have hF4 := hF3.drewN nq
 clear hS3 hown3 hF3 hbs3 hbo3 cz ctl
 generalize w3.drewN nq = w4 at hS4 hown4 hF4 ⊢
 go_wp2_with fail
 refine wp_region_late (by kernel_rfl) (fun w' => StreamAt w' sb size f s q (.slice a2 size c2) lo) (fun i => decide (15 ≤ i)) (show StreamAt w4.drew sb size f s q (.slice a2 size c2) lo from hS4) (fun hS0 => ?_)
 refine lp 0 rfl hS0 ?_; simp only [Act.put, es1, es2, es3]
 refine lp 1 rfl hS0 ?_; simp only [Act.put, es1, es2, es3]
 refine lp 2 rfl hS0 ?_; simp only [Act.put, es1, es2, es3]
 refine lp 3 rfl hS0 ?_; simp only [Act.put, es1, es2, es3]
 refine lk 4 rfl (by kernel_rfl) (fun _ _ _ h => h) rfl (by intro w9 h9; have cst : w9.cell? ⟨sb, 9, none⟩ = some ((.func (.func q.1) #[] q.2)) := h9.cell 9 rfl; clear h9; go_simp; try with_reducible rfl) hS0 ?_; simp only [Act.put, es1, es2, es3]
 refine lp 5 rfl hS0 ?_; simp only [Act.put, es1, es2, es3]
 refine lp 6 rfl hS0 ?_; simp only [Act.put, es1, es2, es3]
 refine lp 7 rfl hS0 ?_; simp only [Act.put, es1, es2, es3]
 refine lk 8 rfl (by kernel_rfl) (fun _ _ _ h => h) rfl (by intro w9 h9; have cn0 : w9.cell? ⟨sb, 5, none⟩ = some (cS s 0) := h9.cell 5 rfl; have cn1 : w9.cell? ⟨sb, 6, none⟩ = some (cS s 1) := h9.cell 6 rfl; have cn2 : w9.cell? ⟨sb, 7, none⟩ = some (cS s 2) := h9.cell 7 rfl; have cn3 : w9.cell? ⟨sb, 8, none⟩ = some (cS s 3) := h9.cell 8 rfl; clear h9; go_simp; try with_reducible rfl) hS0 ?_; simp only [Act.put, es1, es2, es3]
 refine lp 9 rfl hS0 ?_; simp only [Act.put, es1, es2, es3]
 refine lp 10 rfl hS0 ?_; simp only [Act.put, es1, es2, es3]
 refine lp 11 rfl hS0 ?_; simp only [Act.put, es1, es2, es3]
 refine lk 12 rfl (by kernel_rfl) (fun _ _ _ h => h) rfl (by intro w9 h9; have ctl : w9.cell? ⟨sb, 10, none⟩ = some (.slice a2 size c2) := h9.cell 10 rfl; clear h9; go_simp; try with_reducible rfl) hS0 ?_; simp only [Act.put, es1, es2, es3]
 refine wpLate_next (k := 13) (by kernel_rfl) rfl rfl (fun K hK => ?_)
 go_wp2_with fail
 refine (Clone_any _ _ _ (tl ++ l.take z) _ (hown4.isBytes.no (Fr.refl No w4).drew) (by omega)).mono ?_
 rintro e w5 ⟨v5, rfl, ho5, hf5d⟩
 have hf5 : Fr No w4 w5 := (Fr.refl No w4).drew.no hf5d
 clear hf5d
 obtain ⟨a5, c5, hv5, hb5, _⟩ := ho5.bytes
 rw [hl4.out] at hb5 hv5
 subst hv5
 have hS5 : StreamAt w5 sb size f s q (.slice a2 size c2) lo := hS4.fr hf5 (fun h => h)
 refine hK.out _ _ (fun _ => hS5) ?_
 clear hK K ho5 hS0
 refine wpLate_next (k := 14) (by kernel_rfl) rfl rfl (fun K hK => ?_)
 have hcl := hstep.out.1
 go_wp2_with fail
 clear hcl
 refine (hstep.out.2 _ _ _ _ _ _ (hkeep w5 (hF4.no hf5)) hb5 hl4.out).mono ?_
 rintro e w6 ⟨rfl, hf6⟩
 have hS6 : StreamAt w6 sb size f s q (.slice a2 size c2) lo := hS5.fr hf6 (fun h => h)
 refine hK.out _ _ (fun _ => hS6) ?_
 clear hK K hb5 hS5
 refine lk' 15 rfl (by kernel_rfl) (fun _ _ _ h => h) rfl (by intro w9 h9; go_simp; try with_reducible rfl) ?_; simp only [Act.put, es1, es2, es3]
 refine lk' 16 rfl (by kernel_rfl) (fun _ _ _ h => h) rfl (by intro w9 h9; go_simp; try with_reducible rfl) ?_; simp only [Act.put, es1, es2, es3]
 have cn0 : w6.cell? ⟨sb, 5, none⟩ = some (cS s 0) := hS6.cell 5 rfl
 have cn1 : w6.cell? ⟨sb, 6, none⟩ = some (cS s 1) := hS6.cell 6 rfl
 have cn2 : w6.cell? ⟨sb, 7, none⟩ = some (cS s 2) := hS6.cell 7 rfl
 have cn3 : w6.cell? ⟨sb, 8, none⟩ = some (cS s 3) := hS6.cell 8 rfl
 have fz0 := hS6.frozen 5
 have fz1 := hS6.frozen 6
 have fz2 := hS6.frozen 7
 have fz3 := hS6.frozen 8
 refine wpLate_next (k := 17) (by kernel_rfl) rfl rfl (fun K hK => ?_)
 go_wp2_with fail
 refine hK.out _ _ (fun h => by simp at h) ?_
 clear hK K
 refine wpLate_done (by kernel_rfl) ?_ _
 have hS7 : StreamAt (World.setCell (World.setCell (World.setCell (World.setCell w6 ⟨sb, 5, none⟩ (cS (G s (tl ++ l.take z)) 0)) ⟨sb, 6, none⟩ (cS (G s (tl ++ l.take z)) 1)) ⟨sb, 7, none⟩ (cS (G s (tl ++ l.take z)) 2)) ⟨sb, 8, none⟩ (cS (G s (tl ++ l.take z)) 3)) sb size f (G s (tl ++ l.take z)) q (.slice a2 size c2) lo := (row_put (row_put (row_put (row_put hS6 5 (cS (G s (tl ++ l.take z)) 0)) 6 (cS (G s (tl ++ l.take z)) 1)) 7 (cS (G s (tl ++ l.take z)) 2)) 8 (cS (G s (tl ++ l.take z)) 3))
 have hF7 : Fr (fun x => x = sb) w6 (World.setCell (World.setCell (World.setCell (World.setCell w6 ⟨sb, 5, none⟩ (cS (G s (tl ++ l.take z)) 0)) ⟨sb, 6, none⟩ (cS (G s (tl ++ l.take z)) 1)) ⟨sb, 7, none⟩ (cS (G s (tl ++ l.take z)) 2)) ⟨sb, 8, none⟩ (cS (G s (tl ++ l.take z)) 3)) := ((((Fr.refl (fun x => x = sb) w6).setCell (p := ⟨sb, 5, none⟩) (.inl rfl) _).setCell (p := ⟨sb, 6, none⟩) (.inl rfl) _).setCell (p := ⟨sb, 7, none⟩) (.inl rfl) _).setCell (p := ⟨sb, 8, none⟩) (.inl rfl) _
 clear cn0 fz0 cn1 fz1 cn2 fz2 cn3 fz3 hS6
 generalize (World.setCell (World.setCell (World.setCell (World.setCell w6 ⟨sb, 5, none⟩ (cS (G s (tl ++ l.take z)) 0)) ⟨sb, 6, none⟩ (cS (G s (tl ++ l.take z)) 1)) ⟨sb, 7, none⟩ (cS (G s (tl ++ l.take z)) 2)) ⟨sb, 8, none⟩ (cS (G s (tl ++ l.take z)) 3)) = w7 at hS7 hF7 ⊢
 have hF47 : Fr (fun x => x = sb) w4 w7 := ((hf5.no hf6).mono (fun _ _ f => f.elim)).trans hF7 (fun x h => .inl h)
 have hown7 := hown4.fr hF47 (fun x hx e => hS4.apart hown4 (by rw [hx, e]))
 have ctl : w7.cell? ⟨sb, 10, none⟩ = some (.slice a2 size c2) := hS7.cell 10 rfl
 have fz7 := hS7.frozen 10
 have hFe7 := hF4.trans hF47 (fun x hx => .inl (.inl hx))
 clear hF4 hF47 hF7 hf5 hf6 hown4 hS4
 go_wp2_with fail
 have hS8 : StreamAt (w7.setCell ⟨sb, 10, none⟩ (.slice (subAddr a2 0 c2 1) 0 c2)) sb size f (G s (tl ++ l.take z)) q (.slice (subAddr a2 0 c2 1) 0 c2) lo := hS7.put 10 _ rfl
 have hF8 : Fr (Foot sb (.slice ta k tc)) w (w7.setCell ⟨sb, 10, none⟩ (.slice (subAddr a2 0 c2 1) 0 c2)) := hFe7.setCell (.inl (.inl rfl)) _
 have hown8 : Owns (w7.setCell ⟨sb, 10, none⟩ (.slice (subAddr a2 0 c2 1) 0 c2)) base (.slice (subAddr a2 0 c2 1) 0 c2) [] := hown7.clear.fr ((Fr.refl (fun x => x = sb) w7).setCell (p := ⟨sb, 10, none⟩) (.inl rfl) _) (fun x hx e => hS7.apart hown7 (by rw [subAddr_zero, ownBlock_len _ 0 size, e] at hx; exact hx))
 have hnew8 : (Value.slice (subAddr a2 0 c2 1) 0 c2).ownBlock = (Value.slice ta k tc).ownBlock ∨ ∀ x, (Value.slice (subAddr a2 0 c2 1) 0 c2).ownBlock = some x → w.heap.size ≤ x := by rw [subAddr_zero, ownBlock_len _ 0 size]; exact hnew3
 clear hS7 hFe7 hown7 hnew3 fz7 ctl
 generalize (w7.setCell ⟨sb, 10, none⟩ (.slice (subAddr a2 0 c2 1) 0 c2)) = w8 at hS8 hF8 hown8 ⊢
 have hbo8 := (h.fr hF8 hap).cut_to_end z (n' := n - z) (c' := c - z) hzn rfl rfl
 have hap8 := hap.sub (n' := n - z) (by omega) z c 1
 have hr8 : foldF G size (G s (tl ++ l.take z)) (l.drop z) = r := by
  have hge : size ≤ (tl ++ l).length := by rw [List.length_append, hk.out, hlen.out]; omega
  rw [HR.out, foldF_step hz1 hge, (take_over hk.out HZ.out).1, (take_over hk.out HZ.out).2]
 have hloop : LoopAt E G base sb size f q (.slice ta k tc) w r lo (.slice (subAddr a z c 1) (n - z) (c - z)) w8 (n - z) :=
  ⟨_, _, _, _, _, rfl, hbo8, hap8, by omega, hS8, hown8, Nat.le_trans hb hF8.size, hkeep _ hF8, hr8, hnew8, hF8⟩
 clear hr8 hap8 hbo8 hnew8 hown8 hF8 hS8 HR hlen hl4 i0 i2 j1 HZ hz hst h hk
 generalize hv0 : Value.slice (subAddr a z c 1) (n - z) (c - z) = v0 at hloop ⊢
 clear hv0
 go_loopw [1] (fun v wr => ∃ m, LoopAt E G base sb size f q (.slice ta k tc) w r lo v wr m) (fun v _ => match v with | .slice _ m _ => m | _ => 0)
 case atStart => exact ⟨_, hloop⟩
 case round =>
  obtain ⟨m, a', c', l', s', tv', rfl, hb', hap', hm', hst', ho', hbs', hE', hr', hnew', hfr'⟩ := hrel
  clear hloop
  have hlen' := Lib.hid hb'.1
  have hc' : m ≤ c' := hb'.2.1
  have hc'' : c' ≤ 9223372036854775807 := hb'.2.2.1
  have cz : wr.cell? ⟨sb, 0, none⟩ = some (.int .i64 size) := hst'.cell 0 rfl
  have cn0 : wr.cell? ⟨sb, 5, none⟩ = some (cS s' 0) := hst'.cell 5 rfl
  have cn1 : wr.cell? ⟨sb, 6, none⟩ = some (cS s' 1) := hst'.cell 6 rfl
  have cn2 : wr.cell? ⟨sb, 7, none⟩ = some (cS s' 2) := hst'.cell 7 rfl
  have cn3 : wr.cell? ⟨sb, 8, none⟩ = some (cS s' 3) := hst'.cell 8 rfl
  have cst : wr.cell? ⟨sb, 9, none⟩ = some ((.func (.func q.1) #[] q.2)) := hst'.cell 9 rfl
  have ctl : wr.cell? ⟨sb, 10, none⟩ = some (tv') := hst'.cell 10 rfl
  by_cases hlt : size ≤ m
  · have i1 : (size : Int) ≤ (m : Int) := by omega
    have i2 : (size : Int) ≤ (c' : Int) := by omega
    go_wp2_with fail
    have hcut := Lib.hid (hb'.head size size (n' := size) (c' := size) hlt (Nat.le_refl _) (by omega) rfl rfl)
    have hS0 : StreamAt wr.drew sb size f s' q tv' lo := hst'
    refine wp_region_late (by kernel_rfl) (fun w' => StreamAt w' sb size f s' q tv' lo) (fun i => decide (21 ≤ i)) hS0 (fun _ => ?_)
    refine lp 0 rfl hS0 ?_; simp only [Act.put, es1, es2, es3]
    refine lp 1 rfl hS0 ?_; simp only [Act.put, es1, es2, es3]
    refine lp 2 rfl hS0 ?_; simp only [Act.put, es1, es2, es3]
    refine lp 3 rfl hS0 ?_; simp only [Act.put, es1, es2, es3]
    refine lk 4 rfl (by kernel_rfl) (fun _ _ _ h => h) rfl (by intro w9 h9; have cst : w9.cell? ⟨sb, 9, none⟩ = some ((.func (.func q.1) #[] q.2)) := h9.cell 9 rfl; clear h9; go_simp; try with_reducible rfl) hS0 ?_; simp only [Act.put, es1, es2, es3]
    refine lp 5 rfl hS0 ?_; simp only [Act.put, es1, es2, es3]
    refine lp 6 rfl hS0 ?_; simp only [Act.put, es1, es2, es3]
    refine lp 7 rfl hS0 ?_; simp only [Act.put, es1, es2, es3]
    refine lk 8 rfl (by kernel_rfl) (fun _ _ _ h => h) rfl (by intro w9 h9; have cn0 : w9.cell? ⟨sb, 5, none⟩ = some (cS s' 0) := h9.cell 5 rfl; have cn1 : w9.cell? ⟨sb, 6, none⟩ = some (cS s' 1) := h9.cell 6 rfl; have cn2 : w9.cell? ⟨sb, 7, none⟩ = some (cS s' 2) := h9.cell 7 rfl; have cn3 : w9.cell? ⟨sb, 8, none⟩ = some (cS s' 3) := h9.cell 8 rfl; clear h9; go_simp; try with_reducible rfl) hS0 ?_; simp only [Act.put, es1, es2, es3]
    refine lp 9 rfl hS0 ?_; simp only [Act.put, es1, es2, es3]
    refine lp 10 rfl hS0 ?_; simp only [Act.put, es1, es2, es3]
    refine lp 11 rfl hS0 ?_; simp only [Act.put, es1, es2, es3]
    refine lp 12 rfl hS0 ?_; simp only [Act.put, es1, es2, es3]
    refine lk 13 rfl (by kernel_rfl) (fun _ _ _ h => h) rfl (by intro w9 h9; have cz : w9.cell? ⟨sb, 0, none⟩ = some (.int .i64 size) := h9.cell 0 rfl; clear h9; go_simp; try with_reducible rfl) hS0 ?_; simp only [Act.put, es1, es2, es3]
    refine lp 14 rfl hS0 ?_; simp only [Act.put, es1, es2, es3]
    refine lp 15 rfl hS0 ?_; simp only [Act.put, es1, es2, es3]
    refine lp 16 rfl hS0 ?_; simp only [Act.put, es1, es2, es3]
    refine lk 17 rfl (by kernel_rfl) (fun _ _ _ h => h) rfl (by intro w9 h9; have cz : w9.cell? ⟨sb, 0, none⟩ = some (.int .i64 size) := h9.cell 0 rfl; clear h9; go_simp; try with_reducible rfl) hS0 ?_; simp only [Act.put, es1, es2, es3]
    refine lp 18 rfl hS0 ?_; simp only [Act.put, es1, es2, es3]
    refine wpLate_next (k := 19) (by kernel_rfl) rfl rfl (fun K hK => ?_)
    go_wp2_with fail
    refine (Clone_any _ _ _ (l'.take size) _ (hcut.out.no (Fr.refl No wr).drew) (by omega)).mono ?_
    rintro e w2 ⟨v2, rfl, ho2, hf2d⟩
    have hf2 : Fr No wr w2 := (Fr.refl No wr).drew.no hf2d
    clear hf2d
    obtain ⟨a2, c2, rfl, hb2, _⟩ := ho2.bytes
    have hl2 : (l'.take size).length = size := by rw [List.length_take, hlen'.out]; omega
    rw [hl2] at hb2 ⊢
    have hS2 : StreamAt w2 sb size f s' q tv' lo := hst'.fr hf2 (fun h => h)
    have hE2 : E w2 := hkeep w2 (hfr'.no hf2)
    refine hK.out _ _ (fun _ => hS2) ?_
    clear hK K ho2 hS0
    refine wpLate_next (k := 20) (by kernel_rfl) rfl rfl (fun K hK => ?_)
    have hcl := hstep.out.1
    go_wp2_with fail
    clear hcl
    refine (hstep.out.2 _ _ _ _ _ _ hE2 hb2 hl2).mono ?_
    rintro e w3 ⟨rfl, hf3⟩
    have hS3 : StreamAt w3 sb size f s' q tv' lo := hS2.fr hf3 (fun h => h)
    refine hK.out _ _ (fun _ => hS3) ?_
    clear hK K hE2 hb2 hl2 hS2
    refine lk' 21 rfl (by kernel_rfl) (fun _ _ _ h => h) rfl (by intro w9 h9; go_simp; try with_reducible rfl) ?_; simp only [Act.put, es1, es2, es3]
    refine lk' 22 rfl (by kernel_rfl) (fun _ _ _ h => h) rfl (by intro w9 h9; go_simp; try with_reducible rfl) ?_; simp only [Act.put, es1, es2, es3]
    have cn0 : w3.cell? ⟨sb, 5, none⟩ = some (cS s' 0) := hS3.cell 5 rfl
    have cn1 : w3.cell? ⟨sb, 6, none⟩ = some (cS s' 1) := hS3.cell 6 rfl
    have cn2 : w3.cell? ⟨sb, 7, none⟩ = some (cS s' 2) := hS3.cell 7 rfl
    have cn3 : w3.cell? ⟨sb, 8, none⟩ = some (cS s' 3) := hS3.cell 8 rfl
    have fz0 := hS3.frozen 5
    have fz1 := hS3.frozen 6
    have fz2 := hS3.frozen 7
    have fz3 := hS3.frozen 8
    refine wpLate_next (k := 23) (by kernel_rfl) rfl rfl (fun K hK => ?_)
    go_wp2_with fail
    refine hK.out _ _ (fun h => by simp at h) ?_
    clear hK K
    refine wpLate_done (by kernel_rfl) ?_ _
    have hS4 : StreamAt (World.setCell (World.setCell (World.setCell (World.setCell w3 ⟨sb, 5, none⟩ (cS (G s' (l'.take size)) 0)) ⟨sb, 6, none⟩ (cS (G s' (l'.take size)) 1)) ⟨sb, 7, none⟩ (cS (G s' (l'.take size)) 2)) ⟨sb, 8, none⟩ (cS (G s' (l'.take size)) 3)) sb size f (G s' (l'.take size)) q tv' lo := (row_put (row_put (row_put (row_put hS3 5 (cS (G s' (l'.take size)) 0)) 6 (cS (G s' (l'.take size)) 1)) 7 (cS (G s' (l'.take size)) 2)) 8 (cS (G s' (l'.take size)) 3))
    have hF4 : Fr (fun x => x = sb) w3 (World.setCell (World.setCell (World.setCell (World.setCell w3 ⟨sb, 5, none⟩ (cS (G s' (l'.take size)) 0)) ⟨sb, 6, none⟩ (cS (G s' (l'.take size)) 1)) ⟨sb, 7, none⟩ (cS (G s' (l'.take size)) 2)) ⟨sb, 8, none⟩ (cS (G s' (l'.take size)) 3)) := ((((Fr.refl (fun x => x = sb) w3).setCell (p := ⟨sb, 5, none⟩) (.inl rfl) _).setCell (p := ⟨sb, 6, none⟩) (.inl rfl) _).setCell (p := ⟨sb, 7, none⟩) (.inl rfl) _).setCell (p := ⟨sb, 8, none⟩) (.inl rfl) _
    clear cn0 fz0 cn1 fz1 cn2 fz2 cn3 fz3 hS3
    generalize (World.setCell (World.setCell (World.setCell (World.setCell w3 ⟨sb, 5, none⟩ (cS (G s' (l'.take size)) 0)) ⟨sb, 6, none⟩ (cS (G s' (l'.take size)) 1)) ⟨sb, 7, none⟩ (cS (G s' (l'.take size)) 2)) ⟨sb, 8, none⟩ (cS (G s' (l'.take size)) 3)) = w4 at hS4 hF4 ⊢
    have hF34 : Fr (fun x => x = sb) wr w4 := ((hf2.no hf3).mono (fun _ _ f => f.elim)).trans hF4 (fun x h => .inl h)
    have cz4 : w4.cell? ⟨sb, 0, none⟩ = some (.int .i64 size) := hS4.cell 0 rfl
    clear cz cst ctl
    go_wp2_with fail
    have hcut2 := hb'.cut_to_end size (n' := m - size) (c' := c' - size) hlt rfl rfl
    have hap2 := hap'.sub (n' := m - size) (by omega) size c' 1
    have hfe := hfr'.trans hF34 (fun x h => .inl (.inl h))
    go_roundw
    case rel => exact ⟨m - size, _, _, _, _, tv', rfl, hcut2.fr hF34 (fun x hx e h => hap2 x hx e (.inl h)), hap2, by omega, hS4, ho'.fr hF34 (fun x hx e => hst'.apart ho' (by rw [hx, e])), Nat.le_trans hbs' hF34.size, hkeep _ hfe, by rw [← hr']; exact (foldF_step hz1 (by rw [hlen'.out]; exact hlt)).symm, hnew', hfe⟩
    case measure => simp; omega
  · have i1 : (m : Int) < (size : Int) := by omega
    obtain ⟨ta', tc', rfl, _, _⟩ := ho'.bytes
    have hne := hst'.apart ho'
    go_wp2_with (refine wpList_append_bytes _ _ _ _ _ _ base _ [] rfl ho' _ _ _ l' rfl hb' (by simp; omega) hbs' ?_; intro v2 w2 hown2 hfr2 hnew2; obtain ⟨a2, c2, rfl, _, _⟩ := hown2.bytes; have hst2 := hst'.fr hfr2 hne; have ctl2 := hst2.cell 10 rfl; have fz2 := hst2.frozen 10)
    go_end0
    have hsh : foldF G size s' l' = (s', l') := foldF_short (by rw [hlen'.out]; omega)
    refine ⟨rfl, .slice a2 (([] : Bytes) ++ l').length c2, ?_, ?_, ?_, ?_⟩
    · rw [← hr', hsh]; exact hst2.put 10 _ rfl
    · rw [← hr', hsh]; exact hown2.fr ((Fr.refl (fun x => x = sb) w2).setCell (p := ⟨sb, 10, none⟩) (.inl rfl) _) (fun x hx e => hst2.apart hown2 (by rw [hx, e]))
    · rcases hnew2 with e | e
      · rw [e]; exact hnew'
      · refine .inr fun x hx => ?_
        rw [e] at hx; cases hx; exact hfr'.size
    · exact (hfr'.trans hfr2 (fun x hx => by rcases hnew' with e | e; exact .inl (.inr (by rw [← e]; exact hx)); exact .inr (e x hx))).setCell (.inl (.inl rfl)) _
end Go.Proofs.YtidlpihoafnobaaGreatDoor.StG64
