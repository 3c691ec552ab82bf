/- WriteCM32 WriteAM32 WriteM32 LiveM32 HashM32 AllM32 StrHM32 StrPlain StrAny -/
import Derived.Deep.Cut
import Derived.Test.YtidlpihoafnobaaGreatPStrHM64
import Derived.Test.YtidlpihoafnobaaGreatPStrHX32
import Derived.Test.YtidlpihoafnobaaGreatPStrHSip
set_option linter.unusedVariables false
set_option linter.unusedSimpArgs false
namespace Go.Proofs.YtidlpihoafnobaaGreat.StM32
set_option maxRecDepth 100000
open Go.RowKit
set_option maxHeartbeats 4000000 in
theorem Write_fill (E : World → Prop) (base sb : Nat) (size : Nat) (f s : ST) (q : Nat) (ta : Option Addr) (k tc : Nat) (tl : Bytes) (lo0 : BitVec 64) (a : Option Addr) (n c : Nat) (l : Bytes) (w : World) (G : ST → Bytes → ST)
 (hE : E w) (hkeep : ∀ w', Fr (Foot sb (.slice ta k tc)) w w' → E w') (hstep : Hid (Steps E G size q))
 (hst : StreamAt w sb size f s q (.slice ta k tc) lo0) (ho : Owns w base (.slice ta k tc) tl) (hb : base ≤ w.heap.size) (hz1 : 1 ≤ size) (hz2 : size ≤ 64) (hk : Hid (tl.length = k)) (htl : 0 < k) (htz : k < size) (h : IsBytes w a n c l) (hap : Apart (Foot sb (.slice ta k tc)) a n) (hn : n ≤ 1099511627776) (hpart : size ≤ k + n) (lo : BitVec 64) (hlo : Hid (lo = lo0 + BitVec.ofNat 64 n)) :
 Calls Tryz.prog 267 #[.pointer (some ⟨sb, 0, none⟩), .slice a n c] w (Wrote base sb size f q (.slice ta k tc) (foldF G size s (tl ++ l)) lo w) := by
 have hst1 : StreamAt (w.setCell ⟨sb, 5, none⟩ (.int .u64 (W64 (lo0 + BitVec.ofNat 64 n)))) sb size f s q (.slice ta k tc) (lo0 + BitVec.ofNat 64 n) := hst.put _ _ rfl
 have hfr1 : Fr (Foot sb (.slice ta k tc)) w (w.setCell ⟨sb, 5, none⟩ (.int .u64 (W64 (lo0 + BitVec.ofNat 64 n)))) := (Fr.refl _ w).setCell (.inl (.inl rfl)) _
 have hapo := hst.apart ho
 have ho1 := ho.fr ((Fr.refl (fun x => x = sb) w).setCell (p := ⟨sb, 5, none⟩) (.inl rfl) (.int .u64 (W64 (lo0 + BitVec.ofNat 64 n)))) (fun x hx e => hapo (by rw [hx, e]))
 have hb1 := h.fr hfr1 hap
 have hlen := Lib.hid h.1
 have hnc : n ≤ c := h.2.1
 have hcm : c ≤ 9223372036854775807 := h.2.2.1
 have hmade := hst
 have cz : w.cell? ⟨sb, 0, none⟩ = some (.int .i64 size) := hst.cell 0 rfl
 have cst : w.cell? ⟨sb, 3, none⟩ = some ((.func (.func 108) #[.agg #[]] #[])) := hst.cell 3 rfl
 have ctl : w.cell? ⟨sb, 4, none⟩ = some (.slice ta k tc) := hst.cell 4 rfl
 have clo : w.cell? ⟨sb, 5, none⟩ = some (.int .u64 (W64 lo0)) := hst.cell 5 rfl
 have fzl := hst.frozen 5
 obtain ⟨z, hz⟩ : ∃ z, Hid (z = size - k) := ⟨_, rfl⟩
 have hzk : z + k = size := by have := hz.out; omega
 have HZ := Lib.hid hzk
 have e1 : (size : Int) - (k : Int) = (z : Int) := by omega
 have hzn : z ≤ n := by omega
 have hz0 : 0 < z := by omega
 have i0 : (z : Int) ≤ (n : Int) := by omega
 have i2 : (size : Int) - (k : Int) ≤ (n : Int) := by omega
 clear hzk
 obtain ⟨r, hr⟩ : ∃ r, r = foldF G size s (tl ++ l) := ⟨_, rfl⟩
 rw [← hr]
 have HR := Lib.hid hr
 clear hr
 go_enter Tryz.func267, Tryz.ntmps267
 go_wp2_with (go_at_call 177; refine (made_any hmade).mono ?_; rintro e w' ⟨rfl, rfl⟩)
 go_quiet (fail)
 go_wp2_with fail
 have hS1 : StreamAt ((w.setCell ⟨sb, 5, none⟩ (.int .u64 (W64 (lo0 + BitVec.ofNat 64 n)))).drewN nq) sb size f s q (.slice ta k tc) lo := by rw [hlo.out]; exact hst1
 have hF1 := hfr1.drewN nq
 have hown1 := ho1.no ((Fr.refl No _).drewN nq)
 have hbytes1 := (hb1.no ((Fr.refl No _).drewN nq)).head z c (n' := z) (c' := c) hzn (by omega) (Nat.le_refl _) rfl rfl
 have hbase1 : base ≤ ((w.setCell ⟨sb, 5, none⟩ (.int .u64 (W64 (lo0 + BitVec.ofNat 64 n)))).drewN nq).heap.size := Nat.le_trans hb hF1.size
 clear hst1 hfr1 ho1 hb1 clo cz cst ctl fzl
 generalize (w.setCell ⟨sb, 5, none⟩ (.int .u64 (W64 (lo0 + BitVec.ofNat 64 n)))).drewN nq = w1 at hS1 hF1 hown1 hbytes1 hbase1 ⊢
 have j1 : (z : Int) ≤ (c : Int) := by omega
 have hl4 : Hid ((tl ++ l.take z).length = size) := by show _ = _; rw [List.length_append, List.length_take, hk.out, hlen.out]; have := HZ.out; omega
 refine wp_region_late (by kernel_rfl) (fun w' => StreamAt w' sb size f s q (.slice ta k tc) lo) (fun i => decide (9 ≤ i)) (show StreamAt w1.drew sb size f s q (.slice ta k tc) lo from hS1) (fun hS0 => ?_)
 refine lp 0 rfl hS0 ?_; simp only [Act.put, es1, es2, es3]
 refine lp 1 rfl hS0 ?_; simp only [Act.put, es1, es2, es3]
 refine lp 2 rfl hS0 ?_; simp only [Act.put, es1, es2, es3]
 refine lp 3 rfl hS0 ?_; simp only [Act.put, es1, es2, es3]
 refine lk 4 rfl (by kernel_rfl) (fun _ _ _ h => h) rfl (by intro w9 h9; have ctl : w9.cell? ⟨sb, 4, none⟩ = some (.slice ta k tc) := h9.cell 4 rfl; clear h9; go_simp; try with_reducible rfl) hS0 ?_; simp only [Act.put, es1, es2, es3]
 refine lp 5 rfl hS0 ?_; simp only [Act.put, es1, es2, es3]
 refine lp 6 rfl hS0 ?_; simp only [Act.put, es1, es2, es3]
 refine lp 7 rfl hS0 ?_; simp only [Act.put, es1, es2, es3]
 refine wpLate_next (k := 8) (by kernel_rfl) rfl rfl (fun K hK => ?_)
 refine wp_append_bytes _ _ _ _ _ _ base (.slice ta k tc) tl (by simp [Act.eval]) (hown1.no (Fr.refl No w1).drew) _ _ _ (l.take z) (by simp [Act.eval]) (hbytes1.no (Fr.refl No w1).drew) (by rw [hk.out]; omega) hbase1 ?_
 intro v2 w2 hown2 hfr2d hnew2
 have hfr2 : Fr (fun x => (Value.slice ta k tc).ownBlock = some x) w1 w2 := ((Fr.refl No w1).drew.mono (fun _ _ f => f.elim)).trans hfr2d (fun x h => .inl h)
 obtain ⟨a2, c2, hv2, hb2, _⟩ := hown2.bytes
 rw [hl4.out] at hv2
 subst hv2
 have hS2 : StreamAt w2 sb size f s q (.slice ta k tc) lo := hS1.fr hfr2 hapo
 refine hK.out _ _ (fun _ => hS2) ?_
 clear hK K hS0 hfr2d
 simp only [Act.put, es1, es2, es3]
 refine lk' 9 rfl (by kernel_rfl) (fun _ _ _ h => h) rfl (by intro w9 h9; go_simp; try with_reducible rfl) ?_; simp only [Act.put, es1, es2, es3]
 refine lk' 10 rfl (by kernel_rfl) (fun _ _ _ h => h) rfl (by intro w9 h9; go_simp; try with_reducible rfl) ?_; simp only [Act.put, es1, es2, es3]
 have ctl : w2.cell? ⟨sb, 4, none⟩ = some (.slice ta k tc) := hS2.cell 4 rfl
 have fz2 := hS2.frozen 4
 refine wpLate_next (k := 11) (by kernel_rfl) rfl rfl (fun K hK => ?_)
 go_wp2_with fail
 refine hK.out _ _ (fun h => by simp at h) ?_
 clear hK K
 refine wpLate_done (by kernel_rfl) ?_ _
 have hS3 : StreamAt (w2.setCell ⟨sb, 4, none⟩ (.slice a2 size c2)) sb size f s q (.slice a2 size c2) lo := hS2.put 4 _ rfl
 have hF23 : Fr (fun x => x = sb) w2 (w2.setCell ⟨sb, 4, none⟩ (.slice a2 size c2)) := (Fr.refl (fun x => x = sb) w2).setCell (p := ⟨sb, 4, none⟩) (.inl rfl) _
 have hown3 := hown2.fr hF23 (fun x hx e => hS2.apart hown2 (by rw [hx, e]))
 have hF3 : Fr (Foot sb (.slice ta k tc)) w (w2.setCell ⟨sb, 4, none⟩ (.slice a2 size c2)) := (hF1.trans hfr2 (fun x hx => .inl (.inr hx))).trans hF23 (fun x hx => .inl (.inl hx))
 have hnew3 : (Value.slice a2 size c2).ownBlock = (Value.slice ta k tc).ownBlock ∨ ∀ x, (Value.slice a2 size c2).ownBlock = some x → w.heap.size ≤ x := by
  rcases hnew2 with e | e
  · exact .inl e
  · refine .inr fun x hx => ?_
    rw [e] at hx; cases hx; exact hF1.size
 have hbs3 : base ≤ (w2.setCell ⟨sb, 4, none⟩ (.slice a2 size c2)).heap.size := Nat.le_trans hb hF3.size
 have hbo3 := h.fr hF3 hap
 clear hS2 hF23 hfr2 hnew2 hown2 hb2 ctl fz2 hS1 hown1 hF1 hbase1
 generalize (w2.setCell ⟨sb, 4, none⟩ (.slice a2 size c2)) = w3 at hS3 hown3 hF3 hbs3 hbo3 ⊢
 have cz : w3.cell? ⟨sb, 0, none⟩ = some (.int .i64 size) := hS3.cell 0 rfl
 have ctl : w3.cell? ⟨sb, 4, none⟩ = some (.slice a2 size c2) := hS3.cell 4 rfl
 clear e1
 go_wp2_with fail
 go_quiet (fail)
 have hS4 : StreamAt (w3.drewN nq) sb size f s q (.slice a2 size c2) lo := hS3
 have hown4 := hown3.no ((Fr.refl No w3).drewN nq)
 have hF4 := hF3.drewN nq
 clear hS3 hown3 hF3 hbs3 hbo3 cz ctl
 generalize w3.drewN nq = w4 at hS4 hown4 hF4 ⊢
 go_wp2_with fail
 refine wp_region_late (by kernel_rfl) (fun w' => StreamAt w' sb size f s q (.slice a2 size c2) lo) (fun i => decide (15 ≤ i)) (show StreamAt w4.drew sb size f s q (.slice a2 size c2) lo from hS4) (fun hS0 => ?_)
 refine lp 0 rfl hS0 ?_; simp only [Act.put, es1, es2, es3]
 refine lp 1 rfl hS0 ?_; simp only [Act.put, es1, es2, es3]
 refine lp 2 rfl hS0 ?_; simp only [Act.put, es1, es2, es3]
 refine lp 3 rfl hS0 ?_; simp only [Act.put, es1, es2, es3]
 refine lk 4 rfl (by kernel_rfl) (fun _ _ _ h => h) rfl (by intro w9 h9; have cst : w9.cell? ⟨sb, 3, none⟩ = some ((.func (.func 108) #[.agg #[]] #[])) := h9.cell 3 rfl; clear h9; go_simp; try with_reducible rfl) hS0 ?_; simp only [Act.put, es1, es2, es3]
 refine lp 5 rfl hS0 ?_; simp only [Act.put, es1, es2, es3]
 refine lp 6 rfl hS0 ?_; simp only [Act.put, es1, es2, es3]
 refine lp 7 rfl hS0 ?_; simp only [Act.put, es1, es2, es3]
 refine lk 8 rfl (by kernel_rfl) (fun _ _ _ h => h) rfl (by intro w9 h9; have cn0 : w9.cell? ⟨sb, 2, none⟩ = some (.int .u32 (W32 s)) := h9.cell 2 rfl; clear h9; go_simp; try with_reducible rfl) hS0 ?_; simp only [Act.put, es1, es2, es3]
 refine lp 9 rfl hS0 ?_; simp only [Act.put, es1, es2, es3]
 refine lp 10 rfl hS0 ?_; simp only [Act.put, es1, es2, es3]
 refine lp 11 rfl hS0 ?_; simp only [Act.put, es1, es2, es3]
 refine lk 12 rfl (by kernel_rfl) (fun _ _ _ h => h) rfl (by intro w9 h9; have ctl : w9.cell? ⟨sb, 4, none⟩ = some (.slice a2 size c2) := h9.cell 4 rfl; clear h9; go_simp; try with_reducible rfl) hS0 ?_; simp only [Act.put, es1, es2, es3]
 refine wpLate_next (k := 13) (by kernel_rfl) rfl rfl (fun K hK => ?_)
 go_wp2_with fail
 refine (Clone_any _ _ _ (tl ++ l.take z) _ (hown4.isBytes.no (Fr.refl No w4).drew) (by omega)).mono ?_
 rintro e w5 ⟨v5, rfl, ho5, hf5d⟩
 have hf5 : Fr No w4 w5 := (Fr.refl No w4).drew.no hf5d
 clear hf5d
 obtain ⟨a5, c5, hv5, hb5, _⟩ := ho5.bytes
 rw [hl4.out] at hb5 hv5
 subst hv5
 have hS5 : StreamAt w5 sb size f s q (.slice a2 size c2) lo := hS4.fr hf5 (fun h => h)
 refine hK.out _ _ (fun _ => hS5) ?_
 clear hK K ho5 hS0
 refine wpLate_next (k := 14) (by kernel_rfl) rfl rfl (fun K hK => ?_)
 go_wp2_with fail
 refine (hstep.out _ _ _ _ _ _ (hkeep w5 (hF4.no hf5)) hb5 hl4.out).mono ?_
 rintro e w6 ⟨rfl, hf6⟩
 have hS6 : StreamAt w6 sb size f s q (.slice a2 size c2) lo := hS5.fr hf6 (fun h => h)
 refine hK.out _ _ (fun _ => hS6) ?_
 clear hK K hb5 hS5
 refine lk' 15 rfl (by kernel_rfl) (fun _ _ _ h => h) rfl (by intro w9 h9; go_simp; try with_reducible rfl) ?_; simp only [Act.put, es1, es2, es3]
 refine lk' 16 rfl (by kernel_rfl) (fun _ _ _ h => h) rfl (by intro w9 h9; go_simp; try with_reducible rfl) ?_; simp only [Act.put, es1, es2, es3]
 have cn0 : w6.cell? ⟨sb, 2, none⟩ = some (.int .u32 (W32 s)) := hS6.cell 2 rfl
 have fz0 := hS6.frozen 2
 refine wpLate_next (k := 17) (by kernel_rfl) rfl rfl (fun K hK => ?_)
 go_wp2_with fail
 refine hK.out _ _ (fun h => by simp at h) ?_
 clear hK K
 refine wpLate_done (by kernel_rfl) ?_ _
 have hS7 : StreamAt (World.setCell w6 ⟨sb, 2, none⟩ (.int .u32 (W32 (G s (tl ++ l.take z))))) sb size f (G s (tl ++ l.take z)) q (.slice a2 size c2) lo := (row_put hS6 2 (.int .u32 (W32 (G s (tl ++ l.take z)))))
 have hF7 : Fr (fun x => x = sb) w6 (World.setCell w6 ⟨sb, 2, none⟩ (.int .u32 (W32 (G s (tl ++ l.take z))))) := (Fr.refl (fun x => x = sb) w6).setCell (p := ⟨sb, 2, none⟩) (.inl rfl) _
 clear cn0 fz0 hS6
 generalize (World.setCell w6 ⟨sb, 2, none⟩ (.int .u32 (W32 (G s (tl ++ l.take z))))) = w7 at hS7 hF7 ⊢
 have hF47 : Fr (fun x => x = sb) w4 w7 := ((hf5.no hf6).mono (fun _ _ f => f.elim)).trans hF7 (fun x h => .inl h)
 have hown7 := hown4.fr hF47 (fun x hx e => hS4.apart hown4 (by rw [hx, e]))
 have ctl : w7.cell? ⟨sb, 4, none⟩ = some (.slice a2 size c2) := hS7.cell 4 rfl
 have fz7 := hS7.frozen 4
 have hFe7 := hF4.trans hF47 (fun x hx => .inl (.inl hx))
 clear hF4 hF47 hF7 hf5 hf6 hown4 hS4
 go_wp2_with fail
 have hS8 : StreamAt (w7.setCell ⟨sb, 4, none⟩ (.slice (subAddr a2 0 c2 1) 0 c2)) sb size f (G s (tl ++ l.take z)) q (.slice (subAddr a2 0 c2 1) 0 c2) lo := hS7.put 4 _ rfl
 have hF8 : Fr (Foot sb (.slice ta k tc)) w (w7.setCell ⟨sb, 4, none⟩ (.slice (subAddr a2 0 c2 1) 0 c2)) := hFe7.setCell (.inl (.inl rfl)) _
 have hown8 : Owns (w7.setCell ⟨sb, 4, none⟩ (.slice (subAddr a2 0 c2 1) 0 c2)) base (.slice (subAddr a2 0 c2 1) 0 c2) [] := hown7.clear.fr ((Fr.refl (fun x => x = sb) w7).setCell (p := ⟨sb, 4, none⟩) (.inl rfl) _) (fun x hx e => hS7.apart hown7 (by rw [subAddr_zero, ownBlock_len _ 0 size, e] at hx; exact hx))
 have hnew8 : (Value.slice (subAddr a2 0 c2 1) 0 c2).ownBlock = (Value.slice ta k tc).ownBlock ∨ ∀ x, (Value.slice (subAddr a2 0 c2 1) 0 c2).ownBlock = some x → w.heap.size ≤ x := by rw [subAddr_zero, ownBlock_len _ 0 size]; exact hnew3
 clear hS7 hFe7 hown7 hnew3 fz7 ctl
 generalize (w7.setCell ⟨sb, 4, none⟩ (.slice (subAddr a2 0 c2 1) 0 c2)) = w8 at hS8 hF8 hown8 ⊢
 have hbo8 := (h.fr hF8 hap).cut_to_end z (n' := n - z) (c' := c - z) hzn rfl rfl
 have hap8 := hap.sub (n' := n - z) (by omega) z c 1
 have hr8 : foldF G size (G s (tl ++ l.take z)) (l.drop z) = r := by
  have hge : size ≤ (tl ++ l).length := by rw [List.length_append, hk.out, hlen.out]; omega
  rw [HR.out, foldF_step hz1 hge, (take_over hk.out HZ.out).1, (take_over hk.out HZ.out).2]
 have hloop : LoopAt E G base sb size f q (.slice ta k tc) w r lo (.slice (subAddr a z c 1) (n - z) (c - z)) w8 (n - z) :=
  ⟨_, _, _, _, _, rfl, hbo8, hap8, by omega, hS8, hown8, Nat.le_trans hb hF8.size, hkeep _ hF8, hr8, hnew8, hF8⟩
 clear hr8 hap8 hbo8 hnew8 hown8 hF8 hS8 HR hlen hl4 i0 i2 j1 HZ hz hst h hk
 generalize hv0 : Value.slice (subAddr a z c 1) (n - z) (c - z) = v0 at hloop ⊢
 clear hv0
 go_loopw [1] (fun v wr => ∃ m, LoopAt E G base sb size f q (.slice ta k tc) w r lo v wr m) (fun v _ => match v with | .slice _ m _ => m | _ => 0)
 case atStart => exact ⟨_, hloop⟩
 case round =>
  obtain ⟨m, a', c', l', s', tv', rfl, hb', hap', hm', hst', ho', hbs', hE', hr', hnew', hfr'⟩ := hrel
  clear hloop
  have hlen' := Lib.hid hb'.1
  have hc' : m ≤ c' := hb'.2.1
  have hc'' : c' ≤ 9223372036854775807 := hb'.2.2.1
  have cz : wr.cell? ⟨sb, 0, none⟩ = some (.int .i64 size) := hst'.cell 0 rfl
  have cn0 : wr.cell? ⟨sb, 2, none⟩ = some (.int .u32 (W32 s')) := hst'.cell 2 rfl
  have cst : wr.cell? ⟨sb, 3, none⟩ = some ((.func (.func 108) #[.agg #[]] #[])) := hst'.cell 3 rfl
  have ctl : wr.cell? ⟨sb, 4, none⟩ = some (tv') := hst'.cell 4 rfl
  by_cases hlt : size ≤ m
  · have i1 : (size : Int) ≤ (m : Int) := by omega
    have i2 : (size : Int) ≤ (c' : Int) := by omega
    go_wp2_with fail
    have hcut := Lib.hid (hb'.head size size (n' := size) (c' := size) hlt (Nat.le_refl _) (by omega) rfl rfl)
    have hS0 : StreamAt wr.drew sb size f s' q tv' lo := hst'
    refine wp_region_late (by kernel_rfl) (fun w' => StreamAt w' sb size f s' q tv' lo) (fun i => decide (21 ≤ i)) hS0 (fun _ => ?_)
    refine lp 0 rfl hS0 ?_; simp only [Act.put, es1, es2, es3]
    refine lp 1 rfl hS0 ?_; simp only [Act.put, es1, es2, es3]
    refine lp 2 rfl hS0 ?_; simp only [Act.put, es1, es2, es3]
    refine lp 3 rfl hS0 ?_; simp only [Act.put, es1, es2, es3]
    refine lk 4 rfl (by kernel_rfl) (fun _ _ _ h => h) rfl (by intro w9 h9; have cst : w9.cell? ⟨sb, 3, none⟩ = some ((.func (.func 108) #[.agg #[]] #[])) := h9.cell 3 rfl; clear h9; go_simp; try with_reducible rfl) hS0 ?_; simp only [Act.put, es1, es2, es3]
    refine lp 5 rfl hS0 ?_; simp only [Act.put, es1, es2, es3]
    refine lp 6 rfl hS0 ?_; simp only [Act.put, es1, es2, es3]
    refine lp 7 rfl hS0 ?_; simp only [Act.put, es1, es2, es3]
    refine lk 8 rfl (by kernel_rfl) (fun _ _ _ h => h) rfl (by intro w9 h9; have cn0 : w9.cell? ⟨sb, 2, none⟩ = some (.int .u32 (W32 s')) := h9.cell 2 rfl; clear h9; go_simp; try with_reducible rfl) hS0 ?_; simp only [Act.put, es1, es2, es3]
    refine lp 9 rfl hS0 ?_; simp only [Act.put, es1, es2, es3]
    refine lp 10 rfl hS0 ?_; simp only [Act.put, es1, es2, es3]
    refine lp 11 rfl hS0 ?_; simp only [Act.put, es1, es2, es3]
    refine lp 12 rfl hS0 ?_; simp only [Act.put, es1, es2, es3]
    refine lk 13 rfl (by kernel_rfl) (fun _ _ _ h => h) rfl (by intro w9 h9; have cz : w9.cell? ⟨sb, 0, none⟩ = some (.int .i64 size) := h9.cell 0 rfl; clear h9; go_simp; try with_reducible rfl) hS0 ?_; simp only [Act.put, es1, es2, es3]
    refine lp 14 rfl hS0 ?_; simp only [Act.put, es1, es2, es3]
    refine lp 15 rfl hS0 ?_; simp only [Act.put, es1, es2, es3]
    refine lp 16 rfl hS0 ?_; simp only [Act.put, es1, es2, es3]
    refine lk 17 rfl (by kernel_rfl) (fun _ _ _ h => h) rfl (by intro w9 h9; have cz : w9.cell? ⟨sb, 0, none⟩ = some (.int .i64 size) := h9.cell 0 rfl; clear h9; go_simp; try with_reducible rfl) hS0 ?_; simp only [Act.put, es1, es2, es3]
    refine lp 18 rfl hS0 ?_; simp only [Act.put, es1, es2, es3]
    refine wpLate_next (k := 19) (by kernel_rfl) rfl rfl (fun K hK => ?_)
    go_wp2_with fail
    refine (Clone_any _ _ _ (l'.take size) _ (hcut.out.no (Fr.refl No wr).drew) (by omega)).mono ?_
    rintro e w2 ⟨v2, rfl, ho2, hf2d⟩
    have hf2 : Fr No wr w2 := (Fr.refl No wr).drew.no hf2d
    clear hf2d
    obtain ⟨a2, c2, rfl, hb2, _⟩ := ho2.bytes
    have hl2 : (l'.take size).length = size := by rw [List.length_take, hlen'.out]; omega
    rw [hl2] at hb2 ⊢
    have hS2 : StreamAt w2 sb size f s' q tv' lo := hst'.fr hf2 (fun h => h)
    have hE2 : E w2 := hkeep w2 (hfr'.no hf2)
    refine hK.out _ _ (fun _ => hS2) ?_
    clear hK K ho2 hS0
    refine wpLate_next (k := 20) (by kernel_rfl) rfl rfl (fun K hK => ?_)
    go_wp2_with fail
    refine (hstep.out _ _ _ _ _ _ hE2 hb2 hl2).mono ?_
    rintro e w3 ⟨rfl, hf3⟩
    have hS3 : StreamAt w3 sb size f s' q tv' lo := hS2.fr hf3 (fun h => h)
    refine hK.out _ _ (fun _ => hS3) ?_
    clear hK K hE2 hb2 hl2 hS2
    refine lk' 21 rfl (by kernel_rfl) (fun _ _ _ h => h) rfl (by intro w9 h9; go_simp; try with_reducible rfl) ?_; simp only [Act.put, es1, es2, es3]
    refine lk' 22 rfl (by kernel_rfl) (fun _ _ _ h => h) rfl (by intro w9 h9; go_simp; try with_reducible rfl) ?_; simp only [Act.put, es1, es2, es3]
    have cn0 : w3.cell? ⟨sb, 2, none⟩ = some (.int .u32 (W32 s')) := hS3.cell 2 rfl
    have fz0 := hS3.frozen 2
    refine wpLate_next (k := 23) (by kernel_rfl) rfl rfl (fun K hK => ?_)
    go_wp2_with fail
    refine hK.out _ _ (fun h => by simp at h) ?_
    clear hK K
    refine wpLate_done (by kernel_rfl) ?_ _
    have hS4 : StreamAt (World.setCell w3 ⟨sb, 2, none⟩ (.int .u32 (W32 (G s' (l'.take size))))) sb size f (G s' (l'.take size)) q tv' lo := (row_put hS3 2 (.int .u32 (W32 (G s' (l'.take size)))))
    have hF4 : Fr (fun x => x = sb) w3 (World.setCell w3 ⟨sb, 2, none⟩ (.int .u32 (W32 (G s' (l'.take size))))) := (Fr.refl (fun x => x = sb) w3).setCell (p := ⟨sb, 2, none⟩) (.inl rfl) _
    clear cn0 fz0 hS3
    generalize (World.setCell w3 ⟨sb, 2, none⟩ (.int .u32 (W32 (G s' (l'.take size))))) = w4 at hS4 hF4 ⊢
    have hF34 : Fr (fun x => x = sb) wr w4 := ((hf2.no hf3).mono (fun _ _ f => f.elim)).trans hF4 (fun x h => .inl h)
    have cz4 : w4.cell? ⟨sb, 0, none⟩ = some (.int .i64 size) := hS4.cell 0 rfl
    clear cz cst ctl
    go_wp2_with fail
    have hcut2 := hb'.cut_to_end size (n' := m - size) (c' := c' - size) hlt rfl rfl
    have hap2 := hap'.sub (n' := m - size) (by omega) size c' 1
    have hfe := hfr'.trans hF34 (fun x h => .inl (.inl h))
    go_roundw
    case rel => exact ⟨m - size, _, _, _, _, tv', rfl, hcut2.fr hF34 (fun x hx e h => hap2 x hx e (.inl h)), hap2, by omega, hS4, ho'.fr hF34 (fun x hx e => hst'.apart ho' (by rw [hx, e])), Nat.le_trans hbs' hF34.size, hkeep _ hfe, by rw [← hr']; exact (foldF_step hz1 (by rw [hlen'.out]; exact hlt)).symm, hnew', hfe⟩
    case measure => simp; omega
  · have i1 : (m : Int) < (size : Int) := by omega
    obtain ⟨ta', tc', rfl, _, _⟩ := ho'.bytes
    have hne := hst'.apart ho'
    go_wp2_with (refine wpList_append_bytes _ _ _ _ _ _ base _ [] rfl ho' _ _ _ l' rfl hb' (by simp; omega) hbs' ?_; intro v2 w2 hown2 hfr2 hnew2; obtain ⟨a2, c2, rfl, _, _⟩ := hown2.bytes; have hst2 := hst'.fr hfr2 hne; have ctl2 := hst2.cell 4 rfl; have fz2 := hst2.frozen 4)
    go_end0
    have hsh : foldF G size s' l' = (s', l') := foldF_short (by rw [hlen'.out]; omega)
    refine ⟨rfl, .slice a2 (([] : Bytes) ++ l').length c2, ?_, ?_, ?_, ?_⟩
    · rw [← hr', hsh]; exact hst2.put 4 _ rfl
    · rw [← hr', hsh]; exact hown2.fr ((Fr.refl (fun x => x = sb) w2).setCell (p := ⟨sb, 4, none⟩) (.inl rfl) _) (fun x hx e => hst2.apart hown2 (by rw [hx, e]))
    · rcases hnew2 with e | e
      · rw [e]; exact hnew'
      · refine .inr fun x hx => ?_
        rw [e] at hx; cases hx; exact hfr'.size
    · exact (hfr'.trans hfr2 (fun x hx => by rcases hnew' with e | e; exact .inl (.inr (by rw [← e]; exact hx)); exact .inr (e x hx))).setCell (.inl (.inl rfl)) _
end Go.Proofs.YtidlpihoafnobaaGreat.StM32
namespace Go.Proofs.YtidlpihoafnobaaGreat.StM32
set_option maxRecDepth 100000
open Go.RowKit
set_option maxHeartbeats 4000000 in
theorem Write_empty (E : World → Prop) (base sb : Nat) (size : Nat) (f s : ST) (q : Nat) (ta : Option Addr) (tc : Nat) (lo0 : BitVec 64) (a : Option Addr) (n c : Nat) (l : Bytes) (w : World) (G : ST → Bytes → ST)
 (hE : E w) (hkeep : ∀ w', Fr (Foot sb (.slice ta 0 tc)) w w' → E w') (hstep : Hid (Steps E G size q))
 (hst : StreamAt w sb size f s q (.slice ta 0 tc) lo0) (ho : Owns w base (.slice ta 0 tc) []) (hb : base ≤ w.heap.size) (hz1 : 1 ≤ size) (hz2 : size ≤ 64) (h : IsBytes w a n c l) (hap : Apart (Foot sb (.slice ta 0 tc)) a n) (hn : n ≤ 1099511627776) :
 Calls Tryz.prog 267 #[.pointer (some ⟨sb, 0, none⟩), .slice a n c] w (Wrote base sb size f q (.slice ta 0 tc) (foldF G size s l) (lo0 + BitVec.ofNat 64 n) w) := by
 obtain ⟨lo, hlo⟩ : ∃ lo, lo = lo0 + BitVec.ofNat 64 n := ⟨_, rfl⟩
 have hst1 : StreamAt (w.setCell ⟨sb, 5, none⟩ (.int .u64 (W64 (lo0 + BitVec.ofNat 64 n)))) sb size f s q (.slice ta 0 tc) lo := by rw [hlo]; exact hst.put _ _ rfl
 have hfr1 : Fr (Foot sb (.slice ta 0 tc)) w (w.setCell ⟨sb, 5, none⟩ (.int .u64 (W64 (lo0 + BitVec.ofNat 64 n)))) := (Fr.refl _ w).setCell (.inl (.inl rfl)) _
 have hapo := hst.apart ho
 obtain ⟨r, hr⟩ : ∃ r, r = foldF G size s l := ⟨_, rfl⟩
 have hloop : LoopAt E G base sb size f q (.slice ta 0 tc) w r lo (.slice a n c) (w.setCell ⟨sb, 5, none⟩ (.int .u64 (W64 (lo0 + BitVec.ofNat 64 n)))) n :=
  ⟨a, c, l, s, (.slice ta 0 tc), rfl, h.fr hfr1 hap, hap, hn, hst1, ho.fr ((Fr.refl (fun x => x = sb) w).setCell (p := ⟨sb, 5, none⟩) (.inl rfl) _) (fun x hx e => hapo (by rw [hx, e])), by simpa using hb, hkeep _ hfr1, hr.symm, .inl rfl, hfr1⟩
 rw [← hr, ← hlo]
 have cz : w.cell? ⟨sb, 0, none⟩ = some (.int .i64 size) := hst.cell 0 rfl
 have cst : w.cell? ⟨sb, 3, none⟩ = some ((.func (.func 108) #[.agg #[]] #[])) := hst.cell 3 rfl
 have ctl : w.cell? ⟨sb, 4, none⟩ = some (.slice ta 0 tc) := hst.cell 4 rfl
 have clo : w.cell? ⟨sb, 5, none⟩ = some (.int .u64 (W64 lo0)) := hst.cell 5 rfl
 have fzl := hst.frozen 5
 have HL := Lib.hid hlo
 clear hlo hr
 go_enter Tryz.func267, Tryz.ntmps267
 go_wp2_with (go_at_call 177; refine (made_any hst).mono ?_; rintro e w' ⟨rfl, rfl⟩)
 go_loopw [1] (fun v wr => ∃ m, LoopAt E G base sb size f q (.slice ta 0 tc) w r lo v wr m) (fun v _ => match v with | .slice _ m _ => m | _ => 0)
 case atStart => exact ⟨_, hloop⟩
 case round =>
  obtain ⟨m, a', c', l', s', tv', rfl, hb', hap', hm', hst', ho', hbs', hE', hr', hnew', hfr'⟩ := hrel
  clear hloop
  have hlen' := Lib.hid hb'.1
  have hc' : m ≤ c' := hb'.2.1
  have hc'' : c' ≤ 9223372036854775807 := hb'.2.2.1
  have cz : wr.cell? ⟨sb, 0, none⟩ = some (.int .i64 size) := hst'.cell 0 rfl
  have cn0 : wr.cell? ⟨sb, 2, none⟩ = some (.int .u32 (W32 s')) := hst'.cell 2 rfl
  have cst : wr.cell? ⟨sb, 3, none⟩ = some ((.func (.func 108) #[.agg #[]] #[])) := hst'.cell 3 rfl
  have ctl : wr.cell? ⟨sb, 4, none⟩ = some (tv') := hst'.cell 4 rfl
  by_cases hlt : size ≤ m
  · have i1 : (size : Int) ≤ (m : Int) := by omega
    have i2 : (size : Int) ≤ (c' : Int) := by omega
    go_wp2_with fail
    have hcut := Lib.hid (hb'.head size size (n' := size) (c' := size) hlt (Nat.le_refl _) (by omega) rfl rfl)
    have hS0 : StreamAt wr.drew sb size f s' q tv' lo := hst'
    refine wp_region_late (by kernel_rfl) (fun w' => StreamAt w' sb size f s' q tv' lo) (fun i => decide (21 ≤ i)) hS0 (fun _ => ?_)
    refine lp 0 rfl hS0 ?_; simp only [Act.put, es1, es2, es3]
    refine lp 1 rfl hS0 ?_; simp only [Act.put, es1, es2, es3]
    refine lp 2 rfl hS0 ?_; simp only [Act.put, es1, es2, es3]
    refine lp 3 rfl hS0 ?_; simp only [Act.put, es1, es2, es3]
    refine lk 4 rfl (by kernel_rfl) (fun _ _ _ h => h) rfl (by intro w9 h9; have cst : w9.cell? ⟨sb, 3, none⟩ = some ((.func (.func 108) #[.agg #[]] #[])) := h9.cell 3 rfl; clear h9; go_simp; try with_reducible rfl) hS0 ?_; simp only [Act.put, es1, es2, es3]
    refine lp 5 rfl hS0 ?_; simp only [Act.put, es1, es2, es3]
    refine lp 6 rfl hS0 ?_; simp only [Act.put, es1, es2, es3]
    refine lp 7 rfl hS0 ?_; simp only [Act.put, es1, es2, es3]
    refine lk 8 rfl (by kernel_rfl) (fun _ _ _ h => h) rfl (by intro w9 h9; have cn0 : w9.cell? ⟨sb, 2, none⟩ = some (.int .u32 (W32 s')) := h9.cell 2 rfl; clear h9; go_simp; try with_reducible rfl) hS0 ?_; simp only [Act.put, es1, es2, es3]
    refine lp 9 rfl hS0 ?_; simp only [Act.put, es1, es2, es3]
    refine lp 10 rfl hS0 ?_; simp only [Act.put, es1, es2, es3]
    refine lp 11 rfl hS0 ?_; simp only [Act.put, es1, es2, es3]
    refine lp 12 rfl hS0 ?_; simp only [Act.put, es1, es2, es3]
    refine lk 13 rfl (by kernel_rfl) (fun _ _ _ h => h) rfl (by intro w9 h9; have cz : w9.cell? ⟨sb, 0, none⟩ = some (.int .i64 size) := h9.cell 0 rfl; clear h9; go_simp; try with_reducible rfl) hS0 ?_; simp only [Act.put, es1, es2, es3]
    refine lp 14 rfl hS0 ?_; simp only [Act.put, es1, es2, es3]
    refine lp 15 rfl hS0 ?_; simp only [Act.put, es1, es2, es3]
    refine lp 16 rfl hS0 ?_; simp only [Act.put, es1, es2, es3]
    refine lk 17 rfl (by kernel_rfl) (fun _ _ _ h => h) rfl (by intro w9 h9; have cz : w9.cell? ⟨sb, 0, none⟩ = some (.int .i64 size) := h9.cell 0 rfl; clear h9; go_simp; try with_reducible rfl) hS0 ?_; simp only [Act.put, es1, es2, es3]
    refine lp 18 rfl hS0 ?_; simp only [Act.put, es1, es2, es3]
    refine wpLate_next (k := 19) (by kernel_rfl) rfl rfl (fun K hK => ?_)
    go_wp2_with fail
    refine (Clone_any _ _ _ (l'.take size) _ (hcut.out.no (Fr.refl No wr).drew) (by omega)).mono ?_
    rintro e w2 ⟨v2, rfl, ho2, hf2d⟩
    have hf2 : Fr No wr w2 := (Fr.refl No wr).drew.no hf2d
    clear hf2d
    obtain ⟨a2, c2, rfl, hb2, _⟩ := ho2.bytes
    have hl2 : (l'.take size).length = size := by rw [List.length_take, hlen'.out]; omega
    rw [hl2] at hb2 ⊢
    have hS2 : StreamAt w2 sb size f s' q tv' lo := hst'.fr hf2 (fun h => h)
    have hE2 : E w2 := hkeep w2 (hfr'.no hf2)
    refine hK.out _ _ (fun _ => hS2) ?_
    clear hK K ho2 hS0
    refine wpLate_next (k := 20) (by kernel_rfl) rfl rfl (fun K hK => ?_)
    go_wp2_with fail
    refine (hstep.out _ _ _ _ _ _ hE2 hb2 hl2).mono ?_
    rintro e w3 ⟨rfl, hf3⟩
    have hS3 : StreamAt w3 sb size f s' q tv' lo := hS2.fr hf3 (fun h => h)
    refine hK.out _ _ (fun _ => hS3) ?_
    clear hK K hE2 hb2 hl2 hS2
    refine lk' 21 rfl (by kernel_rfl) (fun _ _ _ h => h) rfl (by intro w9 h9; go_simp; try with_reducible rfl) ?_; simp only [Act.put, es1, es2, es3]
    refine lk' 22 rfl (by kernel_rfl) (fun _ _ _ h => h) rfl (by intro w9 h9; go_simp; try with_reducible rfl) ?_; simp only [Act.put, es1, es2, es3]
    have cn0 : w3.cell? ⟨sb, 2, none⟩ = some (.int .u32 (W32 s')) := hS3.cell 2 rfl
    have fz0 := hS3.frozen 2
    refine wpLate_next (k := 23) (by kernel_rfl) rfl rfl (fun K hK => ?_)
    go_wp2_with fail
    refine hK.out _ _ (fun h => by simp at h) ?_
    clear hK K
    refine wpLate_done (by kernel_rfl) ?_ _
    have hS4 : StreamAt (World.setCell w3 ⟨sb, 2, none⟩ (.int .u32 (W32 (G s' (l'.take size))))) sb size f (G s' (l'.take size)) q tv' lo := (row_put hS3 2 (.int .u32 (W32 (G s' (l'.take size)))))
    have hF4 : Fr (fun x => x = sb) w3 (World.setCell w3 ⟨sb, 2, none⟩ (.int .u32 (W32 (G s' (l'.take size))))) := (Fr.refl (fun x => x = sb) w3).setCell (p := ⟨sb, 2, none⟩) (.inl rfl) _
    clear cn0 fz0 hS3
    generalize (World.setCell w3 ⟨sb, 2, none⟩ (.int .u32 (W32 (G s' (l'.take size))))) = w4 at hS4 hF4 ⊢
    have hF34 : Fr (fun x => x = sb) wr w4 := ((hf2.no hf3).mono (fun _ _ f => f.elim)).trans hF4 (fun x h => .inl h)
    have cz4 : w4.cell? ⟨sb, 0, none⟩ = some (.int .i64 size) := hS4.cell 0 rfl
    clear cz cst ctl
    go_wp2_with fail
    have hcut2 := hb'.cut_to_end size (n' := m - size) (c' := c' - size) hlt rfl rfl
    have hap2 := hap'.sub (n' := m - size) (by omega) size c' 1
    have hfe := hfr'.trans hF34 (fun x h => .inl (.inl h))
    go_roundw
    case rel => exact ⟨m - size, _, _, _, _, tv', rfl, hcut2.fr hF34 (fun x hx e h => hap2 x hx e (.inl h)), hap2, by omega, hS4, ho'.fr hF34 (fun x hx e => hst'.apart ho' (by rw [hx, e])), Nat.le_trans hbs' hF34.size, hkeep _ hfe, by rw [← hr']; exact (foldF_step hz1 (by rw [hlen'.out]; exact hlt)).symm, hnew', hfe⟩
    case measure => simp; omega
  · have i1 : (m : Int) < (size : Int) := by omega
    obtain ⟨ta', tc', rfl, _, _⟩ := ho'.bytes
    have hne := hst'.apart ho'
    go_wp2_with (refine wpList_append_bytes _ _ _ _ _ _ base _ [] rfl ho' _ _ _ l' rfl hb' (by simp; omega) hbs' ?_; intro v2 w2 hown2 hfr2 hnew2; obtain ⟨a2, c2, rfl, _, _⟩ := hown2.bytes; have hst2 := hst'.fr hfr2 hne; have ctl2 := hst2.cell 4 rfl; have fz2 := hst2.frozen 4)
    go_end0
    have hsh : foldF G size s' l' = (s', l') := foldF_short (by rw [hlen'.out]; omega)
    refine ⟨rfl, .slice a2 (([] : Bytes) ++ l').length c2, ?_, ?_, ?_, ?_⟩
    · rw [← hr', hsh]; exact hst2.put 4 _ rfl
    · rw [← hr', hsh]; exact hown2.fr ((Fr.refl (fun x => x = sb) w2).setCell (p := ⟨sb, 4, none⟩) (.inl rfl) _) (fun x hx e => hst2.apart hown2 (by rw [hx, e]))
    · rcases hnew2 with e | e
      · rw [e]; exact hnew'
      · refine .inr fun x hx => ?_
        rw [e] at hx; cases hx; exact hfr'.size
    · exact (hfr'.trans hfr2 (fun x hx => by rcases hnew' with e | e; exact .inl (.inr (by rw [← e]; exact hx)); exact .inr (e x hx))).setCell (.inl (.inl rfl)) _
end Go.Proofs.YtidlpihoafnobaaGreat.StM32
namespace Go.Proofs.YtidlpihoafnobaaGreat.StM32
set_option maxRecDepth 100000
open Go.RowKit
def Str (w : World) (base sb : Nat) (size : Nat) (f s : ST) (q : Nat) (tl : Bytes) (lo : BitVec 64) (tv : Value) : Prop :=
 StreamAt w sb size f s q tv lo ∧ Owns w base tv tl ∧ base ≤ w.heap.size
theorem Write_any {w : World} {base sb size : Nat} {f s : ST} {q : Nat} {tl : Bytes} {lo : BitVec 64} {tv : Value} (E : World → Prop) (G : ST → Bytes → ST) (hS : Str w base sb size f s q tl lo tv)
 (hkeep : ∀ w', Fr (Foot sb tv) w w' → E w') (hstep : Hid (Steps E G size q)) (hz1 : 1 ≤ size) (hz2 : size ≤ 64) (htl : tl.length < size) (a : Option Addr) (n c : Nat) (l : Bytes) (h : IsBytes w a n c l) (hap : Apart (Foot sb tv) a n) (hn : n ≤ 1099511627776) :
 Calls Tryz.prog 267 #[.pointer (some ⟨sb, 0, none⟩), .slice a n c] w (Wrote base sb size f q tv (foldF G size s (tl ++ l)) (lo + BitVec.ofNat 64 n) w) := by
 obtain ⟨hst, ho, hb⟩ := hS
 obtain ⟨ta, tc, rfl, hbt, _⟩ := ho.bytes
 have hE := hkeep w (Fr.refl _ w)
 obtain ⟨k, hk⟩ : ∃ k, tl.length = k := ⟨_, rfl⟩
 rw [hk] at hst ho hkeep htl hap ⊢
 rcases Nat.eq_zero_or_pos k with e | hpos
 · subst e
   obtain rfl : tl = [] := List.eq_nil_of_length_eq_zero hk
   exact Write_empty E base sb size f s q ta tc lo a n c l w G hE hkeep hstep hst ho hb hz1 hz2 h hap hn
 · by_cases hp : k + n < size
   · have := Write_part E base sb size f s q ta k tc tl lo a n c l w G hE hkeep hstep hst ho hb hz1 hz2 hk hpos htl h hap hn hp
     rwa [← foldF_short (F := G) (s := s) (size := size) (l := tl ++ l) (by rw [List.length_append, hk, h.1]; exact hp)] at this
   · exact Write_fill E base sb size f s q ta k tc tl lo a n c l w G hE hkeep hstep hst ho hb hz1 hz2 hk hpos htl h hap hn (by omega) _ rfl
end Go.Proofs.YtidlpihoafnobaaGreat.StM32
namespace Go.Proofs.YtidlpihoafnobaaGreat.StM32
set_option maxRecDepth 100000
open Go.RowKit
section
variable {w0 w w' : World} {sb size : Nat} {f s : ST} {q : Nat} {tl : Bytes} {lo : BitVec 64} {tv : Value}
theorem Live.above (h : Live w0 w sb size f s q tl lo tv) : ∀ x, Foot sb tv x → w0.heap.size ≤ x := fun x hx => by
 rcases hx with rfl | hx
 · exact h.ge
 · exact own_ge h.ow hx
def LiveWrote (w0 : World) (sb size : Nat) (f : ST) (q : Nat) (tv : Value) (r : ST × Bytes) (lo : BitVec 64) (w : World) (e : Ending) (w' : World) : Prop :=
 e = .returned (.tuple #[]) ∧ ∃ tv', Live w0 w' sb size f r.1 q r.2 lo tv' ∧ Fr (Foot sb tv) w w' ∧ (tv'.ownBlock = tv.ownBlock ∨ ∀ x, tv'.ownBlock = some x → w.heap.size ≤ x)
theorem live_write (E : World → Prop) (G : ST → Bytes → ST) (h : Live w0 w sb size f s q tl lo tv) (hkeep : ∀ w', Fr (Foot sb tv) w w' → E w') (hstep : Hid (Steps E G size q)) (hz1 : 1 ≤ size) (hz2 : size ≤ 64) (htl : tl.length < size)
 (a : Option Addr) (n c : Nat) (l : Bytes) (hb : IsBytes w a n c l) (hap : Apart (Foot sb tv) a n) (hn : n ≤ 1099511627776) :
 Calls Tryz.prog 267 #[.pointer (some ⟨sb, 0, none⟩), .slice a n c] w (LiveWrote w0 sb size f q tv (foldF G size s (tl ++ l)) (lo + BitVec.ofNat 64 n) w) := by
 refine (Write_any E G ⟨h.st, h.ow, h.fr.size⟩ hkeep hstep hz1 hz2 htl a n c l hb hap hn).mono ?_
 rintro e w' ⟨rfl, tv', hst, hown, hnew, hfr⟩
 exact ⟨rfl, tv', ⟨hst, hown, h.ge, h.fr.trans hfr (fun x hx => .inr (h.above x hx))⟩, hfr, hnew⟩
end
end Go.Proofs.YtidlpihoafnobaaGreat.StM32
namespace Go.Proofs.YtidlpihoafnobaaGreat.StM32
set_option maxRecDepth 100000
open Go.RowKit
section
variable {w0 w w' : World} {hb sb : Nat} {sd : BitVec 32} {s : ST} {tl : Bytes} {lo : BitVec 64} {tv : Value}
theorem HLive.above (h : HLive w0 w hb sb sd s tl lo tv) : ∀ x, HFoot hb sb tv x → w0.heap.size ≤ x := fun x hx => by
 rcases hx with rfl | hx
 · exact h.ge
 · exact h.on.above x hx
end
def HWrote (w0 : World) (hb sb : Nat) (sd : BitVec 32) (tv : Value) (r : ST × Bytes) (lo : BitVec 64) (w : World) (e : Ending) (w' : World) : Prop :=
 e = .returned (.tuple #[]) ∧ ∃ tv', HLive w0 w' hb sb sd r.1 r.2 lo tv' ∧ Fr (Foot sb tv) w w' ∧ (tv'.ownBlock = tv.ownBlock ∨ ∀ x, tv'.ownBlock = some x → w.heap.size ≤ x)
theorem Write_h {w0 w : World} {hb sb : Nat} {sd : BitVec 32} {s : ST} {tl : Bytes} {lo : BitVec 64} {tv : Value} (h : HLive w0 w hb sb sd s tl lo tv) (a : Option Addr) (n c : Nat) (l : Bytes) (hy : IsBytes w a n c l) (hap : Apart (Foot sb tv) a n) (hn : n ≤ 1099511627776) :
 Calls Tryz.prog 264 #[.pointer (some ⟨hb, 0, none⟩), .slice a n c] w (HWrote w0 hb sb sd tv (foldF stepG 4 s (tl ++ l)) (lo + BitVec.ofNat 64 n) w) := by
 have cc := h.cell
 have q4 := foldF_lt (F := stepG) (size := 4) (by omega) s (tl ++ l)
 have hlt := h.lt hb (.inl rfl)
 generalize hr : foldF stepG 4 s (tl ++ l) = r at q4 ⊢
 have HR := Lib.hid hr
 clear hr
 go_enter Tryz.func264, Tryz.ntmps264
 go_wp2_with (go_at_call 111; refine (made_h h).mono ?_; rintro e w' ⟨rfl, rfl⟩)
 refine (live_write (fun _ => True) stepG h.on (fun _ _ => trivial) steps_any (by omega) (by omega) h.tlen a n c l hy hap hn).mono ?_
 rw [HR.out]
 rintro e w2 ⟨rfl, tv2, hL, hf, hk⟩
 have hn2 : ¬ Foot sb tv2 hb := fun g => by
  rcases g with g | g
  · exact h.ne (.inl g)
  · rcases hk with e | e
    · exact h.ne (.inr (by rw [← e]; exact g))
    · have := e _ g; omega
 have hH : HLive w0 w2 hb sb sd r.1 r.2 (lo + BitVec.ofNat 64 n) tv2 := ⟨hL, hf.heap h.ne h.hc, h.ge, hn2, q4⟩
 clear cc
 go_wp2_with fail
 go_end0
 exact ⟨rfl, tv2, hH, hf, hk⟩
end Go.Proofs.YtidlpihoafnobaaGreat.StM32
namespace Go.Proofs.YtidlpihoafnobaaGreat.StM32
set_option maxRecDepth 100000
open Go.RowKit
theorem HAll.above {w0 w : World} {hb sb : Nat} {sd : BitVec 32} {d : Bytes} {tv : Value} (h : HAll w0 w hb sb sd d tv) : ∀ x, HFoot hb sb tv x → w0.heap.size ≤ x := HLive.above h
end Go.Proofs.YtidlpihoafnobaaGreat.StM32
namespace Go.Proofs.YtidlpihoafnobaaGreat.StM32
set_option maxRecDepth 100000
open Go.RowKit
section
variable {w0 w w' : World} {hb : Nat} {F : Nat → Prop} {k : Int} {kh kl : BitVec 64} {s : ST} {tl : Bytes} {lo : BitVec 64}
theorem HS.above (h : HS w0 w hb (F) k kh kl s tl lo) : ∀ x, F x → w0.heap.size ≤ x := by
 obtain ⟨ib, sb, tv, c6, c7, c8, c9, c10, c11, hr, hc, hL, rfl⟩ := h
 exact fun x hx => hL.above x (.inr hx)
end
theorem HS.write {w0 w : World} {hb : Nat} {F : Nat → Prop} {k : Int} {kh kl : BitVec 64} {s : ST} {tl : Bytes} {lo : BitVec 64} (h : HS w0 w hb (F) k kh kl s tl lo) (a : Option Addr) (n c : Nat) (l : Bytes) (hy : IsBytes w a n c l) (hap : Apart F a n) (hn : n ≤ 1099511627776) :
 Calls Tryz.prog 24 #[.pointer (some ⟨hb, 0, none⟩), .slice a n c] w (fun e w' => e = .returned (.int .i64 0) ∧ ∃ F', HS w0 w' hb F' k kh kl (foldF stepG 4 s (tl ++ l)).1 (foldF stepG 4 s (tl ++ l)).2 (lo + BitVec.ofNat 64 n) ∧ Fr F w w' ∧ ∀ x, F' x → F x ∨ w.heap.size ≤ x) := by
 obtain ⟨ib, sb, tv, c6, c7, c8, c9, c10, c11, hr, hc, hL, rfl⟩ := h
 refine hWrite_of hr.c3 264 (fun W => by kernel_rfl) (calls_enter Tryz.func264 (by kernel_rfl) (by kernel_rfl)) a n c ((Write_h hL a n c l hy hap hn).mono ?_)
 rintro e w' ⟨rfl, tv', hL', hf, hk⟩
 have hK := hL.on.con
 refine ⟨rfl, _, ⟨ib, sb, _, c6, c7, c8, c9, c10, c11, hr.fr hf hK, (hc.fr hf (hK) (by decide)), hL', rfl⟩, hf, fun x hx => ?_⟩
 rcases hx with rfl | hx
 · exact .inl (.inl rfl)
 · rcases hk with e | e
   · exact .inl (.inr (by rw [← e]; exact hx))
   · exact .inr (e _ hx)
end Go.Proofs.YtidlpihoafnobaaGreat.StM32
namespace Go.Proofs.YtidlpihoafnobaaGreat
set_option maxRecDepth 100000
open Go.RowKit
theorem fold_append (k : Int) (b : Bytes) (s : HSt) (a : Bytes) : foldS k s (a ++ b) = foldS k (foldS k s a).1 ((foldS k s a).2 ++ b) := by
 cases s with
 | m32 s => show (HSt.m32 _, _) = (HSt.m32 _, _); rw [foldF_append (by omega) b s a]; rfl
 | m86 s => show (HSt.m86 _, _) = (HSt.m86 _, _); rw [foldF_append (by omega) b s a]; rfl
 | m64 s => show (HSt.m64 _, _) = (HSt.m64 _, _); rw [foldF_append (by omega) b s a]; rfl
 | x32 s => show (HSt.x32 _, _) = (HSt.x32 _, _); rw [foldF_append (by omega) b s a]; rfl
 | x64 s => show (HSt.x64 _, _) = (HSt.x64 _, _); rw [foldF_append (by omega) b s a]; rfl
 | sip s => show (HSt.sip _, _) = (HSt.sip _, _); rw [foldF_append (by omega) b s a]; rfl
end Go.Proofs.YtidlpihoafnobaaGreat
namespace Go.Proofs.YtidlpihoafnobaaGreat
set_option maxRecDepth 100000
open Go.RowKit
theorem HSAny.above {w0 w : World} {hb : Nat} {F : Nat → Prop} {k : Int} {kh kl : BitVec 64} {s : HSt} {tl : Bytes} {lo : BitVec 64} (h : HSAny w0 w hb F k kh kl s tl lo) : ∀ x, F x → w0.heap.size ≤ x := by
 cases s <;> exact h.2.above
theorem HSAny.write {w0 w : World} {hb : Nat} {F : Nat → Prop} {k : Int} {kh kl : BitVec 64} {s : HSt} {tl : Bytes} {lo : BitVec 64} (h : HSAny w0 w hb F k kh kl s tl lo) (a : Option Addr) (n c : Nat) (l : Bytes) (hy : IsBytes w a n c l) (hap : Apart F a n) (hn : n ≤ 1099511627776) :
 Calls Tryz.prog 24 #[.pointer (some ⟨hb, 0, none⟩), .slice a n c] w (fun e w' => e = .returned (.int .i64 0) ∧ ∃ F', HSAny w0 w' hb F' k kh kl (foldS k s (tl ++ l)).1 (foldS k s (tl ++ l)).2 (lo + BitVec.ofNat 64 n) ∧ Fr F w w' ∧ ∀ x, F' x → F x ∨ w.heap.size ≤ x) := by
 cases s with
 | m32 s =>
  obtain ⟨hk, h⟩ := h
  refine (h.write a n c l hy hap hn).mono ?_
  rintro e w' ⟨rfl, F', h', r⟩
  exact ⟨rfl, F', ⟨hk, h'⟩, r⟩
 | m86 s =>
  obtain ⟨hk, h⟩ := h
  refine (h.write a n c l hy hap hn).mono ?_
  rintro e w' ⟨rfl, F', h', r⟩
  exact ⟨rfl, F', ⟨hk, h'⟩, r⟩
 | m64 s =>
  obtain ⟨hk, h⟩ := h
  refine (h.write a n c l hy hap hn).mono ?_
  rintro e w' ⟨rfl, F', h', r⟩
  exact ⟨rfl, F', ⟨hk, h'⟩, r⟩
 | x32 s =>
  obtain ⟨hk, h⟩ := h
  refine (h.write a n c l hy hap hn).mono ?_
  rintro e w' ⟨rfl, F', h', r⟩
  exact ⟨rfl, F', ⟨hk, h'⟩, r⟩
 | x64 s =>
  obtain ⟨hk, h⟩ := h
  refine (h.write a n c l hy hap hn).mono ?_
  rintro e w' ⟨rfl, F', h', r⟩
  exact ⟨rfl, F', ⟨hk, h'⟩, r⟩
 | sip s =>
  obtain ⟨hk, h⟩ := h
  refine (h.write a n c l hy hap hn).mono ?_
  rintro e w' ⟨rfl, F', h', r⟩
  exact ⟨rfl, F', ⟨hk, h'⟩, r⟩
theorem HDone.above {w0 w : World} {hb : Nat} {F : Nat → Prop} {k : Int} {kh kl : BitVec 64} {d : Bytes} (h : HDone w0 w hb F k kh kl d) : ∀ x, F x → w0.heap.size ≤ x := HSAny.above h
theorem HDone.write {w0 w : World} {hb : Nat} {F : Nat → Prop} {k : Int} {kh kl : BitVec 64} {d : Bytes} (h : HDone w0 w hb F k kh kl d) (a : Option Addr) (n c : Nat) (l : Bytes) (hy : IsBytes w a n c l) (hap : Apart F a n) (hn : n ≤ 1099511627776) :
 Calls Tryz.prog 24 #[.pointer (some ⟨hb, 0, none⟩), .slice a n c] w (fun e w' => e = .returned (.int .i64 0) ∧ ∃ F', HDone w0 w' hb F' k kh kl (d ++ l) ∧ Fr F w w' ∧ ∀ x, F' x → F x ∨ w.heap.size ≤ x) := by
 refine (HSAny.write h a n c l hy hap hn).mono ?_
 rintro e w' ⟨rfl, F', h', r⟩
 refine ⟨rfl, F', ?_, r⟩
 unfold HDone
 rw [fold_append, List.length_append, hy.1, BitVec.ofNat_add]
 exact h'
end Go.Proofs.YtidlpihoafnobaaGreat
