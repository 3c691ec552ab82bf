/- block.Stream[[4]uint64].Write: Write_empty -/
import Derived.Test.YtcbbllfgelnpjaaStreamSip
namespace Go.Proofs.Ytcbbllfgelnpjaa.StSip
set_option linter.unusedVariables false
set_option linter.unusedSimpArgs false
open Go.RowKit
set_option maxHeartbeats 4000000 in
theorem Write_empty (E : World → Prop) (base sb : Nat) (size : Nat) (f s : ST) (q : Nat) (ta : Option Addr) (tc : Nat) (lo0 : BitVec 64) (a : Option Addr) (n c : Nat) (l : Bytes) (w : World) (G : ST → Bytes → ST)
    (hE : E w) (hkeep : ∀ w', Fr (Foot sb (.slice ta 0 tc)) w w' → E w') (hstep : Hid (Steps E G size q))
    (hst : StreamAt w sb size f s q (.slice ta 0 tc) lo0) (ho : Owns w base (.slice ta 0 tc) []) (hb : base ≤ w.heap.size) (hz1 : 1 ≤ size) (hz2 : size ≤ 64) (h : IsBytes w a n c l) (hap : Apart (Foot sb (.slice ta 0 tc)) a n) (hn : n ≤ 1099511627776) :
    Calls Try.prog 34 #[.pointer (some ⟨sb, 0, none⟩), .slice a n c] w (Wrote base sb size f q (.slice ta 0 tc) (foldF G size s l) (lo0 + BitVec.ofNat 64 n) w) := by
  obtain ⟨lo, hlo⟩ : ∃ lo, lo = lo0 + BitVec.ofNat 64 n := ⟨_, rfl⟩
  have hst1 : StreamAt (w.setCell ⟨sb, 11, none⟩ (.int .u64 (W64 (lo0 + BitVec.ofNat 64 n)))) sb size f s q (.slice ta 0 tc) lo := by rw [hlo]; exact hst.put _ _ rfl
  have hfr1 : Fr (Foot sb (.slice ta 0 tc)) w (w.setCell ⟨sb, 11, none⟩ (.int .u64 (W64 (lo0 + BitVec.ofNat 64 n)))) := (Fr.refl _ w).setCell (.inl (.inl rfl)) _
  have hapo := hst.apart ho
  obtain ⟨r, hr⟩ : ∃ r, r = foldF G size s l := ⟨_, rfl⟩
  have hloop : LoopAt E G base sb size f q (.slice ta 0 tc) w r lo (.slice a n c) (w.setCell ⟨sb, 11, none⟩ (.int .u64 (W64 (lo0 + BitVec.ofNat 64 n)))) n :=
    ⟨a, c, l, s, (.slice ta 0 tc), rfl, h.fr hfr1 hap, hap, hn, hst1, ho.fr ((Fr.refl (fun x => x = sb) w).setCell (p := ⟨sb, 11, none⟩) (.inl rfl) _) (fun x hx e => hapo (by rw [hx, e])), by simpa using hb, hkeep _ hfr1, hr.symm, .inl rfl, hfr1⟩
  rw [← hr, ← hlo]
  have cz : w.cell? ⟨sb, 0, none⟩ = some (.int .i64 size) := hst.cell 0 rfl
  have cst : w.cell? ⟨sb, 9, none⟩ = some ((.func (.func 45) #[] #[.pointer (some ⟨q, 0, none⟩)])) := hst.cell 9 rfl
  have ctl : w.cell? ⟨sb, 10, none⟩ = some (.slice ta 0 tc) := hst.cell 10 rfl
  have clo : w.cell? ⟨sb, 11, none⟩ = some (.int .u64 (W64 lo0)) := hst.cell 11 rfl
  have fzl := hst.frozen 11
  have HL := Lib.hid hlo
  clear hlo hr
  go_enter Try.func34, Try.ntmps34
  go_wp2_with (go_at_call 50; refine (made_any hst).mono ?_; rintro e w' ⟨rfl, rfl⟩)
  go_loopw [1] (fun v wr => ∃ m, LoopAt E G base sb size f q (.slice ta 0 tc) w r lo v wr m) (fun v _ => match v with | .slice _ m _ => m | _ => 0)
  case atStart => exact ⟨_, hloop⟩
  case round =>
    obtain ⟨m, a', c', l', s', tv', rfl, hb', hap', hm', hst', ho', hbs', hE', hr', hnew', hfr'⟩ := hrel
    clear hloop
    have hlen' := Lib.hid hb'.1
    have hc' : m ≤ c' := hb'.2.1
    have hc'' : c' ≤ 9223372036854775807 := hb'.2.2.1
    have cz : wr.cell? ⟨sb, 0, none⟩ = some (.int .i64 size) := hst'.cell 0 rfl
    have cn0 : wr.cell? ⟨sb, 5, none⟩ = some (cS s' 0) := hst'.cell 5 rfl
    have cn1 : wr.cell? ⟨sb, 6, none⟩ = some (cS s' 1) := hst'.cell 6 rfl
    have cn2 : wr.cell? ⟨sb, 7, none⟩ = some (cS s' 2) := hst'.cell 7 rfl
    have cn3 : wr.cell? ⟨sb, 8, none⟩ = some (cS s' 3) := hst'.cell 8 rfl
    have cst : wr.cell? ⟨sb, 9, none⟩ = some ((.func (.func 45) #[] #[.pointer (some ⟨q, 0, none⟩)])) := hst'.cell 9 rfl
    have ctl : wr.cell? ⟨sb, 10, none⟩ = some (tv') := hst'.cell 10 rfl
    by_cases hlt : size ≤ m
    · have i1 : (size : Int) ≤ (m : Int) := by omega
      have i2 : (size : Int) ≤ (c' : Int) := by omega
      go_wp2_with fail
      have hcut := Lib.hid (hb'.head size size (n' := size) (c' := size) hlt (Nat.le_refl _) (by omega) rfl rfl)
      have hS0 : StreamAt wr.drew sb size f s' q tv' lo := hst'
      refine wp_region_late (by kernel_rfl) (fun w' => StreamAt w' sb size f s' q tv' lo) (fun i => decide (21 ≤ i)) hS0 (fun _ => ?_)
      refine wpLate_take (i := 0) (v := ?_) rfl (by kernel_rfl) (by kernel_rfl) rfl (by kernel_rfl) (by kernel_rfl) (fun _ _ _ h => h) (Or.inl ⟨rfl, ?_⟩) hS0 ?_
      rotate_left 1
      · (intro w9 h9; go_simp; try with_reducible rfl)
      simp only [Act.put, List.setIfInBounds_toArray, List.set_cons_zero, List.set_cons_succ]
      refine wpLate_take (i := 1) (v := ?_) rfl (by kernel_rfl) (by kernel_rfl) rfl (by kernel_rfl) (by kernel_rfl) (fun _ _ _ h => h) (Or.inl ⟨rfl, ?_⟩) hS0 ?_
      rotate_left 1
      · (intro w9 h9; go_simp; try with_reducible rfl)
      simp only [Act.put, List.setIfInBounds_toArray, List.set_cons_zero, List.set_cons_succ]
      refine wpLate_take (i := 2) (v := ?_) rfl (by kernel_rfl) (by kernel_rfl) rfl (by kernel_rfl) (by kernel_rfl) (fun _ _ _ h => h) (Or.inl ⟨rfl, ?_⟩) hS0 ?_
      rotate_left 1
      · (intro w9 h9; go_simp; try with_reducible rfl)
      simp only [Act.put, List.setIfInBounds_toArray, List.set_cons_zero, List.set_cons_succ]
      refine wpLate_take (i := 3) (v := ?_) rfl (by kernel_rfl) (by kernel_rfl) rfl (by kernel_rfl) (by kernel_rfl) (fun _ _ _ h => h) (Or.inl ⟨rfl, ?_⟩) hS0 ?_
      rotate_left 1
      · (intro w9 h9; go_simp; try with_reducible rfl)
      simp only [Act.put, List.setIfInBounds_toArray, List.set_cons_zero, List.set_cons_succ]
      refine wpLate_take (i := 4) (v := ?_) rfl (by kernel_rfl) (by kernel_rfl) rfl (by kernel_rfl) (by kernel_rfl) (fun _ _ _ h => h) (Or.inl ⟨rfl, ?_⟩) hS0 ?_
      rotate_left 1
      · (intro w9 h9; have cst : w9.cell? ⟨sb, 9, none⟩ = some ((.func (.func 45) #[] #[.pointer (some ⟨q, 0, none⟩)])) := h9.cell 9 rfl; clear h9; go_simp; try with_reducible rfl)
      simp only [Act.put, List.setIfInBounds_toArray, List.set_cons_zero, List.set_cons_succ]
      refine wpLate_take (i := 5) (v := ?_) rfl (by kernel_rfl) (by kernel_rfl) rfl (by kernel_rfl) (by kernel_rfl) (fun _ _ _ h => h) (Or.inl ⟨rfl, ?_⟩) hS0 ?_
      rotate_left 1
      · (intro w9 h9; go_simp; try with_reducible rfl)
      simp only [Act.put, List.setIfInBounds_toArray, List.set_cons_zero, List.set_cons_succ]
      refine wpLate_take (i := 6) (v := ?_) rfl (by kernel_rfl) (by kernel_rfl) rfl (by kernel_rfl) (by kernel_rfl) (fun _ _ _ h => h) (Or.inl ⟨rfl, ?_⟩) hS0 ?_
      rotate_left 1
      · (intro w9 h9; go_simp; try with_reducible rfl)
      simp only [Act.put, List.setIfInBounds_toArray, List.set_cons_zero, List.set_cons_succ]
      refine wpLate_take (i := 7) (v := ?_) rfl (by kernel_rfl) (by kernel_rfl) rfl (by kernel_rfl) (by kernel_rfl) (fun _ _ _ h => h) (Or.inl ⟨rfl, ?_⟩) hS0 ?_
      rotate_left 1
      · (intro w9 h9; go_simp; try with_reducible rfl)
      simp only [Act.put, List.setIfInBounds_toArray, List.set_cons_zero, List.set_cons_succ]
      refine wpLate_take (i := 8) (v := ?_) rfl (by kernel_rfl) (by kernel_rfl) rfl (by kernel_rfl) (by kernel_rfl) (fun _ _ _ h => h) (Or.inl ⟨rfl, ?_⟩) hS0 ?_
      rotate_left 1
      · (intro w9 h9; have cn0 : w9.cell? ⟨sb, 5, none⟩ = some (cS s' 0) := h9.cell 5 rfl; have cn1 : w9.cell? ⟨sb, 6, none⟩ = some (cS s' 1) := h9.cell 6 rfl; have cn2 : w9.cell? ⟨sb, 7, none⟩ = some (cS s' 2) := h9.cell 7 rfl; have cn3 : w9.cell? ⟨sb, 8, none⟩ = some (cS s' 3) := h9.cell 8 rfl; clear h9; go_simp; try with_reducible rfl)
      simp only [Act.put, List.setIfInBounds_toArray, List.set_cons_zero, List.set_cons_succ]
      refine wpLate_take (i := 9) (v := ?_) rfl (by kernel_rfl) (by kernel_rfl) rfl (by kernel_rfl) (by kernel_rfl) (fun _ _ _ h => h) (Or.inl ⟨rfl, ?_⟩) hS0 ?_
      rotate_left 1
      · (intro w9 h9; go_simp; try with_reducible rfl)
      simp only [Act.put, List.setIfInBounds_toArray, List.set_cons_zero, List.set_cons_succ]
      refine wpLate_take (i := 10) (v := ?_) rfl (by kernel_rfl) (by kernel_rfl) rfl (by kernel_rfl) (by kernel_rfl) (fun _ _ _ h => h) (Or.inl ⟨rfl, ?_⟩) hS0 ?_
      rotate_left 1
      · (intro w9 h9; go_simp; try with_reducible rfl)
      simp only [Act.put, List.setIfInBounds_toArray, List.set_cons_zero, List.set_cons_succ]
      refine wpLate_take (i := 11) (v := ?_) rfl (by kernel_rfl) (by kernel_rfl) rfl (by kernel_rfl) (by kernel_rfl) (fun _ _ _ h => h) (Or.inl ⟨rfl, ?_⟩) hS0 ?_
      rotate_left 1
      · (intro w9 h9; go_simp; try with_reducible rfl)
      simp only [Act.put, List.setIfInBounds_toArray, List.set_cons_zero, List.set_cons_succ]
      refine wpLate_take (i := 12) (v := ?_) rfl (by kernel_rfl) (by kernel_rfl) rfl (by kernel_rfl) (by kernel_rfl) (fun _ _ _ h => h) (Or.inl ⟨rfl, ?_⟩) hS0 ?_
      rotate_left 1
      · (intro w9 h9; go_simp; try with_reducible rfl)
      simp only [Act.put, List.setIfInBounds_toArray, List.set_cons_zero, List.set_cons_succ]
      refine wpLate_take (i := 13) (v := ?_) rfl (by kernel_rfl) (by kernel_rfl) rfl (by kernel_rfl) (by kernel_rfl) (fun _ _ _ h => h) (Or.inl ⟨rfl, ?_⟩) hS0 ?_
      rotate_left 1
      · (intro w9 h9; have cz : w9.cell? ⟨sb, 0, none⟩ = some (.int .i64 size) := h9.cell 0 rfl; clear h9; go_simp; try with_reducible rfl)
      simp only [Act.put, List.setIfInBounds_toArray, List.set_cons_zero, List.set_cons_succ]
      refine wpLate_take (i := 14) (v := ?_) rfl (by kernel_rfl) (by kernel_rfl) rfl (by kernel_rfl) (by kernel_rfl) (fun _ _ _ h => h) (Or.inl ⟨rfl, ?_⟩) hS0 ?_
      rotate_left 1
      · (intro w9 h9; go_simp; try with_reducible rfl)
      simp only [Act.put, List.setIfInBounds_toArray, List.set_cons_zero, List.set_cons_succ]
      refine wpLate_take (i := 15) (v := ?_) rfl (by kernel_rfl) (by kernel_rfl) rfl (by kernel_rfl) (by kernel_rfl) (fun _ _ _ h => h) (Or.inl ⟨rfl, ?_⟩) hS0 ?_
      rotate_left 1
      · (intro w9 h9; go_simp; try with_reducible rfl)
      simp only [Act.put, List.setIfInBounds_toArray, List.set_cons_zero, List.set_cons_succ]
      refine wpLate_take (i := 16) (v := ?_) rfl (by kernel_rfl) (by kernel_rfl) rfl (by kernel_rfl) (by kernel_rfl) (fun _ _ _ h => h) (Or.inl ⟨rfl, ?_⟩) hS0 ?_
      rotate_left 1
      · (intro w9 h9; go_simp; try with_reducible rfl)
      simp only [Act.put, List.setIfInBounds_toArray, List.set_cons_zero, List.set_cons_succ]
      refine wpLate_take (i := 17) (v := ?_) rfl (by kernel_rfl) (by kernel_rfl) rfl (by kernel_rfl) (by kernel_rfl) (fun _ _ _ h => h) (Or.inl ⟨rfl, ?_⟩) hS0 ?_
      rotate_left 1
      · (intro w9 h9; have cz : w9.cell? ⟨sb, 0, none⟩ = some (.int .i64 size) := h9.cell 0 rfl; clear h9; go_simp; try with_reducible rfl)
      simp only [Act.put, List.setIfInBounds_toArray, List.set_cons_zero, List.set_cons_succ]
      refine wpLate_take (i := 18) (v := ?_) rfl (by kernel_rfl) (by kernel_rfl) rfl (by kernel_rfl) (by kernel_rfl) (fun _ _ _ h => h) (Or.inl ⟨rfl, ?_⟩) hS0 ?_
      rotate_left 1
      · (intro w9 h9; go_simp; try with_reducible rfl)
      simp only [Act.put, List.setIfInBounds_toArray, List.set_cons_zero, List.set_cons_succ]
      refine wpLate_next (k := 19) (by kernel_rfl) rfl rfl (fun K hK => ?_)
      go_wp2_with fail
      refine (Clone_any _ _ _ (l'.take size) _ (hcut.out.no (Fr.refl No wr).drew) (by omega)).mono ?_
      rintro e w2 ⟨v2, rfl, ho2, hf2d⟩
      have hf2 : Fr No wr w2 := (Fr.refl No wr).drew.no hf2d
      clear hf2d
      obtain ⟨a2, c2, rfl, hb2, _⟩ := ho2.bytes
      have hl2 : (l'.take size).length = size := by rw [List.length_take, hlen'.out]; omega
      rw [hl2] at hb2 ⊢
      have hS2 : StreamAt w2 sb size f s' q tv' lo := hst'.fr hf2 (fun h => h)
      have hE2 : E w2 := hkeep w2 (hfr'.no hf2)
      refine hK.out _ _ (fun _ => hS2) ?_
      clear hK K ho2 hS0
      refine wpLate_next (k := 20) (by kernel_rfl) rfl rfl (fun K hK => ?_)
      go_wp2_with fail
      refine (hstep.out _ _ _ _ _ _ hE2 hb2 hl2).mono ?_
      rintro e w3 ⟨rfl, hf3⟩
      have hS3 : StreamAt w3 sb size f s' q tv' lo := hS2.fr hf3 (fun h => h)
      refine hK.out _ _ (fun _ => hS3) ?_
      clear hK K hE2 hb2 hl2 hS2
      refine wpLate_take' (i := 21) (v := ?_) rfl (by kernel_rfl) rfl (by kernel_rfl) (by kernel_rfl) (fun _ _ _ h => h) (Or.inl ⟨rfl, ?_⟩) ?_
      rotate_left 1
      · (intro w9 h9; go_simp; try with_reducible rfl)
      simp only [Act.put, List.setIfInBounds_toArray, List.set_cons_zero, List.set_cons_succ]
      refine wpLate_take' (i := 22) (v := ?_) rfl (by kernel_rfl) rfl (by kernel_rfl) (by kernel_rfl) (fun _ _ _ h => h) (Or.inl ⟨rfl, ?_⟩) ?_
      rotate_left 1
      · (intro w9 h9; go_simp; try with_reducible rfl)
      simp only [Act.put, List.setIfInBounds_toArray, List.set_cons_zero, List.set_cons_succ]
      have cn0 : w3.cell? ⟨sb, 5, none⟩ = some (cS s' 0) := hS3.cell 5 rfl
      have cn1 : w3.cell? ⟨sb, 6, none⟩ = some (cS s' 1) := hS3.cell 6 rfl
      have cn2 : w3.cell? ⟨sb, 7, none⟩ = some (cS s' 2) := hS3.cell 7 rfl
      have cn3 : w3.cell? ⟨sb, 8, none⟩ = some (cS s' 3) := hS3.cell 8 rfl
      have fz0 := hS3.frozen 5
      have fz1 := hS3.frozen 6
      have fz2 := hS3.frozen 7
      have fz3 := hS3.frozen 8
      refine wpLate_next (k := 23) (by kernel_rfl) rfl rfl (fun K hK => ?_)
      go_wp2_with fail
      refine hK.out _ _ (fun h => by simp at h) ?_
      clear hK K
      refine wpLate_done (by kernel_rfl) ?_ _
      have hS4 : StreamAt (World.setCell (World.setCell (World.setCell (World.setCell w3 ⟨sb, 5, none⟩ (cS (G s' (l'.take size)) 0)) ⟨sb, 6, none⟩ (cS (G s' (l'.take size)) 1)) ⟨sb, 7, none⟩ (cS (G s' (l'.take size)) 2)) ⟨sb, 8, none⟩ (cS (G s' (l'.take size)) 3)) sb size f (G s' (l'.take size)) q tv' lo := (row_put (row_put (row_put (row_put hS3 5 (cS (G s' (l'.take size)) 0)) 6 (cS (G s' (l'.take size)) 1)) 7 (cS (G s' (l'.take size)) 2)) 8 (cS (G s' (l'.take size)) 3))
      have hF4 : Fr (fun x => x = sb) w3 (World.setCell (World.setCell (World.setCell (World.setCell w3 ⟨sb, 5, none⟩ (cS (G s' (l'.take size)) 0)) ⟨sb, 6, none⟩ (cS (G s' (l'.take size)) 1)) ⟨sb, 7, none⟩ (cS (G s' (l'.take size)) 2)) ⟨sb, 8, none⟩ (cS (G s' (l'.take size)) 3)) := ((((Fr.refl (fun x => x = sb) w3).setCell (p := ⟨sb, 5, none⟩) (.inl rfl) _).setCell (p := ⟨sb, 6, none⟩) (.inl rfl) _).setCell (p := ⟨sb, 7, none⟩) (.inl rfl) _).setCell (p := ⟨sb, 8, none⟩) (.inl rfl) _
      clear cn0 fz0 cn1 fz1 cn2 fz2 cn3 fz3 hS3
      generalize (World.setCell (World.setCell (World.setCell (World.setCell w3 ⟨sb, 5, none⟩ (cS (G s' (l'.take size)) 0)) ⟨sb, 6, none⟩ (cS (G s' (l'.take size)) 1)) ⟨sb, 7, none⟩ (cS (G s' (l'.take size)) 2)) ⟨sb, 8, none⟩ (cS (G s' (l'.take size)) 3)) = w4 at hS4 hF4 ⊢
      have hF34 : Fr (fun x => x = sb) wr w4 := ((hf2.no hf3).mono (fun _ _ f => f.elim)).trans hF4 (fun x h => .inl h)
      have cz4 : w4.cell? ⟨sb, 0, none⟩ = some (.int .i64 size) := hS4.cell 0 rfl
      clear cz cst ctl
      go_wp2_with fail
      have hcut2 := hb'.cut_to_end size (n' := m - size) (c' := c' - size) hlt rfl rfl
      have hap2 := hap'.sub (n' := m - size) (by omega) size c' 1
      have hfe := hfr'.trans hF34 (fun x h => .inl (.inl h))
      go_roundw
      case rel => exact ⟨m - size, _, _, _, _, tv', rfl, hcut2.fr hF34 (fun x hx e h => hap2 x hx e (.inl h)), hap2, by omega, hS4, ho'.fr hF34 (fun x hx e => hst'.apart ho' (by rw [hx, e])), Nat.le_trans hbs' hF34.size, hkeep _ hfe, by rw [← hr']; exact (foldF_step hz1 (by rw [hlen'.out]; exact hlt)).symm, hnew', hfe⟩
      case measure => simp; omega
    · have i1 : (m : Int) < (size : Int) := by omega
      obtain ⟨ta', tc', rfl, _, _⟩ := ho'.bytes
      have hne := hst'.apart ho'
      go_wp2_with (refine wpList_append_bytes _ _ _ _ _ _ base _ [] rfl ho' _ _ _ l' rfl hb' (by simp; omega) hbs' ?_; intro v2 w2 hown2 hfr2 hnew2; obtain ⟨a2, c2, rfl, _, _⟩ := hown2.bytes; have hst2 := hst'.fr hfr2 hne; have ctl2 := hst2.cell 10 rfl; have fz2 := hst2.frozen 10)
      go_end0
      have hsh : foldF G size s' l' = (s', l') := foldF_short (by rw [hlen'.out]; omega)
      refine ⟨rfl, .slice a2 (([] : Bytes) ++ l').length c2, ?_, ?_, ?_, ?_⟩
      · rw [← hr', hsh]; exact hst2.put 10 _ rfl
      · rw [← hr', hsh]; exact hown2.fr ((Fr.refl (fun x => x = sb) w2).setCell (p := ⟨sb, 10, none⟩) (.inl rfl) _) (fun x hx e => hst2.apart hown2 (by rw [hx, e]))
      · rcases hnew2 with e | e
        · rw [e]; exact hnew'
        · refine .inr fun x hx => ?_
          rw [e] at hx; cases hx; exact hfr'.size
      · exact (hfr'.trans hfr2 (fun x hx => by rcases hnew' with e | e; exact .inl (.inr (by rw [← e]; exact hx)); exact .inr (e x hx))).setCell (.inl (.inl rfl)) _


end Go.Proofs.Ytcbbllfgelnpjaa.StSip