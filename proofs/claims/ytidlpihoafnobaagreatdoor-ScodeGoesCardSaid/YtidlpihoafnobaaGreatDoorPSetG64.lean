/- WriteBM32 RestM32 WriteM32 LiveM32 Words2 Arr4 SetM32 SetM64 SetG64 -/
import Derived.Laws.StructEq
import Derived.Test.YtidlpihoafnobaaGreatDoorProg
import Derived.Test.YtidlpihoafnobaaGreatDoorPWriteCM32
import Derived.Test.YtidlpihoafnobaaGreatDoorPLiveM64
set_option linter.unusedVariables false
set_option linter.unusedSimpArgs false
namespace Go.Proofs.YtidlpihoafnobaaGreatDoor.StM32
set_option maxRecDepth 100000
open Go.RowKit
set_option maxHeartbeats 4000000 in
theorem Write_part (E : World → Prop) (base sb : Nat) (size : Nat) (f s : ST) (q : Nat) (ta : Option Addr) (k tc : Nat) (tl : Bytes) (lo0 : BitVec 64) (a : Option Addr) (n c : Nat) (l : Bytes) (w : World) (G : ST → Bytes → ST)
 (hE : E w) (hkeep : ∀ w', Fr (Foot sb (.slice ta k tc)) w w' → E w') (hstep : Hid (Steps E G size q))
 (hst : StreamAt w sb size f s q (.slice ta k tc) lo0) (ho : Owns w base (.slice ta k tc) tl) (hb : base ≤ w.heap.size) (hz1 : 1 ≤ size) (hz2 : size ≤ 64) (hk : Hid (tl.length = k)) (htl : 0 < k) (htz : k < size) (h : IsBytes w a n c l) (hap : Apart (Foot sb (.slice ta k tc)) a n) (hn : n ≤ 1099511627776) (hpart : k + n < size) :
 Calls Tryz.prog 278 #[.pointer (some ⟨sb, 0, none⟩), .slice a n c] w (Wrote base sb size f q (.slice ta k tc) (s, tl ++ l) (lo0 + BitVec.ofNat 64 n) w) := by
 have hst1 : StreamAt (w.setCell ⟨sb, 5, none⟩ (.int .u64 (W64 (lo0 + BitVec.ofNat 64 n)))) sb size f s q (.slice ta k tc) (lo0 + BitVec.ofNat 64 n) := hst.put _ _ rfl
 have hfr1 : Fr (Foot sb (.slice ta k tc)) w (w.setCell ⟨sb, 5, none⟩ (.int .u64 (W64 (lo0 + BitVec.ofNat 64 n)))) := (Fr.refl _ w).setCell (.inl (.inl rfl)) _
 have hapo := hst.apart ho
 have ho1 := ho.fr ((Fr.refl (fun x => x = sb) w).setCell (p := ⟨sb, 5, none⟩) (.inl rfl) (.int .u64 (W64 (lo0 + BitVec.ofNat 64 n)))) (fun x hx e => hapo (by rw [hx, e]))
 have hb1 := h.fr hfr1 hap
 have hlen := Lib.hid h.1
 have hnc : n ≤ c := h.2.1
 have hcm : c ≤ 9223372036854775807 := h.2.2.1
 have hmade := hst
 have cz : w.cell? ⟨sb, 0, none⟩ = some (.int .i64 size) := hst.cell 0 rfl
 have cst : w.cell? ⟨sb, 3, none⟩ = some ((.func (.func 116) #[.agg #[]] #[])) := hst.cell 3 rfl
 have ctl : w.cell? ⟨sb, 4, none⟩ = some (.slice ta k tc) := hst.cell 4 rfl
 have clo : w.cell? ⟨sb, 5, none⟩ = some (.int .u64 (W64 lo0)) := hst.cell 5 rfl
 have fzl := hst.frozen 5
 have i1 : (n : Int) < (size : Int) - (k : Int) := by omega
 go_enter Tryz.func278, Tryz.ntmps278
 go_wp2_with (go_at_call 185; refine (made_any hmade).mono ?_; rintro e w' ⟨rfl, rfl⟩)
 go_quiet (fail)
 go_wp2_with fail
 have hS1 : StreamAt ((w.setCell ⟨sb, 5, none⟩ (.int .u64 (W64 (lo0 + BitVec.ofNat 64 n)))).drewN nq) sb size f s q (.slice ta k tc) (lo0 + BitVec.ofNat 64 n) := hst1
 have hF1 := hfr1.drewN nq
 have hown1 := ho1.no ((Fr.refl No _).drewN nq)
 have hbytes1 := (hb1.no ((Fr.refl No _).drewN nq)).head n c (n' := n) (c' := c) (Nat.le_refl _) hnc (Nat.le_refl _) rfl rfl
 have hbase1 : base ≤ ((w.setCell ⟨sb, 5, none⟩ (.int .u64 (W64 (lo0 + BitVec.ofNat 64 n)))).drewN nq).heap.size := Nat.le_trans hb hF1.size
 clear hst1 hfr1 ho1 hb1 clo cz cst ctl fzl
 generalize (w.setCell ⟨sb, 5, none⟩ (.int .u64 (W64 (lo0 + BitVec.ofNat 64 n)))).drewN nq = w1 at hS1 hF1 hown1 hbytes1 hbase1 ⊢
 generalize hlo : lo0 + BitVec.ofNat 64 n = lo at hS1 ⊢
 have HL := Lib.hid hlo
 clear hlo
 have j1 : (n : Int) ≤ (c : Int) := by omega
 obtain ⟨t2, ht2⟩ : ∃ t2, Hid (t2 = k + n) := ⟨_, rfl⟩
 have j2 : (t2 : Int) < (size : Int) := by have := ht2.out; omega
 have j3 : ((t2 : Int) == (size : Int)) = false := by simp; omega
 have hl4 : Hid ((tl ++ l.take n).length = t2) := by show _ = _; rw [List.length_append, List.length_take, hk.out, hlen.out]; have := ht2.out; omega
 refine wp_region_late (by kernel_rfl) (fun w' => StreamAt w' sb size f s q (.slice ta k tc) lo) (fun i => decide (9 ≤ i)) (show StreamAt w1.drew sb size f s q (.slice ta k tc) lo from hS1) (fun hS0 => ?_)
 refine lp 0 rfl hS0 ?_; simp only [Act.put, es1, es2, es3]
 refine lp 1 rfl hS0 ?_; simp only [Act.put, es1, es2, es3]
 refine lp 2 rfl hS0 ?_; simp only [Act.put, es1, es2, es3]
 refine lp 3 rfl hS0 ?_; simp only [Act.put, es1, es2, es3]
 refine lk 4 rfl (by kernel_rfl) (fun _ _ _ h => h) rfl (by intro w9 h9; have ctl : w9.cell? ⟨sb, 4, none⟩ = some (.slice ta k tc) := h9.cell 4 rfl; clear h9; go_simp; try with_reducible rfl) hS0 ?_; simp only [Act.put, es1, es2, es3]
 refine lp 5 rfl hS0 ?_; simp only [Act.put, es1, es2, es3]
 refine lp 6 rfl hS0 ?_; simp only [Act.put, es1, es2, es3]
 refine lp 7 rfl hS0 ?_; simp only [Act.put, es1, es2, es3]
 refine wpLate_next (k := 8) (by kernel_rfl) rfl rfl (fun K hK => ?_)
 refine wp_append_bytes _ _ _ _ _ _ base (.slice ta k tc) tl (by simp [Act.eval]) (hown1.no (Fr.refl No w1).drew) _ _ _ (l.take n) (by simp [Act.eval]) (hbytes1.no (Fr.refl No w1).drew) (by rw [hk.out]; omega) hbase1 ?_
 intro v2 w2 hown2 hfr2d hnew2
 have hfr2 : Fr (fun x => (Value.slice ta k tc).ownBlock = some x) w1 w2 := ((Fr.refl No w1).drew.mono (fun _ _ f => f.elim)).trans hfr2d (fun x h => .inl h)
 obtain ⟨a2, c2, hv2, hb2, _⟩ := hown2.bytes
 rw [hl4.out] at hv2
 subst hv2
 have hS2 : StreamAt w2 sb size f s q (.slice ta k tc) lo := hS1.fr hfr2 hapo
 refine hK.out _ _ (fun _ => hS2) ?_
 clear hK K hS0 hfr2d
 simp only [Act.put, es1, es2, es3]
 refine lk' 9 rfl (by kernel_rfl) (fun _ _ _ h => h) rfl (by intro w9 h9; go_simp; try with_reducible rfl) ?_; simp only [Act.put, es1, es2, es3]
 refine lk' 10 rfl (by kernel_rfl) (fun _ _ _ h => h) rfl (by intro w9 h9; go_simp; try with_reducible rfl) ?_; simp only [Act.put, es1, es2, es3]
 have ctl : w2.cell? ⟨sb, 4, none⟩ = some (.slice ta k tc) := hS2.cell 4 rfl
 have fz2 := hS2.frozen 4
 refine wpLate_next (k := 11) (by kernel_rfl) rfl rfl (fun K hK => ?_)
 go_wp2_with fail
 refine hK.out _ _ (fun h => by simp at h) ?_
 clear hK K
 refine wpLate_done (by kernel_rfl) ?_ _
 have hS3 : StreamAt (w2.setCell ⟨sb, 4, none⟩ (.slice a2 t2 c2)) sb size f s q (.slice a2 t2 c2) lo := hS2.put 4 _ rfl
 have hF23 : Fr (fun x => x = sb) w2 (w2.setCell ⟨sb, 4, none⟩ (.slice a2 t2 c2)) := (Fr.refl (fun x => x = sb) w2).setCell (p := ⟨sb, 4, none⟩) (.inl rfl) _
 have hown3 := hown2.fr hF23 (fun x hx e => hS2.apart hown2 (by rw [hx, e]))
 have hF3 : Fr (Foot sb (.slice ta k tc)) w (w2.setCell ⟨sb, 4, none⟩ (.slice a2 t2 c2)) := (hF1.trans hfr2 (fun x hx => .inl (.inr hx))).trans hF23 (fun x hx => .inl (.inl hx))
 have hnew3 : (Value.slice a2 t2 c2).ownBlock = (Value.slice ta k tc).ownBlock ∨ ∀ x, (Value.slice a2 t2 c2).ownBlock = some x → w.heap.size ≤ x := by
  rcases hnew2 with e | e
  · exact .inl e
  · refine .inr fun x hx => ?_
    rw [e] at hx; cases hx; exact hF1.size
 have hbs3 : base ≤ (w2.setCell ⟨sb, 4, none⟩ (.slice a2 t2 c2)).heap.size := Nat.le_trans hb hF3.size
 have hbo3 := h.fr hF3 hap
 clear hS2 hF23 hfr2 hnew2 hown2 hb2 ctl fz2 hS1 hown1 hF1 hbase1
 generalize (w2.setCell ⟨sb, 4, none⟩ (.slice a2 t2 c2)) = w3 at hS3 hown3 hF3 hbs3 hbo3 ⊢
 have cz : w3.cell? ⟨sb, 0, none⟩ = some (.int .i64 size) := hS3.cell 0 rfl
 have ctl : w3.cell? ⟨sb, 4, none⟩ = some (.slice a2 t2 c2) := hS3.cell 4 rfl
 have j4 : (0 : Int) < (size : Int) := by omega
 have htake : l.take n = l := List.take_of_length_le (by rw [hlen.out]; omega)
 have hdrop : l.drop n = [] := List.drop_of_length_le (by rw [hlen.out]; omega)
 rw [htake] at hown3
 go_wp2_with fail
 go_quiet (fail)
 have hS4 : StreamAt (w3.drewN nq) sb size f s q (.slice a2 t2 c2) lo := hS3
 have hown4 := hown3.no ((Fr.refl No w3).drewN nq)
 have hF4 := hF3.drewN nq
 have hbs4 : base ≤ (w3.drewN nq).heap.size := hbs3
 have hbo4 := (hbo3.no ((Fr.refl No w3).drewN nq)).cut_to_end n (n' := 0) (c' := c - n) (Nat.le_refl _) (by omega) rfl
 rw [hdrop] at hbo4
 clear htake hdrop hS3 hown3 hF3 hbs3 hbo3 cz ctl
 generalize w3.drewN nq = w4 at hS4 hown4 hF4 hbs4 hbo4 ⊢
 have cz : w4.cell? ⟨sb, 0, none⟩ = some (.int .i64 size) := hS4.cell 0 rfl
 have ctl : w4.cell? ⟨sb, 4, none⟩ = some (.slice a2 t2 c2) := hS4.cell 4 rfl
 go_wp2_with fail
 have hlen5 : Hid ((tl ++ l ++ []).length = t2) := by show _ = _; rw [List.length_append, List.length_append, hk.out, hlen.out, ht2.out]; rfl
 refine wp_loop_once ?_
 go_wp2_with (refine wpList_append_bytes _ _ _ _ _ _ base _ (tl ++ l) rfl hown4 _ _ _ [] rfl hbo4 (by rw [List.length_append, hk.out, hlen.out]; omega) hbs4 ?_; intro v5 w5 hown5 hfr5 hnew5; obtain ⟨a5, c5, hv5, _, _⟩ := hown5.bytes; rw [hlen5.out] at hv5; subst hv5; have hst5 := hS4.fr hfr5 (hS4.apart hown4); have ctl5 := hst5.cell 4 rfl; have fz5 := hst5.frozen 4)
 go_end0
 refine ⟨rfl, .slice a5 t2 c5, ?_, ?_, ?_, ?_⟩
 · rw [HL.out]; exact hst5.put 4 _ rfl
 · have := hown5.fr ((Fr.refl (fun x => x = sb) w5).setCell (p := ⟨sb, 4, none⟩) (.inl rfl) (.slice a5 t2 c5)) (fun x hx e => hst5.apart hown5 (by rw [hx, e]))
   simpa using this
 · rcases hnew5 with e | e
   · rw [e]; exact hnew3
   · refine .inr fun x hx => ?_
     rw [e] at hx; cases hx; exact hF4.size
 · exact (hF4.trans hfr5 (fun x hx => by rcases hnew3 with e | e; exact .inl (.inr (by rw [← e]; exact hx)); exact .inr (e x hx))).setCell (.inl (.inl rfl)) _
end Go.Proofs.YtidlpihoafnobaaGreatDoor.StM32
namespace Go.Proofs.YtidlpihoafnobaaGreatDoor.StM32
set_option maxRecDepth 100000
open Go.RowKit
theorem Long_any {w : World} {sb : Nat} {size : Int} {f s : ST} {q : Nat} {tv : Value} {lo : BitVec 64} (hst : StreamAt w sb size f s q tv lo) : Calls Tryz.prog 122 #[.pointer (some ⟨sb, 0, none⟩)] w (Gives (.int .u64 (W64 lo)) w) := by
 have clo : w.cell? ⟨sb, 5, none⟩ = some (.int .u64 (W64 lo)) := hst.cell 5 rfl
 go_enter Tryz.func122, Tryz.ntmps122
 go_wp2_with (go_at_call 185; refine (made_any hst).mono ?_; rintro e w' ⟨rfl, rfl⟩)
 go_ret
 exact ⟨rfl, rfl⟩
theorem Tail_any {w : World} {sb : Nat} {size : Int} {f s : ST} {q : Nat} {tv : Value} {lo : BitVec 64} {base : Nat} {tl : Bytes} (hst : StreamAt w sb size f s q tv lo) (ho : Owns w base tv tl) (hl : tl.length ≤ 1099511627776) : Calls Tryz.prog 121 #[.pointer (some ⟨sb, 0, none⟩)] w (GivesBytes tl w) := by
 obtain ⟨ta, tc, rfl, hb, _⟩ := ho.bytes
 have ctl : w.cell? ⟨sb, 4, none⟩ = some (.slice ta tl.length tc) := hst.cell 4 rfl
 go_enter Tryz.func121, Tryz.ntmps121
 go_wp2_with (first | (go_at_call 185; refine (made_any hst).mono ?_; rintro e w' ⟨rfl, rfl⟩) | (go_at_call 182; refine (Clone_any _ _ _ tl _ hb (by omega)).mono ?_; rintro e w2 ⟨v2, rfl, ho2, hf2⟩))
 go_ret
 exact ⟨v2, rfl, ho2, hf2⟩
theorem State_any {w : World} {sb : Nat} {size : Int} {f s : ST} {q : Nat} {tv : Value} {lo : BitVec 64} (hst : StreamAt w sb size f s q tv lo) : Calls Tryz.prog 120 #[.pointer (some ⟨sb, 0, none⟩)] w (GivesS s w) := by
 have cn0 : w.cell? ⟨sb, 2, none⟩ = some (.int .u32 (W32 s)) := hst.cell 2 rfl
 go_enter Tryz.func120, Tryz.ntmps120
 go_wp2_with (go_at_call 185; refine (made_any hst).mono ?_; rintro e w' ⟨rfl, rfl⟩)
 go_ret
 exact ⟨rfl, Fr.refl _ _⟩
@[go_sem] theorem run_store_fv (k : Nat) (x y : Array Value) (w : World) (a : Addr) (md : Mode) : (store a (.func (.func k) x y) md).run Tryz.prog w = stored Tryz.prog w a (.func (.func k) x y) md := run_store Tryz.prog w a _ md rfl
end Go.Proofs.YtidlpihoafnobaaGreatDoor.StM32
namespace Go.Proofs.YtidlpihoafnobaaGreatDoor.StM32
set_option maxRecDepth 100000
open Go.RowKit
def Str (w : World) (base sb : Nat) (size : Nat) (f s : ST) (q : Nat) (tl : Bytes) (lo : BitVec 64) (tv : Value) : Prop :=
 StreamAt w sb size f s q tv lo ∧ Owns w base tv tl ∧ base ≤ w.heap.size
theorem Write_any {w : World} {base sb size : Nat} {f s : ST} {q : Nat} {tl : Bytes} {lo : BitVec 64} {tv : Value} (E : World → Prop) (G : ST → Bytes → ST) (hS : Str w base sb size f s q tl lo tv)
 (hkeep : ∀ w', Fr (Foot sb tv) w w' → E w') (hstep : Hid (Steps E G size q)) (hz1 : 1 ≤ size) (hz2 : size ≤ 64) (htl : tl.length < size) (a : Option Addr) (n c : Nat) (l : Bytes) (h : IsBytes w a n c l) (hap : Apart (Foot sb tv) a n) (hn : n ≤ 1099511627776) :
 Calls Tryz.prog 278 #[.pointer (some ⟨sb, 0, none⟩), .slice a n c] w (Wrote base sb size f q tv (foldF G size s (tl ++ l)) (lo + BitVec.ofNat 64 n) w) := by
 obtain ⟨hst, ho, hb⟩ := hS
 obtain ⟨ta, tc, rfl, hbt, _⟩ := ho.bytes
 have hE := hkeep w (Fr.refl _ w)
 obtain ⟨k, hk⟩ : ∃ k, tl.length = k := ⟨_, rfl⟩
 rw [hk] at hst ho hkeep htl hap ⊢
 rcases Nat.eq_zero_or_pos k with e | hpos
 · subst e
   obtain rfl : tl = [] := List.eq_nil_of_length_eq_zero hk
   exact Write_empty E base sb size f s q ta tc lo a n c l w G hE hkeep hstep hst ho hb hz1 hz2 h hap hn
 · by_cases hp : k + n < size
   · have := Write_part E base sb size f s q ta k tc tl lo a n c l w G hE hkeep hstep hst ho hb hz1 hz2 hk hpos htl h hap hn hp
     rwa [← foldF_short (F := G) (s := s) (size := size) (l := tl ++ l) (by rw [List.length_append, hk, h.1]; exact hp)] at this
   · exact Write_fill E base sb size f s q ta k tc tl lo a n c l w G hE hkeep hstep hst ho hb hz1 hz2 hk hpos htl h hap hn (by omega) _ rfl
end Go.Proofs.YtidlpihoafnobaaGreatDoor.StM32
namespace Go.Proofs.YtidlpihoafnobaaGreatDoor.StM32
set_option maxRecDepth 100000
open Go.RowKit
structure Live (w0 w : World) (sb size : Nat) (f s : ST) (q : Nat) (tl : Bytes) (lo : BitVec 64) (tv : Value) : Prop where
 st : StreamAt w sb size f s q tv lo
 ow : Owns w w0.heap.size tv tl
 ge : w0.heap.size ≤ sb
 fr : Fr No w0 w
theorem own_lt {w : World} {base : Nat} {v : Value} {l : Bytes} (h : Owns w base v l) {x : Nat} (hx : v.ownBlock = some x) : x < w.heap.size := by
 obtain ⟨a, c, rfl, _, hb⟩ := h.bytes
 cases a with
 | none => simp [Value.ownBlock] at hx
 | some y => simp [Value.ownBlock] at hx; have := (hb y rfl).2; omega
section
variable {w0 w w' : World} {sb size : Nat} {f s : ST} {q : Nat} {tl : Bytes} {lo : BitVec 64} {tv : Value}
theorem Live.lt (h : Live w0 w sb size f s q tl lo tv) : ∀ x, Foot sb tv x → x < w.heap.size := fun x hx => by
 rcases hx with rfl | hx
 · exact h.st.lt
 · exact own_lt h.ow hx
theorem Live.above (h : Live w0 w sb size f s q tl lo tv) : ∀ x, Foot sb tv x → w0.heap.size ≤ x := fun x hx => by
 rcases hx with rfl | hx
 · exact h.ge
 · exact own_ge h.ow hx
theorem Live.keep {F : Nat → Prop} (h : Live w0 w sb size f s q tl lo tv) (k : Fr F w w') (hF : ∀ x, F x → ¬ Foot sb tv x) (hA : ∀ x, F x → w0.heap.size ≤ x) : Live w0 w' sb size f s q tl lo tv :=
 ⟨h.st.fr k (fun g => hF _ g (.inl rfl)), h.ow.fr k (fun x hx g => hF x g (.inr hx)), h.ge, h.fr.trans k (fun x hx => .inr (hA x hx))⟩
theorem Live.no (h : Live w0 w sb size f s q tl lo tv) (k : Fr No w w') : Live w0 w' sb size f s q tl lo tv := h.keep k (fun _ g => g.elim) (fun _ g => g.elim)
theorem Live.drew (h : Live w0 w sb size f s q tl lo tv) : Live w0 w.drew sb size f s q tl lo tv := h.no (Fr.refl No w).drew
theorem Live.con (h : Live w0 w sb size f s q tl lo tv) : Keeps w (Foot sb tv) := fun x o ho hc g => by
 rcases g with rfl | g
 · obtain ⟨cs, T, e, hT⟩ := hc
   have hst := h.st
   unfold StreamAt at hst
   rw [hst] at ho
   rw [e] at ho
   simp at ho
   rw [← ho.2] at hT
   exact absurd hT (by decide)
 · exact Keeps.own h.ow x o ho hc g
def Sep (sb : Nat) (tv : Value) (sb' : Nat) (tv' : Value) : Prop := ∀ x, Foot sb tv x → ¬ Foot sb' tv' x
theorem Sep.symm {sb sb' : Nat} {tv tv' : Value} (h : Sep sb tv sb' tv') : Sep sb' tv' sb tv := fun x h1 h2 => h x h2 h1
def LiveWrote (w0 : World) (sb size : Nat) (f : ST) (q : Nat) (tv : Value) (r : ST × Bytes) (lo : BitVec 64) (w : World) (e : Ending) (w' : World) : Prop :=
 e = .returned (.tuple #[]) ∧ ∃ tv', Live w0 w' sb size f r.1 q r.2 lo tv' ∧ Fr (Foot sb tv) w w' ∧ (tv'.ownBlock = tv.ownBlock ∨ ∀ x, tv'.ownBlock = some x → w.heap.size ≤ x)
theorem live_write (E : World → Prop) (G : ST → Bytes → ST) (h : Live w0 w sb size f s q tl lo tv) (hkeep : ∀ w', Fr (Foot sb tv) w w' → E w') (hstep : Hid (Steps E G size q)) (hz1 : 1 ≤ size) (hz2 : size ≤ 64) (htl : tl.length < size)
 (a : Option Addr) (n c : Nat) (l : Bytes) (hb : IsBytes w a n c l) (hap : Apart (Foot sb tv) a n) (hn : n ≤ 1099511627776) :
 Calls Tryz.prog 278 #[.pointer (some ⟨sb, 0, none⟩), .slice a n c] w (LiveWrote w0 sb size f q tv (foldF G size s (tl ++ l)) (lo + BitVec.ofNat 64 n) w) := by
 refine (Write_any E G ⟨h.st, h.ow, h.fr.size⟩ hkeep hstep hz1 hz2 htl a n c l hb hap hn).mono ?_
 rintro e w' ⟨rfl, tv', hst, hown, hnew, hfr⟩
 exact ⟨rfl, tv', ⟨hst, hown, h.ge, h.fr.trans hfr (fun x hx => .inr (h.above x hx))⟩, hfr, hnew⟩
end
end Go.Proofs.YtidlpihoafnobaaGreatDoor.StM32
namespace Go.Proofs.YtidlpihoafnobaaGreatDoor
set_option maxRecDepth 100000
open Go.RowKit
@[go_sem] theorem W64_mod' (x y : BitVec 64) : W64 x % W64 y = W64 (x % y) := by
 simp only [W64, BitVec.toNat_umod]; rfl
@[go_sem] theorem W64_tmod' (x y : BitVec 64) : (W64 x).tmod (W64 y) = W64 (x % y) := by
 rw [Int.tmod_eq_emod_of_nonneg (W64_nn x), W64_mod']
@[go_sem] theorem W64_bne (x y : BitVec 64) : (W64 x != W64 y) = (x != y) := by simp only [bne, W64_beq]
@[go_sem] theorem W32_bne (x y : BitVec 32) : (W32 x != W32 y) = (x != y) := by simp only [bne, W32_beq]
@[go_sem] theorem W64_bne_lit (x : BitVec 64) (n : Nat) (h : n < 18446744073709551616) : (W64 x != no_index (OfNat.ofNat n : Int)) = (x != BitVec.ofNat 64 n) := by simp only [bne, W64_beq_lit x n h]
@[go_sem] theorem W32_bne_lit (x : BitVec 32) (n : Nat) (h : n < 4294967296) : (W32 x != no_index (OfNat.ofNat n : Int)) = (x != BitVec.ofNat 32 n) := by simp only [bne, W32_beq_lit x n h]
theorem wide_div (s : BitVec 32) : s.setWidth 64 / 4294967296#64 = 0#64 := by
 apply BitVec.eq_of_toNat_eq
 have := s.isLt
 simp only [BitVec.toNat_udiv, BitVec.toNat_setWidth, BitVec.toNat_ofNat]
 rw [show 4294967296 % 2 ^ 64 = 4294967296 from rfl, show 0 % 2 ^ 64 = 0 from rfl]
 omega
theorem ofNat_inj' {n m : Nat} (hn : n < 18446744073709551616) (hm : m < 18446744073709551616) (h : BitVec.ofNat 64 n = BitVec.ofNat 64 m) : n = m := by
 have := congrArg BitVec.toNat h
 simp only [BitVec.toNat_ofNat] at this
 omega
end Go.Proofs.YtidlpihoafnobaaGreatDoor
namespace Go.Proofs.YtidlpihoafnobaaGreatDoor
set_option maxRecDepth 100000
open Go.RowKit
set_option maxHeartbeats 400000 in
@[go_sem] theorem eq_arr4 (a0 a1 a2 a3 b0 b1 b2 b3 : Int) (w : World) : (Op.equalIn 10000 31 (.agg #[.int .u64 a0, .int .u64 a1, .int .u64 a2, .int .u64 a3]) (.agg #[.int .u64 b0, .int .u64 b1, .int .u64 b2, .int .u64 b3])).run Tryz.prog w = .ok (a0 == b0 && a1 == b1 && a2 == b2 && a3 == b3) w := by
 have u3 := Tryz.underlying28
 rw [show (10000 : Nat) = 9999 + 1 from rfl, Op.equalIn]
 simp only [Sem.run_bind, run_underlying Tryz.underlying31, Result.andThen_ok]
 simp only [Std.Legacy.Range.forIn_eq_forIn_range', Std.Legacy.Range.size, Nat.sub_zero, Nat.add_sub_cancel, Nat.div_one, List.range'_succ, List.range'_zero, List.forIn_cons, List.forIn_nil]
 go_simp
 by_cases h0 : a0 = b0 <;> by_cases h1 : a1 = b1 <;> by_cases h2 : a2 = b2 <;> by_cases h3 : a3 = b3 <;> simp [h0, h1, h2, h3]
end Go.Proofs.YtidlpihoafnobaaGreatDoor
namespace Go.Proofs.YtidlpihoafnobaaGreatDoor.StM32
set_option maxRecDepth 100000
open Go.RowKit
def fitsB (n : Nat) (lo : BitVec 64) (size : Nat) : Bool := BitVec.ofNat 64 n == lo % BitVec.ofNat 64 size
theorem size_ne (size : Nat) (hz1 : 1 ≤ size) (hz2 : size ≤ 64) : (BitVec.ofNat 64 size == 0#64) = false := by
 rw [beq_eq_false_iff_ne]
 intro h
 have := ofNat_inj' (n := size) (m := 0) (by omega) (by omega) h
 omega
def Sets (size : Int) (f s2 : ST) (q : Nat) (sb : Nat) (l : Bytes) (lo2 : BitVec 64) (w : World) (e : Ending) (w' : World) : Prop :=
 ∃ tv2, e = .returned (.bool true) ∧ StreamAt w' sb size f s2 q tv2 lo2 ∧ Owns w' w.heap.size tv2 l ∧ Fr (fun x => x = sb) w w'
set_option maxHeartbeats 1000000 in
theorem Set_yes {w : World} {sb size : Nat} {f s : ST} {q : Nat} {tv : Value} {lo : BitVec 64} (hst : StreamAt w sb size f s q tv lo) (hz1 : 1 ≤ size) (hz2 : size ≤ 64) (s2 : ST) (lo2 : BitVec 64) (a : Option Addr) (n c : Nat) (l : Bytes) (hb : IsBytes w a n c l) (hn : n ≤ 1099511627776) (hfit : fitsB n lo2 size = true) :
 Calls Tryz.prog 277 #[.pointer (some ⟨sb, 0, none⟩), (.int .u32 (W32 s2)), .int .u64 (W64 lo2), .slice a n c] w (Sets size f s2 q sb l lo2 w) := by
 have hz := size_ne size hz1 hz2
 have hz' : ¬ BitVec.ofNat 64 size = 0#64 := by simpa using hz
 unfold fitsB at hfit
 have hfit' : (BitVec.ofNat 64 n != lo2 % BitVec.ofNat 64 size) = false := by simp [bne, hfit]
 have hst1 : StreamAt w sb size f s q tv lo := hst
 have hF1 : Fr No w w := Fr.refl _ _
 have hb1 := hb.no hF1
 have hlt := hst.lt
 have cz : w.cell? ⟨sb, 0, none⟩ = some (.int .i64 size) := hst1.cell 0 rfl
 go_enter Tryz.func277, Tryz.ntmps277
 go_wp2_with (go_at_call 185; refine (made_any hst1).mono ?_; rintro e w' ⟨rfl, rfl⟩)
 clear hfit hfit' hz hz'
 go_wp2_with fail
 refine (Clone_any _ _ _ l _ hb1 (by omega)).mono ?_
 rintro e w2 ⟨v2, rfl, ho2, hf2⟩
 obtain ⟨a2, c2, rfl, _, _⟩ := ho2.bytes
 have hS2 := hst1.fr hf2 (fun h => h)
 have cn0 : w2.cell? ⟨sb, 2, none⟩ = some (.int .u32 (W32 s)) := hS2.cell 2 rfl
 have ctl : w2.cell? ⟨sb, 4, none⟩ = some (tv) := hS2.cell 4 rfl
 have clo : w2.cell? ⟨sb, 5, none⟩ = some (.int .u64 (W64 lo)) := hS2.cell 5 rfl
 have fz2 := hS2.frozen 2
 have fz4 := hS2.frozen 4
 have fz5 := hS2.frozen 5
 go_wp2_with fail
 go_ret
 exact ⟨_, rfl, (row_put (row_put (row_put hS2 2 (.int .u32 (W32 s2))) 5 (.int .u64 (W64 lo2))) 4 (.slice a2 l.length c2)), ho2.fr ((((Fr.refl (fun x => x = sb) w2).setCell (p := ⟨sb, 2, none⟩) (.inl rfl) _).setCell (p := ⟨sb, 5, none⟩) (.inl rfl) _).setCell (p := ⟨sb, 4, none⟩) (.inl rfl) _) (fun x hx e => hS2.apart ho2 (by rw [hx, e])), (hf2.mono (fun x _ f => f.elim)).trans ((((Fr.refl (fun x => x = sb) w2).setCell (p := ⟨sb, 2, none⟩) (.inl rfl) _).setCell (p := ⟨sb, 5, none⟩) (.inl rfl) _).setCell (p := ⟨sb, 4, none⟩) (.inl rfl) _) (fun x h => .inl h)⟩
end Go.Proofs.YtidlpihoafnobaaGreatDoor.StM32
namespace Go.Proofs.YtidlpihoafnobaaGreatDoor.StM64
set_option maxRecDepth 100000
open Go.RowKit
def fitsB (n : Nat) (lo : BitVec 64) (size : Nat) : Bool := BitVec.ofNat 64 n == lo % BitVec.ofNat 64 size
theorem size_ne (size : Nat) (hz1 : 1 ≤ size) (hz2 : size ≤ 64) : (BitVec.ofNat 64 size == 0#64) = false := by
 rw [beq_eq_false_iff_ne]
 intro h
 have := ofNat_inj' (n := size) (m := 0) (by omega) (by omega) h
 omega
def Sets (size : Int) (f s2 : ST) (q : Nat) (sb : Nat) (l : Bytes) (lo2 : BitVec 64) (w : World) (e : Ending) (w' : World) : Prop :=
 ∃ tv2, e = .returned (.bool true) ∧ StreamAt w' sb size f s2 q tv2 lo2 ∧ Owns w' w.heap.size tv2 l ∧ Fr (fun x => x = sb) w w'
set_option maxHeartbeats 1000000 in
theorem Set_yes {w : World} {sb size : Nat} {f s : ST} {q : Nat} {tv : Value} {lo : BitVec 64} (hst : StreamAt w sb size f s q tv lo) (hz1 : 1 ≤ size) (hz2 : size ≤ 64) (s2 : ST) (lo2 : BitVec 64) (a : Option Addr) (n c : Nat) (l : Bytes) (hb : IsBytes w a n c l) (hn : n ≤ 1099511627776) (hfit : fitsB n lo2 size = true) :
 Calls Tryz.prog 292 #[.pointer (some ⟨sb, 0, none⟩), .agg #[cS s2 0, cS s2 1], .int .u64 (W64 lo2), .slice a n c] w (Sets size f s2 q sb l lo2 w) := by
 have hz := size_ne size hz1 hz2
 have hz' : ¬ BitVec.ofNat 64 size = 0#64 := by simpa using hz
 unfold fitsB at hfit
 have hfit' : (BitVec.ofNat 64 n != lo2 % BitVec.ofNat 64 size) = false := by simp [bne, hfit]
 have hst1 : StreamAt (w.alloc (.cells #[cS s2 0, cS s2 1] 208)) sb size f s q tv lo := hst.fr ((Fr.refl No w).alloc _) (fun h => h)
 have hF1 : Fr No w (w.alloc (.cells #[cS s2 0, cS s2 1] 208)) := (Fr.refl _ _).alloc _
 have hb1 := hb.no hF1
 have hlt := hst.lt
 have cz : (w.alloc (.cells #[cS s2 0, cS s2 1] 208)).cell? ⟨sb, 0, none⟩ = some (.int .i64 size) := hst1.cell 0 rfl
 go_enter Tryz.func292, Tryz.ntmps292
 go_wp2_with (go_at_call 206; refine (made_any hst1).mono ?_; rintro e w' ⟨rfl, rfl⟩)
 clear hfit hfit' hz hz'
 have hbox : BoxAt (w.alloc (.cells #[cS s2 0, cS s2 1] 208)) w.heap.size s2 := heap_alloc_new w _
 generalize (w.alloc (.cells #[cS s2 0, cS s2 1] 208)) = w1 at hst1 hF1 hb1 hbox cz ⊢
 have hne : w.heap.size ≠ sb := by omega
 refine wp_region_seq (by kernel_rfl) (fun w' => Fr (fun x => x = sb) w1 w') (fun _ => false) [(0, 1), (1, 1), (2, 1), (3, 1), (4, 1), (5, 1), (6, 0), (7, 1), (8, 1), (9, 0), (10, 1), (11, 1), (12, 0), (13, 1), (14, 1), (15, 0)] (by kernel_rfl) (Fr.refl _ w1).drew ?_
 have hS0 : Fr (fun x => x = sb) w1 w1.drew := (Fr.refl _ w1).drew
 iterate 6 refine tq _ rfl rfl (by intro w9 h9; have cb0 : w9.cell? ⟨w.heap.size, 0, none⟩ = some (cS s2 0) := (hbox.fr h9 hne).cell 0 rfl; have cb1 : w9.cell? ⟨w.heap.size, 1, none⟩ = some (cS s2 1) := (hbox.fr h9 hne).cell 1 rfl; clear h9; go_simp; try with_reducible rfl) ?_; simp only [es1, es2, es3]
 refine wpSeq_next rfl rfl (fun K hK => ?_)
 go_wp2_with fail
 refine (Clone_any _ _ _ l _ (hb1.no (Fr.refl No w1).drew) (by omega)).mono ?_
 rintro e w2 ⟨v2, rfl, ho2, hf2⟩
 obtain ⟨a2, c2, rfl, _, _⟩ := ho2.bytes
 have hS2 : StreamAt w2 sb size f s q tv lo := StreamAt.fr (w := w1.drew) hst1 hf2 (fun h => h)
 have hf12 : Fr (fun x => x = sb) w1 w2 := hS0.trans hf2 (fun _ h => h.elim)
 refine hK.out _ _ (fun _ => hf12) ?_
 clear hK K hS0 cz
 iterate 2 refine tp _ rfl rfl ?_; simp only [es1, es2, es3]
 have hrow9 := hS2
 have cg9_3 : w2.cell? ⟨sb, 3, none⟩ = some (cS s 0) := by rw [cell_of_row w2 sb 3 _ _ _ hrow9]; rfl
 have fg9_3 := frozen_of_row w2 sb 3 _ _ hrow9
 have cg9_4 : w2.cell? ⟨sb, 4, none⟩ = some (cS s 1) := by rw [cell_of_row w2 sb 4 _ _ _ hrow9]; rfl
 have fg9_4 := frozen_of_row w2 sb 4 _ _ hrow9
 refine wpSeq_next rfl rfl (fun K hK => ?_)
 go_wp2_with fail
 have hq9 : Fr (fun x => x = sb) w2 (World.setCell (World.setCell w2 ⟨sb, 3, none⟩ (cS s2 0)) ⟨sb, 4, none⟩ (cS s2 1)) := ((Fr.refl (fun x => x = sb) w2).setCell (p := ⟨sb, 3, none⟩) (.inl rfl) _).setCell (p := ⟨sb, 4, none⟩) (.inl rfl) _
 have hr9 := (row_put (row_put hrow9 3 (cS s2 0)) 4 (cS s2 1))
 have hs9 := hf12.trans hq9 (fun _ h => .inl h)
 refine hK.out _ _ (fun _ => hs9) ?_
 clear hK K cg9_3 fg9_3 cg9_4 fg9_4 hrow9
 generalize hW9 : (World.setCell (World.setCell w2 ⟨sb, 3, none⟩ (cS s2 0)) ⟨sb, 4, none⟩ (cS s2 1)) = w29 at hq9 hr9 hs9 ⊢
 clear hW9
 iterate 2 refine tp _ rfl rfl ?_; simp only [es1, es2, es3]
 have hrow12 := hr9
 have cg12_7 : w29.cell? ⟨sb, 7, none⟩ = some (.int .u64 (W64 lo)) := by rw [cell_of_row w29 sb 7 _ _ _ hrow12]; rfl
 have fg12_7 := frozen_of_row w29 sb 7 _ _ hrow12
 refine wpSeq_next rfl rfl (fun K hK => ?_)
 go_wp2_with fail
 have hq12 : Fr (fun x => x = sb) w29 (World.setCell w29 ⟨sb, 7, none⟩ (.int .u64 (W64 lo2))) := (Fr.refl (fun x => x = sb) w29).setCell (p := ⟨sb, 7, none⟩) (.inl rfl) _
 have hr12 := (row_put hrow12 7 (.int .u64 (W64 lo2)))
 have hs12 := hs9.trans hq12 (fun _ h => .inl h)
 refine hK.out _ _ (fun _ => hs12) ?_
 clear hK K cg12_7 fg12_7 hrow12
 generalize hW12 : (World.setCell w29 ⟨sb, 7, none⟩ (.int .u64 (W64 lo2))) = w32 at hq12 hr12 hs12 ⊢
 clear hW12
 iterate 2 refine tp _ rfl rfl ?_; simp only [es1, es2, es3]
 have hrow15 := hr12
 have cg15_6 : w32.cell? ⟨sb, 6, none⟩ = some (tv) := by rw [cell_of_row w32 sb 6 _ _ _ hrow15]; rfl
 have fg15_6 := frozen_of_row w32 sb 6 _ _ hrow15
 refine wpSeq_next rfl rfl (fun K hK => ?_)
 go_wp2_with fail
 have hq15 : Fr (fun x => x = sb) w32 (World.setCell w32 ⟨sb, 6, none⟩ (.slice a2 l.length c2)) := (Fr.refl (fun x => x = sb) w32).setCell (p := ⟨sb, 6, none⟩) (.inl rfl) _
 have hr15 := (row_put hrow15 6 (.slice a2 l.length c2))
 have hs15 := hs12.trans hq15 (fun _ h => .inl h)
 refine hK.out _ _ (fun _ => hs15) ?_
 clear hK K cg15_6 fg15_6 hrow15
 generalize hW15 : (World.setCell w32 ⟨sb, 6, none⟩ (.slice a2 l.length c2)) = w35 at hq15 hr15 hs15 ⊢
 clear hW15
 refine wpSeq_done ?_
 go_wp2_with fail
 go_ret
 have hall : Fr (fun x => x = sb) w2 w35 := (hq9.trans hq12 (fun _ h => .inl h)).trans hq15 (fun _ h => .inl h)
 exact ⟨_, rfl, hr15, (ho2.fr hall (fun x hx e => hS2.apart ho2 (by rw [hx, e]))).mono hF1.size, (hF1.mono (fun x _ f => f.elim)).trans hs15 (fun x h => .inl h)⟩
end Go.Proofs.YtidlpihoafnobaaGreatDoor.StM64
namespace Go.Proofs.YtidlpihoafnobaaGreatDoor.StG64
set_option maxRecDepth 100000
open Go.RowKit
def fitsB (n : Nat) (lo : BitVec 64) (size : Nat) : Bool := BitVec.ofNat 64 n == lo % BitVec.ofNat 64 size
theorem size_ne (size : Nat) (hz1 : 1 ≤ size) (hz2 : size ≤ 64) : (BitVec.ofNat 64 size == 0#64) = false := by
 rw [beq_eq_false_iff_ne]
 intro h
 have := ofNat_inj' (n := size) (m := 0) (by omega) (by omega) h
 omega
def Sets (size : Int) (f s2 : ST) (q : QT) (sb : Nat) (l : Bytes) (lo2 : BitVec 64) (w : World) (e : Ending) (w' : World) : Prop :=
 ∃ tv2, e = .returned (.bool true) ∧ StreamAt w' sb size f s2 q tv2 lo2 ∧ Owns w' w.heap.size tv2 l ∧ Fr (fun x => x = sb) w w'
set_option maxHeartbeats 1000000 in
theorem Set_yes {w : World} {sb size : Nat} {f s : ST} {q : QT} {tv : Value} {lo : BitVec 64} (hst : StreamAt w sb size f s q tv lo) (hz1 : 1 ≤ size) (hz2 : size ≤ 64) (s2 : ST) (lo2 : BitVec 64) (a : Option Addr) (n c : Nat) (l : Bytes) (hb : IsBytes w a n c l) (hn : n ≤ 1099511627776) (hfit : fitsB n lo2 size = true) :
 Calls Tryz.prog 318 #[.pointer (some ⟨sb, 0, none⟩), .agg #[cS s2 0, cS s2 1, cS s2 2, cS s2 3], .int .u64 (W64 lo2), .slice a n c] w (Sets size f s2 q sb l lo2 w) := by
 have hz := size_ne size hz1 hz2
 have hz' : ¬ BitVec.ofNat 64 size = 0#64 := by simpa using hz
 unfold fitsB at hfit
 have hfit' : (BitVec.ofNat 64 n != lo2 % BitVec.ofNat 64 size) = false := by simp [bne, hfit]
 have hst1 : StreamAt (w.alloc (.cells #[cS s2 0, cS s2 1, cS s2 2, cS s2 3] 31)) sb size f s q tv lo := hst.fr ((Fr.refl No w).alloc _) (fun h => h)
 have hF1 : Fr No w (w.alloc (.cells #[cS s2 0, cS s2 1, cS s2 2, cS s2 3] 31)) := (Fr.refl _ _).alloc _
 have hb1 := hb.no hF1
 have hlt := hst.lt
 have cz : (w.alloc (.cells #[cS s2 0, cS s2 1, cS s2 2, cS s2 3] 31)).cell? ⟨sb, 0, none⟩ = some (.int .i64 size) := hst1.cell 0 rfl
 go_enter Tryz.func318, Tryz.ntmps318
 go_wp2_with (go_at_call 240; refine (made_any hst1).mono ?_; rintro e w' ⟨rfl, rfl⟩)
 clear hfit hfit' hz hz'
 have hbox : BoxAt (w.alloc (.cells #[cS s2 0, cS s2 1, cS s2 2, cS s2 3] 31)) w.heap.size s2 := heap_alloc_new w _
 generalize (w.alloc (.cells #[cS s2 0, cS s2 1, cS s2 2, cS s2 3] 31)) = w1 at hst1 hF1 hb1 hbox cz ⊢
 have hne : w.heap.size ≠ sb := by omega
 refine wp_region_seq (by kernel_rfl) (fun w' => Fr (fun x => x = sb) w1 w') (fun _ => false) [(0, 1), (1, 1), (2, 1), (3, 1), (4, 1), (5, 1), (6, 0), (7, 1), (8, 1), (9, 0), (10, 1), (11, 1), (12, 0), (13, 1), (14, 1), (15, 0)] (by kernel_rfl) (Fr.refl _ w1).drew ?_
 have hS0 : Fr (fun x => x = sb) w1 w1.drew := (Fr.refl _ w1).drew
 iterate 6 refine tq _ rfl rfl (by intro w9 h9; have cb0 : w9.cell? ⟨w.heap.size, 0, none⟩ = some (cS s2 0) := (hbox.fr h9 hne).cell 0 rfl; have cb1 : w9.cell? ⟨w.heap.size, 1, none⟩ = some (cS s2 1) := (hbox.fr h9 hne).cell 1 rfl; have cb2 : w9.cell? ⟨w.heap.size, 2, none⟩ = some (cS s2 2) := (hbox.fr h9 hne).cell 2 rfl; have cb3 : w9.cell? ⟨w.heap.size, 3, none⟩ = some (cS s2 3) := (hbox.fr h9 hne).cell 3 rfl; clear h9; go_simp; try with_reducible rfl) ?_; simp only [es1, es2, es3]
 refine wpSeq_next rfl rfl (fun K hK => ?_)
 go_wp2_with fail
 refine (Clone_any _ _ _ l _ (hb1.no (Fr.refl No w1).drew) (by omega)).mono ?_
 rintro e w2 ⟨v2, rfl, ho2, hf2⟩
 obtain ⟨a2, c2, rfl, _, _⟩ := ho2.bytes
 have hS2 : StreamAt w2 sb size f s q tv lo := StreamAt.fr (w := w1.drew) hst1 hf2 (fun h => h)
 have hf12 : Fr (fun x => x = sb) w1 w2 := hS0.trans hf2 (fun _ h => h.elim)
 refine hK.out _ _ (fun _ => hf12) ?_
 clear hK K hS0 cz
 iterate 2 refine tp _ rfl rfl ?_; simp only [es1, es2, es3]
 have hrow9 := hS2
 have cg9_5 : w2.cell? ⟨sb, 5, none⟩ = some (cS s 0) := by rw [cell_of_row w2 sb 5 _ _ _ hrow9]; rfl
 have fg9_5 := frozen_of_row w2 sb 5 _ _ hrow9
 have cg9_6 : w2.cell? ⟨sb, 6, none⟩ = some (cS s 1) := by rw [cell_of_row w2 sb 6 _ _ _ hrow9]; rfl
 have fg9_6 := frozen_of_row w2 sb 6 _ _ hrow9
 have cg9_7 : w2.cell? ⟨sb, 7, none⟩ = some (cS s 2) := by rw [cell_of_row w2 sb 7 _ _ _ hrow9]; rfl
 have fg9_7 := frozen_of_row w2 sb 7 _ _ hrow9
 have cg9_8 : w2.cell? ⟨sb, 8, none⟩ = some (cS s 3) := by rw [cell_of_row w2 sb 8 _ _ _ hrow9]; rfl
 have fg9_8 := frozen_of_row w2 sb 8 _ _ hrow9
 refine wpSeq_next rfl rfl (fun K hK => ?_)
 go_wp2_with fail
 have hq9 : Fr (fun x => x = sb) w2 (World.setCell (World.setCell (World.setCell (World.setCell w2 ⟨sb, 5, none⟩ (cS s2 0)) ⟨sb, 6, none⟩ (cS s2 1)) ⟨sb, 7, none⟩ (cS s2 2)) ⟨sb, 8, none⟩ (cS s2 3)) := ((((Fr.refl (fun x => x = sb) w2).setCell (p := ⟨sb, 5, none⟩) (.inl rfl) _).setCell (p := ⟨sb, 6, none⟩) (.inl rfl) _).setCell (p := ⟨sb, 7, none⟩) (.inl rfl) _).setCell (p := ⟨sb, 8, none⟩) (.inl rfl) _
 have hr9 := (row_put (row_put (row_put (row_put hrow9 5 (cS s2 0)) 6 (cS s2 1)) 7 (cS s2 2)) 8 (cS s2 3))
 have hs9 := hf12.trans hq9 (fun _ h => .inl h)
 refine hK.out _ _ (fun _ => hs9) ?_
 clear hK K cg9_5 fg9_5 cg9_6 fg9_6 cg9_7 fg9_7 cg9_8 fg9_8 hrow9
 generalize hW9 : (World.setCell (World.setCell (World.setCell (World.setCell w2 ⟨sb, 5, none⟩ (cS s2 0)) ⟨sb, 6, none⟩ (cS s2 1)) ⟨sb, 7, none⟩ (cS s2 2)) ⟨sb, 8, none⟩ (cS s2 3)) = w29 at hq9 hr9 hs9 ⊢
 clear hW9
 iterate 2 refine tp _ rfl rfl ?_; simp only [es1, es2, es3]
 have hrow12 := hr9
 have cg12_11 : w29.cell? ⟨sb, 11, none⟩ = some (.int .u64 (W64 lo)) := by rw [cell_of_row w29 sb 11 _ _ _ hrow12]; rfl
 have fg12_11 := frozen_of_row w29 sb 11 _ _ hrow12
 refine wpSeq_next rfl rfl (fun K hK => ?_)
 go_wp2_with fail
 have hq12 : Fr (fun x => x = sb) w29 (World.setCell w29 ⟨sb, 11, none⟩ (.int .u64 (W64 lo2))) := (Fr.refl (fun x => x = sb) w29).setCell (p := ⟨sb, 11, none⟩) (.inl rfl) _
 have hr12 := (row_put hrow12 11 (.int .u64 (W64 lo2)))
 have hs12 := hs9.trans hq12 (fun _ h => .inl h)
 refine hK.out _ _ (fun _ => hs12) ?_
 clear hK K cg12_11 fg12_11 hrow12
 generalize hW12 : (World.setCell w29 ⟨sb, 11, none⟩ (.int .u64 (W64 lo2))) = w32 at hq12 hr12 hs12 ⊢
 clear hW12
 iterate 2 refine tp _ rfl rfl ?_; simp only [es1, es2, es3]
 have hrow15 := hr12
 have cg15_10 : w32.cell? ⟨sb, 10, none⟩ = some (tv) := by rw [cell_of_row w32 sb 10 _ _ _ hrow15]; rfl
 have fg15_10 := frozen_of_row w32 sb 10 _ _ hrow15
 refine wpSeq_next rfl rfl (fun K hK => ?_)
 go_wp2_with fail
 have hq15 : Fr (fun x => x = sb) w32 (World.setCell w32 ⟨sb, 10, none⟩ (.slice a2 l.length c2)) := (Fr.refl (fun x => x = sb) w32).setCell (p := ⟨sb, 10, none⟩) (.inl rfl) _
 have hr15 := (row_put hrow15 10 (.slice a2 l.length c2))
 have hs15 := hs12.trans hq15 (fun _ h => .inl h)
 refine hK.out _ _ (fun _ => hs15) ?_
 clear hK K cg15_10 fg15_10 hrow15
 generalize hW15 : (World.setCell w32 ⟨sb, 10, none⟩ (.slice a2 l.length c2)) = w35 at hq15 hr15 hs15 ⊢
 clear hW15
 refine wpSeq_done ?_
 go_wp2_with fail
 go_ret
 have hall : Fr (fun x => x = sb) w2 w35 := (hq9.trans hq12 (fun _ h => .inl h)).trans hq15 (fun _ h => .inl h)
 exact ⟨_, rfl, hr15, (ho2.fr hall (fun x hx e => hS2.apart ho2 (by rw [hx, e]))).mono hF1.size, (hF1.mono (fun x _ f => f.elim)).trans hs15 (fun x h => .inl h)⟩
end Go.Proofs.YtidlpihoafnobaaGreatDoor.StG64
