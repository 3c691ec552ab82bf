/- ScoForm -/
import Derived.Test.YtidlpihoafnobaaGreatDoorPScoPlain
set_option linter.unusedVariables false
set_option linter.unusedSimpArgs false
namespace Go.Proofs.YtidlpihoafnobaaGreatDoor
set_option maxRecDepth 100000
open Go.RowKit
theorem wrong_err (e : Int) (he : e ≠ 0) (w : World) : Calls Tryz.prog 44 #[.int .i64 e] w (GivesErr e 0 w) := by
 go_enter Tryz.func44, Tryz.ntmps44
 go_wp2_with fail
 refine (Wrap_any e 0 he _).mono ?_
 rintro ev w' ⟨b, rfl, hp, hge, hf⟩
 go_wp2_with fail
 go_ret
 exact ⟨b, rfl, hp, hge, hf⟩
theorem wrong_ok (w : World) : Calls Tryz.prog 44 #[.int .i64 0] w (Gives .nilIface w) := by
 go_enter Tryz.func44, Tryz.ntmps44
 go_wp2_with fail
 refine (Wrap_ok 0 _).mono ?_
 rintro ev w' ⟨rfl, rfl⟩
 go_wp2_with fail
 go_ret
 exact ⟨rfl, rfl⟩
def GivesForm (b : Bytes) (w : World) (e : Ending) (w' : World) : Prop := (formN b = 0 ∧ e = .returned .nilIface ∧ Fr No w w') ∨ (¬ formN b = 0 ∧ GivesErr (formN b) 0 w e w')
set_option maxHeartbeats 4000000 in
theorem form_err {a : Option Addr} {n c : Nat} {b : Bytes} {w : World} (z : Int) (hz : formN b = z) (h0 : ¬ z = 0) (h : Calls Tryz.prog 19 #[.slice a n c] w (GivesErr z 0 w)) : Calls Tryz.prog 19 #[.slice a n c] w (GivesForm b w) := h.mono fun e w' h => .inr ⟨by rw [hz]; exact h0, by rw [hz]; exact h⟩
set_option maxHeartbeats 4000000 in
theorem form_short (a : Option Addr) (n c : Nat) (w : World) (h : n < 2) : Calls Tryz.prog 19 #[.slice a n c] w (GivesErr 3 0 w) := by
 rcases (show n = 0 ∨ n = 1 by omega) with rfl | rfl
 · clear h
   go_enter Tryz.func19, Tryz.ntmps19
   go_wp2_with fail
   refine (wrong_err 3 (by decide) _).mono ?_
   rintro ev w' ⟨pb, rfl, hp, hge, hf⟩
   go_wp2_with fail
   go_ret
   exact ⟨pb, rfl, hp, hge, hf⟩
 · clear h
   go_enter Tryz.func19, Tryz.ntmps19
   go_wp2_with fail
   refine (wrong_err 3 (by decide) _).mono ?_
   rintro ev w' ⟨pb, rfl, hp, hge, hf⟩
   go_wp2_with fail
   go_ret
   exact ⟨pb, rfl, hp, hge, hf⟩
set_option maxHeartbeats 4000000 in
theorem form_head (a : Option Addr) (n c : Nat) (b : Bytes) (w : World) (hb : IsBytes w a n c b) (h : 2 ≤ n) (h1 : ¬ b.getD 0 0 = 104#8) : Calls Tryz.prog 19 #[.slice a n c] w (GivesErr 5 0 w) := by
 obtain ⟨bb, off, rfl, hcell⟩ := hb.known (by omega)
 have c0 := hcell 0 (by omega)
 have c1 := hcell 1 (by omega)
 rw [Nat.add_zero] at c0
 clear hcell
 generalize b.getD 0 0 = y0 at c0 h1
 have e1 : (y0 == 104#8) = false := by simpa using h1
 have e2 := B8_ne104 h1
 clear hb
 rcases (show n = 2 ∨ 2 < n by omega) with h9 | h9
 · subst h9
   clear h
   go_enter Tryz.func19, Tryz.ntmps19
   go_wp2_with fail
   refine (wrong_err 5 (by decide) _).mono ?_
   rintro ev w' ⟨pb, rfl, hp, hge, hf⟩
   go_wp2_with fail
   go_ret
   exact ⟨pb, rfl, hp, hge, hf⟩
 · clear h
   have i2 : (2 : Int) < (n : Int) := by omega
   have i5 : (1 : Int) < (n : Int) := by omega
   have i6 : (0 : Int) < (n : Int) := by omega
   clear h9
   go_enter Tryz.func19, Tryz.ntmps19
   go_wp2_with fail
   refine (wrong_err 5 (by decide) _).mono ?_
   rintro ev w' ⟨pb, rfl, hp, hge, hf⟩
   go_wp2_with fail
   go_ret
   exact ⟨pb, rfl, hp, hge, hf⟩
set_option maxHeartbeats 4000000 in
theorem form_kind (a : Option Addr) (n c : Nat) (b : Bytes) (w : World) (hb : IsBytes w a n c b) (h : 2 ≤ n) (h1 : b.getD 0 0 = 104#8) (h2 : sizeN (B8 (b.getD 1 0)) = 0) : Calls Tryz.prog 19 #[.slice a n c] w (GivesErr 6 0 w) := by
 obtain ⟨bb, off, rfl, hcell⟩ := hb.known (by omega)
 have c0 := hcell 0 (by omega)
 have c1 := hcell 1 (by omega)
 rw [Nat.add_zero] at c0
 clear hcell
 generalize b.getD 0 0 = y0 at c0 h1
 subst h1
 have e0 : B8 104#8 = 104 := by decide
 rw [e0] at c0
 clear e0
 generalize b.getD 1 0 = y1 at c1 h2
 have hS := Size_any (B8 y1)
 rw [h2] at hS
 clear h2 hb
 rcases (show n = 2 ∨ 2 < n by omega) with h9 | h9
 · subst h9
   clear h
   go_enter Tryz.func19, Tryz.ntmps19
   go_wp2_with fail
   refine (hS _).mono ?_
   rintro ev w1 ⟨rfl, hf1⟩
   go_wp2_with fail
   refine (wrong_err 6 (by decide) _).mono ?_
   rintro ev w' ⟨pb, rfl, hp, hge, hf⟩
   go_wp2_with fail
   go_ret
   exact ⟨pb, rfl, hp, Nat.le_trans hf1.size hge, hf1.no hf⟩
 · clear h
   have i2 : (2 : Int) < (n : Int) := by omega
   have i5 : (1 : Int) < (n : Int) := by omega
   have i6 : (0 : Int) < (n : Int) := by omega
   clear h9
   go_enter Tryz.func19, Tryz.ntmps19
   go_wp2_with fail
   refine (hS _).mono ?_
   rintro ev w1 ⟨rfl, hf1⟩
   go_wp2_with fail
   refine (wrong_err 6 (by decide) _).mono ?_
   rintro ev w' ⟨pb, rfl, hp, hge, hf⟩
   go_wp2_with fail
   go_ret
   exact ⟨pb, rfl, hp, Nat.le_trans hf1.size hge, hf1.no hf⟩
set_option maxHeartbeats 4000000 in
theorem form_less (a : Option Addr) (n c : Nat) (b : Bytes) (w : World) (hb : IsBytes w a n c b) (h : 2 ≤ n) (h1 : b.getD 0 0 = 104#8) (h2 : ¬ sizeN (B8 (b.getD 1 0)) = 0) (h3 : n < 62) : Calls Tryz.prog 19 #[.slice a n c] w (GivesErr 3 0 w) := by
 obtain ⟨bb, off, rfl, hcell⟩ := hb.known (by omega)
 have c0 := hcell 0 (by omega)
 have c1 := hcell 1 (by omega)
 rw [Nat.add_zero] at c0
 clear hcell
 generalize b.getD 0 0 = y0 at c0 h1
 subst h1
 have e0 : B8 104#8 = 104 := by decide
 rw [e0] at c0
 clear e0
 generalize b.getD 1 0 = y1 at c1 h2
 have hS := Size_any (B8 y1)
 generalize sizeN (B8 y1) = sz at hS h2
 have e3 : (sz == 0) = false := by simpa using h2
 clear hb
 rcases (show n = 2 ∨ 2 < n by omega) with h9 | h9
 · subst h9
   clear h
   go_enter Tryz.func19, Tryz.ntmps19
   go_wp2_with fail
   refine (hS _).mono ?_
   rintro ev w1 ⟨rfl, hf1⟩
   go_wp2_with fail
   refine (wrong_err 3 (by decide) _).mono ?_
   rintro ev w' ⟨pb, rfl, hp, hge, hf⟩
   go_wp2_with fail
   go_ret
   exact ⟨pb, rfl, hp, Nat.le_trans hf1.size hge, hf1.no hf⟩
 · clear h
   have i2 : (2 : Int) < (n : Int) := by omega
   have i5 : (1 : Int) < (n : Int) := by omega
   have i6 : (0 : Int) < (n : Int) := by omega
   have i4 : (n : Int) < 62 := by omega
   clear h9
   go_enter Tryz.func19, Tryz.ntmps19
   go_wp2_with fail
   refine (hS _).mono ?_
   rintro ev w1 ⟨rfl, hf1⟩
   go_wp2_with fail
   refine (wrong_err 3 (by decide) _).mono ?_
   rintro ev w' ⟨pb, rfl, hp, hge, hf⟩
   go_wp2_with fail
   go_ret
   exact ⟨pb, rfl, hp, Nat.le_trans hf1.size hge, hf1.no hf⟩
set_option maxHeartbeats 4000000 in
theorem form_open (a : Option Addr) (n c : Nat) (b : Bytes) (w : World) (hb : IsBytes w a n c b) (h : 62 ≤ n) (h1 : b.getD 0 0 = 104#8) (h2 : ¬ sizeN (B8 (b.getD 1 0)) = 0) (hr : n ≤ 140737488355328) :
 Calls Tryz.prog 19 #[.slice a n c] w (fun e w' => ((openF b).2 = 0 ∧ e = .returned .nilIface ∧ Fr No w w') ∨ (¬ (openF b).2 = 0 ∧ GivesErr (openF b).2 0 w e w')) := by
 have hOp := fun w hb => Open_any a n c b w hb hr
 unfold GivesOpen at hOp
 generalize openF b = r at hOp ⊢
 obtain ⟨r1, z⟩ := r
 dsimp only at hOp ⊢
 obtain ⟨bb, off, rfl, hcell⟩ := hb.known (by omega)
 have c0 := hcell 0 (by omega)
 have c1 := hcell 1 (by omega)
 rw [Nat.add_zero] at c0
 clear hcell
 generalize b.getD 0 0 = y0 at c0 h1
 subst h1
 have e0 : B8 104#8 = 104 := by decide
 rw [e0] at c0
 clear e0
 generalize b.getD 1 0 = y1 at c1 h2
 have hS := Size_any (B8 y1)
 generalize sizeN (B8 y1) = sz at hS h2
 have e3 : (sz == 0) = false := by simpa using h2
 have i4 : ¬ (n : Int) < 62 := by omega
 have i2 : (2 : Int) < (n : Int) := by omega
 have i5 : (1 : Int) < (n : Int) := by omega
 have i6 : (0 : Int) < (n : Int) := by omega
 clear h hr
 go_enter Tryz.func19, Tryz.ntmps19
 go_wp2_with fail
 refine (hS _).mono ?_
 rintro ev w1 ⟨rfl, hf1⟩
 go_wp2_with fail
 refine (hOp _ (hb.no hf1)).mono ?_
 rintro ev w2 ⟨v2, rfl, hO2, hf2⟩
 obtain ⟨a2, c2, rfl, hb2, _⟩ := hO2.bytes
 have hF := hf1.no hf2
 by_cases hz : z = 0
 · subst hz
   go_wp2_with fail
   refine (wrong_ok _).mono ?_
   rintro ev w' ⟨rfl, rfl⟩
   go_wp2_with fail
   go_ret
   first | exact .inl ⟨rfl, rfl, hF⟩ | exact ⟨rfl, hF⟩
 · go_wp2_with fail
   refine (wrong_err z hz _).mono ?_
   rintro ev w' ⟨pb, rfl, hp, hge, hf⟩
   go_wp2_with fail
   go_ret
   exact .inr ⟨hz, pb, rfl, hp, Nat.le_trans hF.size hge, hF.no hf⟩
set_option maxHeartbeats 4000000 in
theorem form_any (a : Option Addr) (n c : Nat) (b : Bytes) (w : World) (hb : IsBytes w a n c b) (hr : n ≤ 140737488355328) : Calls Tryz.prog 19 #[.slice a n c] w (GivesForm b w) := by
 have hl := hb.1
 by_cases h1 : n < 2
 · exact form_err 3 (by unfold formN; rw [if_pos (by omega)]) (by decide) (form_short a n c w h1)
 by_cases h2 : b.getD 0 0 = 104#8
 · by_cases h3 : sizeN (B8 (b.getD 1 0)) = 0
   · exact form_err 6 (by unfold formN; rw [if_neg (by omega), if_neg (by simpa using h2), if_pos h3]) (by decide) (form_kind a n c b w hb (by omega) h2 h3)
   · by_cases h4 : n < 62
     · exact form_err 3 (by unfold formN; rw [if_neg (by omega), if_neg (by simpa using h2), if_neg h3, if_pos (by omega)]) (by decide) (form_less a n c b w hb (by omega) h2 h3 h4)
     · have hf : formN b = (openF b).2 := by unfold formN; rw [if_neg (by omega), if_neg (by simpa using h2), if_neg h3, if_neg (by omega)]
       have h5 := form_open a n c b w hb (by omega) h2 h3 hr
       rw [← hf] at h5
       exact h5
 · exact form_err 5 (by unfold formN; rw [if_neg (by omega), if_pos h2]) (by decide) (form_head a n c b w hb (by omega) h2)
def Row7 (w : World) (b : Nat) (T : TypeId) (v0 v1 v2 v3 v4 v5 v6 : Value) : Prop := w.heap[b]? = some (.cells #[v0, v1, v2, v3, v4, v5, v6] T (0, 0))
section
variable {w w' : World} {b : Nat} {T : TypeId} {v0 v1 v2 v3 v4 v5 v6 : Value}
theorem Row7.c0 (h : Row7 w b T v0 v1 v2 v3 v4 v5 v6) : w.cell? ⟨b, 0, none⟩ = some v0 := by rw [cell_of_row w b 0 _ _ _ h]; rfl
theorem Row7.put0 (h : Row7 w b T v0 v1 v2 v3 v4 v5 v6) (x : Value) : Row7 (w.setCell ⟨b, 0, none⟩ x) b T x v1 v2 v3 v4 v5 v6 := by unfold Row7; rw [heap_setCell_same w b 0 _ _ x h]; rfl
theorem Row7.c1 (h : Row7 w b T v0 v1 v2 v3 v4 v5 v6) : w.cell? ⟨b, 1, none⟩ = some v1 := by rw [cell_of_row w b 1 _ _ _ h]; rfl
theorem Row7.put1 (h : Row7 w b T v0 v1 v2 v3 v4 v5 v6) (x : Value) : Row7 (w.setCell ⟨b, 1, none⟩ x) b T v0 x v2 v3 v4 v5 v6 := by unfold Row7; rw [heap_setCell_same w b 1 _ _ x h]; rfl
theorem Row7.c2 (h : Row7 w b T v0 v1 v2 v3 v4 v5 v6) : w.cell? ⟨b, 2, none⟩ = some v2 := by rw [cell_of_row w b 2 _ _ _ h]; rfl
theorem Row7.put2 (h : Row7 w b T v0 v1 v2 v3 v4 v5 v6) (x : Value) : Row7 (w.setCell ⟨b, 2, none⟩ x) b T v0 v1 x v3 v4 v5 v6 := by unfold Row7; rw [heap_setCell_same w b 2 _ _ x h]; rfl
theorem Row7.c3 (h : Row7 w b T v0 v1 v2 v3 v4 v5 v6) : w.cell? ⟨b, 3, none⟩ = some v3 := by rw [cell_of_row w b 3 _ _ _ h]; rfl
theorem Row7.put3 (h : Row7 w b T v0 v1 v2 v3 v4 v5 v6) (x : Value) : Row7 (w.setCell ⟨b, 3, none⟩ x) b T v0 v1 v2 x v4 v5 v6 := by unfold Row7; rw [heap_setCell_same w b 3 _ _ x h]; rfl
theorem Row7.c4 (h : Row7 w b T v0 v1 v2 v3 v4 v5 v6) : w.cell? ⟨b, 4, none⟩ = some v4 := by rw [cell_of_row w b 4 _ _ _ h]; rfl
theorem Row7.put4 (h : Row7 w b T v0 v1 v2 v3 v4 v5 v6) (x : Value) : Row7 (w.setCell ⟨b, 4, none⟩ x) b T v0 v1 v2 v3 x v5 v6 := by unfold Row7; rw [heap_setCell_same w b 4 _ _ x h]; rfl
theorem Row7.c5 (h : Row7 w b T v0 v1 v2 v3 v4 v5 v6) : w.cell? ⟨b, 5, none⟩ = some v5 := by rw [cell_of_row w b 5 _ _ _ h]; rfl
theorem Row7.put5 (h : Row7 w b T v0 v1 v2 v3 v4 v5 v6) (x : Value) : Row7 (w.setCell ⟨b, 5, none⟩ x) b T v0 v1 v2 v3 v4 x v6 := by unfold Row7; rw [heap_setCell_same w b 5 _ _ x h]; rfl
theorem Row7.c6 (h : Row7 w b T v0 v1 v2 v3 v4 v5 v6) : w.cell? ⟨b, 6, none⟩ = some v6 := by rw [cell_of_row w b 6 _ _ _ h]; rfl
theorem Row7.put6 (h : Row7 w b T v0 v1 v2 v3 v4 v5 v6) (x : Value) : Row7 (w.setCell ⟨b, 6, none⟩ x) b T v0 v1 v2 v3 v4 v5 x := by unfold Row7; rw [heap_setCell_same w b 6 _ _ x h]; rfl
theorem Row7.fz (h : Row7 w b T v0 v1 v2 v3 v4 v5 v6) (k : Nat) : w.frozen? ⟨b, k, none⟩ = false := frozen_of_row w b k _ _ h
theorem Row7.no (h : Row7 w b T v0 v1 v2 v3 v4 v5 v6) (k : Fr No w w') : Row7 w' b T v0 v1 v2 v3 v4 v5 v6 := k.heap (fun h => h) h
theorem row7_new (w : World) (T : TypeId) (v0 v1 v2 v3 v4 v5 v6 : Value) : Row7 (w.alloc (.cells #[v0, v1, v2, v3, v4, v5, v6] T)) w.heap.size T v0 v1 v2 v3 v4 v5 v6 := heap_alloc_new w _
end
theorem row7_fr {w w' : World} {b : Nat} {T : TypeId} {v0 v1 v2 v3 v4 v5 v6 : Value} {F : Nat → Prop} (h : Row7 w b T v0 v1 v2 v3 v4 v5 v6) (k : Fr F w w') (hF : ¬ F b) : Row7 w' b T v0 v1 v2 v3 v4 v5 v6 := k.heap hF h
theorem row_put7 {w : World} {b : Nat} {T : TypeId} {v0 v1 v2 v3 v4 v5 v6 : Value} (h : Row7 w b T v0 v1 v2 v3 v4 v5 v6) (x0 x1 x2 x3 x4 x5 x6 : Value) : Row7 (((((((w.setCell ⟨b, 0, none⟩ x0).setCell ⟨b, 1, none⟩ x1).setCell ⟨b, 2, none⟩ x2).setCell ⟨b, 3, none⟩ x3).setCell ⟨b, 4, none⟩ x4).setCell ⟨b, 5, none⟩ x5).setCell ⟨b, 6, none⟩ x6) b T x0 x1 x2 x3 x4 x5 x6 := (((((((h.put0 x0).put1 x1).put2 x2).put3 x3).put4 x4).put5 x5).put6 x6)
theorem fr_put7 (w : World) (b : Nat) (x0 x1 x2 x3 x4 x5 x6 : Value) : Fr (fun x => x = b) w (((((((w.setCell ⟨b, 0, none⟩ x0).setCell ⟨b, 1, none⟩ x1).setCell ⟨b, 2, none⟩ x2).setCell ⟨b, 3, none⟩ x3).setCell ⟨b, 4, none⟩ x4).setCell ⟨b, 5, none⟩ x5).setCell ⟨b, 6, none⟩ x6) := ((((((((Fr.refl (fun x => x = b) w).setCell (p := ⟨b, 0, none⟩) (.inl rfl) x0).setCell (p := ⟨b, 1, none⟩) (.inl rfl) x1).setCell (p := ⟨b, 2, none⟩) (.inl rfl) x2).setCell (p := ⟨b, 3, none⟩) (.inl rfl) x3).setCell (p := ⟨b, 4, none⟩) (.inl rfl) x4).setCell (p := ⟨b, 5, none⟩) (.inl rfl) x5).setCell (p := ⟨b, 6, none⟩) (.inl rfl) x6)
set_option maxHeartbeats 4000000 in
theorem words_any (a : Option Addr) (n c : Nat) (i : Bytes) (w : World) (hb : IsBytes w a n c i) (h : 58 ≤ n) : Calls Tryz.prog 24 #[.slice a n c] w (GivesNew (.agg #[.int .u64 (W64 (wordB i 0)), .int .u64 (W64 (wordB i 1)), .int .u64 (W64 (wordB i 2)), .int .u64 (W64 (wordB i 3)), .int .u64 (W64 (wordB i 4)), .int .u64 (W64 (wordB i 5)), .int .u64 (W64 (wordB i 6))]) w) := by
 obtain ⟨x0, hx0⟩ : ∃ x, Hid (x = wordB i 0) := ⟨_, Lib.hid rfl⟩
 obtain ⟨x1, hx1⟩ : ∃ x, Hid (x = wordB i 1) := ⟨_, Lib.hid rfl⟩
 obtain ⟨x2, hx2⟩ : ∃ x, Hid (x = wordB i 2) := ⟨_, Lib.hid rfl⟩
 obtain ⟨x3, hx3⟩ : ∃ x, Hid (x = wordB i 3) := ⟨_, Lib.hid rfl⟩
 obtain ⟨x4, hx4⟩ : ∃ x, Hid (x = wordB i 4) := ⟨_, Lib.hid rfl⟩
 obtain ⟨x5, hx5⟩ : ∃ x, Hid (x = wordB i 5) := ⟨_, Lib.hid rfl⟩
 obtain ⟨x6, hx6⟩ : ∃ x, Hid (x = wordB i 6) := ⟨_, Lib.hid rfl⟩
 rw [← hx0.out, ← hx1.out, ← hx2.out, ← hx3.out, ← hx4.out, ← hx5.out, ← hx6.out]
 have hL : ∀ (j : Nat), j < 7 → ∀ w, IsBytes w a n c i → Calls Tryz.prog 54 #[.slice a n c, .int .i64 (2 + 8 * (j : Int))] w (Gives (.tuple #[.int .u64 (W64 (wordB i j)), .bool true]) w) := fun j hj w hb => by
  have h := Le64_yes a n c i (2 + 8 * (j : Int)) w hb (by omega) (by omega)
  rw [show (2 + 8 * (j : Int)).toNat = 2 + 8 * j by omega] at h
  exact h
 have hL0 : ∀ w, IsBytes w a n c i → Calls Tryz.prog 54 #[.slice a n c, .int .i64 2] w (Gives (.tuple #[.int .u64 (W64 x0), .bool true]) w) := fun w hb => by rw [hx0.out]; exact hL 0 (by omega) w hb
 have hL1 : ∀ w, IsBytes w a n c i → Calls Tryz.prog 54 #[.slice a n c, .int .i64 10] w (Gives (.tuple #[.int .u64 (W64 x1), .bool true]) w) := fun w hb => by rw [hx1.out]; exact hL 1 (by omega) w hb
 have hL2 : ∀ w, IsBytes w a n c i → Calls Tryz.prog 54 #[.slice a n c, .int .i64 18] w (Gives (.tuple #[.int .u64 (W64 x2), .bool true]) w) := fun w hb => by rw [hx2.out]; exact hL 2 (by omega) w hb
 have hL3 : ∀ w, IsBytes w a n c i → Calls Tryz.prog 54 #[.slice a n c, .int .i64 26] w (Gives (.tuple #[.int .u64 (W64 x3), .bool true]) w) := fun w hb => by rw [hx3.out]; exact hL 3 (by omega) w hb
 have hL4 : ∀ w, IsBytes w a n c i → Calls Tryz.prog 54 #[.slice a n c, .int .i64 34] w (Gives (.tuple #[.int .u64 (W64 x4), .bool true]) w) := fun w hb => by rw [hx4.out]; exact hL 4 (by omega) w hb
 have hL5 : ∀ w, IsBytes w a n c i → Calls Tryz.prog 54 #[.slice a n c, .int .i64 42] w (Gives (.tuple #[.int .u64 (W64 x5), .bool true]) w) := fun w hb => by rw [hx5.out]; exact hL 5 (by omega) w hb
 have hL6 : ∀ w, IsBytes w a n c i → Calls Tryz.prog 54 #[.slice a n c, .int .i64 50] w (Gives (.tuple #[.int .u64 (W64 x6), .bool true]) w) := fun w hb => by rw [hx6.out]; exact hL 6 (by omega) w hb
 clear hL
 have hA := row7_new w 60 (.int .u64 0) (.int .u64 0) (.int .u64 0) (.int .u64 0) (.int .u64 0) (.int .u64 0) (.int .u64 0)
 have hF := (Fr.refl No w).alloc (.cells #[.int .u64 0, .int .u64 0, .int .u64 0, .int .u64 0, .int .u64 0, .int .u64 0, .int .u64 0] 60)
 have hB := row7_new (w.alloc (.cells #[.int .u64 0, .int .u64 0, .int .u64 0, .int .u64 0, .int .u64 0, .int .u64 0, .int .u64 0] 60)) 60 (.int .u64 0) (.int .u64 0) (.int .u64 0) (.int .u64 0) (.int .u64 0) (.int .u64 0) (.int .u64 0)
 replace hA := hA.no ((Fr.refl No _).alloc (.cells #[.int .u64 0, .int .u64 0, .int .u64 0, .int .u64 0, .int .u64 0, .int .u64 0, .int .u64 0] 60))
 replace hF := hF.alloc (.cells #[.int .u64 0, .int .u64 0, .int .u64 0, .int .u64 0, .int .u64 0, .int .u64 0, .int .u64 0] 60)
 simp only [World.size_alloc] at hB
 go_enter Tryz.func24, Tryz.ntmps24
 go_upto_region 2 with fail
 have hge : w.heap.size < w.heap.size + 1 := by omega
 generalize w.heap.size + 1 = rb at hB hge ⊢
 obtain ⟨ob, hob⟩ : ∃ ob, ob = w.heap.size := ⟨_, rfl⟩
 have hoe : w.heap.size ≤ ob := by omega
 have hne : ob < rb := by omega
 rw [← hob] at hA ⊢
 clear hob
 generalize (w.alloc (.cells #[.int .u64 0, .int .u64 0, .int .u64 0, .int .u64 0, .int .u64 0, .int .u64 0, .int .u64 0] 60)).alloc (.cells #[.int .u64 0, .int .u64 0, .int .u64 0, .int .u64 0, .int .u64 0, .int .u64 0, .int .u64 0] 60) = w0 at hA hB hF ⊢
 have hb0 := hb.no hF
 have y0 := hB.fz 0
 have y1 := hB.fz 1
 have y2 := hB.fz 2
 have y3 := hB.fz 3
 have y4 := hB.fz 4
 have y5 := hB.fz 5
 have y6 := hB.fz 6
 have z0 := hB.c0
 have z1 := hB.c1
 have z2 := hB.c2
 have z3 := hB.c3
 have z4 := hB.c4
 have z5 := hB.c5
 have z6 := hB.c6
 go_wp2_with fail
 refine wp_loop_rounds 8 ?_
 rw [rounds_succ]
 go_wp2_with fail
 refine (hL0 _ hb0).mono ?_
 rintro ev w' ⟨rfl, rfl⟩
 go_wp2_with fail
 clear y0 y1 y2 y3 y4 y5 y6 z0 z1 z2 z3 z4 z5 z6
 have hB1 := hB.put0 (.int .u64 (W64 x0))
 have hP := (Fr.refl (fun q => q = rb) w0).setCell (p := ⟨rb, 0, none⟩) (.inl rfl) (.int .u64 (W64 x0))
 have hF1 := hF.trans hP (fun q hq => .inr (by omega))
 have hA1 := row7_fr hA hP (by omega)
 clear hP
 generalize w0.setCell ⟨rb, 0, none⟩ (.int .u64 (W64 x0)) = w1 at hB1 hF1 hA1 ⊢
 have hb1 := hb.no hF1
 have y0 := hB1.fz 0
 have y1 := hB1.fz 1
 have y2 := hB1.fz 2
 have y3 := hB1.fz 3
 have y4 := hB1.fz 4
 have y5 := hB1.fz 5
 have y6 := hB1.fz 6
 have z0 := hB1.c0
 have z1 := hB1.c1
 have z2 := hB1.c2
 have z3 := hB1.c3
 have z4 := hB1.c4
 have z5 := hB1.c5
 have z6 := hB1.c6
 rw [rounds_succ]
 go_wp2_with fail
 refine (hL1 _ hb1).mono ?_
 rintro ev w' ⟨rfl, rfl⟩
 go_wp2_with fail
 clear y0 y1 y2 y3 y4 y5 y6 z0 z1 z2 z3 z4 z5 z6
 have hB2 := hB1.put1 (.int .u64 (W64 x1))
 have hP := (Fr.refl (fun q => q = rb) w1).setCell (p := ⟨rb, 1, none⟩) (.inl rfl) (.int .u64 (W64 x1))
 have hF2 := hF1.trans hP (fun q hq => .inr (by omega))
 have hA2 := row7_fr hA1 hP (by omega)
 clear hP
 generalize w1.setCell ⟨rb, 1, none⟩ (.int .u64 (W64 x1)) = w2 at hB2 hF2 hA2 ⊢
 have hb2 := hb.no hF2
 have y0 := hB2.fz 0
 have y1 := hB2.fz 1
 have y2 := hB2.fz 2
 have y3 := hB2.fz 3
 have y4 := hB2.fz 4
 have y5 := hB2.fz 5
 have y6 := hB2.fz 6
 have z0 := hB2.c0
 have z1 := hB2.c1
 have z2 := hB2.c2
 have z3 := hB2.c3
 have z4 := hB2.c4
 have z5 := hB2.c5
 have z6 := hB2.c6
 rw [rounds_succ]
 go_wp2_with fail
 refine (hL2 _ hb2).mono ?_
 rintro ev w' ⟨rfl, rfl⟩
 go_wp2_with fail
 clear y0 y1 y2 y3 y4 y5 y6 z0 z1 z2 z3 z4 z5 z6
 have hB3 := hB2.put2 (.int .u64 (W64 x2))
 have hP := (Fr.refl (fun q => q = rb) w2).setCell (p := ⟨rb, 2, none⟩) (.inl rfl) (.int .u64 (W64 x2))
 have hF3 := hF2.trans hP (fun q hq => .inr (by omega))
 have hA3 := row7_fr hA2 hP (by omega)
 clear hP
 generalize w2.setCell ⟨rb, 2, none⟩ (.int .u64 (W64 x2)) = w3 at hB3 hF3 hA3 ⊢
 have hb3 := hb.no hF3
 have y0 := hB3.fz 0
 have y1 := hB3.fz 1
 have y2 := hB3.fz 2
 have y3 := hB3.fz 3
 have y4 := hB3.fz 4
 have y5 := hB3.fz 5
 have y6 := hB3.fz 6
 have z0 := hB3.c0
 have z1 := hB3.c1
 have z2 := hB3.c2
 have z3 := hB3.c3
 have z4 := hB3.c4
 have z5 := hB3.c5
 have z6 := hB3.c6
 rw [rounds_succ]
 go_wp2_with fail
 refine (hL3 _ hb3).mono ?_
 rintro ev w' ⟨rfl, rfl⟩
 go_wp2_with fail
 clear y0 y1 y2 y3 y4 y5 y6 z0 z1 z2 z3 z4 z5 z6
 have hB4 := hB3.put3 (.int .u64 (W64 x3))
 have hP := (Fr.refl (fun q => q = rb) w3).setCell (p := ⟨rb, 3, none⟩) (.inl rfl) (.int .u64 (W64 x3))
 have hF4 := hF3.trans hP (fun q hq => .inr (by omega))
 have hA4 := row7_fr hA3 hP (by omega)
 clear hP
 generalize w3.setCell ⟨rb, 3, none⟩ (.int .u64 (W64 x3)) = w4 at hB4 hF4 hA4 ⊢
 have hb4 := hb.no hF4
 have y0 := hB4.fz 0
 have y1 := hB4.fz 1
 have y2 := hB4.fz 2
 have y3 := hB4.fz 3
 have y4 := hB4.fz 4
 have y5 := hB4.fz 5
 have y6 := hB4.fz 6
 have z0 := hB4.c0
 have z1 := hB4.c1
 have z2 := hB4.c2
 have z3 := hB4.c3
 have z4 := hB4.c4
 have z5 := hB4.c5
 have z6 := hB4.c6
 rw [rounds_succ]
 go_wp2_with fail
 refine (hL4 _ hb4).mono ?_
 rintro ev w' ⟨rfl, rfl⟩
 go_wp2_with fail
 clear y0 y1 y2 y3 y4 y5 y6 z0 z1 z2 z3 z4 z5 z6
 have hB5 := hB4.put4 (.int .u64 (W64 x4))
 have hP := (Fr.refl (fun q => q = rb) w4).setCell (p := ⟨rb, 4, none⟩) (.inl rfl) (.int .u64 (W64 x4))
 have hF5 := hF4.trans hP (fun q hq => .inr (by omega))
 have hA5 := row7_fr hA4 hP (by omega)
 clear hP
 generalize w4.setCell ⟨rb, 4, none⟩ (.int .u64 (W64 x4)) = w5 at hB5 hF5 hA5 ⊢
 have hb5 := hb.no hF5
 have y0 := hB5.fz 0
 have y1 := hB5.fz 1
 have y2 := hB5.fz 2
 have y3 := hB5.fz 3
 have y4 := hB5.fz 4
 have y5 := hB5.fz 5
 have y6 := hB5.fz 6
 have z0 := hB5.c0
 have z1 := hB5.c1
 have z2 := hB5.c2
 have z3 := hB5.c3
 have z4 := hB5.c4
 have z5 := hB5.c5
 have z6 := hB5.c6
 rw [rounds_succ]
 go_wp2_with fail
 refine (hL5 _ hb5).mono ?_
 rintro ev w' ⟨rfl, rfl⟩
 go_wp2_with fail
 clear y0 y1 y2 y3 y4 y5 y6 z0 z1 z2 z3 z4 z5 z6
 have hB6 := hB5.put5 (.int .u64 (W64 x5))
 have hP := (Fr.refl (fun q => q = rb) w5).setCell (p := ⟨rb, 5, none⟩) (.inl rfl) (.int .u64 (W64 x5))
 have hF6 := hF5.trans hP (fun q hq => .inr (by omega))
 have hA6 := row7_fr hA5 hP (by omega)
 clear hP
 generalize w5.setCell ⟨rb, 5, none⟩ (.int .u64 (W64 x5)) = w6 at hB6 hF6 hA6 ⊢
 have hb6 := hb.no hF6
 have y0 := hB6.fz 0
 have y1 := hB6.fz 1
 have y2 := hB6.fz 2
 have y3 := hB6.fz 3
 have y4 := hB6.fz 4
 have y5 := hB6.fz 5
 have y6 := hB6.fz 6
 have z0 := hB6.c0
 have z1 := hB6.c1
 have z2 := hB6.c2
 have z3 := hB6.c3
 have z4 := hB6.c4
 have z5 := hB6.c5
 have z6 := hB6.c6
 rw [rounds_succ]
 go_wp2_with fail
 refine (hL6 _ hb6).mono ?_
 rintro ev w' ⟨rfl, rfl⟩
 go_wp2_with fail
 clear y0 y1 y2 y3 y4 y5 y6 z0 z1 z2 z3 z4 z5 z6
 have hB7 := hB6.put6 (.int .u64 (W64 x6))
 have hP := (Fr.refl (fun q => q = rb) w6).setCell (p := ⟨rb, 6, none⟩) (.inl rfl) (.int .u64 (W64 x6))
 have hF7 := hF6.trans hP (fun q hq => .inr (by omega))
 have hA7 := row7_fr hA6 hP (by omega)
 clear hP
 generalize w6.setCell ⟨rb, 6, none⟩ (.int .u64 (W64 x6)) = w7 at hB7 hF7 hA7 ⊢
 have hb7 := hb.no hF7
 have y0 := hB7.fz 0
 have y1 := hB7.fz 1
 have y2 := hB7.fz 2
 have y3 := hB7.fz 3
 have y4 := hB7.fz 4
 have y5 := hB7.fz 5
 have y6 := hB7.fz 6
 have z0 := hB7.c0
 have z1 := hB7.c1
 have z2 := hB7.c2
 have z3 := hB7.c3
 have z4 := hB7.c4
 have z5 := hB7.c5
 have z6 := hB7.c6
 have o0 := hA7.fz 0
 have o1 := hA7.fz 1
 have o2 := hA7.fz 2
 have o3 := hA7.fz 3
 have o4 := hA7.fz 4
 have o5 := hA7.fz 5
 have o6 := hA7.fz 6
 have q0 := hA7.c0
 have q1 := hA7.c1
 have q2 := hA7.c2
 have q3 := hA7.c3
 have q4 := hA7.c4
 have q5 := hA7.c5
 have q6 := hA7.c6
 rw [rounds_succ]
 go_wp2_with fail
 have hR := row_put7 hA7 (.int .u64 (W64 x0)) (.int .u64 (W64 x1)) (.int .u64 (W64 x2)) (.int .u64 (W64 x3)) (.int .u64 (W64 x4)) (.int .u64 (W64 x5)) (.int .u64 (W64 x6))
 have hP := fr_put7 w7 ob (.int .u64 (W64 x0)) (.int .u64 (W64 x1)) (.int .u64 (W64 x2)) (.int .u64 (W64 x3)) (.int .u64 (W64 x4)) (.int .u64 (W64 x5)) (.int .u64 (W64 x6))
 have cd0 := hR.c0
 have cd1 := hR.c1
 have cd2 := hR.c2
 have cd3 := hR.c3
 have cd4 := hR.c4
 have cd5 := hR.c5
 have cd6 := hR.c6
 refine bodyPost_ret (v := .agg #[.int .u64 (W64 x0), .int .u64 (W64 x1), .int .u64 (W64 x2), .int .u64 (W64 x3), .int .u64 (W64 x4), .int .u64 (W64 x5), .int .u64 (W64 x6)]) (by simp [results, Tryz.results24, go_sem, cd0, cd1, cd2, cd3, cd4, cd5, cd6]) rfl ?_
 exact ⟨rfl, hF7.trans hP (fun q hq => .inr (by omega))⟩
end Go.Proofs.YtidlpihoafnobaaGreatDoor
