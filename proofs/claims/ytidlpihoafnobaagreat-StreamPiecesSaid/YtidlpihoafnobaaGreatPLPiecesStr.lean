/- RestM64 HashM64 StrHM64 HashSip StrHSip HashM86 StrHM86 StrAny LPiecesStr -/
import Derived.Deep.Cut
import Derived.Test.YtidlpihoafnobaaGreatPStrHX32Ax
import Derived.Test.YtidlpihoafnobaaGreatPLOneStr
set_option linter.unusedVariables false
set_option linter.unusedSimpArgs false
namespace Go.Proofs.YtidlpihoafnobaaGreat.StM64
set_option maxRecDepth 100000
open Go.RowKit
def Resets (base sb : Nat) (size : Int) (f : ST) (q : Nat) (tv : Value) (w : World) (e : Ending) (w' : World) : Prop :=
 e = .returned (.tuple #[]) ∧ StreamAt w' sb size f f q (.slice none 0 0) 0#64 ∧ Fr (fun x => x = sb) w w'
theorem Reset_any {w : World} {sb : Nat} {size : Int} {f s : ST} {q : Nat} {tv : Value} {lo : BitVec 64} (base : Nat) (hst : StreamAt w sb size f s q tv lo) : Calls Tryz.prog 281 #[.pointer (some ⟨sb, 0, none⟩)] w (Resets base sb size f q tv w) := by
 have cf0 : w.cell? ⟨sb, 1, none⟩ = some (cS f 0) := hst.cell 1 rfl
 have cf1 : w.cell? ⟨sb, 2, none⟩ = some (cS f 1) := hst.cell 2 rfl
 have cn0 : w.cell? ⟨sb, 3, none⟩ = some (cS s 0) := hst.cell 3 rfl
 have cn1 : w.cell? ⟨sb, 4, none⟩ = some (cS s 1) := hst.cell 4 rfl
 have ctl : w.cell? ⟨sb, 6, none⟩ = some (tv) := hst.cell 6 rfl
 have clo : w.cell? ⟨sb, 7, none⟩ = some (.int .u64 (W64 lo)) := hst.cell 7 rfl
 have fz3 := hst.frozen 3
 have fz4 := hst.frozen 4
 have fz5 := hst.frozen 5
 have fz6 := hst.frozen 6
 have fz7 := hst.frozen 7
 go_enter Tryz.func281, Tryz.ntmps281
 go_wp2_with (go_at_call 198; refine (made_any hst).mono ?_; rintro e w' ⟨rfl, rfl⟩)
 go_end0
 exact ⟨rfl, (row_put (row_put (row_put (row_put hst 3 (cS f 0)) 4 (cS f 1)) 6 (.slice none 0 0)) 7 (.int .u64 0)), ((((Fr.refl (fun x => x = sb) w).setCell (p := ⟨sb, 3, none⟩) (.inl rfl) _).setCell (p := ⟨sb, 4, none⟩) (.inl rfl) _).setCell (p := ⟨sb, 6, none⟩) (.inl rfl) _).setCell (p := ⟨sb, 7, none⟩) (.inl rfl) _⟩
end Go.Proofs.YtidlpihoafnobaaGreat.StM64
namespace Go.Proofs.YtidlpihoafnobaaGreat.StM64
set_option maxRecDepth 100000
open Go.RowKit
theorem Reset_h {w0 w : World} {hb sb : Nat} {sd : BitVec 32} {s : ST} {tl : Bytes} {lo : BitVec 64} {tv : Value} (h : HLive w0 w hb sb sd s tl lo tv) : Calls Tryz.prog 277 #[.pointer (some ⟨hb, 0, none⟩)] w
 (fun e w' => e = .returned (.tuple #[]) ∧ HLive w0 w' hb sb sd (firstF sd) [] 0#64 (.slice none 0 0) ∧ Fr (fun x => x = sb) w w') := by
 have cc := h.cell
 go_enter Tryz.func277, Tryz.ntmps277
 go_wp2_with (go_at_call 136; refine (made_h h).mono ?_; rintro e w' ⟨rfl, rfl⟩)
 refine (Reset_any w0.heap.size h.on.st).mono ?_
 rintro e w2 ⟨rfl, hst, hfr⟩
 have hne : hb ≠ sb := fun e => h.ne (.inl e)
 have hH : HLive w0 w2 hb sb sd (firstF sd) [] 0#64 (.slice none 0 0) :=
  ⟨⟨hst, Owns.nil _ _, h.on.ge, h.on.fr.trans hfr (fun x hx => .inr (by have := h.on.ge; omega))⟩, hfr.heap hne h.hc, h.ge, (fun g => by rcases g with g | g; exact hne g; simp [Value.ownBlock] at g), by simp⟩
 clear cc
 go_wp2_with fail
 go_end0
 exact ⟨rfl, hH, hfr⟩
end Go.Proofs.YtidlpihoafnobaaGreat.StM64
namespace Go.Proofs.YtidlpihoafnobaaGreat.StM64
set_option maxRecDepth 100000
open Go.RowKit
theorem HS.reset {w0 w : World} {hb : Nat} {F : Nat → Prop} {k : Int} {kh kl : BitVec 64} {s : ST} {tl : Bytes} {lo : BitVec 64} (h : HS w0 w hb (F) k kh kl s tl lo) :
 Calls Tryz.prog 26 #[.pointer (some ⟨hb, 0, none⟩)] w (fun e w' => e = .returned (.int .i64 0) ∧ ∃ F', HS w0 w' hb F' k kh kl (firstF (kl.setWidth 32)) [] 0#64 ∧ Fr F w w' ∧ ∀ x, F' x → F x) := by
 obtain ⟨ib, sb, tv, c6, c7, c8, c9, c10, c11, hr, hc, hL, rfl⟩ := h
 refine hReset_of hr.c3 277 (fun W => by kernel_rfl) (calls_enter Tryz.func277 (by kernel_rfl) (by kernel_rfl)) ((Reset_h hL).mono ?_)
 rintro e w' ⟨rfl, hL', hf⟩
 have hK := hL.on.con
 have hf2 : Fr (Foot sb tv) w w' := hf.mono (fun x _ g => .inl g)
 refine ⟨rfl, _, ⟨ib, sb, _, c6, c7, c8, c9, c10, c11, hr.fr hf2 hK, (hc.fr hf2 (hK) (by decide)), hL', rfl⟩, hf2, fun x hx => ?_⟩
 rcases hx with rfl | hx
 · exact .inl rfl
 · simp [Value.ownBlock] at hx
end Go.Proofs.YtidlpihoafnobaaGreat.StM64
namespace Go.Proofs.YtidlpihoafnobaaGreat.StSip
set_option maxRecDepth 100000
open Go.Proofs.YtidlpihoafnobaaGreat.StG64
open Go.RowKit
theorem Reset_h {w0 w : World} {hb sb : Nat} {kd : Int} {kh kl : BitVec 64} {q : Nat} {s : ST} {tl : Bytes} {lo : BitVec 64} {tv : Value} (h : HLive w0 w hb sb kd kh kl q s tl lo tv) : Calls Tryz.prog 299 #[.pointer (some ⟨hb, 0, none⟩)] w
 (fun e w' => e = .returned (.tuple #[]) ∧ HLive w0 w' hb sb kd kh kl q (firstF kd kh kl) [] 0#64 (.slice none 0 0) ∧ Fr (fun x => x = sb) w w') := by
 have cc := h.cell
 go_enter Tryz.func299, Tryz.ntmps299
 go_wp2_with (go_at_call 220; refine (made_h h).mono ?_; rintro e w' ⟨rfl, rfl⟩)
 refine (Reset_any w0.heap.size h.on.st).mono ?_
 rintro e w2 ⟨rfl, hst, hfr⟩
 have hne : hb ≠ sb := fun e => h.ne (.inl e)
 have hH : HLive w0 w2 hb sb kd kh kl q (firstF kd kh kl) [] 0#64 (.slice none 0 0) :=
  ⟨⟨hst, Owns.nil _ _, h.on.ge, h.on.fr.trans hfr (fun x hx => .inr (by have := h.on.ge; omega))⟩, hfr.heap hne h.hc, h.ge, (fun g => by rcases g with g | g; exact hne g; simp [Value.ownBlock] at g), by simp, (h.on.con.sub (fun x hx => .inl hx)).fr hfr h.hq ⟨_, _, rfl, by decide⟩, h.kk⟩
 clear cc
 go_wp2_with fail
 go_end0
 exact ⟨rfl, hH, hfr⟩
end Go.Proofs.YtidlpihoafnobaaGreat.StSip
namespace Go.Proofs.YtidlpihoafnobaaGreat.StSip
open Go.Proofs.YtidlpihoafnobaaGreat.StG64
set_option maxRecDepth 100000
open Go.RowKit
theorem HS.reset {w0 w : World} {hb : Nat} {F : Nat → Prop} {k : Int} {kh kl : BitVec 64} {s : ST} {tl : Bytes} {lo : BitVec 64} {sz : Nat} (h : HS w0 w hb (F) k kh kl s tl lo sz) :
 Calls Tryz.prog 26 #[.pointer (some ⟨hb, 0, none⟩)] w (fun e w' => e = .returned (.int .i64 0) ∧ ∃ F', HS w0 w' hb F' k kh kl (firstF k kh kl) [] 0#64 sz ∧ Fr F w w' ∧ ∀ x, F' x → F x) := by
 obtain ⟨ib, sb, tv, c6, c7, c8, c9, c10, c11, q, c5, hr, hc, hL, rfl⟩ := h
 refine hReset_of hr.c3 299 (fun W => by kernel_rfl) (calls_enter Tryz.func299 (by kernel_rfl) (by kernel_rfl)) ((Reset_h hL).mono ?_)
 rintro e w' ⟨rfl, hL', hf⟩
 have hK := hL.on.con
 have hf2 : Fr (Foot sb tv) w w' := hf.mono (fun x _ g => .inl g)
 refine ⟨rfl, _, ⟨ib, sb, _, c6, c7, c8, c9, c10, c11, q, c5, hr.fr hf2 hK, ⟨hc.1.fr hf2 (hK) (by decide), hc.2.con hf2 (hK) (by decide)⟩, hL', rfl⟩, hf2, fun x hx => ?_⟩
 rcases hx with rfl | hx
 · exact .inl rfl
 · simp [Value.ownBlock] at hx
end Go.Proofs.YtidlpihoafnobaaGreat.StSip
namespace Go.Proofs.YtidlpihoafnobaaGreat.StM86
set_option maxRecDepth 100000
open Go.Proofs.YtidlpihoafnobaaGreat.StG32
open Go.RowKit
theorem Reset_h {w0 w : World} {hb sb : Nat} {sd : BitVec 32} {s : ST} {tl : Bytes} {lo : BitVec 64} {tv : Value} (h : HLive w0 w hb sb sd s tl lo tv) : Calls Tryz.prog 269 #[.pointer (some ⟨hb, 0, none⟩)] w
 (fun e w' => e = .returned (.tuple #[]) ∧ HLive w0 w' hb sb sd (firstF sd) [] 0#64 (.slice none 0 0) ∧ Fr (fun x => x = sb) w w') := by
 have cc := h.cell
 go_enter Tryz.func269, Tryz.ntmps269
 go_wp2_with (go_at_call 123; refine (made_h h).mono ?_; rintro e w' ⟨rfl, rfl⟩)
 refine (Reset_any w0.heap.size h.on.st).mono ?_
 rintro e w2 ⟨rfl, hst, hfr⟩
 have hne : hb ≠ sb := fun e => h.ne (.inl e)
 have hH : HLive w0 w2 hb sb sd (firstF sd) [] 0#64 (.slice none 0 0) :=
  ⟨⟨hst, Owns.nil _ _, h.on.ge, h.on.fr.trans hfr (fun x hx => .inr (by have := h.on.ge; omega))⟩, hfr.heap hne h.hc, h.ge, (fun g => by rcases g with g | g; exact hne g; simp [Value.ownBlock] at g), by simp⟩
 clear cc
 go_wp2_with fail
 go_end0
 exact ⟨rfl, hH, hfr⟩
end Go.Proofs.YtidlpihoafnobaaGreat.StM86
namespace Go.Proofs.YtidlpihoafnobaaGreat.StM86
open Go.Proofs.YtidlpihoafnobaaGreat.StG32
set_option maxRecDepth 100000
open Go.RowKit
theorem HS.reset {w0 w : World} {hb : Nat} {F : Nat → Prop} {k : Int} {kh kl : BitVec 64} {s : ST} {tl : Bytes} {lo : BitVec 64} (h : HS w0 w hb (F) k kh kl s tl lo) :
 Calls Tryz.prog 26 #[.pointer (some ⟨hb, 0, none⟩)] w (fun e w' => e = .returned (.int .i64 0) ∧ ∃ F', HS w0 w' hb F' k kh kl (firstF (kl.setWidth 32)) [] 0#64 ∧ Fr F w w' ∧ ∀ x, F' x → F x) := by
 obtain ⟨ib, sb, tv, c6, c7, c8, c9, c10, c11, hr, hc, hL, rfl⟩ := h
 refine hReset_of hr.c3 269 (fun W => by kernel_rfl) (calls_enter Tryz.func269 (by kernel_rfl) (by kernel_rfl)) ((Reset_h hL).mono ?_)
 rintro e w' ⟨rfl, hL', hf⟩
 have hK := hL.on.con
 have hf2 : Fr (Foot sb tv) w w' := hf.mono (fun x _ g => .inl g)
 refine ⟨rfl, _, ⟨ib, sb, _, c6, c7, c8, c9, c10, c11, hr.fr hf2 hK, (hc.fr hf2 (hK) (by decide)), hL', rfl⟩, hf2, fun x hx => ?_⟩
 rcases hx with rfl | hx
 · exact .inl rfl
 · simp [Value.ownBlock] at hx
end Go.Proofs.YtidlpihoafnobaaGreat.StM86
namespace Go.Proofs.YtidlpihoafnobaaGreat
set_option maxRecDepth 100000
open Go.RowKit
theorem HSAny.reset {w0 w : World} {hb : Nat} {F : Nat → Prop} {k : Int} {kh kl : BitVec 64} {s : HSt} {tl : Bytes} {lo : BitVec 64} (h : HSAny w0 w hb F k kh kl s tl lo)  :
 Calls Tryz.prog 26 #[.pointer (some ⟨hb, 0, none⟩)] w (fun e w' => e = .returned (.int .i64 0) ∧ ∃ F', HSAny w0 w' hb F' k kh kl (firstS k kh kl) [] 0#64 ∧ Fr F w w' ∧ ∀ x, F' x → F x) := by
 cases s with
 | m32 s =>
  obtain ⟨hk, h⟩ := h
  refine h.reset.mono ?_
  rintro e w' ⟨rfl, F', h', r⟩
  refine ⟨rfl, F', ?_, r⟩
  subst hk
  rw [firstS_m32]
  exact ⟨rfl, h'⟩
 | m86 s =>
  obtain ⟨hk, h⟩ := h
  refine h.reset.mono ?_
  rintro e w' ⟨rfl, F', h', r⟩
  refine ⟨rfl, F', ?_, r⟩
  subst hk
  rw [firstS_m86]
  exact ⟨rfl, h'⟩
 | m64 s =>
  obtain ⟨hk, h⟩ := h
  refine h.reset.mono ?_
  rintro e w' ⟨rfl, F', h', r⟩
  refine ⟨rfl, F', ?_, r⟩
  subst hk
  rw [firstS_m64]
  exact ⟨rfl, h'⟩
 | x32 s =>
  obtain ⟨hk, h⟩ := h
  refine h.reset.mono ?_
  rintro e w' ⟨rfl, F', h', r⟩
  refine ⟨rfl, F', ?_, r⟩
  subst hk
  rw [firstS_x32]
  exact ⟨rfl, h'⟩
 | x64 s =>
  obtain ⟨hk, h⟩ := h
  refine h.reset.mono ?_
  rintro e w' ⟨rfl, F', h', r⟩
  refine ⟨rfl, F', ?_, r⟩
  subst hk
  rw [firstS_x64]
  exact ⟨rfl, h'⟩
 | sip s =>
  obtain ⟨hk, h⟩ := h
  refine h.reset.mono ?_
  rintro e w' ⟨rfl, F', h', r⟩
  refine ⟨rfl, F', ?_, r⟩
  rw [firstS_sip hk]
  exact ⟨hk, h'⟩
theorem HDone.reset {w0 w : World} {hb : Nat} {F : Nat → Prop} {k : Int} {kh kl : BitVec 64} {d : Bytes} (h : HDone w0 w hb F k kh kl d) : Calls Tryz.prog 26 #[.pointer (some ⟨hb, 0, none⟩)] w (fun e w' => e = .returned (.int .i64 0) ∧ ∃ F', HDone w0 w' hb F' k kh kl [] ∧ Fr F w w' ∧ ∀ x, F' x → F x) := by
 refine (HSAny.reset h).mono ?_
 rintro e w' ⟨rfl, F', h', r⟩
 exact ⟨rfl, F', HDone_nil h', r⟩
end Go.Proofs.YtidlpihoafnobaaGreat
namespace Go.Proofs.YtidlpihoafnobaaGreat
set_option maxRecDepth 100000
open Go.RowKit
theorem OwnsSl.fr {F : Nat → Prop} {w w' : World} {base : Nat} {v : Value} {vs : List Value} (h : OwnsSl w base v vs) (k : Fr F w w') (hF : ∀ x, v.ownBlock = some x → ¬ F x) : OwnsSl w' base v vs := by
 refine ⟨h.1, ?_⟩
 rcases h.2 with hn | ⟨g, cap, cur, rfl, hb, hg, r⟩
 · exact .inl hn
 · exact .inr ⟨g, cap, cur, rfl, hb, k.heap (hF g rfl) hg, r⟩
def done (xs : List Bytes) (k : Nat) : Bytes := (xs.take k).flatten
theorem done_next (xs : List Bytes) (k : Nat) (h : k < xs.length) : done xs (k + 1) = done xs k ++ xs.getD k [] := by
 unfold done
 rw [List.take_succ_eq_append_getElem h, List.flatten_append, List.getD_eq_getElem?_getD, List.getElem?_eq_getElem h]
 simp
theorem done_take (xs : List Bytes) (k : Nat) : done xs k = xs.flatten.take (done xs k).length := by
 unfold done
 conv => rhs; rw [← List.take_append_drop k xs, List.flatten_append]
 simp
theorem done_le (xs : List Bytes) (k : Nat) : (done xs k).length ≤ xs.flatten.length := by
 rw [done_take xs k]; simp
 omega
def LawAt (w0 : World) (hb : Nat) (k : Int) (kh kl : BitVec 64) (ub : Nat) (v : Value) (base : Nat) (vs : List Value) (xs : List Bytes) (long i : Value) (wr : World) (n : Nat) : Prop :=
 ∃ F, n ≤ vs.length ∧ i = .int .i64 n ∧ long = .int .i64 ((done xs n).length : Nat) ∧ HDone w0 wr hb F k kh kl (done xs n) ∧ OwnsSl wr base v vs ∧ (∀ x, v.ownBlock = some x → ¬ F x ∧ x < wr.heap.size) ∧ Row2 wr ub 24 (.int .u64 (W64 kh)) (.int .u64 (W64 kl))
set_option maxHeartbeats 1000000 in
theorem StreamPieces_long (k : Int) (kh kl : BitVec 64) (a1 : Option Addr) (n1 c1 : Nat) (l1 : Bytes) (a2 : Option Addr) (n2 c2 : Nat) (l2 : List Int) (w : World) (h : 500 < n1 ∨ 30 < n2 ∨ ¬ checkN k kh kl = 0) : Calls Tryz.prog 4 #[.int .i64 k, .agg #[.int .u64 (W64 kh), .int .u64 (W64 kl)], .slice a1 n1 c1, .slice a2 n2 c2] w (Yes w) := by
 have hC := refCheck_any k kh kl
 generalize checkN k kh kl = z at hC h
 by_cases h1 : 500 < n1
 · have i1 : (500 : Int) < (n1 : Int) := by omega
   clear h h1 hC
   have hU := row2_new w 24 (.int .u64 (W64 kh)) (.int .u64 (W64 kl))
   have hF := (Fr.refl No w).alloc (.cells #[.int .u64 (W64 kh), .int .u64 (W64 kl)] 24)
   have u0 := hU.c0
   have u1 := hU.c1
   go_enter Tryz.func4, Tryz.ntmps4
   go_wp2_with fail
   refine (strAwake_yes _).mono ?_
   rintro e w1 ⟨rfl, hf1⟩
   go_wp2_with fail
   go_ret
   exact ⟨rfl, hF.no hf1⟩
 have i1 : (n1 : Int) ≤ 500 := by omega
 by_cases h2 : 30 < n2
 · have i2 : (30 : Int) < (n2 : Int) := by omega
   clear h h1 h2 hC
   have hU := row2_new w 24 (.int .u64 (W64 kh)) (.int .u64 (W64 kl))
   have hF := (Fr.refl No w).alloc (.cells #[.int .u64 (W64 kh), .int .u64 (W64 kl)] 24)
   have u0 := hU.c0
   have u1 := hU.c1
   go_enter Tryz.func4, Tryz.ntmps4
   go_wp2_with fail
   refine (strAwake_yes _).mono ?_
   rintro e w1 ⟨rfl, hf1⟩
   go_wp2_with fail
   go_ret
   exact ⟨rfl, hF.no hf1⟩
 have i2 : (n2 : Int) ≤ 30 := by omega
 have hz : (z != 0) = true := by simp only [bne_iff_ne, ne_eq]; omega
 clear h h1 h2
 have hU := row2_new w 24 (.int .u64 (W64 kh)) (.int .u64 (W64 kl))
 have hF := (Fr.refl No w).alloc (.cells #[.int .u64 (W64 kh), .int .u64 (W64 kl)] 24)
 have u0 := hU.c0
 have u1 := hU.c1
 go_enter Tryz.func4, Tryz.ntmps4
 go_wp2_with fail
 refine (strAwake_yes _).mono ?_
 rintro e w1 ⟨rfl, hf1⟩
 replace hU := hU.no hf1
 replace hF := hF.no hf1
 clear u0 u1
 have u0 := hU.c0
 have u1 := hU.c1
 go_wp2_with fail
 refine (hC _).mono ?_
 rintro e w2 ⟨rfl, hf2⟩
 go_wp2_with fail
 go_ret
 exact ⟨rfl, hF.no hf2⟩
set_option maxHeartbeats 4000000 in
theorem StreamPieces_yes (k : Int) (kh kl : BitVec 64) (a1 : Option Addr) (n1 c1 : Nat) (l1 : Bytes) (a2 : Option Addr) (n2 c2 : Nat) (l2 : List Int) (w : World) (hb1 : IsBytes w a1 n1 c1 l1) (hb2 : IsInts w a2 n2 c2 l2) :
 Calls Tryz.prog 4 #[.int .i64 k, .agg #[.int .u64 (W64 kh), .int .u64 (W64 kl)], .slice a1 n1 c1, .slice a2 n2 c2] w (Yes w) := by
 by_cases hbig : 500 < n1 ∨ 30 < n2 ∨ ¬ checkN k kh kl = 0
 · exact StreamPieces_long k kh kl a1 n1 c1 l1 a2 n2 c2 l2 w hbig
 have i1 : (n1 : Int) ≤ 500 := by omega
 have i2 : (n2 : Int) ≤ 30 := by omega
 have m1 : n1 ≤ 500 := by omega
 have m2 : n2 ≤ 30 := by omega
 have nc1 : n1 ≤ c1 := hb1.2.1
 have nc2 : c1 ≤ 9223372036854775807 := hb1.2.2.1
 have HLn := Lib.hid hb1.1
 have hc : checkN k kh kl = 0 := by omega
 have hk := check_ok hc
 have hNew := fun w => New_yes hc w
 have hC := refCheck_any k kh kl
 rw [hc] at hC
 have HK := Lib.hid hk
 clear hbig hc hk
 have hU := row2_new w 24 (.int .u64 (W64 kh)) (.int .u64 (W64 kl))
 have hF := (Fr.refl No w).alloc (.cells #[.int .u64 (W64 kh), .int .u64 (W64 kl)] 24)
 have u0 := hU.c0
 have u1 := hU.c1
 go_enter Tryz.func4, Tryz.ntmps4
 go_wp2_with fail
 generalize w.heap.size = ub at hU u0 u1 ⊢
 generalize w.alloc (.cells #[.int .u64 (W64 kh), .int .u64 (W64 kl)] 24) = w0 at hU hF u0 u1 ⊢
 refine (strAwake_yes _).mono ?_
 rintro e w1 ⟨rfl, hf1⟩
 replace hU := hU.no hf1
 replace hF := hF.no hf1
 clear u0 u1
 have u0 := hU.c0
 have u1 := hU.c1
 go_wp2_with fail
 refine (hC _).mono ?_
 rintro e w2 ⟨rfl, hf2⟩
 replace hU := hU.no hf2
 replace hF := hF.no hf2
 clear u0 u1 hC
 have u0 := hU.c0
 have u1 := hU.c1
 go_wp2_with fail
 refine (hNew _ w hF).mono ?_
 rintro e w4 ⟨hb, rfl, F, h4, _, hf4⟩
 have hL4 := HDone_nil h4
 replace hU := hU.no hf4
 clear u0 u1 hNew h4 hf4 hF
 go_wp2_with fail
 refine (refPieces_any _ _ _ l1 _ _ _ l2 _ (hb1.no hL4.fr) (hb2.no hL4.fr) (by omega)).mono ?_
 rintro e w5 ⟨v, vs, xs, rfl, ho5, hf5, hall, hflat, _⟩
 have hL5 := hL4.no hf5
 replace hU := hU.no hf5
 obtain ⟨av, cv, rfl, hvc, hvm, _⟩ := ho5.slice
 have hap5 : ∀ x, (Value.slice av vs.length cv).ownBlock = some x → ¬ F x ∧ x < w5.heap.size := fun x hx => ⟨fun g => by have := hL4.lt x g; have := ho5.lt x hx; omega, (World.ownsRow.lt ho5 x hx).2⟩
 have hLaw : LawAt w hb k kh kl ub (.slice av vs.length cv) w4.heap.size vs xs (.int .i64 0) (.int .i64 0) w5 0 := ⟨_, by omega, rfl, rfl, hL5, ho5, hap5, hU⟩
 have HF := Lib.hid hflat
 have HX := Lib.hid hall.1
 have hp := hall.2
 have HP := Lib.hid hp
 generalize w4.heap.size = base at hLaw
 clear hL4 hf5 hL5 ho5 hap5 hall hflat hp hb2 hU
 go_wp2_with fail
 go_loopw [11, 48] (fun long i wr => ∃ n, LawAt w hb k kh kl ub (.slice av vs.length cv) base vs xs long i wr n) (fun _ i _ => vs.length - (intOf i).toNat)
 case atStart => exact ⟨0, hLaw⟩
 case round =>
  obtain ⟨n, F, hn, rfl, rfl, hL, ho, hap, hU⟩ := hrel
  clear hLaw
  by_cases hlt : n < vs.length
  · have i3 : (n : Int) < (vs.length : Int) := by omega
    obtain ⟨a', n', c', hv, hn', hpc⟩ := HP.out n hlt
    obtain ⟨a0, c0, he, _, _, hcell⟩ := ho.slice
    cases he
    obtain ⟨g, rfl, hg, hcg⟩ := hcell n hlt
    rw [hv] at hcg
    have hy := hpc _ hb1
    have hd := done_next xs n (by have := HX.out; omega)
    have hdle := done_le xs (n + 1)
    have hdt := Lib.hid (done_take xs (n + 1))
    have HD := Lib.hid hd
    have hxl := hy.1
    have hdl : (done xs (n + 1)).length = (done xs n).length + n' := by rw [hd, List.length_append, hxl]
    have hm : (done xs (n + 1)).length ≤ n1 := by have h1 := HF.out; have h2 := HLn.out; rw [h1, h2] at hdle; exact hdle
    clear hd hdle hv hxl hcell hg
    obtain ⟨z, hz⟩ : ∃ z, Hid (z = (done xs (n + 1)).length) := ⟨_, Lib.hid rfl⟩
    have e1 : ((done xs n).length : Int) + (n' : Int) = (z : Int) := by have := hz.out; omega
    have z1 : z ≤ n1 := by have := hz.out; omega
    have z2 : (z : Int) ≤ (c1 : Int) := by omega
    clear hdl hm
    go_wp2_with fail
    refine (hL.write _ _ _ (xs.getD n []) (hy.no hL.fr) ((hy.no (Fr.refl No w)).old (fun x g => hL.above x g)) (by omega)).mono ?_
    rw [← HD.out]
    rintro e w6 ⟨rfl, F6, hL6, hf6, hk6⟩
    have ho6 := OwnsSl.fr ho hf6 (fun x hx g => (hap x hx).1 g)
    have hU6 := Row2.con hU hf6 hL.con (by decide)
    have hap6 : ∀ x, (Value.slice (some ⟨g, 0, none⟩) vs.length cv).ownBlock = some x → ¬ F6 x ∧ x < w6.heap.size := fun x hx => by
     have h0 := hap x hx
     have h1 := hf6.size
     exact ⟨fun q => (hk6 x q).elim h0.1 (fun q => by omega), by omega⟩
    clear hL ho hap hf6 hk6 hcg hU
    obtain ⟨ans, hans⟩ : ∃ ans, Hid (ans = oneS k kh kl (done xs (n + 1))) := ⟨_, Lib.hid rfl⟩
    go_wp2_with fail
    refine hL6.sum.mono ?_
    rw [← hans.out]
    rintro e w7 ⟨v7, rfl, hO7, hf7⟩
    obtain ⟨a7, c7, rfl, hb7, _⟩ := hO7.bytes
    replace hL6 := hL6.no hf7
    replace hU6 := hU6.no hf7
    clear hO7
    go_wp2_with fail
    refine hL6.sum.mono ?_
    rw [← hans.out]
    rintro e w8 ⟨v8, rfl, hO8, hf8⟩
    obtain ⟨a8, c8, rfl, hb8, _⟩ := hO8.bytes
    replace hL6 := hL6.no hf8
    replace hU6 := hU6.no hf8
    replace hb7 := hb7.no hf8
    clear hO8
    go_wp2_with fail
    have hyz := (hb1.no hL6.fr).head z c1 (n' := z) (c' := c1) z1 (by omega) (Nat.le_refl _) rfl rfl
    have HY : Hid (l1.take z = done xs (n + 1)) := by have h1 := hdt.out; have h2 := HF.out; have h3 := hz.out; show _ = _; rw [h2, ← h3] at h1; exact h1.symm
    rw [HY.out] at hyz
    refine rsq (by kernel_rfl) [(0, 1), (1, 1), (2, 1), (3, 1), (4, 1), (5, 1), (6, 1), (7, 1), (8, 1), (9, 0), (10, 1), (11, 1), (12, 1), (13, 1), (14, 1), (15, 1), (16, 1), (17, 1), (18, 1), (19, 0), (20, 0), (21, 1), (22, 1)] (by kernel_rfl) ?_
    have hS0 : Fr No w8 w8.drew := (Fr.refl No w8).drew
    refine wpSeq_take (v := ?_) 69 rfl rfl (fun _ _ _ h => h) (Or.inl ⟨rfl, ?_⟩) ?_
    rotate_left 1
    · (intro w9 h9; go_simp; try with_reducible rfl)
    simp only [es1, es2, es3]
    refine wpSeq_take (v := ?_) 70 rfl rfl (fun _ _ _ h => h) (Or.inl ⟨rfl, ?_⟩) ?_
    rotate_left 1
    · (intro w9 h9; go_simp; try with_reducible rfl)
    simp only [es1, es2, es3]
    refine wpSeq_take (v := ?_) 71 rfl rfl (fun _ _ _ h => h) (Or.inl ⟨rfl, ?_⟩) ?_
    rotate_left 1
    · (intro w9 h9; go_simp; try with_reducible rfl)
    simp only [es1, es2, es3]
    refine wpSeq_take (v := ?_) 72 rfl rfl (fun _ _ _ h => h) (Or.inl ⟨rfl, ?_⟩) ?_
    rotate_left 1
    · (intro w9 h9; go_simp; try with_reducible rfl)
    simp only [es1, es2, es3]
    refine wpSeq_take (v := ?_) 73 rfl rfl (fun _ _ _ h => h) (Or.inl ⟨rfl, ?_⟩) ?_
    rotate_left 1
    · (intro w9 h9; go_simp; try with_reducible rfl)
    simp only [es1, es2, es3]
    refine wpSeq_take (v := ?_) 74 rfl rfl (fun _ _ _ h => h) (Or.inl ⟨rfl, ?_⟩) ?_
    rotate_left 1
    · (intro w9 h9; go_simp; try with_reducible rfl)
    simp only [es1, es2, es3]
    refine wpSeq_take (v := ?_) 75 rfl rfl (fun _ _ _ h => h) (Or.inl ⟨rfl, ?_⟩) ?_
    rotate_left 1
    · (intro w9 h9; go_simp; try with_reducible rfl)
    simp only [es1, es2, es3]
    refine wpSeq_take (v := ?_) 76 rfl rfl (fun _ _ _ h => h) (Or.inl ⟨rfl, ?_⟩) ?_
    rotate_left 1
    · (intro w9 h9; go_simp; try with_reducible rfl)
    simp only [es1, es2, es3]
    refine wpSeq_take (v := ?_) 77 rfl rfl (fun _ _ _ h => h) (Or.inl ⟨rfl, ?_⟩) ?_
    rotate_left 1
    · (intro w9 h9; go_simp; try with_reducible rfl)
    simp only [es1, es2, es3]
    refine wpSeq_next rfl rfl (fun K hK => ?_)
    go_wp2_with fail
    refine (refSame_any _ _ _ _ _ _ _ _ _ (hb7.no hS0) (hb8.no hS0)).mono ?_
    rintro e w' ⟨rfl, rfl⟩
    rw [beq_self_eq_true]
    refine hK.out _ _ (fun _ => hS0) ?_
    clear hK K
    refine wpSeq_take (v := ?_) 79 rfl rfl (fun _ _ _ h => h) (Or.inl ⟨rfl, ?_⟩) ?_
    rotate_left 1
    · (intro w9 h9; go_simp; try with_reducible rfl)
    simp only [es1, es2, es3]
    refine wpSeq_take (v := ?_) 80 rfl rfl (fun _ _ _ h => h) (Or.inl ⟨rfl, ?_⟩) ?_
    rotate_left 1
    · (intro w9 h9; go_simp; try with_reducible rfl)
    simp only [es1, es2, es3]
    refine wpSeq_take (v := ?_) 81 rfl rfl (fun _ _ _ h => h) (Or.inl ⟨rfl, ?_⟩) ?_
    rotate_left 1
    · (intro w9 h9; go_simp; try with_reducible rfl)
    simp only [es1, es2, es3]
    refine wpSeq_take (v := ?_) 82 rfl rfl (fun _ _ _ h => h) (Or.inl ⟨rfl, ?_⟩) ?_
    rotate_left 1
    · (intro w9 h9; go_simp; try with_reducible rfl)
    simp only [es1, es2, es3]
    refine wpSeq_take (v := ?_) 83 rfl rfl (fun _ _ _ h => h) (Or.inl ⟨rfl, ?_⟩) ?_
    rotate_left 1
    · (intro w9 h9; go_simp; try with_reducible rfl)
    simp only [es1, es2, es3]
    refine wpSeq_take (v := ?_) 84 rfl rfl (fun _ _ _ h => h) (Or.inl ⟨rfl, ?_⟩) ?_
    rotate_left 1
    · (intro w9 h9; have q0 := (hU6.no h9).c0; have q1 := (hU6.no h9).c1; go_simp; try with_reducible rfl)
    simp only [es1, es2, es3]
    refine wpSeq_take (v := ?_) 85 rfl rfl (fun _ _ _ h => h) (Or.inl ⟨rfl, ?_⟩) ?_
    rotate_left 1
    · (intro w9 h9; go_simp; try with_reducible rfl)
    simp only [es1, es2, es3]
    refine wpSeq_take (v := ?_) 86 rfl rfl (fun _ _ _ h => h) (Or.inl ⟨rfl, ?_⟩) ?_
    rotate_left 1
    · (intro w9 h9; go_simp; try with_reducible rfl)
    simp only [es1, es2, es3]
    refine wpSeq_take (v := ?_) 87 rfl rfl (fun _ _ _ h => h) (Or.inl ⟨rfl, ?_⟩) ?_
    rotate_left 1
    · (intro w9 h9; go_simp; try with_reducible rfl)
    simp only [es1, es2, es3]
    refine wpSeq_next rfl rfl (fun K hK => ?_)
    go_wp2_with fail
    refine (refOne_all HK.out kh kl _ _ _ (done xs (n + 1)) _ (hyz.no hS0) (by omega)).mono ?_
    rw [← hans.out]
    rintro e w9' ⟨v9, rfl, hO9, hf9⟩
    obtain ⟨a9, c9, rfl, hb9, _⟩ := hO9.bytes
    have hs9 : Fr No w8 w9' := (hS0).no hf9
    refine hK.out _ _ (fun _ => hs9) ?_
    clear hK K
    refine wpSeq_next rfl rfl (fun K hK => ?_)
    go_wp2_with fail
    refine (refSame_any _ _ _ _ _ _ _ _ _ (hb7.no hs9) hb9).mono ?_
    rintro e w' ⟨rfl, rfl⟩
    rw [beq_self_eq_true]
    refine hK.out _ _ (fun _ => hs9) ?_
    clear hK K
    refine wpSeq_take (v := ?_) 90 rfl rfl (fun _ _ _ h => h) (Or.inl ⟨rfl, ?_⟩) ?_
    rotate_left 1
    · (intro w9 h9; go_simp; try with_reducible rfl)
    simp only [es1, es2, es3]
    refine wpSeq_take (v := ?_) 91 rfl rfl (fun _ _ _ h => h) (Or.inl ⟨rfl, ?_⟩) ?_
    rotate_left 1
    · (intro w9 h9; go_simp; try with_reducible rfl)
    simp only [es1, es2, es3]
    refine wpSeq_done ?_
    have hL7 := hL6.no hs9
    have hU7 := hU6.no hs9
    have ho7 := ((ho6.no hf7).no hf8).no hs9
    have hsz7 := ((hf7.no hf8).no hs9).size
    have hap7 : ∀ x, (Value.slice (some ⟨g, 0, none⟩) vs.length cv).ownBlock = some x → ¬ F6 x ∧ x < w9'.heap.size := fun x hx => ⟨(hap6 x hx).1, Nat.lt_of_lt_of_le (hap6 x hx).2 hsz7⟩
    clear hL6 ho6 hap6 hyz hU6
    go_wp2_with fail
    go_roundw
    case rel => exact ⟨n + 1, F6, by omega, by simp, by rw [hz.out], hL7, ho7, hap7, hU7⟩
    case measure => simp [intOf]; omega
  · have i3 : ¬ (n : Int) < (vs.length : Int) := by omega
    clear hap ho
    go_wp2_with fail
    refine hL.reset.mono ?_
    rintro e w6 ⟨rfl, F6, hL6, hf6, _⟩
    have hU6 := Row2.con hU hf6 hL.con (by decide)
    clear hL hf6 hU
    obtain ⟨ans, hans⟩ : ∃ ans, Hid (ans = oneS k kh kl []) := ⟨_, Lib.hid rfl⟩
    go_wp2_with fail
    refine hL6.sum.mono ?_
    rw [← hans.out]
    rintro e w7 ⟨v7, rfl, hO7, hf7⟩
    obtain ⟨a7, c7, rfl, hb7, _⟩ := hO7.bytes
    have hL7 := hL6.no hf7
    have hU7 := hU6.no hf7
    have u0 := hU7.c0
    have u1 := hU7.c1
    clear hL6 hf7 hO7 hU6
    go_wp2_with fail
    refine (refOne_all HK.out kh kl none 0 0 [] _ (IsBytes.nil _) (by omega)).mono ?_
    rw [← hans.out]
    rintro e w8 ⟨v8, rfl, hO8, hf8⟩
    obtain ⟨a8, c8, rfl, hb8, _⟩ := hO8.bytes
    clear hO8
    have hL8 := hL7.no hf8
    go_wp2_with fail
    refine (refSame_any _ _ _ _ _ _ _ _ _ (hb7.no hf8) hb8).mono ?_
    rintro e w' ⟨rfl, rfl⟩
    rw [beq_self_eq_true]
    go_wp2_with fail
    go_ret
    exact ⟨rfl, hL8.fr⟩
end Go.Proofs.YtidlpihoafnobaaGreat
