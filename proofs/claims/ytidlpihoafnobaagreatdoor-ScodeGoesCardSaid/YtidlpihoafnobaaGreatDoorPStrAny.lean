/- StrIM32 StrPlain StrAny -/
import Derived.Test.YtidlpihoafnobaaGreatDoorPStrKX64
import Derived.Test.YtidlpihoafnobaaGreatDoorPStrKM32
import Derived.Test.YtidlpihoafnobaaGreatDoorPStrKM64
import Derived.Test.YtidlpihoafnobaaGreatDoorPStrKSip
import Derived.Test.YtidlpihoafnobaaGreatDoorPStrKM86
import Derived.Test.YtidlpihoafnobaaGreatDoorPStrKX32
set_option linter.unusedVariables false
set_option linter.unusedSimpArgs false
namespace Go.Proofs.YtidlpihoafnobaaGreatDoor.StM32
set_option maxRecDepth 100000
open Go.RowKit
theorem lanesV_of (s : ST) : lanesV s = .agg #[.int .u64 (W64 (s.setWidth 64)), .int .u64 (W64 0#64), .int .u64 (W64 0#64), .int .u64 (W64 0#64)] := rfl
theorem HS.lanes {w0 w : World} {hb : Nat} {F : Nat → Prop} {k : Int} {kh kl : BitVec 64} {s : ST} {tl : Bytes} {lo : BitVec 64} (h : HS w0 w hb (F) k kh kl s tl lo) :
 Calls Tryz.prog 30 #[.pointer (some ⟨hb, 0, none⟩)] w (fun e w' => ∃ v, e = .returned (.tuple #[.agg #[.int .u64 (W64 (s.setWidth 64)), .int .u64 (W64 0#64), .int .u64 (W64 0#64), .int .u64 (W64 0#64)], .int .u64 (W64 lo), v]) ∧ Owns w' w.heap.size v tl ∧ Fr No w w') := by
 obtain ⟨ib, sb, tv, c6, c7, c8, c9, c10, c11, hr, hc, hL, rfl⟩ := h
 refine hLanes_of hr.c3 273 (fun W => by kernel_rfl) (calls_enter Tryz.func273 (by kernel_rfl) (by kernel_rfl)) (s.setWidth 64) 0#64 0#64 0#64 lo (fun W hW => (Lanes_h (hL.no hW)).mono ?_)
 rintro e w' ⟨v, rfl, hO, hf⟩
 exact ⟨v, by rw [lanesV_of], hO, hf⟩
theorem HS.set_right {w0 w : World} {hb : Nat} {F : Nat → Prop} {k : Int} {kh kl : BitVec 64} {s : ST} {tl : Bytes} {lo : BitVec 64} (h : HS w0 w hb (F) k kh kl s tl lo) (x0 x1 x2 x3 lo2 : BitVec 64) (a : Option Addr) (n c : Nat) (hw : RightP x0 x1 x2 x3) (hfit : fitsB n lo2 4 = true) (l : Bytes) (hy : IsBytes w a n c l) (hn : n ≤ 1099511627776) :
 Calls Tryz.prog 25 #[.pointer (some ⟨hb, 0, none⟩), .agg #[.int .u64 (W64 x0), .int .u64 (W64 x1), .int .u64 (W64 x2), .int .u64 (W64 x3)], .int .u64 (W64 lo2), .slice a n c] w (fun e w' => e = .returned (.int .i64 0) ∧ ∃ F', HS w0 w' hb F' k kh kl (stateF x0 x1 x2 x3) l lo2 ∧ Fr F w w' ∧ ∀ x, F' x → F x ∨ w.heap.size ≤ x) := by
 obtain ⟨ib, sb, tv, c6, c7, c8, c9, c10, c11, hr, hc, hL, rfl⟩ := h
 refine hSet_of hr.c3 275 (fun W => by kernel_rfl) (calls_enter Tryz.func275 (by kernel_rfl) (by kernel_rfl)) x0 x1 x2 x3 lo2 a n c true (F := Foot sb tv) (hL.on.con _ _ hr ⟨_, _, rfl, by decide⟩) (fun x hx => hL.lt x (.inr hx)) (fun W hW => (Set_right (hL.no hW) x0 x1 x2 x3 _ rfl lo2 a n c hw hfit l (hy.no hW) hn).mono ?_)
 rintro e w' ⟨tv2, rfl, hL', hf, hk⟩
 have hK := (hL.no hW).on.con
 have hf2 : Fr (Foot sb tv) W w' := hf.mono (fun x _ g => .inl g)
 have hr := hr.no hW
 have hc := hc.no hW
 refine ⟨rfl, ⟨_, ⟨ib, sb, _, c6, c7, c8, c9, c10, c11, hr.fr hf2 hK, (hc.fr hf2 (hK) (by decide)), hL', rfl⟩, (hW.mono (fun x _ g => g.elim)).trans hf2 (fun x hx => .inl hx), fun x hx => ?_⟩, hf2⟩
 rcases hx with rfl | hx
 · exact .inl (.inl rfl)
 · exact .inr (Nat.le_trans hW.size (hk _ hx))
end Go.Proofs.YtidlpihoafnobaaGreatDoor.StM32
namespace Go.Proofs.YtidlpihoafnobaaGreatDoor
set_option maxRecDepth 100000
open Go.RowKit
abbrev L4 := BitVec 64 × BitVec 64 × BitVec 64 × BitVec 64
inductive HSt where
 | m32 (s : BitVec 32)
 | m86 (s : BitVec 32 × BitVec 32 × BitVec 32 × BitVec 32)
 | m64 (s : BitVec 64 × BitVec 64)
 | x32 (s : BitVec 32 × BitVec 32 × BitVec 32 × BitVec 32)
 | x64 (s : BitVec 64 × BitVec 64 × BitVec 64 × BitVec 64)
 | sip (s : BitVec 64 × BitVec 64 × BitVec 64 × BitVec 64)
def lanesS : HSt → L4
 | .m32 s => (s.setWidth 64, 0#64, 0#64, 0#64)
 | .m86 s => (s.1.setWidth 64, s.2.1.setWidth 64, s.2.2.1.setWidth 64, s.2.2.2.setWidth 64)
 | .m64 s => (s.1, s.2, 0#64, 0#64)
 | .x32 s => (s.1.setWidth 64, s.2.1.setWidth 64, s.2.2.1.setWidth 64, s.2.2.2.setWidth 64)
 | .x64 s => (s.1, s.2.1, s.2.2.1, s.2.2.2)
 | .sip s => (s.1, s.2.1, s.2.2.1, s.2.2.2)
def firstS (k : Int) (kh kl : BitVec 64) : HSt := if k = 1 then .m32 (StM32.firstF (kl.setWidth 32)) else if k = 2 then .m86 (StM86.firstF (kl.setWidth 32)) else if k = 3 then .m64 (StM64.firstF (kl.setWidth 32)) else if k = 4 then .x32 (StX32.firstF (kl.setWidth 32)) else if k = 5 then .x64 (StX64.firstF kl) else .sip (StSip.firstF k kh kl)
def stateS (k : Int) (x : L4) : HSt := if k = 1 then .m32 (StM32.stateF x.1 x.2.1 x.2.2.1 x.2.2.2) else if k = 2 then .m86 (StM86.stateF x.1 x.2.1 x.2.2.1 x.2.2.2) else if k = 3 then .m64 (StM64.stateF x.1 x.2.1 x.2.2.1 x.2.2.2) else if k = 4 then .x32 (StX32.stateF x.1 x.2.1 x.2.2.1 x.2.2.2) else if k = 5 then .x64 (StX64.stateF x.1 x.2.1 x.2.2.1 x.2.2.2) else .sip (StSip.stateF x.1 x.2.1 x.2.2.1 x.2.2.2)
def RightS (k : Int) (x : L4) : Prop := if k = 1 then StM32.RightP x.1 x.2.1 x.2.2.1 x.2.2.2 else if k = 2 then StM86.RightP x.1 x.2.1 x.2.2.1 x.2.2.2 else if k = 3 then StM64.RightP x.1 x.2.1 x.2.2.1 x.2.2.2 else if k = 4 then StX32.RightP x.1 x.2.1 x.2.2.1 x.2.2.2 else if k = 5 then StX64.RightP x.1 x.2.1 x.2.2.1 x.2.2.2 else StSip.RightP x.1 x.2.1 x.2.2.1 x.2.2.2
def OfK (k : Int) : HSt → Prop
 | .m32 _ => k = 1
 | .m86 _ => k = 2
 | .m64 _ => k = 3
 | .x32 _ => k = 4
 | .x64 _ => k = 5
 | .sip _ => StSip.IsK k
def foldS (k : Int) : HSt → Bytes → HSt × Bytes
 | .m32 s, l => (.m32 (foldF StM32.stepG 4 s l).1, (foldF StM32.stepG 4 s l).2)
 | .m86 s, l => (.m86 (foldF StM86.stepG 16 s l).1, (foldF StM86.stepG 16 s l).2)
 | .m64 s, l => (.m64 (foldF StM64.stepG 16 s l).1, (foldF StM64.stepG 16 s l).2)
 | .x32 s, l => (.x32 (foldF StX32.stepG 16 s l).1, (foldF StX32.stepG 16 s l).2)
 | .x64 s, l => (.x64 (foldF StX64.stepG 32 s l).1, (foldF StX64.stepG 32 s l).2)
 | .sip s, l => (.sip (foldF (StSip.stepG (StSip.cOf k)) 8 s l).1, (foldF (StSip.stepG (StSip.cOf k)) 8 s l).2)
def endS (k : Int) (kh kl : BitVec 64) : HSt → Bytes → BitVec 64 → Bytes
 | .m32 s, tl, lo => leb ((StM32.endF s tl lo).setWidth 64) 4
 | .m86 s, tl, lo => leb (StM86.endLo s tl lo) 8 ++ leb (StM86.endHi s tl lo) 8
 | .m64 s, tl, lo => leb (StM64.endLo s tl lo) 8 ++ leb (StM64.endHi s tl lo) 8
 | .x32 s, tl, lo => leb ((StX32.endF (kl.setWidth 32) s tl lo).setWidth 64) 4
 | .x64 s, tl, lo => leb (StX64.endF kl s tl lo) 8
 | .sip s, tl, lo => (leb (StSip.endLo k s tl lo) 8 ++ leb (StSip.endHi k s tl lo) 8).take (sizeN k).toNat
def oneS (k : Int) (kh kl : BitVec 64) (l : Bytes) : Bytes := endS k kh kl (foldS k (firstS k kh kl) l).1 (foldS k (firstS k kh kl) l).2 (BitVec.ofNat 64 l.length)
theorem isK_ok {k : Int} (h : StSip.IsK k) : KindOk k := by unfold StSip.IsK at h; unfold KindOk; omega
theorem isK_no {k : Int} (h : StSip.IsK k) : k ≠ 1 ∧ k ≠ 2 ∧ k ≠ 3 ∧ k ≠ 4 ∧ k ≠ 5 := by unfold StSip.IsK at h; omega
theorem firstS_m32 (kh kl : BitVec 64) : firstS 1 kh kl = .m32 (StM32.firstF (kl.setWidth 32)) := rfl
theorem stateS_m32 (x : L4) : stateS 1 x = .m32 (StM32.stateF x.1 x.2.1 x.2.2.1 x.2.2.2) := rfl
theorem RightS_m32 (x : L4) : RightS 1 x = StM32.RightP x.1 x.2.1 x.2.2.1 x.2.2.2 := rfl
theorem firstS_m86 (kh kl : BitVec 64) : firstS 2 kh kl = .m86 (StM86.firstF (kl.setWidth 32)) := rfl
theorem stateS_m86 (x : L4) : stateS 2 x = .m86 (StM86.stateF x.1 x.2.1 x.2.2.1 x.2.2.2) := rfl
theorem RightS_m86 (x : L4) : RightS 2 x = StM86.RightP x.1 x.2.1 x.2.2.1 x.2.2.2 := rfl
theorem firstS_m64 (kh kl : BitVec 64) : firstS 3 kh kl = .m64 (StM64.firstF (kl.setWidth 32)) := rfl
theorem stateS_m64 (x : L4) : stateS 3 x = .m64 (StM64.stateF x.1 x.2.1 x.2.2.1 x.2.2.2) := rfl
theorem RightS_m64 (x : L4) : RightS 3 x = StM64.RightP x.1 x.2.1 x.2.2.1 x.2.2.2 := rfl
theorem firstS_x32 (kh kl : BitVec 64) : firstS 4 kh kl = .x32 (StX32.firstF (kl.setWidth 32)) := rfl
theorem stateS_x32 (x : L4) : stateS 4 x = .x32 (StX32.stateF x.1 x.2.1 x.2.2.1 x.2.2.2) := rfl
theorem RightS_x32 (x : L4) : RightS 4 x = StX32.RightP x.1 x.2.1 x.2.2.1 x.2.2.2 := rfl
theorem firstS_x64 (kh kl : BitVec 64) : firstS 5 kh kl = .x64 (StX64.firstF kl) := rfl
theorem stateS_x64 (x : L4) : stateS 5 x = .x64 (StX64.stateF x.1 x.2.1 x.2.2.1 x.2.2.2) := rfl
theorem RightS_x64 (x : L4) : RightS 5 x = StX64.RightP x.1 x.2.1 x.2.2.1 x.2.2.2 := rfl
theorem firstS_sip {k : Int} (hk : StSip.IsK k) (kh kl : BitVec 64) : firstS k kh kl = .sip (StSip.firstF k kh kl) := by
 obtain ⟨h1, h2, h3, h4, h5⟩ := isK_no hk
 unfold firstS; rw [if_neg h1, if_neg h2, if_neg h3, if_neg h4, if_neg h5]
theorem stateS_sip {k : Int} (hk : StSip.IsK k) (x : L4) : stateS k x = .sip (StSip.stateF x.1 x.2.1 x.2.2.1 x.2.2.2) := by
 obtain ⟨h1, h2, h3, h4, h5⟩ := isK_no hk
 unfold stateS; rw [if_neg h1, if_neg h2, if_neg h3, if_neg h4, if_neg h5]
theorem RightS_sip {k : Int} (hk : StSip.IsK k) (x : L4) : RightS k x = StSip.RightP x.1 x.2.1 x.2.2.1 x.2.2.2 := by
 obtain ⟨h1, h2, h3, h4, h5⟩ := isK_no hk
 unfold RightS; rw [if_neg h1, if_neg h2, if_neg h3, if_neg h4, if_neg h5]
theorem ofK_cases {C : Int → HSt → Prop} (hm32 : ∀ s, C 1 (.m32 s)) (hm86 : ∀ s, C 2 (.m86 s)) (hm64 : ∀ s, C 3 (.m64 s)) (hx32 : ∀ s, C 4 (.x32 s)) (hx64 : ∀ s, C 5 (.x64 s)) (hsip : ∀ k s, StSip.IsK k → C k (.sip s)) {k : Int} {s : HSt} (h : OfK k s) : C k s := by
 cases s with
 | m32 s => (obtain rfl : k = 1 := h; exact hm32 s)
 | m86 s => (obtain rfl : k = 2 := h; exact hm86 s)
 | m64 s => (obtain rfl : k = 3 := h; exact hm64 s)
 | x32 s => (obtain rfl : k = 4 := h; exact hx32 s)
 | x64 s => (obtain rfl : k = 5 := h; exact hx64 s)
 | sip s => exact hsip k s h
theorem kind_cases {C : Int → Prop} (hm32 : C 1) (hm86 : C 2) (hm64 : C 3) (hx32 : C 4) (hx64 : C 5) (hsip : ∀ k, StSip.IsK k → C k) {k : Int} (h : KindOk k) : C k := by
 by_cases e : StSip.IsK k
 · exact hsip k e
 · rcases h with rfl | rfl | rfl | rfl | rfl | rfl | rfl | rfl
   · exact hm32
   · exact hm86
   · exact hm64
   · exact hx32
   · exact hx64
   · exact absurd (Or.inl rfl) e
   · exact absurd (Or.inr (Or.inl rfl)) e
   · exact absurd (Or.inr (Or.inr rfl)) e
theorem OfK.ok {k : Int} {s : HSt} (h : OfK k s) : KindOk k := ofK_cases (C := fun k _ => KindOk k) (fun _ => by unfold KindOk; omega) (fun _ => by unfold KindOk; omega) (fun _ => by unfold KindOk; omega) (fun _ => by unfold KindOk; omega) (fun _ => by unfold KindOk; omega) (fun _ _ h => isK_ok h) h
theorem first_ofK {k : Int} (h : KindOk k) (kh kl : BitVec 64) : OfK k (firstS k kh kl) := kind_cases (C := fun k => OfK k (firstS k kh kl)) rfl rfl rfl rfl rfl (fun k h => by rw [firstS_sip h]; exact h) h
theorem fold_ofK {k : Int} {s : HSt} (h : OfK k s) (l : Bytes) : OfK k (foldS k s l).1 := by cases s <;> exact h
theorem fold_append (k : Int) (b : Bytes) (s : HSt) (a : Bytes) : foldS k s (a ++ b) = foldS k (foldS k s a).1 ((foldS k s a).2 ++ b) := by
 cases s with
 | m32 s => show (HSt.m32 _, _) = (HSt.m32 _, _); rw [foldF_append (by omega) b s a]; rfl
 | m86 s => show (HSt.m86 _, _) = (HSt.m86 _, _); rw [foldF_append (by omega) b s a]; rfl
 | m64 s => show (HSt.m64 _, _) = (HSt.m64 _, _); rw [foldF_append (by omega) b s a]; rfl
 | x32 s => show (HSt.x32 _, _) = (HSt.x32 _, _); rw [foldF_append (by omega) b s a]; rfl
 | x64 s => show (HSt.x64 _, _) = (HSt.x64 _, _); rw [foldF_append (by omega) b s a]; rfl
 | sip s => show (HSt.sip _, _) = (HSt.sip _, _); rw [foldF_append (by omega) b s a]; rfl
theorem fold_nil (k : Int) (s : HSt) : foldS k s [] = (s, []) := by
 cases s with
 | m32 s => show (HSt.m32 _, _) = _; rw [foldF_short (by simp)]
 | m86 s => show (HSt.m86 _, _) = _; rw [foldF_short (by simp)]
 | m64 s => show (HSt.m64 _, _) = _; rw [foldF_short (by simp)]
 | x32 s => show (HSt.x32 _, _) = _; rw [foldF_short (by simp)]
 | x64 s => show (HSt.x64 _, _) = _; rw [foldF_short (by simp)]
 | sip s => show (HSt.sip _, _) = _; rw [foldF_short (by simp)]
theorem block_sip {k : Int} (h : StSip.IsK k) : blockN k = 8 := by rcases h with rfl | rfl | rfl <;> rfl
theorem fold_mod {k : Int} {s : HSt} (h : OfK k s) (l : Bytes) : ((foldS k s l).2.length : Int) = (l.length : Int) % blockN k := by
 refine ofK_cases (C := fun k s => ((foldS k s l).2.length : Int) = (l.length : Int) % blockN k) ?_ ?_ ?_ ?_ ?_ ?_ h
 · intro s
   show ((foldF StM32.stepG 4 s l).2.length : Int) = (l.length : Int) % 4
   rw [foldF_mod (by omega)]; omega
 · intro s
   show ((foldF StM86.stepG 16 s l).2.length : Int) = (l.length : Int) % 16
   rw [foldF_mod (by omega)]; omega
 · intro s
   show ((foldF StM64.stepG 16 s l).2.length : Int) = (l.length : Int) % 16
   rw [foldF_mod (by omega)]; omega
 · intro s
   show ((foldF StX32.stepG 16 s l).2.length : Int) = (l.length : Int) % 16
   rw [foldF_mod (by omega)]; omega
 · intro s
   show ((foldF StX64.stepG 32 s l).2.length : Int) = (l.length : Int) % 32
   rw [foldF_mod (by omega)]; omega
 · intro k s hk
   rw [block_sip hk]
   show ((foldF (StSip.stepG (StSip.cOf k)) 8 s l).2.length : Int) = (l.length : Int) % 8
   rw [foldF_mod (by omega)]; omega
theorem back32' (x : BitVec 32) : (x.setWidth 64).setWidth 32 = x := by apply BitVec.eq_of_toNat_eq; simp
theorem right_lanes {k : Int} {s : HSt} (h : OfK k s) : RightS k (lanesS s) := by
 refine ofK_cases (C := fun k s => RightS k (lanesS s)) ?_ ?_ ?_ ?_ ?_ ?_ h
 · intro s; exact ⟨rfl, rfl, rfl, wide_div s⟩
 · intro s; exact ⟨by simp only [lanesS, back32'], by simp only [lanesS, back32'], by simp only [lanesS, back32'], by simp only [lanesS, back32']⟩
 · intro s; exact ⟨rfl, rfl⟩
 · intro s; exact ⟨by simp only [lanesS, back32'], by simp only [lanesS, back32'], by simp only [lanesS, back32'], by simp only [lanesS, back32']⟩
 · intro s; exact trivial
 · intro k s hk; rw [RightS_sip hk]; exact trivial
theorem state_lanes {k : Int} {s : HSt} (h : OfK k s) : stateS k (lanesS s) = s := by
 refine ofK_cases (C := fun k s => stateS k (lanesS s) = s) ?_ ?_ ?_ ?_ ?_ ?_ h
 · intro s; show HSt.m32 _ = _; simp only [lanesS, StM32.stateF, back32']
 · intro s; show HSt.m86 _ = _; simp only [lanesS, StM86.stateF, back32']
 · intro s; rfl
 · intro s; show HSt.x32 _ = _; simp only [lanesS, StX32.stateF, back32']
 · intro s; rfl
 · intro k s hk; rw [stateS_sip hk]; rfl
def FitS (k : Int) (n : Nat) (lo : BitVec 64) : Prop := (BitVec.ofNat 64 n == lo % O64 (blockN k)) = true
theorem fit_m32 (n : Nat) (lo : BitVec 64) : FitS 1 n lo ↔ StM32.fitsB n lo 4 = true := by
 unfold FitS
 rw [show O64 (blockN 1) = BitVec.ofNat 64 4 from by decide]; exact Iff.rfl
theorem fit_m86 (n : Nat) (lo : BitVec 64) : FitS 2 n lo ↔ StG32.fitsB n lo 16 = true := by
 unfold FitS
 rw [show O64 (blockN 2) = BitVec.ofNat 64 16 from by decide]; exact Iff.rfl
theorem fit_m64 (n : Nat) (lo : BitVec 64) : FitS 3 n lo ↔ StM64.fitsB n lo 16 = true := by
 unfold FitS
 rw [show O64 (blockN 3) = BitVec.ofNat 64 16 from by decide]; exact Iff.rfl
theorem fit_x32 (n : Nat) (lo : BitVec 64) : FitS 4 n lo ↔ StG32.fitsB n lo 16 = true := by
 unfold FitS
 rw [show O64 (blockN 4) = BitVec.ofNat 64 16 from by decide]; exact Iff.rfl
theorem fit_x64 (n : Nat) (lo : BitVec 64) : FitS 5 n lo ↔ StG64.fitsB n lo 32 = true := by
 unfold FitS
 rw [show O64 (blockN 5) = BitVec.ofNat 64 32 from by decide]; exact Iff.rfl
theorem fit_sip {k : Int} (hk : StSip.IsK k) (n : Nat) (lo : BitVec 64) : FitS k n lo ↔ StG64.fitsB n lo 8 = true := by
 unfold FitS
 rw [block_sip hk, show O64 8 = BitVec.ofNat 64 8 from by decide]; exact Iff.rfl
theorem block_pos {k : Int} (h : KindOk k) : 0 < blockN k ∧ blockN k ≤ 32 := by rcases h with rfl | rfl | rfl | rfl | rfl | rfl | rfl | rfl <;> decide
theorem fit_fold {k : Int} {s : HSt} (h : OfK k s) (d : Bytes) (hd : d.length ≤ 1099511627776) : FitS k (foldS k s d).2.length (BitVec.ofNat 64 d.length) := by
 have h1 := fold_mod h d
 have h2 := block_pos h.ok
 unfold FitS
 obtain ⟨b, hb⟩ := Int.eq_ofNat_of_zero_le (show 0 ≤ blockN k by omega)
 rw [hb] at h1 h2 ⊢
 rw [beq_iff_eq, O64_nat]
 apply BitVec.eq_of_toNat_eq
 have h3 : (foldS k s d).2.length = d.length % b := by omega
 have h4 := Nat.mod_le d.length b
 rw [h3]
 simp only [BitVec.toNat_ofNat, BitVec.toNat_umod]
 rw [Nat.mod_eq_of_lt (a := d.length % b) (b := 2 ^ 64) (by omega), Nat.mod_eq_of_lt (a := d.length) (b := 2 ^ 64) (by omega), Nat.mod_eq_of_lt (a := b) (b := 2 ^ 64) (by omega)]
end Go.Proofs.YtidlpihoafnobaaGreatDoor
namespace Go.Proofs.YtidlpihoafnobaaGreatDoor
set_option maxRecDepth 100000
open Go.RowKit
def HSAny (w0 w : World) (hb : Nat) (F : Nat → Prop) (k : Int) (kh kl : BitVec 64) : HSt → Bytes → BitVec 64 → Prop
 | .m32 s, tl, lo => k = 1 ∧ StM32.HS w0 w hb F k kh kl s tl lo
 | .m86 s, tl, lo => k = 2 ∧ StM86.HS w0 w hb F k kh kl s tl lo
 | .m64 s, tl, lo => k = 3 ∧ StM64.HS w0 w hb F k kh kl s tl lo
 | .x32 s, tl, lo => k = 4 ∧ StX32.HS w0 w hb F k kh kl s tl lo
 | .x64 s, tl, lo => k = 5 ∧ StX64.HS w0 w hb F k kh kl s tl lo
 | .sip s, tl, lo => StSip.IsK k ∧ StSip.HS w0 w hb F k kh kl s tl lo (sizeN k).toNat
theorem size_le (k : Int) : (sizeN k).toNat ≤ 16 := by unfold sizeN; (repeat' split) <;> decide
theorem HSAny.ofK {w0 w : World} {hb : Nat} {F : Nat → Prop} {k : Int} {kh kl : BitVec 64} {s : HSt} {tl : Bytes} {lo : BitVec 64} (h : HSAny w0 w hb F k kh kl s tl lo) : OfK k s := by cases s <;> exact h.1
theorem HSAny.fr {w0 w : World} {hb : Nat} {F : Nat → Prop} {k : Int} {kh kl : BitVec 64} {s : HSt} {tl : Bytes} {lo : BitVec 64} (h : HSAny w0 w hb F k kh kl s tl lo) : Fr No w0 w := by
 cases s <;> exact h.2.fr
theorem HSAny.lt {w0 w : World} {hb : Nat} {F : Nat → Prop} {k : Int} {kh kl : BitVec 64} {s : HSt} {tl : Bytes} {lo : BitVec 64} (h : HSAny w0 w hb F k kh kl s tl lo) : ∀ x, F x → x < w.heap.size := by
 cases s <;> exact h.2.lt
theorem HSAny.above {w0 w : World} {hb : Nat} {F : Nat → Prop} {k : Int} {kh kl : BitVec 64} {s : HSt} {tl : Bytes} {lo : BitVec 64} (h : HSAny w0 w hb F k kh kl s tl lo) : ∀ x, F x → w0.heap.size ≤ x := by
 cases s <;> exact h.2.above
theorem HSAny.con {w0 w : World} {hb : Nat} {F : Nat → Prop} {k : Int} {kh kl : BitVec 64} {s : HSt} {tl : Bytes} {lo : BitVec 64} (h : HSAny w0 w hb F k kh kl s tl lo) : Keeps w F := by
 cases s <;> exact h.2.con
theorem HSAny.no {w0 w : World} {hb : Nat} {F : Nat → Prop} {k : Int} {kh kl : BitVec 64} {s : HSt} {tl : Bytes} {lo : BitVec 64} (h : HSAny w0 w hb F k kh kl s tl lo) {w' : World} (f : Fr No w w') : HSAny w0 w' hb F k kh kl s tl lo := by
 cases s <;> exact ⟨h.1, h.2.no f⟩
theorem HSAny.keep {w0 w : World} {hb : Nat} {F : Nat → Prop} {k : Int} {kh kl : BitVec 64} {s : HSt} {tl : Bytes} {lo : BitVec 64} (h : HSAny w0 w hb F k kh kl s tl lo) {w' : World} {G : Nat → Prop} (f : Fr G w w') (hG : ∀ x, G x → ¬ F x) (hK : Keeps w G) (hA : ∀ x, G x → w0.heap.size ≤ x) : HSAny w0 w' hb F k kh kl s tl lo := by
 cases s <;> exact ⟨h.1, h.2.keep f hG hK hA⟩
theorem HSAny.write {w0 w : World} {hb : Nat} {F : Nat → Prop} {k : Int} {kh kl : BitVec 64} {s : HSt} {tl : Bytes} {lo : BitVec 64} (h : HSAny w0 w hb F k kh kl s tl lo) (a : Option Addr) (n c : Nat) (l : Bytes) (hy : IsBytes w a n c l) (hap : Apart F a n) (hn : n ≤ 1099511627776) :
 Calls Tryz.prog 14 #[.pointer (some ⟨hb, 0, none⟩), .slice a n c] w (fun e w' => e = .returned (.int .i64 0) ∧ ∃ F', HSAny w0 w' hb F' k kh kl (foldS k s (tl ++ l)).1 (foldS k s (tl ++ l)).2 (lo + BitVec.ofNat 64 n) ∧ Fr F w w' ∧ ∀ x, F' x → F x ∨ w.heap.size ≤ x) := by
 cases s with
 | m32 s =>
  obtain ⟨hk, h⟩ := h
  refine (h.write a n c l hy hap hn).mono ?_
  rintro e w' ⟨rfl, F', h', r⟩
  exact ⟨rfl, F', ⟨hk, h'⟩, r⟩
 | m86 s =>
  obtain ⟨hk, h⟩ := h
  refine (h.write a n c l hy hap hn).mono ?_
  rintro e w' ⟨rfl, F', h', r⟩
  exact ⟨rfl, F', ⟨hk, h'⟩, r⟩
 | m64 s =>
  obtain ⟨hk, h⟩ := h
  refine (h.write a n c l hy hap hn).mono ?_
  rintro e w' ⟨rfl, F', h', r⟩
  exact ⟨rfl, F', ⟨hk, h'⟩, r⟩
 | x32 s =>
  obtain ⟨hk, h⟩ := h
  refine (h.write a n c l hy hap hn).mono ?_
  rintro e w' ⟨rfl, F', h', r⟩
  exact ⟨rfl, F', ⟨hk, h'⟩, r⟩
 | x64 s =>
  obtain ⟨hk, h⟩ := h
  refine (h.write a n c l hy hap hn).mono ?_
  rintro e w' ⟨rfl, F', h', r⟩
  exact ⟨rfl, F', ⟨hk, h'⟩, r⟩
 | sip s =>
  obtain ⟨hk, h⟩ := h
  refine (h.write a n c l hy hap hn).mono ?_
  rintro e w' ⟨rfl, F', h', r⟩
  exact ⟨rfl, F', ⟨hk, h'⟩, r⟩
theorem HSAny.sum {w0 w : World} {hb : Nat} {F : Nat → Prop} {k : Int} {kh kl : BitVec 64} {s : HSt} {tl : Bytes} {lo : BitVec 64} (h : HSAny w0 w hb F k kh kl s tl lo)  :
 Calls Tryz.prog 9 #[.pointer (some ⟨hb, 0, none⟩)] w (fun e w' => ∃ v, e = .returned (.tuple #[v, .int .i64 0]) ∧ Owns w' w.heap.size v (endS k kh kl s tl lo) ∧ Fr No w w') := by
 cases s with
 | m32 s =>
  exact h.2.sum
 | m86 s =>
  exact h.2.sum
 | m64 s =>
  exact h.2.sum
 | x32 s =>
  exact h.2.sum
 | x64 s =>
  exact h.2.sum
 | sip s =>
  exact h.2.sum (size_le k)
theorem HSAny.kind {w0 w : World} {hb : Nat} {F : Nat → Prop} {k : Int} {kh kl : BitVec 64} {s : HSt} {tl : Bytes} {lo : BitVec 64} (h : HSAny w0 w hb F k kh kl s tl lo)  :
 Calls Tryz.prog 15 #[.pointer (some ⟨hb, 0, none⟩)] w (Gives (.int .i64 k) w) := by
 cases s with
 | m32 s =>
  exact h.2.kind
 | m86 s =>
  exact h.2.kind
 | m64 s =>
  exact h.2.kind
 | x32 s =>
  exact h.2.kind
 | x64 s =>
  exact h.2.kind
 | sip s =>
  exact h.2.kind
theorem HSAny.key {w0 w : World} {hb : Nat} {F : Nat → Prop} {k : Int} {kh kl : BitVec 64} {s : HSt} {tl : Bytes} {lo : BitVec 64} (h : HSAny w0 w hb F k kh kl s tl lo)  :
 Calls Tryz.prog 16 #[.pointer (some ⟨hb, 0, none⟩)] w (GivesNew (.agg #[.int .u64 (W64 kh), .int .u64 (W64 kl)]) w) := by
 cases s with
 | m32 s =>
  exact h.2.key
 | m86 s =>
  exact h.2.key
 | m64 s =>
  exact h.2.key
 | x32 s =>
  exact h.2.key
 | x64 s =>
  exact h.2.key
 | sip s =>
  exact h.2.key
theorem HSAny.lanes {w0 w : World} {hb : Nat} {F : Nat → Prop} {k : Int} {kh kl : BitVec 64} {s : HSt} {tl : Bytes} {lo : BitVec 64} (h : HSAny w0 w hb F k kh kl s tl lo)  :
 Calls Tryz.prog 30 #[.pointer (some ⟨hb, 0, none⟩)] w (fun e w' => ∃ v, e = .returned (.tuple #[.agg #[.int .u64 (W64 (lanesS s).1), .int .u64 (W64 (lanesS s).2.1), .int .u64 (W64 (lanesS s).2.2.1), .int .u64 (W64 (lanesS s).2.2.2)], .int .u64 (W64 lo), v]) ∧ Owns w' w.heap.size v tl ∧ Fr No w w') := by
 cases s with
 | m32 s =>
  exact h.2.lanes
 | m86 s =>
  exact h.2.lanes
 | m64 s =>
  exact h.2.lanes
 | x32 s =>
  exact h.2.lanes
 | x64 s =>
  exact h.2.lanes
 | sip s =>
  exact h.2.lanes
theorem HSAny.set_right {w0 w : World} {hb : Nat} {F : Nat → Prop} {k : Int} {kh kl : BitVec 64} {s : HSt} {tl : Bytes} {lo : BitVec 64} (h : HSAny w0 w hb F k kh kl s tl lo) (x : L4) (lo2 : BitVec 64) (a : Option Addr) (n c : Nat) (hw : RightS k x) (hfit : FitS k n lo2) (l : Bytes) (hy : IsBytes w a n c l) (hn : n ≤ 1099511627776) :
 Calls Tryz.prog 25 #[.pointer (some ⟨hb, 0, none⟩), .agg #[.int .u64 (W64 x.1), .int .u64 (W64 x.2.1), .int .u64 (W64 x.2.2.1), .int .u64 (W64 x.2.2.2)], .int .u64 (W64 lo2), .slice a n c] w (fun e w' => e = .returned (.int .i64 0) ∧ ∃ F', HSAny w0 w' hb F' k kh kl (stateS k x) l lo2 ∧ Fr F w w' ∧ ∀ x, F' x → F x ∨ w.heap.size ≤ x) := by
 cases s with
 | m32 s =>
  obtain ⟨hk, h⟩ := h
  subst hk
  rw [RightS_m32] at hw
  rw [fit_m32] at hfit
  refine (h.set_right x.1 x.2.1 x.2.2.1 x.2.2.2 lo2 a n c hw hfit l hy hn).mono ?_
  rintro e w' ⟨rfl, F', h', r⟩
  refine ⟨rfl, F', ?_, r⟩
  rw [stateS_m32]
  exact ⟨rfl, h'⟩
 | m86 s =>
  obtain ⟨hk, h⟩ := h
  subst hk
  rw [RightS_m86] at hw
  rw [fit_m86] at hfit
  refine (h.set_right x.1 x.2.1 x.2.2.1 x.2.2.2 lo2 a n c hw hfit l hy hn).mono ?_
  rintro e w' ⟨rfl, F', h', r⟩
  refine ⟨rfl, F', ?_, r⟩
  rw [stateS_m86]
  exact ⟨rfl, h'⟩
 | m64 s =>
  obtain ⟨hk, h⟩ := h
  subst hk
  rw [RightS_m64] at hw
  rw [fit_m64] at hfit
  refine (h.set_right x.1 x.2.1 x.2.2.1 x.2.2.2 lo2 a n c hw hfit l hy hn).mono ?_
  rintro e w' ⟨rfl, F', h', r⟩
  refine ⟨rfl, F', ?_, r⟩
  rw [stateS_m64]
  exact ⟨rfl, h'⟩
 | x32 s =>
  obtain ⟨hk, h⟩ := h
  subst hk
  rw [RightS_x32] at hw
  rw [fit_x32] at hfit
  refine (h.set_right x.1 x.2.1 x.2.2.1 x.2.2.2 lo2 a n c hw hfit l hy hn).mono ?_
  rintro e w' ⟨rfl, F', h', r⟩
  refine ⟨rfl, F', ?_, r⟩
  rw [stateS_x32]
  exact ⟨rfl, h'⟩
 | x64 s =>
  obtain ⟨hk, h⟩ := h
  subst hk
  rw [RightS_x64] at hw
  rw [fit_x64] at hfit
  refine (h.set_right x.1 x.2.1 x.2.2.1 x.2.2.2 lo2 a n c hw hfit l hy hn).mono ?_
  rintro e w' ⟨rfl, F', h', r⟩
  refine ⟨rfl, F', ?_, r⟩
  rw [stateS_x64]
  exact ⟨rfl, h'⟩
 | sip s =>
  obtain ⟨hk, h⟩ := h
  rw [RightS_sip hk] at hw
  rw [fit_sip hk] at hfit
  refine (h.set_right x.1 x.2.1 x.2.2.1 x.2.2.2 lo2 a n c hw hfit l hy hn).mono ?_
  rintro e w' ⟨rfl, F', h', r⟩
  refine ⟨rfl, F', ?_, r⟩
  rw [stateS_sip hk]
  exact ⟨hk, h'⟩
def HDone (w0 w : World) (hb : Nat) (F : Nat → Prop) (k : Int) (kh kl : BitVec 64) (d : Bytes) : Prop := HSAny w0 w hb F k kh kl (foldS k (firstS k kh kl) d).1 (foldS k (firstS k kh kl) d).2 (BitVec.ofNat 64 d.length)
theorem HDone_nil {w0 w : World} {hb : Nat} {F : Nat → Prop} {k : Int} {kh kl : BitVec 64} (h : HSAny w0 w hb F k kh kl (firstS k kh kl) [] 0#64) : HDone w0 w hb F k kh kl [] := by
 unfold HDone
 rw [fold_nil]
 exact h
theorem HDone.any {w0 w : World} {hb : Nat} {F : Nat → Prop} {k : Int} {kh kl : BitVec 64} {d : Bytes} (h : HDone w0 w hb F k kh kl d) : HSAny w0 w hb F k kh kl (foldS k (firstS k kh kl) d).1 (foldS k (firstS k kh kl) d).2 (BitVec.ofNat 64 d.length) := h
theorem HDone.no {w0 w : World} {hb : Nat} {F : Nat → Prop} {k : Int} {kh kl : BitVec 64} {d : Bytes} (h : HDone w0 w hb F k kh kl d) {w' : World} (f : Fr No w w') : HDone w0 w' hb F k kh kl d := HSAny.no h f
theorem HDone.fr {w0 w : World} {hb : Nat} {F : Nat → Prop} {k : Int} {kh kl : BitVec 64} {d : Bytes} (h : HDone w0 w hb F k kh kl d) : Fr No w0 w := HSAny.fr h
theorem HDone.lt {w0 w : World} {hb : Nat} {F : Nat → Prop} {k : Int} {kh kl : BitVec 64} {d : Bytes} (h : HDone w0 w hb F k kh kl d) : ∀ x, F x → x < w.heap.size := HSAny.lt h
theorem HDone.above {w0 w : World} {hb : Nat} {F : Nat → Prop} {k : Int} {kh kl : BitVec 64} {d : Bytes} (h : HDone w0 w hb F k kh kl d) : ∀ x, F x → w0.heap.size ≤ x := HSAny.above h
theorem HDone.con {w0 w : World} {hb : Nat} {F : Nat → Prop} {k : Int} {kh kl : BitVec 64} {d : Bytes} (h : HDone w0 w hb F k kh kl d) : Keeps w F := HSAny.con h
theorem HDone.ofK {w0 w : World} {hb : Nat} {F : Nat → Prop} {k : Int} {kh kl : BitVec 64} {d : Bytes} (h : HDone w0 w hb F k kh kl d) : OfK k (foldS k (firstS k kh kl) d).1 := HSAny.ofK h
theorem HDone.keep {w0 w : World} {hb : Nat} {F : Nat → Prop} {k : Int} {kh kl : BitVec 64} {d : Bytes} (h : HDone w0 w hb F k kh kl d) {w' : World} {G : Nat → Prop} (f : Fr G w w') (hG : ∀ x, G x → ¬ F x) (hK : Keeps w G) (hA : ∀ x, G x → w0.heap.size ≤ x) : HDone w0 w' hb F k kh kl d := HSAny.keep h f hG hK hA
theorem HDone.write {w0 w : World} {hb : Nat} {F : Nat → Prop} {k : Int} {kh kl : BitVec 64} {d : Bytes} (h : HDone w0 w hb F k kh kl d) (a : Option Addr) (n c : Nat) (l : Bytes) (hy : IsBytes w a n c l) (hap : Apart F a n) (hn : n ≤ 1099511627776) :
 Calls Tryz.prog 14 #[.pointer (some ⟨hb, 0, none⟩), .slice a n c] w (fun e w' => e = .returned (.int .i64 0) ∧ ∃ F', HDone w0 w' hb F' k kh kl (d ++ l) ∧ Fr F w w' ∧ ∀ x, F' x → F x ∨ w.heap.size ≤ x) := by
 refine (HSAny.write h a n c l hy hap hn).mono ?_
 rintro e w' ⟨rfl, F', h', r⟩
 refine ⟨rfl, F', ?_, r⟩
 unfold HDone
 rw [fold_append, List.length_append, hy.1, BitVec.ofNat_add]
 exact h'
theorem HDone.sum {w0 w : World} {hb : Nat} {F : Nat → Prop} {k : Int} {kh kl : BitVec 64} {d : Bytes} (h : HDone w0 w hb F k kh kl d) : Calls Tryz.prog 9 #[.pointer (some ⟨hb, 0, none⟩)] w (fun e w' => ∃ v, e = .returned (.tuple #[v, .int .i64 0]) ∧ Owns w' w.heap.size v (oneS k kh kl d) ∧ Fr No w w') := HSAny.sum h
end Go.Proofs.YtidlpihoafnobaaGreatDoor
