/- StrRight -/
import Derived.Test.YtidlpihoafnobaaGreatDoorPStrNew
set_option linter.unusedVariables false
set_option linter.unusedSimpArgs false
namespace Go.Proofs.YtidlpihoafnobaaGreatDoor.StM32
set_option maxRecDepth 100000
open Go.RowKit
theorem lt_div (x : BitVec 64) : x / 4294967296#64 = 0#64 ↔ W64 x < 4294967296 := by
 unfold W64
 constructor
 · intro h
   have := congrArg BitVec.toNat h
   simp only [BitVec.toNat_udiv, BitVec.toNat_ofNat] at this
   rw [show 4294967296 % 2 ^ 64 = 4294967296 from rfl, show 0 % 2 ^ 64 = 0 from rfl] at this
   omega
 · intro h
   apply BitVec.eq_of_toNat_eq
   simp only [BitVec.toNat_udiv, BitVec.toNat_ofNat]
   rw [show 4294967296 % 2 ^ 64 = 4294967296 from rfl, show 0 % 2 ^ 64 = 0 from rfl]
   omega
theorem refRight_yes (x0 x1 x2 x3 : BitVec 64) (w : World) (hw : RightP x0 x1 x2 x3) : Calls Tryz.prog 57 #[.agg #[.int .u64 (W64 x0), .int .u64 (W64 x1), .int .u64 (W64 x2), .int .u64 (W64 x3)]] w (GivesNew (.bool true) w) := by
 obtain ⟨rfl, rfl, rfl, hB⟩ := hw
 rw [lt_div] at hB
 go_enter Tryz.func57, Tryz.ntmps57
 go_wp2
 go_ret
 exact ⟨rfl, (Fr.refl No w).alloc _⟩
theorem refRight_no (x0 x1 x2 x3 : BitVec 64) (w : World) (hw : ¬ RightP x0 x1 x2 x3) : Calls Tryz.prog 57 #[.agg #[.int .u64 (W64 x0), .int .u64 (W64 x1), .int .u64 (W64 x2), .int .u64 (W64 x3)]] w (GivesNew (.bool false) w) := by
 unfold RightP at hw
 rw [lt_div] at hw
 by_cases h0 : W64 x0 < 4294967296
 · by_cases h1 : x1 = 0#64
   · by_cases h2 : x2 = 0#64
     · have h3 : ¬ x3 = 0#64 := fun h3 => hw ⟨h1, h2, h3, h0⟩
       have b1 : (x1 == 0#64) = true := by simpa using h1
       have b2 : (x2 == 0#64) = true := by simpa using h2
       have b3 : (x3 == 0#64) = false := by simpa using h3
       clear h1 h2 h3 hw
       go_enter Tryz.func57, Tryz.ntmps57
       go_wp2
       go_ret
       exact ⟨rfl, (Fr.refl No w).alloc _⟩
     · have b1 : (x1 == 0#64) = true := by simpa using h1
       have b2 : (x2 == 0#64) = false := by simpa using h2
       clear h1 h2 hw
       go_enter Tryz.func57, Tryz.ntmps57
       go_wp2
       go_ret
       exact ⟨rfl, (Fr.refl No w).alloc _⟩
   · have b1 : (x1 == 0#64) = false := by simpa using h1
     clear h1 hw
     go_enter Tryz.func57, Tryz.ntmps57
     go_wp2
     go_ret
     exact ⟨rfl, (Fr.refl No w).alloc _⟩
 · clear hw
   go_enter Tryz.func57, Tryz.ntmps57
   go_wp2
   go_ret
   exact ⟨rfl, (Fr.refl No w).alloc _⟩
end Go.Proofs.YtidlpihoafnobaaGreatDoor.StM32
namespace Go.Proofs.YtidlpihoafnobaaGreatDoor.StM86
set_option maxRecDepth 100000
open Go.RowKit
open Go.Proofs.YtidlpihoafnobaaGreatDoor.StG32
theorem lt_back (x : BitVec 64) : (x.setWidth 32).setWidth 64 = x ↔ W64 x < 4294967296 := by
 unfold W64
 constructor
 · intro h
   rw [← h]
   have := (x.setWidth 32).isLt
   rw [BitVec.toNat_setWidth]
   omega
 · intro h
   apply BitVec.eq_of_toNat_eq
   simp only [BitVec.toNat_setWidth]
   omega
theorem refRight_yes (x0 x1 x2 x3 : BitVec 64) (w : World) (hw : RightP x0 x1 x2 x3) : Calls Tryz.prog 58 #[.agg #[.int .u64 (W64 x0), .int .u64 (W64 x1), .int .u64 (W64 x2), .int .u64 (W64 x3)]] w (GivesNew (.bool true) w) := by
 obtain ⟨h0, h1, h2, h3⟩ := hw
 rw [lt_back] at h0 h1 h2 h3
 go_enter Tryz.func58, Tryz.ntmps58
 go_wp2
 go_ret
 exact ⟨rfl, (Fr.refl No w).alloc _⟩
theorem refRight_no (x0 x1 x2 x3 : BitVec 64) (w : World) (hw : ¬ RightP x0 x1 x2 x3) : Calls Tryz.prog 58 #[.agg #[.int .u64 (W64 x0), .int .u64 (W64 x1), .int .u64 (W64 x2), .int .u64 (W64 x3)]] w (GivesNew (.bool false) w) := by
 unfold RightP at hw
 rw [lt_back, lt_back, lt_back, lt_back] at hw
 by_cases h0 : W64 x0 < 4294967296
 · by_cases h1 : W64 x1 < 4294967296
   · by_cases h2 : W64 x2 < 4294967296
     · have h3 : ¬ W64 x3 < 4294967296 := fun h3 => hw ⟨h0, h1, h2, h3⟩
       clear hw
       go_enter Tryz.func58, Tryz.ntmps58
       go_wp2
       go_ret
       exact ⟨rfl, (Fr.refl No w).alloc _⟩
     · clear hw
       go_enter Tryz.func58, Tryz.ntmps58
       go_wp2
       go_ret
       exact ⟨rfl, (Fr.refl No w).alloc _⟩
   · clear hw
     go_enter Tryz.func58, Tryz.ntmps58
     go_wp2
     go_ret
     exact ⟨rfl, (Fr.refl No w).alloc _⟩
 · clear hw
   go_enter Tryz.func58, Tryz.ntmps58
   go_wp2
   go_ret
   exact ⟨rfl, (Fr.refl No w).alloc _⟩
end Go.Proofs.YtidlpihoafnobaaGreatDoor.StM86
namespace Go.Proofs.YtidlpihoafnobaaGreatDoor.StM64
set_option maxRecDepth 100000
open Go.RowKit
theorem refRight_yes (x0 x1 x2 x3 : BitVec 64) (w : World) (hw : RightP x0 x1 x2 x3) : Calls Tryz.prog 59 #[.agg #[.int .u64 (W64 x0), .int .u64 (W64 x1), .int .u64 (W64 x2), .int .u64 (W64 x3)]] w (GivesNew (.bool true) w) := by
 obtain ⟨rfl, rfl⟩ := hw
 go_enter Tryz.func59, Tryz.ntmps59
 go_wp2
 go_ret
 exact ⟨rfl, (Fr.refl No w).alloc _⟩
theorem refRight_no (x0 x1 x2 x3 : BitVec 64) (w : World) (hw : ¬ RightP x0 x1 x2 x3) : Calls Tryz.prog 59 #[.agg #[.int .u64 (W64 x0), .int .u64 (W64 x1), .int .u64 (W64 x2), .int .u64 (W64 x3)]] w (GivesNew (.bool false) w) := by
 unfold RightP at hw
 by_cases h2 : x2 = 0#64
 · have h3 : ¬ x3 = 0#64 := fun h3 => hw ⟨h2, h3⟩
   have b2 : (x2 == 0#64) = true := by simpa using h2
   have b3 : (x3 == 0#64) = false := by simpa using h3
   clear h2 h3 hw
   go_enter Tryz.func59, Tryz.ntmps59
   go_wp2
   go_ret
   exact ⟨rfl, (Fr.refl No w).alloc _⟩
 · have b2 : (x2 == 0#64) = false := by simpa using h2
   clear h2 hw
   go_enter Tryz.func59, Tryz.ntmps59
   go_wp2
   go_ret
   exact ⟨rfl, (Fr.refl No w).alloc _⟩
end Go.Proofs.YtidlpihoafnobaaGreatDoor.StM64
namespace Go.Proofs.YtidlpihoafnobaaGreatDoor
set_option maxRecDepth 100000
open Go.RowKit
theorem refRight_m32 (x : L4) (lo : BitVec 64) (a : Option Addr) (n c : Nat) (b : Bool) (hb : b = true ↔ (RightS 1 x ∧ FitS 1 n lo)) (w : World) :
 Calls Tryz.prog 29 #[.int .i64 1, .agg #[.int .u64 (W64 x.1), .int .u64 (W64 x.2.1), .int .u64 (W64 x.2.2.1), .int .u64 (W64 x.2.2.2)], .int .u64 (W64 lo), .slice a n c] w (GivesNew (.bool b) w) := by
 have hB := refBlock_any 1
 rw [show blockN 1 = 4 from rfl] at hB
 have hV := row4_new w 31 (.int .u64 (W64 x.1)) (.int .u64 (W64 x.2.1)) (.int .u64 (W64 x.2.2.1)) (.int .u64 (W64 x.2.2.2))
 have hF := (Fr.refl No w).alloc (.cells #[.int .u64 (W64 x.1), .int .u64 (W64 x.2.1), .int .u64 (W64 x.2.2.1), .int .u64 (W64 x.2.2.2)] 31)
 cases hfit : (BitVec.ofNat 64 n == lo % 4#64) with
 | false =>
  have hbf : b = false := by
   cases b with
   | false => rfl
   | true =>
    have h := (hb.1 rfl).2
    rw [fit_m32] at h
    have h' : (BitVec.ofNat 64 n == lo % 4#64) = true := h
    rw [hfit] at h'; cases h'
  subst hbf
  clear hb
  have hfit' : (BitVec.ofNat 64 n != lo % 4#64) = true := by simp only [bne, hfit]; rfl
  go_enter Tryz.func29, Tryz.ntmps29
  go_wp2_with fail
  refine (hB _).mono ?_
  rintro e w1 ⟨rfl, hf⟩
  replace hV := hV.no hf
  replace hF := hF.no hf
  have v0 := hV.c0
  have v1 := hV.c1
  have v2 := hV.c2
  have v3 := hV.c3
  go_wp2_with fail
  go_ret
  exact ⟨rfl, hF⟩
 | true =>
  have hb2 : b = true ↔ RightS 1 x := by rw [hb, and_iff_left ((fit_m32 n lo).2 hfit)]
  clear hb
  have hfit' : (BitVec.ofNat 64 n != lo % 4#64) = false := by simp only [bne, hfit]; rfl
  rw [RightS_m32] at hb2
  have hr : ∀ w, Calls Tryz.prog 57 #[.agg #[.int .u64 (W64 x.1), .int .u64 (W64 x.2.1), .int .u64 (W64 x.2.2.1), .int .u64 (W64 x.2.2.2)]] w (GivesNew (.bool b) w) := by
   intro w
   cases b with
   | false => exact StM32.refRight_no _ _ _ _ w (fun h => by have := hb2.2 h; cases this)
   | true => exact StM32.refRight_yes _ _ _ _ w (hb2.1 rfl)
  clear hb2
  go_enter Tryz.func29, Tryz.ntmps29
  go_wp2_with fail
  refine (hB _).mono ?_
  rintro e w1 ⟨rfl, hf⟩
  replace hV := hV.no hf
  replace hF := hF.no hf
  have v0 := hV.c0
  have v1 := hV.c1
  have v2 := hV.c2
  have v3 := hV.c3
  go_wp2_with fail
  refine (hr _).mono ?_
  rintro e w2 ⟨rfl, hf2⟩
  go_wp2_with fail
  go_ret
  exact ⟨rfl, hF.no hf2⟩
theorem refRight_m86 (x : L4) (lo : BitVec 64) (a : Option Addr) (n c : Nat) (b : Bool) (hb : b = true ↔ (RightS 2 x ∧ FitS 2 n lo)) (w : World) :
 Calls Tryz.prog 29 #[.int .i64 2, .agg #[.int .u64 (W64 x.1), .int .u64 (W64 x.2.1), .int .u64 (W64 x.2.2.1), .int .u64 (W64 x.2.2.2)], .int .u64 (W64 lo), .slice a n c] w (GivesNew (.bool b) w) := by
 have hB := refBlock_any 2
 rw [show blockN 2 = 16 from rfl] at hB
 have hV := row4_new w 31 (.int .u64 (W64 x.1)) (.int .u64 (W64 x.2.1)) (.int .u64 (W64 x.2.2.1)) (.int .u64 (W64 x.2.2.2))
 have hF := (Fr.refl No w).alloc (.cells #[.int .u64 (W64 x.1), .int .u64 (W64 x.2.1), .int .u64 (W64 x.2.2.1), .int .u64 (W64 x.2.2.2)] 31)
 cases hfit : (BitVec.ofNat 64 n == lo % 16#64) with
 | false =>
  have hbf : b = false := by
   cases b with
   | false => rfl
   | true =>
    have h := (hb.1 rfl).2
    rw [fit_m86] at h
    have h' : (BitVec.ofNat 64 n == lo % 16#64) = true := h
    rw [hfit] at h'; cases h'
  subst hbf
  clear hb
  have hfit' : (BitVec.ofNat 64 n != lo % 16#64) = true := by simp only [bne, hfit]; rfl
  go_enter Tryz.func29, Tryz.ntmps29
  go_wp2_with fail
  refine (hB _).mono ?_
  rintro e w1 ⟨rfl, hf⟩
  replace hV := hV.no hf
  replace hF := hF.no hf
  have v0 := hV.c0
  have v1 := hV.c1
  have v2 := hV.c2
  have v3 := hV.c3
  go_wp2_with fail
  go_ret
  exact ⟨rfl, hF⟩
 | true =>
  have hb2 : b = true ↔ RightS 2 x := by rw [hb, and_iff_left ((fit_m86 n lo).2 hfit)]
  clear hb
  have hfit' : (BitVec.ofNat 64 n != lo % 16#64) = false := by simp only [bne, hfit]; rfl
  rw [RightS_m86] at hb2
  have hr : ∀ w, Calls Tryz.prog 58 #[.agg #[.int .u64 (W64 x.1), .int .u64 (W64 x.2.1), .int .u64 (W64 x.2.2.1), .int .u64 (W64 x.2.2.2)]] w (GivesNew (.bool b) w) := by
   intro w
   cases b with
   | false => exact StM86.refRight_no _ _ _ _ w (fun h => by have := hb2.2 h; cases this)
   | true => exact StM86.refRight_yes _ _ _ _ w (hb2.1 rfl)
  clear hb2
  go_enter Tryz.func29, Tryz.ntmps29
  go_wp2_with fail
  refine (hB _).mono ?_
  rintro e w1 ⟨rfl, hf⟩
  replace hV := hV.no hf
  replace hF := hF.no hf
  have v0 := hV.c0
  have v1 := hV.c1
  have v2 := hV.c2
  have v3 := hV.c3
  go_wp2_with fail
  refine (hr _).mono ?_
  rintro e w2 ⟨rfl, hf2⟩
  go_wp2_with fail
  go_ret
  exact ⟨rfl, hF.no hf2⟩
theorem refRight_m64 (x : L4) (lo : BitVec 64) (a : Option Addr) (n c : Nat) (b : Bool) (hb : b = true ↔ (RightS 3 x ∧ FitS 3 n lo)) (w : World) :
 Calls Tryz.prog 29 #[.int .i64 3, .agg #[.int .u64 (W64 x.1), .int .u64 (W64 x.2.1), .int .u64 (W64 x.2.2.1), .int .u64 (W64 x.2.2.2)], .int .u64 (W64 lo), .slice a n c] w (GivesNew (.bool b) w) := by
 have hB := refBlock_any 3
 rw [show blockN 3 = 16 from rfl] at hB
 have hV := row4_new w 31 (.int .u64 (W64 x.1)) (.int .u64 (W64 x.2.1)) (.int .u64 (W64 x.2.2.1)) (.int .u64 (W64 x.2.2.2))
 have hF := (Fr.refl No w).alloc (.cells #[.int .u64 (W64 x.1), .int .u64 (W64 x.2.1), .int .u64 (W64 x.2.2.1), .int .u64 (W64 x.2.2.2)] 31)
 cases hfit : (BitVec.ofNat 64 n == lo % 16#64) with
 | false =>
  have hbf : b = false := by
   cases b with
   | false => rfl
   | true =>
    have h := (hb.1 rfl).2
    rw [fit_m64] at h
    have h' : (BitVec.ofNat 64 n == lo % 16#64) = true := h
    rw [hfit] at h'; cases h'
  subst hbf
  clear hb
  have hfit' : (BitVec.ofNat 64 n != lo % 16#64) = true := by simp only [bne, hfit]; rfl
  go_enter Tryz.func29, Tryz.ntmps29
  go_wp2_with fail
  refine (hB _).mono ?_
  rintro e w1 ⟨rfl, hf⟩
  replace hV := hV.no hf
  replace hF := hF.no hf
  have v0 := hV.c0
  have v1 := hV.c1
  have v2 := hV.c2
  have v3 := hV.c3
  go_wp2_with fail
  go_ret
  exact ⟨rfl, hF⟩
 | true =>
  have hb2 : b = true ↔ RightS 3 x := by rw [hb, and_iff_left ((fit_m64 n lo).2 hfit)]
  clear hb
  have hfit' : (BitVec.ofNat 64 n != lo % 16#64) = false := by simp only [bne, hfit]; rfl
  rw [RightS_m64] at hb2
  have hr : ∀ w, Calls Tryz.prog 59 #[.agg #[.int .u64 (W64 x.1), .int .u64 (W64 x.2.1), .int .u64 (W64 x.2.2.1), .int .u64 (W64 x.2.2.2)]] w (GivesNew (.bool b) w) := by
   intro w
   cases b with
   | false => exact StM64.refRight_no _ _ _ _ w (fun h => by have := hb2.2 h; cases this)
   | true => exact StM64.refRight_yes _ _ _ _ w (hb2.1 rfl)
  clear hb2
  go_enter Tryz.func29, Tryz.ntmps29
  go_wp2_with fail
  refine (hB _).mono ?_
  rintro e w1 ⟨rfl, hf⟩
  replace hV := hV.no hf
  replace hF := hF.no hf
  have v0 := hV.c0
  have v1 := hV.c1
  have v2 := hV.c2
  have v3 := hV.c3
  go_wp2_with fail
  refine (hr _).mono ?_
  rintro e w2 ⟨rfl, hf2⟩
  go_wp2_with fail
  go_ret
  exact ⟨rfl, hF.no hf2⟩
theorem refRight_x32 (x : L4) (lo : BitVec 64) (a : Option Addr) (n c : Nat) (b : Bool) (hb : b = true ↔ (RightS 4 x ∧ FitS 4 n lo)) (w : World) :
 Calls Tryz.prog 29 #[.int .i64 4, .agg #[.int .u64 (W64 x.1), .int .u64 (W64 x.2.1), .int .u64 (W64 x.2.2.1), .int .u64 (W64 x.2.2.2)], .int .u64 (W64 lo), .slice a n c] w (GivesNew (.bool b) w) := by
 have hB := refBlock_any 4
 rw [show blockN 4 = 16 from rfl] at hB
 have hV := row4_new w 31 (.int .u64 (W64 x.1)) (.int .u64 (W64 x.2.1)) (.int .u64 (W64 x.2.2.1)) (.int .u64 (W64 x.2.2.2))
 have hF := (Fr.refl No w).alloc (.cells #[.int .u64 (W64 x.1), .int .u64 (W64 x.2.1), .int .u64 (W64 x.2.2.1), .int .u64 (W64 x.2.2.2)] 31)
 cases hfit : (BitVec.ofNat 64 n == lo % 16#64) with
 | false =>
  have hbf : b = false := by
   cases b with
   | false => rfl
   | true =>
    have h := (hb.1 rfl).2
    rw [fit_x32] at h
    have h' : (BitVec.ofNat 64 n == lo % 16#64) = true := h
    rw [hfit] at h'; cases h'
  subst hbf
  clear hb
  have hfit' : (BitVec.ofNat 64 n != lo % 16#64) = true := by simp only [bne, hfit]; rfl
  go_enter Tryz.func29, Tryz.ntmps29
  go_wp2_with fail
  refine (hB _).mono ?_
  rintro e w1 ⟨rfl, hf⟩
  replace hV := hV.no hf
  replace hF := hF.no hf
  have v0 := hV.c0
  have v1 := hV.c1
  have v2 := hV.c2
  have v3 := hV.c3
  go_wp2_with fail
  go_ret
  exact ⟨rfl, hF⟩
 | true =>
  have hb2 : b = true ↔ RightS 4 x := by rw [hb, and_iff_left ((fit_x32 n lo).2 hfit)]
  clear hb
  have hfit' : (BitVec.ofNat 64 n != lo % 16#64) = false := by simp only [bne, hfit]; rfl
  rw [RightS_x32] at hb2
  have hr : ∀ w, Calls Tryz.prog 58 #[.agg #[.int .u64 (W64 x.1), .int .u64 (W64 x.2.1), .int .u64 (W64 x.2.2.1), .int .u64 (W64 x.2.2.2)]] w (GivesNew (.bool b) w) := by
   intro w
   cases b with
   | false => exact StM86.refRight_no _ _ _ _ w (fun h => by have := hb2.2 h; cases this)
   | true => exact StM86.refRight_yes _ _ _ _ w (hb2.1 rfl)
  clear hb2
  go_enter Tryz.func29, Tryz.ntmps29
  go_wp2_with fail
  refine (hB _).mono ?_
  rintro e w1 ⟨rfl, hf⟩
  replace hV := hV.no hf
  replace hF := hF.no hf
  have v0 := hV.c0
  have v1 := hV.c1
  have v2 := hV.c2
  have v3 := hV.c3
  go_wp2_with fail
  refine (hr _).mono ?_
  rintro e w2 ⟨rfl, hf2⟩
  go_wp2_with fail
  go_ret
  exact ⟨rfl, hF.no hf2⟩
theorem refRight_x64 (x : L4) (lo : BitVec 64) (a : Option Addr) (n c : Nat) (b : Bool) (hb : b = true ↔ (RightS 5 x ∧ FitS 5 n lo)) (w : World) :
 Calls Tryz.prog 29 #[.int .i64 5, .agg #[.int .u64 (W64 x.1), .int .u64 (W64 x.2.1), .int .u64 (W64 x.2.2.1), .int .u64 (W64 x.2.2.2)], .int .u64 (W64 lo), .slice a n c] w (GivesNew (.bool b) w) := by
 have hB := refBlock_any 5
 rw [show blockN 5 = 32 from rfl] at hB
 have hV := row4_new w 31 (.int .u64 (W64 x.1)) (.int .u64 (W64 x.2.1)) (.int .u64 (W64 x.2.2.1)) (.int .u64 (W64 x.2.2.2))
 have hF := (Fr.refl No w).alloc (.cells #[.int .u64 (W64 x.1), .int .u64 (W64 x.2.1), .int .u64 (W64 x.2.2.1), .int .u64 (W64 x.2.2.2)] 31)
 cases hfit : (BitVec.ofNat 64 n == lo % 32#64) with
 | false =>
  have hbf : b = false := by
   cases b with
   | false => rfl
   | true =>
    have h := (hb.1 rfl).2
    rw [fit_x64] at h
    have h' : (BitVec.ofNat 64 n == lo % 32#64) = true := h
    rw [hfit] at h'; cases h'
  subst hbf
  clear hb
  have hfit' : (BitVec.ofNat 64 n != lo % 32#64) = true := by simp only [bne, hfit]; rfl
  go_enter Tryz.func29, Tryz.ntmps29
  go_wp2_with fail
  refine (hB _).mono ?_
  rintro e w1 ⟨rfl, hf⟩
  replace hV := hV.no hf
  replace hF := hF.no hf
  have v0 := hV.c0
  have v1 := hV.c1
  have v2 := hV.c2
  have v3 := hV.c3
  go_wp2_with fail
  go_ret
  exact ⟨rfl, hF⟩
 | true =>
  have hb2 : b = true ↔ RightS 5 x := by rw [hb, and_iff_left ((fit_x64 n lo).2 hfit)]
  clear hb
  have hfit' : (BitVec.ofNat 64 n != lo % 32#64) = false := by simp only [bne, hfit]; rfl
  have hbt : b = true := hb2.2 (by exact trivial)
  subst hbt
  clear hb2
  go_enter Tryz.func29, Tryz.ntmps29
  go_wp2_with fail
  refine (hB _).mono ?_
  rintro e w1 ⟨rfl, hf⟩
  replace hV := hV.no hf
  replace hF := hF.no hf
  have v0 := hV.c0
  have v1 := hV.c1
  have v2 := hV.c2
  have v3 := hV.c3
  go_wp2_with fail
  go_ret
  exact ⟨rfl, hF⟩
theorem refRight_sip (k : Int) (hk : StSip.IsK k) (x : L4) (lo : BitVec 64) (a : Option Addr) (n c : Nat) (b : Bool) (hb : b = true ↔ (RightS k x ∧ FitS k n lo)) (w : World) :
 Calls Tryz.prog 29 #[.int .i64 k, .agg #[.int .u64 (W64 x.1), .int .u64 (W64 x.2.1), .int .u64 (W64 x.2.2.1), .int .u64 (W64 x.2.2.2)], .int .u64 (W64 lo), .slice a n c] w (GivesNew (.bool b) w) := by
 have hB := refBlock_any k
 rw [block_sip hk] at hB
 obtain ⟨h1, h2, h3, h4, h5⟩ := isK_no hk
 have e1 : (k == 1) = false := by simpa using h1
 have e2 : (k == 2) = false := by simpa using h2
 have e3 : (k != 3) = true := by simpa using h3
 have e4 : (k == 4) = false := by simpa using h4
 clear h1 h2 h3 h4 h5
 have hV := row4_new w 31 (.int .u64 (W64 x.1)) (.int .u64 (W64 x.2.1)) (.int .u64 (W64 x.2.2.1)) (.int .u64 (W64 x.2.2.2))
 have hF := (Fr.refl No w).alloc (.cells #[.int .u64 (W64 x.1), .int .u64 (W64 x.2.1), .int .u64 (W64 x.2.2.1), .int .u64 (W64 x.2.2.2)] 31)
 cases hfit : (BitVec.ofNat 64 n == lo % 8#64) with
 | false =>
  have hbf : b = false := by
   cases b with
   | false => rfl
   | true =>
    have h := (hb.1 rfl).2
    rw [fit_sip hk] at h
    have h' : (BitVec.ofNat 64 n == lo % 8#64) = true := h
    rw [hfit] at h'; cases h'
  subst hbf
  clear hb
  have hfit' : (BitVec.ofNat 64 n != lo % 8#64) = true := by simp only [bne, hfit]; rfl
  go_enter Tryz.func29, Tryz.ntmps29
  go_wp2_with fail
  refine (hB _).mono ?_
  rintro e w1 ⟨rfl, hf⟩
  replace hV := hV.no hf
  replace hF := hF.no hf
  have v0 := hV.c0
  have v1 := hV.c1
  have v2 := hV.c2
  have v3 := hV.c3
  go_wp2_with fail
  go_ret
  exact ⟨rfl, hF⟩
 | true =>
  have hb2 : b = true ↔ RightS k x := by rw [hb, and_iff_left ((fit_sip hk n lo).2 hfit)]
  clear hb
  have hfit' : (BitVec.ofNat 64 n != lo % 8#64) = false := by simp only [bne, hfit]; rfl
  have hbt : b = true := hb2.2 (by rw [RightS_sip hk]; exact trivial)
  subst hbt
  clear hb2
  go_enter Tryz.func29, Tryz.ntmps29
  go_wp2_with fail
  refine (hB _).mono ?_
  rintro e w1 ⟨rfl, hf⟩
  replace hV := hV.no hf
  replace hF := hF.no hf
  have v0 := hV.c0
  have v1 := hV.c1
  have v2 := hV.c2
  have v3 := hV.c3
  go_wp2_with fail
  go_ret
  exact ⟨rfl, hF⟩
theorem refRight_all {k : Int} (hk : KindOk k) (x : L4) (lo : BitVec 64) (a : Option Addr) (n c : Nat) (b : Bool) (hb : b = true ↔ (RightS k x ∧ FitS k n lo)) (w : World) :
 Calls Tryz.prog 29 #[.int .i64 k, .agg #[.int .u64 (W64 x.1), .int .u64 (W64 x.2.1), .int .u64 (W64 x.2.2.1), .int .u64 (W64 x.2.2.2)], .int .u64 (W64 lo), .slice a n c] w (GivesNew (.bool b) w) := by
 revert hb
 exact kind_cases (C := fun k => (b = true ↔ (RightS k x ∧ FitS k n lo)) → Calls Tryz.prog 29 #[.int .i64 k, .agg #[.int .u64 (W64 x.1), .int .u64 (W64 x.2.1), .int .u64 (W64 x.2.2.1), .int .u64 (W64 x.2.2.2)], .int .u64 (W64 lo), .slice a n c] w (GivesNew (.bool b) w)) (fun hb => refRight_m32 x lo a n c b hb w) (fun hb => refRight_m86 x lo a n c b hb w) (fun hb => refRight_m64 x lo a n c b hb w) (fun hb => refRight_x32 x lo a n c b hb w) (fun hb => refRight_x64 x lo a n c b hb w) (fun k hk hb => refRight_sip k hk x lo a n c b hb w) hk
end Go.Proofs.YtidlpihoafnobaaGreatDoor
