/- StrRight LSetsStr -/
import Derived.Test.YtidlpihoafnobaaGreatPStrAnyGx
import Derived.Test.YtidlpihoafnobaaGreatPLOneStr
set_option linter.unusedVariables false
set_option linter.unusedSimpArgs false
namespace Go.Proofs.YtidlpihoafnobaaGreat.StM32
set_option maxRecDepth 100000
open Go.RowKit
theorem lt_div (x : BitVec 64) : x / 4294967296#64 = 0#64 ↔ W64 x < 4294967296 := by
 unfold W64
 constructor
 · intro h
   have := congrArg BitVec.toNat h
   simp only [BitVec.toNat_udiv, BitVec.toNat_ofNat] at this
   rw [show 4294967296 % 2 ^ 64 = 4294967296 from rfl, show 0 % 2 ^ 64 = 0 from rfl] at this
   omega
 · intro h
   apply BitVec.eq_of_toNat_eq
   simp only [BitVec.toNat_udiv, BitVec.toNat_ofNat]
   rw [show 4294967296 % 2 ^ 64 = 4294967296 from rfl, show 0 % 2 ^ 64 = 0 from rfl]
   omega
theorem refRight_yes (x0 x1 x2 x3 : BitVec 64) (w : World) (hw : RightP x0 x1 x2 x3) : Calls Tryz.prog 45 #[.agg #[.int .u64 (W64 x0), .int .u64 (W64 x1), .int .u64 (W64 x2), .int .u64 (W64 x3)]] w (GivesNew (.bool true) w) := by
 obtain ⟨rfl, rfl, rfl, hB⟩ := hw
 rw [lt_div] at hB
 go_enter Tryz.func45, Tryz.ntmps45
 go_wp2
 go_ret
 exact ⟨rfl, (Fr.refl No w).alloc _⟩
theorem refRight_no (x0 x1 x2 x3 : BitVec 64) (w : World) (hw : ¬ RightP x0 x1 x2 x3) : Calls Tryz.prog 45 #[.agg #[.int .u64 (W64 x0), .int .u64 (W64 x1), .int .u64 (W64 x2), .int .u64 (W64 x3)]] w (GivesNew (.bool false) w) := by
 unfold RightP at hw
 rw [lt_div] at hw
 by_cases h0 : W64 x0 < 4294967296
 · by_cases h1 : x1 = 0#64
   · by_cases h2 : x2 = 0#64
     · have h3 : ¬ x3 = 0#64 := fun h3 => hw ⟨h1, h2, h3, h0⟩
       have b1 : (x1 == 0#64) = true := by simpa using h1
       have b2 : (x2 == 0#64) = true := by simpa using h2
       have b3 : (x3 == 0#64) = false := by simpa using h3
       clear h1 h2 h3 hw
       go_enter Tryz.func45, Tryz.ntmps45
       go_wp2
       go_ret
       exact ⟨rfl, (Fr.refl No w).alloc _⟩
     · have b1 : (x1 == 0#64) = true := by simpa using h1
       have b2 : (x2 == 0#64) = false := by simpa using h2
       clear h1 h2 hw
       go_enter Tryz.func45, Tryz.ntmps45
       go_wp2
       go_ret
       exact ⟨rfl, (Fr.refl No w).alloc _⟩
   · have b1 : (x1 == 0#64) = false := by simpa using h1
     clear h1 hw
     go_enter Tryz.func45, Tryz.ntmps45
     go_wp2
     go_ret
     exact ⟨rfl, (Fr.refl No w).alloc _⟩
 · clear hw
   go_enter Tryz.func45, Tryz.ntmps45
   go_wp2
   go_ret
   exact ⟨rfl, (Fr.refl No w).alloc _⟩
end Go.Proofs.YtidlpihoafnobaaGreat.StM32
namespace Go.Proofs.YtidlpihoafnobaaGreat.StM86
set_option maxRecDepth 100000
open Go.RowKit
open Go.Proofs.YtidlpihoafnobaaGreat.StG32
theorem lt_back (x : BitVec 64) : (x.setWidth 32).setWidth 64 = x ↔ W64 x < 4294967296 := by
 unfold W64
 constructor
 · intro h
   rw [← h]
   have := (x.setWidth 32).isLt
   rw [BitVec.toNat_setWidth]
   omega
 · intro h
   apply BitVec.eq_of_toNat_eq
   simp only [BitVec.toNat_setWidth]
   omega
theorem refRight_yes (x0 x1 x2 x3 : BitVec 64) (w : World) (hw : RightP x0 x1 x2 x3) : Calls Tryz.prog 46 #[.agg #[.int .u64 (W64 x0), .int .u64 (W64 x1), .int .u64 (W64 x2), .int .u64 (W64 x3)]] w (GivesNew (.bool true) w) := by
 obtain ⟨h0, h1, h2, h3⟩ := hw
 rw [lt_back] at h0 h1 h2 h3
 go_enter Tryz.func46, Tryz.ntmps46
 go_wp2
 go_ret
 exact ⟨rfl, (Fr.refl No w).alloc _⟩
theorem refRight_no (x0 x1 x2 x3 : BitVec 64) (w : World) (hw : ¬ RightP x0 x1 x2 x3) : Calls Tryz.prog 46 #[.agg #[.int .u64 (W64 x0), .int .u64 (W64 x1), .int .u64 (W64 x2), .int .u64 (W64 x3)]] w (GivesNew (.bool false) w) := by
 unfold RightP at hw
 rw [lt_back, lt_back, lt_back, lt_back] at hw
 by_cases h0 : W64 x0 < 4294967296
 · by_cases h1 : W64 x1 < 4294967296
   · by_cases h2 : W64 x2 < 4294967296
     · have h3 : ¬ W64 x3 < 4294967296 := fun h3 => hw ⟨h0, h1, h2, h3⟩
       clear hw
       go_enter Tryz.func46, Tryz.ntmps46
       go_wp2
       go_ret
       exact ⟨rfl, (Fr.refl No w).alloc _⟩
     · clear hw
       go_enter Tryz.func46, Tryz.ntmps46
       go_wp2
       go_ret
       exact ⟨rfl, (Fr.refl No w).alloc _⟩
   · clear hw
     go_enter Tryz.func46, Tryz.ntmps46
     go_wp2
     go_ret
     exact ⟨rfl, (Fr.refl No w).alloc _⟩
 · clear hw
   go_enter Tryz.func46, Tryz.ntmps46
   go_wp2
   go_ret
   exact ⟨rfl, (Fr.refl No w).alloc _⟩
end Go.Proofs.YtidlpihoafnobaaGreat.StM86
namespace Go.Proofs.YtidlpihoafnobaaGreat.StM64
set_option maxRecDepth 100000
open Go.RowKit
theorem refRight_yes (x0 x1 x2 x3 : BitVec 64) (w : World) (hw : RightP x0 x1 x2 x3) : Calls Tryz.prog 47 #[.agg #[.int .u64 (W64 x0), .int .u64 (W64 x1), .int .u64 (W64 x2), .int .u64 (W64 x3)]] w (GivesNew (.bool true) w) := by
 obtain ⟨rfl, rfl⟩ := hw
 go_enter Tryz.func47, Tryz.ntmps47
 go_wp2
 go_ret
 exact ⟨rfl, (Fr.refl No w).alloc _⟩
theorem refRight_no (x0 x1 x2 x3 : BitVec 64) (w : World) (hw : ¬ RightP x0 x1 x2 x3) : Calls Tryz.prog 47 #[.agg #[.int .u64 (W64 x0), .int .u64 (W64 x1), .int .u64 (W64 x2), .int .u64 (W64 x3)]] w (GivesNew (.bool false) w) := by
 unfold RightP at hw
 by_cases h2 : x2 = 0#64
 · have h3 : ¬ x3 = 0#64 := fun h3 => hw ⟨h2, h3⟩
   have b2 : (x2 == 0#64) = true := by simpa using h2
   have b3 : (x3 == 0#64) = false := by simpa using h3
   clear h2 h3 hw
   go_enter Tryz.func47, Tryz.ntmps47
   go_wp2
   go_ret
   exact ⟨rfl, (Fr.refl No w).alloc _⟩
 · have b2 : (x2 == 0#64) = false := by simpa using h2
   clear h2 hw
   go_enter Tryz.func47, Tryz.ntmps47
   go_wp2
   go_ret
   exact ⟨rfl, (Fr.refl No w).alloc _⟩
end Go.Proofs.YtidlpihoafnobaaGreat.StM64
namespace Go.Proofs.YtidlpihoafnobaaGreat
set_option maxRecDepth 100000
open Go.RowKit
theorem refRight_m32 (x : L4) (lo : BitVec 64) (a : Option Addr) (n c : Nat) (b : Bool) (hb : b = true ↔ (RightS 1 x ∧ FitS 1 n lo)) (w : World) :
 Calls Tryz.prog 32 #[.int .i64 1, .agg #[.int .u64 (W64 x.1), .int .u64 (W64 x.2.1), .int .u64 (W64 x.2.2.1), .int .u64 (W64 x.2.2.2)], .int .u64 (W64 lo), .slice a n c] w (GivesNew (.bool b) w) := by
 have hB := refBlock_any 1
 rw [show blockN 1 = 4 from rfl] at hB
 have hV := row4_new w 49 (.int .u64 (W64 x.1)) (.int .u64 (W64 x.2.1)) (.int .u64 (W64 x.2.2.1)) (.int .u64 (W64 x.2.2.2))
 have hF := (Fr.refl No w).alloc (.cells #[.int .u64 (W64 x.1), .int .u64 (W64 x.2.1), .int .u64 (W64 x.2.2.1), .int .u64 (W64 x.2.2.2)] 49)
 cases hfit : (BitVec.ofNat 64 n == lo % 4#64) with
 | false =>
  have hbf : b = false := by
   cases b with
   | false => rfl
   | true =>
    have h := (hb.1 rfl).2
    rw [fit_m32] at h
    have h' : (BitVec.ofNat 64 n == lo % 4#64) = true := h
    rw [hfit] at h'; cases h'
  subst hbf
  clear hb
  have hfit' : (BitVec.ofNat 64 n != lo % 4#64) = true := by simp only [bne, hfit]; rfl
  go_enter Tryz.func32, Tryz.ntmps32
  go_wp2_with fail
  refine (hB _).mono ?_
  rintro e w1 ⟨rfl, hf⟩
  replace hV := hV.no hf
  replace hF := hF.no hf
  have v0 := hV.c0
  have v1 := hV.c1
  have v2 := hV.c2
  have v3 := hV.c3
  go_wp2_with fail
  go_ret
  exact ⟨rfl, hF⟩
 | true =>
  have hb2 : b = true ↔ RightS 1 x := by rw [hb, and_iff_left ((fit_m32 n lo).2 hfit)]
  clear hb
  have hfit' : (BitVec.ofNat 64 n != lo % 4#64) = false := by simp only [bne, hfit]; rfl
  rw [RightS_m32] at hb2
  have hr : ∀ w, Calls Tryz.prog 45 #[.agg #[.int .u64 (W64 x.1), .int .u64 (W64 x.2.1), .int .u64 (W64 x.2.2.1), .int .u64 (W64 x.2.2.2)]] w (GivesNew (.bool b) w) := by
   intro w
   cases b with
   | false => exact StM32.refRight_no _ _ _ _ w (fun h => by have := hb2.2 h; cases this)
   | true => exact StM32.refRight_yes _ _ _ _ w (hb2.1 rfl)
  clear hb2
  go_enter Tryz.func32, Tryz.ntmps32
  go_wp2_with fail
  refine (hB _).mono ?_
  rintro e w1 ⟨rfl, hf⟩
  replace hV := hV.no hf
  replace hF := hF.no hf
  have v0 := hV.c0
  have v1 := hV.c1
  have v2 := hV.c2
  have v3 := hV.c3
  go_wp2_with fail
  refine (hr _).mono ?_
  rintro e w2 ⟨rfl, hf2⟩
  go_wp2_with fail
  go_ret
  exact ⟨rfl, hF.no hf2⟩
theorem refRight_m86 (x : L4) (lo : BitVec 64) (a : Option Addr) (n c : Nat) (b : Bool) (hb : b = true ↔ (RightS 2 x ∧ FitS 2 n lo)) (w : World) :
 Calls Tryz.prog 32 #[.int .i64 2, .agg #[.int .u64 (W64 x.1), .int .u64 (W64 x.2.1), .int .u64 (W64 x.2.2.1), .int .u64 (W64 x.2.2.2)], .int .u64 (W64 lo), .slice a n c] w (GivesNew (.bool b) w) := by
 have hB := refBlock_any 2
 rw [show blockN 2 = 16 from rfl] at hB
 have hV := row4_new w 49 (.int .u64 (W64 x.1)) (.int .u64 (W64 x.2.1)) (.int .u64 (W64 x.2.2.1)) (.int .u64 (W64 x.2.2.2))
 have hF := (Fr.refl No w).alloc (.cells #[.int .u64 (W64 x.1), .int .u64 (W64 x.2.1), .int .u64 (W64 x.2.2.1), .int .u64 (W64 x.2.2.2)] 49)
 cases hfit : (BitVec.ofNat 64 n == lo % 16#64) with
 | false =>
  have hbf : b = false := by
   cases b with
   | false => rfl
   | true =>
    have h := (hb.1 rfl).2
    rw [fit_m86] at h
    have h' : (BitVec.ofNat 64 n == lo % 16#64) = true := h
    rw [hfit] at h'; cases h'
  subst hbf
  clear hb
  have hfit' : (BitVec.ofNat 64 n != lo % 16#64) = true := by simp only [bne, hfit]; rfl
  go_enter Tryz.func32, Tryz.ntmps32
  go_wp2_with fail
  refine (hB _).mono ?_
  rintro e w1 ⟨rfl, hf⟩
  replace hV := hV.no hf
  replace hF := hF.no hf
  have v0 := hV.c0
  have v1 := hV.c1
  have v2 := hV.c2
  have v3 := hV.c3
  go_wp2_with fail
  go_ret
  exact ⟨rfl, hF⟩
 | true =>
  have hb2 : b = true ↔ RightS 2 x := by rw [hb, and_iff_left ((fit_m86 n lo).2 hfit)]
  clear hb
  have hfit' : (BitVec.ofNat 64 n != lo % 16#64) = false := by simp only [bne, hfit]; rfl
  rw [RightS_m86] at hb2
  have hr : ∀ w, Calls Tryz.prog 46 #[.agg #[.int .u64 (W64 x.1), .int .u64 (W64 x.2.1), .int .u64 (W64 x.2.2.1), .int .u64 (W64 x.2.2.2)]] w (GivesNew (.bool b) w) := by
   intro w
   cases b with
   | false => exact StM86.refRight_no _ _ _ _ w (fun h => by have := hb2.2 h; cases this)
   | true => exact StM86.refRight_yes _ _ _ _ w (hb2.1 rfl)
  clear hb2
  go_enter Tryz.func32, Tryz.ntmps32
  go_wp2_with fail
  refine (hB _).mono ?_
  rintro e w1 ⟨rfl, hf⟩
  replace hV := hV.no hf
  replace hF := hF.no hf
  have v0 := hV.c0
  have v1 := hV.c1
  have v2 := hV.c2
  have v3 := hV.c3
  go_wp2_with fail
  refine (hr _).mono ?_
  rintro e w2 ⟨rfl, hf2⟩
  go_wp2_with fail
  go_ret
  exact ⟨rfl, hF.no hf2⟩
theorem refRight_m64 (x : L4) (lo : BitVec 64) (a : Option Addr) (n c : Nat) (b : Bool) (hb : b = true ↔ (RightS 3 x ∧ FitS 3 n lo)) (w : World) :
 Calls Tryz.prog 32 #[.int .i64 3, .agg #[.int .u64 (W64 x.1), .int .u64 (W64 x.2.1), .int .u64 (W64 x.2.2.1), .int .u64 (W64 x.2.2.2)], .int .u64 (W64 lo), .slice a n c] w (GivesNew (.bool b) w) := by
 have hB := refBlock_any 3
 rw [show blockN 3 = 16 from rfl] at hB
 have hV := row4_new w 49 (.int .u64 (W64 x.1)) (.int .u64 (W64 x.2.1)) (.int .u64 (W64 x.2.2.1)) (.int .u64 (W64 x.2.2.2))
 have hF := (Fr.refl No w).alloc (.cells #[.int .u64 (W64 x.1), .int .u64 (W64 x.2.1), .int .u64 (W64 x.2.2.1), .int .u64 (W64 x.2.2.2)] 49)
 cases hfit : (BitVec.ofNat 64 n == lo % 16#64) with
 | false =>
  have hbf : b = false := by
   cases b with
   | false => rfl
   | true =>
    have h := (hb.1 rfl).2
    rw [fit_m64] at h
    have h' : (BitVec.ofNat 64 n == lo % 16#64) = true := h
    rw [hfit] at h'; cases h'
  subst hbf
  clear hb
  have hfit' : (BitVec.ofNat 64 n != lo % 16#64) = true := by simp only [bne, hfit]; rfl
  go_enter Tryz.func32, Tryz.ntmps32
  go_wp2_with fail
  refine (hB _).mono ?_
  rintro e w1 ⟨rfl, hf⟩
  replace hV := hV.no hf
  replace hF := hF.no hf
  have v0 := hV.c0
  have v1 := hV.c1
  have v2 := hV.c2
  have v3 := hV.c3
  go_wp2_with fail
  go_ret
  exact ⟨rfl, hF⟩
 | true =>
  have hb2 : b = true ↔ RightS 3 x := by rw [hb, and_iff_left ((fit_m64 n lo).2 hfit)]
  clear hb
  have hfit' : (BitVec.ofNat 64 n != lo % 16#64) = false := by simp only [bne, hfit]; rfl
  rw [RightS_m64] at hb2
  have hr : ∀ w, Calls Tryz.prog 47 #[.agg #[.int .u64 (W64 x.1), .int .u64 (W64 x.2.1), .int .u64 (W64 x.2.2.1), .int .u64 (W64 x.2.2.2)]] w (GivesNew (.bool b) w) := by
   intro w
   cases b with
   | false => exact StM64.refRight_no _ _ _ _ w (fun h => by have := hb2.2 h; cases this)
   | true => exact StM64.refRight_yes _ _ _ _ w (hb2.1 rfl)
  clear hb2
  go_enter Tryz.func32, Tryz.ntmps32
  go_wp2_with fail
  refine (hB _).mono ?_
  rintro e w1 ⟨rfl, hf⟩
  replace hV := hV.no hf
  replace hF := hF.no hf
  have v0 := hV.c0
  have v1 := hV.c1
  have v2 := hV.c2
  have v3 := hV.c3
  go_wp2_with fail
  refine (hr _).mono ?_
  rintro e w2 ⟨rfl, hf2⟩
  go_wp2_with fail
  go_ret
  exact ⟨rfl, hF.no hf2⟩
theorem refRight_x32 (x : L4) (lo : BitVec 64) (a : Option Addr) (n c : Nat) (b : Bool) (hb : b = true ↔ (RightS 4 x ∧ FitS 4 n lo)) (w : World) :
 Calls Tryz.prog 32 #[.int .i64 4, .agg #[.int .u64 (W64 x.1), .int .u64 (W64 x.2.1), .int .u64 (W64 x.2.2.1), .int .u64 (W64 x.2.2.2)], .int .u64 (W64 lo), .slice a n c] w (GivesNew (.bool b) w) := by
 have hB := refBlock_any 4
 rw [show blockN 4 = 16 from rfl] at hB
 have hV := row4_new w 49 (.int .u64 (W64 x.1)) (.int .u64 (W64 x.2.1)) (.int .u64 (W64 x.2.2.1)) (.int .u64 (W64 x.2.2.2))
 have hF := (Fr.refl No w).alloc (.cells #[.int .u64 (W64 x.1), .int .u64 (W64 x.2.1), .int .u64 (W64 x.2.2.1), .int .u64 (W64 x.2.2.2)] 49)
 cases hfit : (BitVec.ofNat 64 n == lo % 16#64) with
 | false =>
  have hbf : b = false := by
   cases b with
   | false => rfl
   | true =>
    have h := (hb.1 rfl).2
    rw [fit_x32] at h
    have h' : (BitVec.ofNat 64 n == lo % 16#64) = true := h
    rw [hfit] at h'; cases h'
  subst hbf
  clear hb
  have hfit' : (BitVec.ofNat 64 n != lo % 16#64) = true := by simp only [bne, hfit]; rfl
  go_enter Tryz.func32, Tryz.ntmps32
  go_wp2_with fail
  refine (hB _).mono ?_
  rintro e w1 ⟨rfl, hf⟩
  replace hV := hV.no hf
  replace hF := hF.no hf
  have v0 := hV.c0
  have v1 := hV.c1
  have v2 := hV.c2
  have v3 := hV.c3
  go_wp2_with fail
  go_ret
  exact ⟨rfl, hF⟩
 | true =>
  have hb2 : b = true ↔ RightS 4 x := by rw [hb, and_iff_left ((fit_x32 n lo).2 hfit)]
  clear hb
  have hfit' : (BitVec.ofNat 64 n != lo % 16#64) = false := by simp only [bne, hfit]; rfl
  rw [RightS_x32] at hb2
  have hr : ∀ w, Calls Tryz.prog 46 #[.agg #[.int .u64 (W64 x.1), .int .u64 (W64 x.2.1), .int .u64 (W64 x.2.2.1), .int .u64 (W64 x.2.2.2)]] w (GivesNew (.bool b) w) := by
   intro w
   cases b with
   | false => exact StM86.refRight_no _ _ _ _ w (fun h => by have := hb2.2 h; cases this)
   | true => exact StM86.refRight_yes _ _ _ _ w (hb2.1 rfl)
  clear hb2
  go_enter Tryz.func32, Tryz.ntmps32
  go_wp2_with fail
  refine (hB _).mono ?_
  rintro e w1 ⟨rfl, hf⟩
  replace hV := hV.no hf
  replace hF := hF.no hf
  have v0 := hV.c0
  have v1 := hV.c1
  have v2 := hV.c2
  have v3 := hV.c3
  go_wp2_with fail
  refine (hr _).mono ?_
  rintro e w2 ⟨rfl, hf2⟩
  go_wp2_with fail
  go_ret
  exact ⟨rfl, hF.no hf2⟩
theorem refRight_x64 (x : L4) (lo : BitVec 64) (a : Option Addr) (n c : Nat) (b : Bool) (hb : b = true ↔ (RightS 5 x ∧ FitS 5 n lo)) (w : World) :
 Calls Tryz.prog 32 #[.int .i64 5, .agg #[.int .u64 (W64 x.1), .int .u64 (W64 x.2.1), .int .u64 (W64 x.2.2.1), .int .u64 (W64 x.2.2.2)], .int .u64 (W64 lo), .slice a n c] w (GivesNew (.bool b) w) := by
 have hB := refBlock_any 5
 rw [show blockN 5 = 32 from rfl] at hB
 have hV := row4_new w 49 (.int .u64 (W64 x.1)) (.int .u64 (W64 x.2.1)) (.int .u64 (W64 x.2.2.1)) (.int .u64 (W64 x.2.2.2))
 have hF := (Fr.refl No w).alloc (.cells #[.int .u64 (W64 x.1), .int .u64 (W64 x.2.1), .int .u64 (W64 x.2.2.1), .int .u64 (W64 x.2.2.2)] 49)
 cases hfit : (BitVec.ofNat 64 n == lo % 32#64) with
 | false =>
  have hbf : b = false := by
   cases b with
   | false => rfl
   | true =>
    have h := (hb.1 rfl).2
    rw [fit_x64] at h
    have h' : (BitVec.ofNat 64 n == lo % 32#64) = true := h
    rw [hfit] at h'; cases h'
  subst hbf
  clear hb
  have hfit' : (BitVec.ofNat 64 n != lo % 32#64) = true := by simp only [bne, hfit]; rfl
  go_enter Tryz.func32, Tryz.ntmps32
  go_wp2_with fail
  refine (hB _).mono ?_
  rintro e w1 ⟨rfl, hf⟩
  replace hV := hV.no hf
  replace hF := hF.no hf
  have v0 := hV.c0
  have v1 := hV.c1
  have v2 := hV.c2
  have v3 := hV.c3
  go_wp2_with fail
  go_ret
  exact ⟨rfl, hF⟩
 | true =>
  have hb2 : b = true ↔ RightS 5 x := by rw [hb, and_iff_left ((fit_x64 n lo).2 hfit)]
  clear hb
  have hfit' : (BitVec.ofNat 64 n != lo % 32#64) = false := by simp only [bne, hfit]; rfl
  have hbt : b = true := hb2.2 (by exact trivial)
  subst hbt
  clear hb2
  go_enter Tryz.func32, Tryz.ntmps32
  go_wp2_with fail
  refine (hB _).mono ?_
  rintro e w1 ⟨rfl, hf⟩
  replace hV := hV.no hf
  replace hF := hF.no hf
  have v0 := hV.c0
  have v1 := hV.c1
  have v2 := hV.c2
  have v3 := hV.c3
  go_wp2_with fail
  go_ret
  exact ⟨rfl, hF⟩
theorem refRight_sip (k : Int) (hk : StSip.IsK k) (x : L4) (lo : BitVec 64) (a : Option Addr) (n c : Nat) (b : Bool) (hb : b = true ↔ (RightS k x ∧ FitS k n lo)) (w : World) :
 Calls Tryz.prog 32 #[.int .i64 k, .agg #[.int .u64 (W64 x.1), .int .u64 (W64 x.2.1), .int .u64 (W64 x.2.2.1), .int .u64 (W64 x.2.2.2)], .int .u64 (W64 lo), .slice a n c] w (GivesNew (.bool b) w) := by
 have hB := refBlock_any k
 rw [block_sip hk] at hB
 obtain ⟨h1, h2, h3, h4, h5⟩ := isK_no hk
 have e1 : (k == 1) = false := by simpa using h1
 have e2 : (k == 2) = false := by simpa using h2
 have e3 : (k != 3) = true := by simpa using h3
 have e4 : (k == 4) = false := by simpa using h4
 clear h1 h2 h3 h4 h5
 have hV := row4_new w 49 (.int .u64 (W64 x.1)) (.int .u64 (W64 x.2.1)) (.int .u64 (W64 x.2.2.1)) (.int .u64 (W64 x.2.2.2))
 have hF := (Fr.refl No w).alloc (.cells #[.int .u64 (W64 x.1), .int .u64 (W64 x.2.1), .int .u64 (W64 x.2.2.1), .int .u64 (W64 x.2.2.2)] 49)
 cases hfit : (BitVec.ofNat 64 n == lo % 8#64) with
 | false =>
  have hbf : b = false := by
   cases b with
   | false => rfl
   | true =>
    have h := (hb.1 rfl).2
    rw [fit_sip hk] at h
    have h' : (BitVec.ofNat 64 n == lo % 8#64) = true := h
    rw [hfit] at h'; cases h'
  subst hbf
  clear hb
  have hfit' : (BitVec.ofNat 64 n != lo % 8#64) = true := by simp only [bne, hfit]; rfl
  go_enter Tryz.func32, Tryz.ntmps32
  go_wp2_with fail
  refine (hB _).mono ?_
  rintro e w1 ⟨rfl, hf⟩
  replace hV := hV.no hf
  replace hF := hF.no hf
  have v0 := hV.c0
  have v1 := hV.c1
  have v2 := hV.c2
  have v3 := hV.c3
  go_wp2_with fail
  go_ret
  exact ⟨rfl, hF⟩
 | true =>
  have hb2 : b = true ↔ RightS k x := by rw [hb, and_iff_left ((fit_sip hk n lo).2 hfit)]
  clear hb
  have hfit' : (BitVec.ofNat 64 n != lo % 8#64) = false := by simp only [bne, hfit]; rfl
  have hbt : b = true := hb2.2 (by rw [RightS_sip hk]; exact trivial)
  subst hbt
  clear hb2
  go_enter Tryz.func32, Tryz.ntmps32
  go_wp2_with fail
  refine (hB _).mono ?_
  rintro e w1 ⟨rfl, hf⟩
  replace hV := hV.no hf
  replace hF := hF.no hf
  have v0 := hV.c0
  have v1 := hV.c1
  have v2 := hV.c2
  have v3 := hV.c3
  go_wp2_with fail
  go_ret
  exact ⟨rfl, hF⟩
theorem refRight_all {k : Int} (hk : KindOk k) (x : L4) (lo : BitVec 64) (a : Option Addr) (n c : Nat) (b : Bool) (hb : b = true ↔ (RightS k x ∧ FitS k n lo)) (w : World) :
 Calls Tryz.prog 32 #[.int .i64 k, .agg #[.int .u64 (W64 x.1), .int .u64 (W64 x.2.1), .int .u64 (W64 x.2.2.1), .int .u64 (W64 x.2.2.2)], .int .u64 (W64 lo), .slice a n c] w (GivesNew (.bool b) w) := by
 revert hb
 exact kind_cases (C := fun k => (b = true ↔ (RightS k x ∧ FitS k n lo)) → Calls Tryz.prog 32 #[.int .i64 k, .agg #[.int .u64 (W64 x.1), .int .u64 (W64 x.2.1), .int .u64 (W64 x.2.2.1), .int .u64 (W64 x.2.2.2)], .int .u64 (W64 lo), .slice a n c] w (GivesNew (.bool b) w)) (fun hb => refRight_m32 x lo a n c b hb w) (fun hb => refRight_m86 x lo a n c b hb w) (fun hb => refRight_m64 x lo a n c b hb w) (fun hb => refRight_x32 x lo a n c b hb w) (fun hb => refRight_x64 x lo a n c b hb w) (fun k hk hb => refRight_sip k hk x lo a n c b hb w) hk
end Go.Proofs.YtidlpihoafnobaaGreat
namespace Go.Proofs.YtidlpihoafnobaaGreat
set_option maxRecDepth 100000
open Go.RowKit
theorem row4_con {w w' : World} {b : Nat} {T : TypeId} {v0 v1 v2 v3 : Value} {F : Nat → Prop} (h : Row4 w b T v0 v1 v2 v3) (k : Fr F w w') (c : Keeps w F) (hT : wrT.contains T = false) : Row4 w' b T v0 v1 v2 v3 := c.fr k h ⟨_, _, rfl, hT⟩
theorem fit_lt {k : Int} (hk : KindOk k) {n : Nat} {lo : BitVec 64} (h : FitS k n lo) (hn : n ≤ 1099511627776) : (n : Int) < blockN k := by
 have h2 := block_pos hk
 unfold FitS at h
 obtain ⟨b, hb⟩ := Int.eq_ofNat_of_zero_le (show 0 ≤ blockN k by omega)
 rw [hb] at h h2 ⊢
 rw [beq_iff_eq, O64_nat] at h
 have h3 := congrArg BitVec.toNat h
 simp only [BitVec.toNat_ofNat, BitVec.toNat_umod] at h3
 rw [Nat.mod_eq_of_lt (a := n) (by omega), Nat.mod_eq_of_lt (a := b) (by omega)] at h3
 have := Nat.mod_lt lo.toNat (show 0 < b by omega)
 omega
set_option maxHeartbeats 1000000 in
theorem StreamSets_long (k : Int) (kh kl : BitVec 64) (x : L4) (lo : BitVec 64) (a1 : Option Addr) (n1 c1 : Nat) (l1 : Bytes) (w : World) (h : 100 < n1 ∨ ¬ checkN k kh kl = 0) : Calls Tryz.prog 6 #[.int .i64 k, .agg #[.int .u64 (W64 kh), .int .u64 (W64 kl)], .agg #[.int .u64 (W64 x.1), .int .u64 (W64 x.2.1), .int .u64 (W64 x.2.2.1), .int .u64 (W64 x.2.2.2)], .int .u64 (W64 lo), .slice a1 n1 c1] w (Yes w) := by
 have hC := refCheck_any k kh kl
 generalize checkN k kh kl = z at hC h
 by_cases h1 : 100 < n1
 · have i1 : (100 : Int) < (n1 : Int) := by omega
   clear h h1 hC
   have hU := row2_new w 24 (.int .u64 (W64 kh)) (.int .u64 (W64 kl))
   have hF := (Fr.refl No w).alloc (.cells #[.int .u64 (W64 kh), .int .u64 (W64 kl)] 24)
   have hV := row4_new (w.alloc (.cells #[.int .u64 (W64 kh), .int .u64 (W64 kl)] 24)) 49 (.int .u64 (W64 x.1)) (.int .u64 (W64 x.2.1)) (.int .u64 (W64 x.2.2.1)) (.int .u64 (W64 x.2.2.2))
   replace hU := hU.no ((Fr.refl No _).alloc (.cells #[.int .u64 (W64 x.1), .int .u64 (W64 x.2.1), .int .u64 (W64 x.2.2.1), .int .u64 (W64 x.2.2.2)] 49))
   replace hF := hF.alloc (.cells #[.int .u64 (W64 x.1), .int .u64 (W64 x.2.1), .int .u64 (W64 x.2.2.1), .int .u64 (W64 x.2.2.2)] 49)
   simp only [World.size_alloc] at hV
   have u0 := hU.c0
   have u1 := hU.c1
   go_enter Tryz.func6, Tryz.ntmps6
   go_wp2_with fail
   refine (strAwake_yes _).mono ?_
   rintro e w1 ⟨rfl, hf1⟩
   go_wp2_with fail
   go_ret
   exact ⟨rfl, hF.no hf1⟩
 have i1 : (n1 : Int) ≤ 100 := by omega
 have hz : (z != 0) = true := by simp only [bne_iff_ne, ne_eq]; omega
 clear h h1
 have hU := row2_new w 24 (.int .u64 (W64 kh)) (.int .u64 (W64 kl))
 have hF := (Fr.refl No w).alloc (.cells #[.int .u64 (W64 kh), .int .u64 (W64 kl)] 24)
 have hV := row4_new (w.alloc (.cells #[.int .u64 (W64 kh), .int .u64 (W64 kl)] 24)) 49 (.int .u64 (W64 x.1)) (.int .u64 (W64 x.2.1)) (.int .u64 (W64 x.2.2.1)) (.int .u64 (W64 x.2.2.2))
 replace hU := hU.no ((Fr.refl No _).alloc (.cells #[.int .u64 (W64 x.1), .int .u64 (W64 x.2.1), .int .u64 (W64 x.2.2.1), .int .u64 (W64 x.2.2.2)] 49))
 replace hF := hF.alloc (.cells #[.int .u64 (W64 x.1), .int .u64 (W64 x.2.1), .int .u64 (W64 x.2.2.1), .int .u64 (W64 x.2.2.2)] 49)
 simp only [World.size_alloc] at hV
 have u0 := hU.c0
 have u1 := hU.c1
 go_enter Tryz.func6, Tryz.ntmps6
 go_wp2_with fail
 generalize w.heap.size + 1 = vb at hV ⊢
 generalize w.heap.size = ub at hU u0 u1 ⊢
 generalize (w.alloc (.cells #[.int .u64 (W64 kh), .int .u64 (W64 kl)] 24)).alloc (.cells #[.int .u64 (W64 x.1), .int .u64 (W64 x.2.1), .int .u64 (W64 x.2.2.1), .int .u64 (W64 x.2.2.2)] 49) = wa at hU hV hF u0 u1 ⊢
 refine (strAwake_yes _).mono ?_
 rintro e w1 ⟨rfl, hf1⟩
 replace hU := hU.no hf1
 replace hF := hF.no hf1
 clear u0 u1
 have u0 := hU.c0
 have u1 := hU.c1
 go_wp2_with fail
 refine (hC _).mono ?_
 rintro e w2 ⟨rfl, hf2⟩
 go_wp2_with fail
 go_ret
 exact ⟨rfl, hF.no hf2⟩
set_option maxHeartbeats 8000000 in
theorem StreamSets_right (k : Int) (kh kl : BitVec 64) (x : L4) (lo : BitVec 64) (a1 : Option Addr) (n1 c1 : Nat) (l1 : Bytes) (w : World) (hb1 : IsBytes w a1 n1 c1 l1) (m1 : n1 ≤ 100) (hc : checkN k kh kl = 0) (hr : RightS k x ∧ FitS k n1 lo) : Calls Tryz.prog 6 #[.int .i64 k, .agg #[.int .u64 (W64 kh), .int .u64 (W64 kl)], .agg #[.int .u64 (W64 x.1), .int .u64 (W64 x.2.1), .int .u64 (W64 x.2.2.1), .int .u64 (W64 x.2.2.2)], .int .u64 (W64 lo), .slice a1 n1 c1] w (Yes w) := by
 have i1 : (n1 : Int) ≤ 100 := by omega
 have hk := check_ok hc
 have hNew := fun w => New_yes hc w
 have hC := refCheck_any k kh kl
 rw [hc] at hC
 have HK := Lib.hid hk
 have hRt := fun w => refRight_all hk x lo a1 n1 c1 true (by simp only [true_iff]; exact hr) w
 have hlt := fit_lt hk hr.2 (by omega)
 rw [← hb1.1] at hlt
 have hE := fun w hb => refEnd_all hk kh kl x a1 n1 c1 l1 lo w hb hlt
 obtain ⟨ans, hans⟩ : ∃ ans, Hid (ans = endS k kh kl (stateS k x) l1 lo) := ⟨_, Lib.hid rfl⟩
 rw [← hans.out] at hE
 clear hlt
 have HR := Lib.hid hr
 clear hc hk hr
 have hU := row2_new w 24 (.int .u64 (W64 kh)) (.int .u64 (W64 kl))
 have hF := (Fr.refl No w).alloc (.cells #[.int .u64 (W64 kh), .int .u64 (W64 kl)] 24)
 have hV := row4_new (w.alloc (.cells #[.int .u64 (W64 kh), .int .u64 (W64 kl)] 24)) 49 (.int .u64 (W64 x.1)) (.int .u64 (W64 x.2.1)) (.int .u64 (W64 x.2.2.1)) (.int .u64 (W64 x.2.2.2))
 replace hU := hU.no ((Fr.refl No _).alloc (.cells #[.int .u64 (W64 x.1), .int .u64 (W64 x.2.1), .int .u64 (W64 x.2.2.1), .int .u64 (W64 x.2.2.2)] 49))
 replace hF := hF.alloc (.cells #[.int .u64 (W64 x.1), .int .u64 (W64 x.2.1), .int .u64 (W64 x.2.2.1), .int .u64 (W64 x.2.2.2)] 49)
 simp only [World.size_alloc] at hV
 have u0 := hU.c0
 have u1 := hU.c1
 go_enter Tryz.func6, Tryz.ntmps6
 go_wp2_with fail
 generalize w.heap.size + 1 = vb at hV ⊢
 generalize w.heap.size = ub at hU u0 u1 ⊢
 generalize (w.alloc (.cells #[.int .u64 (W64 kh), .int .u64 (W64 kl)] 24)).alloc (.cells #[.int .u64 (W64 x.1), .int .u64 (W64 x.2.1), .int .u64 (W64 x.2.2.1), .int .u64 (W64 x.2.2.2)] 49) = wa at hU hV hF u0 u1 ⊢
 refine (strAwake_yes _).mono ?_
 rintro e w1 ⟨rfl, hf1⟩
 replace hU := hU.no hf1
 replace hF := hF.no hf1
 replace hV := hV.no hf1
 clear u0 u1
 have u0 := hU.c0
 have u1 := hU.c1
 go_wp2_with fail
 refine (hC _).mono ?_
 rintro e w2 ⟨rfl, hf2⟩
 replace hU := hU.no hf2
 replace hF := hF.no hf2
 replace hV := hV.no hf2
 clear hC
 clear u0 u1
 have u0 := hU.c0
 have u1 := hU.c1
 go_wp2_with fail
 refine (hNew _ w hF).mono ?_
 rintro e w4 ⟨hb, rfl, F, h4, _, hf4⟩
 have hL := HDone_nil h4
 replace hU := hU.no hf4
 replace hV := hV.no hf4
 clear h4 hf4 hf1 hf2 hF hNew
 clear u0 u1
 have u0 := hU.c0
 have u1 := hU.c1
 have v0 := hV.c0
 have v1 := hV.c1
 have v2 := hV.c2
 have v3 := hV.c3
 go_wp2_with fail
 refine (hL.any.set_right x lo a1 n1 c1 HR.out.1 HR.out.2 l1 (hb1.no hL.fr) (by omega)).mono ?_
 rintro e w5 ⟨rfl, F5, h5, hf5, _⟩
 replace hU := hU.con hf5 hL.con (by decide)
 replace hV := row4_con hV hf5 hL.con (by decide)
 clear hL hf5
 clear u0 u1
 have u0 := hU.c0
 have u1 := hU.c1
 clear v0 v1 v2 v3
 have v0 := hV.c0
 have v1 := hV.c1
 have v2 := hV.c2
 have v3 := hV.c3
 go_wp2_with fail
 refine h5.sum.mono ?_
 rw [← hans.out]
 rintro e w6 ⟨v6, rfl, hO6, hf6⟩
 obtain ⟨a6, c6, rfl, hb6, _⟩ := hO6.bytes
 replace hU := hU.no hf6
 replace hV := hV.no hf6
 have hFw := h5.fr.no hf6
 clear hO6 h5 hf6
 clear u0 u1
 have u0 := hU.c0
 have u1 := hU.c1
 clear v0 v1 v2 v3
 have v0 := hV.c0
 have v1 := hV.c1
 have v2 := hV.c2
 have v3 := hV.c3
 go_wp2_with fail
 refine (hRt _).mono ?_
 rintro e w7 ⟨rfl, hf7⟩
 replace hU := hU.no hf7
 replace hV := hV.no hf7
 replace hb6 := hb6.no hf7
 replace hFw := hFw.no hf7
 clear u0 u1
 have u0 := hU.c0
 have u1 := hU.c1
 clear v0 v1 v2 v3
 have v0 := hV.c0
 have v1 := hV.c1
 have v2 := hV.c2
 have v3 := hV.c3
 go_wp2_with fail
 refine (hE _ (hb1.no hFw)).mono ?_
 rintro e w8 ⟨v8, rfl, hO8, hf8⟩
 obtain ⟨a8, c8, rfl, hb8, _⟩ := hO8.bytes
 clear hO8 u0 u1 v0 v1 v2 v3
 go_wp2_with fail
 refine (refSame_any _ _ _ _ _ _ _ _ _ (hb6.no hf8) hb8).mono ?_
 rintro e w' ⟨rfl, rfl⟩
 rw [beq_self_eq_true]
 go_wp2_with fail
 have hFz := hFw.no hf8
 clear hV hU
 refine (hLanes_no _).mono ?_
 rintro e w20 ⟨rfl, hf20⟩
 have hZ := row4_new w20 49 (.int .u64 0) (.int .u64 0) (.int .u64 0) (.int .u64 0)
 replace hFz := (hFz.no hf20).alloc (.cells #[.int .u64 0, .int .u64 0, .int .u64 0, .int .u64 0] 49)
 go_wp2_with fail
 generalize w20.heap.size = zb at hZ ⊢
 generalize w20.alloc (.cells #[.int .u64 0, .int .u64 0, .int .u64 0, .int .u64 0] 49) = w21 at hZ hFz ⊢
 refine (hSum_no _).mono ?_
 rintro e w' ⟨rfl, rfl⟩
 have z0 := hZ.c0
 have z1 := hZ.c1
 have z2 := hZ.c2
 have z3 := hZ.c3
 go_wp2_with fail
 refine (hWrite_no none 0 0 _).mono ?_
 rintro e w' ⟨rfl, rfl⟩
 go_wp2_with fail
 refine (hReset_no _).mono ?_
 rintro e w' ⟨rfl, rfl⟩
 go_wp2_with fail
 refine (hSet_no 0#64 0#64 0#64 0#64 0#64 none 0 0 _).mono ?_
 rintro e w22 ⟨rfl, hf22⟩
 replace hZ := hZ.no hf22
 replace hFz := hFz.no hf22
 go_wp2_with fail
 refine (hClone_no _).mono ?_
 rintro e w' ⟨rfl, rfl⟩
 go_wp2_with fail
 refine (hKind_no _).mono ?_
 rintro e w' ⟨rfl, rfl⟩
 go_wp2_with fail
 refine (hKey_no _).mono ?_
 rintro e w23 ⟨rfl, hf23⟩
 replace hZ := hZ.no hf23
 replace hFz := hFz.no hf23
 clear z0 z1 z2 z3
 have z0 := hZ.c0
 have z1 := hZ.c1
 have z2 := hZ.c2
 have z3 := hZ.c3
 go_wp2_with fail
 go_ret
 exact ⟨rfl, hFz⟩
set_option maxHeartbeats 8000000 in
theorem StreamSets_wrong (k : Int) (kh kl : BitVec 64) (x : L4) (lo : BitVec 64) (a1 : Option Addr) (n1 c1 : Nat) (l1 : Bytes) (w : World) (hb1 : IsBytes w a1 n1 c1 l1) (m1 : n1 ≤ 100) (hc : checkN k kh kl = 0) (hr : ¬ (RightS k x ∧ FitS k n1 lo)) : Calls Tryz.prog 6 #[.int .i64 k, .agg #[.int .u64 (W64 kh), .int .u64 (W64 kl)], .agg #[.int .u64 (W64 x.1), .int .u64 (W64 x.2.1), .int .u64 (W64 x.2.2.1), .int .u64 (W64 x.2.2.2)], .int .u64 (W64 lo), .slice a1 n1 c1] w (Yes w) := by
 have i1 : (n1 : Int) ≤ 100 := by omega
 have hk := check_ok hc
 have hNew := fun w => New_yes hc w
 have hC := refCheck_any k kh kl
 rw [hc] at hC
 have HK := Lib.hid hk
 have hRt := fun w => refRight_all hk x lo a1 n1 c1 false (by simp only [Bool.false_eq_true, false_iff]; exact hr) w
 obtain ⟨ans, hans⟩ : ∃ ans, Hid (ans = oneS k kh kl []) := ⟨_, Lib.hid rfl⟩
 have HR := Lib.hid hr
 clear hc hk hr
 have hU := row2_new w 24 (.int .u64 (W64 kh)) (.int .u64 (W64 kl))
 have hF := (Fr.refl No w).alloc (.cells #[.int .u64 (W64 kh), .int .u64 (W64 kl)] 24)
 have hV := row4_new (w.alloc (.cells #[.int .u64 (W64 kh), .int .u64 (W64 kl)] 24)) 49 (.int .u64 (W64 x.1)) (.int .u64 (W64 x.2.1)) (.int .u64 (W64 x.2.2.1)) (.int .u64 (W64 x.2.2.2))
 replace hU := hU.no ((Fr.refl No _).alloc (.cells #[.int .u64 (W64 x.1), .int .u64 (W64 x.2.1), .int .u64 (W64 x.2.2.1), .int .u64 (W64 x.2.2.2)] 49))
 replace hF := hF.alloc (.cells #[.int .u64 (W64 x.1), .int .u64 (W64 x.2.1), .int .u64 (W64 x.2.2.1), .int .u64 (W64 x.2.2.2)] 49)
 simp only [World.size_alloc] at hV
 have u0 := hU.c0
 have u1 := hU.c1
 go_enter Tryz.func6, Tryz.ntmps6
 go_wp2_with fail
 generalize w.heap.size + 1 = vb at hV ⊢
 generalize w.heap.size = ub at hU u0 u1 ⊢
 generalize (w.alloc (.cells #[.int .u64 (W64 kh), .int .u64 (W64 kl)] 24)).alloc (.cells #[.int .u64 (W64 x.1), .int .u64 (W64 x.2.1), .int .u64 (W64 x.2.2.1), .int .u64 (W64 x.2.2.2)] 49) = wa at hU hV hF u0 u1 ⊢
 refine (strAwake_yes _).mono ?_
 rintro e w1 ⟨rfl, hf1⟩
 replace hU := hU.no hf1
 replace hF := hF.no hf1
 replace hV := hV.no hf1
 clear u0 u1
 have u0 := hU.c0
 have u1 := hU.c1
 go_wp2_with fail
 refine (hC _).mono ?_
 rintro e w2 ⟨rfl, hf2⟩
 replace hU := hU.no hf2
 replace hF := hF.no hf2
 replace hV := hV.no hf2
 clear hC
 clear u0 u1
 have u0 := hU.c0
 have u1 := hU.c1
 go_wp2_with fail
 refine (hNew _ w hF).mono ?_
 rintro e w4 ⟨hb, rfl, F, h4, _, hf4⟩
 have hL := HDone_nil h4
 replace hU := hU.no hf4
 replace hV := hV.no hf4
 clear h4 hf4 hf1 hf2 hF hNew
 clear u0 u1
 have u0 := hU.c0
 have u1 := hU.c1
 have v0 := hV.c0
 have v1 := hV.c1
 have v2 := hV.c2
 have v3 := hV.c3
 go_wp2_with fail
 refine (hL.any.set_wrong x lo a1 n1 c1 HR.out).mono ?_
 rintro e w5 ⟨rfl, hf5⟩
 have h5 := hL.no hf5
 replace hU := hU.no hf5
 replace hV := hV.no hf5
 clear hL hf5
 clear u0 u1
 have u0 := hU.c0
 have u1 := hU.c1
 clear v0 v1 v2 v3
 have v0 := hV.c0
 have v1 := hV.c1
 have v2 := hV.c2
 have v3 := hV.c3
 go_wp2_with fail
 refine h5.sum.mono ?_
 rw [← hans.out]
 rintro e w6 ⟨v6, rfl, hO6, hf6⟩
 obtain ⟨a6, c6, rfl, hb6, _⟩ := hO6.bytes
 replace hU := hU.no hf6
 replace hV := hV.no hf6
 have hFw := h5.fr.no hf6
 clear hO6 h5 hf6
 clear u0 u1
 have u0 := hU.c0
 have u1 := hU.c1
 clear v0 v1 v2 v3
 have v0 := hV.c0
 have v1 := hV.c1
 have v2 := hV.c2
 have v3 := hV.c3
 go_wp2_with fail
 refine (hRt _).mono ?_
 rintro e w7 ⟨rfl, hf7⟩
 replace hU := hU.no hf7
 replace hV := hV.no hf7
 replace hb6 := hb6.no hf7
 replace hFw := hFw.no hf7
 clear u0 u1
 have u0 := hU.c0
 have u1 := hU.c1
 clear v0 v1 v2 v3
 have v0 := hV.c0
 have v1 := hV.c1
 have v2 := hV.c2
 have v3 := hV.c3
 go_wp2_with fail
 refine (refOne_all HK.out kh kl none 0 0 [] _ (IsBytes.nil _) (by omega)).mono ?_
 rw [← hans.out]
 rintro e w8 ⟨v8, rfl, hO8, hf8⟩
 obtain ⟨a8, c8, rfl, hb8, _⟩ := hO8.bytes
 clear hO8 u0 u1 v0 v1 v2 v3
 go_wp2_with fail
 refine (refSame_any _ _ _ _ _ _ _ _ _ (hb6.no hf8) hb8).mono ?_
 rintro e w' ⟨rfl, rfl⟩
 rw [beq_self_eq_true]
 go_wp2_with fail
 have hFz := hFw.no hf8
 clear hV hU
 refine (hLanes_no _).mono ?_
 rintro e w20 ⟨rfl, hf20⟩
 have hZ := row4_new w20 49 (.int .u64 0) (.int .u64 0) (.int .u64 0) (.int .u64 0)
 replace hFz := (hFz.no hf20).alloc (.cells #[.int .u64 0, .int .u64 0, .int .u64 0, .int .u64 0] 49)
 go_wp2_with fail
 generalize w20.heap.size = zb at hZ ⊢
 generalize w20.alloc (.cells #[.int .u64 0, .int .u64 0, .int .u64 0, .int .u64 0] 49) = w21 at hZ hFz ⊢
 refine (hSum_no _).mono ?_
 rintro e w' ⟨rfl, rfl⟩
 have z0 := hZ.c0
 have z1 := hZ.c1
 have z2 := hZ.c2
 have z3 := hZ.c3
 go_wp2_with fail
 refine (hWrite_no none 0 0 _).mono ?_
 rintro e w' ⟨rfl, rfl⟩
 go_wp2_with fail
 refine (hReset_no _).mono ?_
 rintro e w' ⟨rfl, rfl⟩
 go_wp2_with fail
 refine (hSet_no 0#64 0#64 0#64 0#64 0#64 none 0 0 _).mono ?_
 rintro e w22 ⟨rfl, hf22⟩
 replace hZ := hZ.no hf22
 replace hFz := hFz.no hf22
 go_wp2_with fail
 refine (hClone_no _).mono ?_
 rintro e w' ⟨rfl, rfl⟩
 go_wp2_with fail
 refine (hKind_no _).mono ?_
 rintro e w' ⟨rfl, rfl⟩
 go_wp2_with fail
 refine (hKey_no _).mono ?_
 rintro e w23 ⟨rfl, hf23⟩
 replace hZ := hZ.no hf23
 replace hFz := hFz.no hf23
 clear z0 z1 z2 z3
 have z0 := hZ.c0
 have z1 := hZ.c1
 have z2 := hZ.c2
 have z3 := hZ.c3
 go_wp2_with fail
 go_ret
 exact ⟨rfl, hFz⟩
theorem StreamSets_yes (k : Int) (kh kl : BitVec 64) (x : L4) (lo : BitVec 64) (a1 : Option Addr) (n1 c1 : Nat) (l1 : Bytes) (w : World) (hb1 : IsBytes w a1 n1 c1 l1) : Calls Tryz.prog 6 #[.int .i64 k, .agg #[.int .u64 (W64 kh), .int .u64 (W64 kl)], .agg #[.int .u64 (W64 x.1), .int .u64 (W64 x.2.1), .int .u64 (W64 x.2.2.1), .int .u64 (W64 x.2.2.2)], .int .u64 (W64 lo), .slice a1 n1 c1] w (Yes w) := by
 by_cases hbig : 100 < n1 ∨ ¬ checkN k kh kl = 0
 · exact StreamSets_long k kh kl x lo a1 n1 c1 l1 w hbig
 by_cases hr : RightS k x ∧ FitS k n1 lo
 · exact StreamSets_right k kh kl x lo a1 n1 c1 l1 w hb1 (by omega) (by omega) hr
 · exact StreamSets_wrong k kh kl x lo a1 n1 c1 l1 w hb1 (by omega) (by omega) hr
end Go.Proofs.YtidlpihoafnobaaGreat
