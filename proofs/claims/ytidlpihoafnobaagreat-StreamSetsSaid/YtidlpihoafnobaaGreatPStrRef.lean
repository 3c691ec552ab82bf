/- StrRef -/
import Derived.Test.YtidlpihoafnobaaGreatPAllM64
set_option linter.unusedVariables false
set_option linter.unusedSimpArgs false
namespace Go.Proofs.YtidlpihoafnobaaGreat
set_option maxRecDepth 100000
open Go.RowKit
theorem refBlock_any (k : Int) (w : World) : Calls Tryz.prog 15 #[.int .i64 k] w (GivesNew (.int .i64 (blockN k)) w) := by
 by_cases hk : KindOk k
 · rcases hk with rfl | rfl | rfl | rfl | rfl | rfl | rfl | rfl
   · have hv : blockN 1 = 4 := rfl
     rw [hv]
     clear hv
     go_enter Tryz.func15, Tryz.ntmps15
     go_wp2_with fail
     go_ret
     exact ⟨rfl, (Fr.refl No w).alloc _⟩
   · have hv : blockN 2 = 16 := rfl
     rw [hv]
     clear hv
     go_enter Tryz.func15, Tryz.ntmps15
     go_wp2_with fail
     go_ret
     exact ⟨rfl, (Fr.refl No w).alloc _⟩
   · have hv : blockN 3 = 16 := rfl
     rw [hv]
     clear hv
     go_enter Tryz.func15, Tryz.ntmps15
     go_wp2_with fail
     go_ret
     exact ⟨rfl, (Fr.refl No w).alloc _⟩
   · have hv : blockN 4 = 16 := rfl
     rw [hv]
     clear hv
     go_enter Tryz.func15, Tryz.ntmps15
     go_wp2_with fail
     go_ret
     exact ⟨rfl, (Fr.refl No w).alloc _⟩
   · have hv : blockN 5 = 32 := rfl
     rw [hv]
     clear hv
     go_enter Tryz.func15, Tryz.ntmps15
     go_wp2_with fail
     go_ret
     exact ⟨rfl, (Fr.refl No w).alloc _⟩
   · have hv : blockN 6 = 8 := rfl
     rw [hv]
     clear hv
     go_enter Tryz.func15, Tryz.ntmps15
     go_wp2_with fail
     go_ret
     exact ⟨rfl, (Fr.refl No w).alloc _⟩
   · have hv : blockN 7 = 8 := rfl
     rw [hv]
     clear hv
     go_enter Tryz.func15, Tryz.ntmps15
     go_wp2_with fail
     go_ret
     exact ⟨rfl, (Fr.refl No w).alloc _⟩
   · have hv : blockN 8 = 8 := rfl
     rw [hv]
     clear hv
     go_enter Tryz.func15, Tryz.ntmps15
     go_wp2_with fail
     go_ret
     exact ⟨rfl, (Fr.refl No w).alloc _⟩
 · have hv : blockN k = 0 := by
    unfold blockN
    have h := kindOk_of k hk
    rw [if_neg (by omega)]; rw [if_neg (by omega)]; rw [if_neg (by omega)]; rw [if_neg (by omega)]; rw [if_neg (by omega)]; rw [if_neg (by omega)]; rw [if_neg (by omega)]; rw [if_neg (by omega)]; try rfl
   rw [hv]
   clear hv
   rcases kindOk_of k hk with i1 | i1
   · clear hk
     go_enter Tryz.func15, Tryz.ntmps15
     go_wp2_with fail
     go_ret
     exact ⟨rfl, Fr.refl No w⟩
   · have i2 : ¬ k < 1 := by omega
     clear hk
     go_enter Tryz.func15, Tryz.ntmps15
     go_wp2_with fail
     go_ret
     exact ⟨rfl, Fr.refl No w⟩
end Go.Proofs.YtidlpihoafnobaaGreat
