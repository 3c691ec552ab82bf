/- StrHasher -/
import Derived.Stop.IfaceNil
import Derived.Test.YtidlpihoafnobaaGreatPStrAny
set_option linter.unusedVariables false
set_option linter.unusedSimpArgs false
namespace Go.Proofs.YtidlpihoafnobaaGreat
set_option maxRecDepth 100000
open Go.RowKit
theorem hmade_no (w : World) : Calls Tryz.prog 38 #[.pointer none] w (Gives (.bool false) w) := by
 go_enter Tryz.func38, Tryz.ntmps38
 go_wp2
 go_ret
 exact ⟨rfl, rfl⟩
theorem hKind_no (w : World) : Calls Tryz.prog 21 #[.pointer none] w (Gives (.int .i64 0) w) := by
 go_enter Tryz.func21, Tryz.ntmps21
 go_wp2_with (go_at_call 38; refine (hmade_no _).mono ?_; rintro e w' ⟨rfl, rfl⟩)
 go_ret
 exact ⟨rfl, rfl⟩
end Go.Proofs.YtidlpihoafnobaaGreat
