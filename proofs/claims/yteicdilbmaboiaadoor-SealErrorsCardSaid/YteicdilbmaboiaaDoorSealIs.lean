/- errors.Is: an error at a place is the error that it holds. -/
import Derived.Test.YteicdilbmaboiaaDoorSealErr
import Derived.Lib.IfaceEq
namespace Go.Proofs.YteicdilbmaboiaaDoor
set_option maxRecDepth 100000
set_option linter.unusedVariables false
set_option linter.unusedSimpArgs false
open Go.RowKit Go.Extern.Stop Go.Stop Go.Extern

theorem told_comparable (w : World) : ((ReflectliteType.method fun t => do Rtype.noPackHeld "Comparable" t; (fun a : TypeInfo => Value.bool a.comparable) <$> typeInfo t) #[.agg #[.pointer (some ⟨4, 51, none⟩)]]).run Tryd.prog w = .ok (.bool true) w := by kernel_rfl
theorem is_other (p : Value) (e : Int) (w : World) : (binOp .eql 36 (.iface 50 p) (.iface 51 (.int .i64 e))).run Tryd.prog w = .ok (.bool false) w :=
  run_eql_iface_types _ _ _ _ Tryd.underlying36 (by decide) w
theorem is_same (e : Int) (w : World) : (binOp .eql 36 (.iface 51 (.int .i64 e)) (.iface 51 (.int .i64 e))).run Tryd.prog w = .ok (.bool true) w := by
  rw [Lib.run_eql_iface_int w e e Tryd.underlying36 (by kernel_rfl) Tryd.underlying51]; simp
set_option maxHeartbeats 4000000 in
theorem Is_any (w : World) (pb : Nat) (e at_ : Int) (hp : Placed w pb e at_) :
    Calls Tryd.prog 28 #[.iface 50 (.pointer (some ⟨pb, 0, none⟩)), .iface 51 (.int .i64 e)] w (Yes w) := by
  have h7 := @run_callFunc_extern Tryd.prog 39 _ ReflectliteType.typeOf Tryd.func39 (by kernel_rfl) (by kernel_rfl) (by kernel_rfl) (by kernel_rfl)
  have h8 := @run_callFunc_extern Tryd.prog 80 _ (ReflectliteType.method fun t => do Rtype.noPackHeld "Comparable" t; pure (.bool (← typeInfo t).comparable)) Tryd.func80 (by kernel_rfl) (by kernel_rfl) (by kernel_rfl) (by kernel_rfl)
  have f_typeOf := told_typeOf
  have f_cmp := told_comparable
  have m_cmp := as_methodComparable
  have m_Unwrap := as_methodUnwrap
  have a_no := as_noIs
  have a_un := as_hasUnwrap
  have q1 := is_other
  have q2 := is_same
  have hp0 := hp.c0
  go_enter Tryd.func28, Tryd.ntmps28
  go_wp2
  refine wp_loop_rounds 2 ?_
  rw [rounds_succ]
  go_wp2
  rw [rounds_succ]
  go_wp2
  go_ret
  exact ⟨rfl, Fr.refl No w⟩
end Go.Proofs.YteicdilbmaboiaaDoor
