/- As AsK SealPlain Seal SealErr ScoPlain -/
import Derived.LaidEql
import Derived.RowKitTokens
import Derived.Stop.Asserts
import Derived.Stop.IfaceNil
import Derived.Test.YtidlpihoafnobaaGreatDoorProg
import Derived.WalkKit
import Derived.Test.YtidlpihoafnobaaGreatDoorPStrNew
set_option linter.unusedVariables false
set_option linter.unusedSimpArgs false
namespace Go.Proofs.YtidlpihoafnobaaGreatDoor
set_option maxRecDepth 100000
open Go.RowKit Go.Extern.Stop Go.Stop Go.Extern
theorem rlm (z : Sem Value) (f : TypeId → Addr → Nat → Nat → Sem Value) (v : Value) :
 ReflectliteValue.method z f #[v] = (do match ← ReflectliteValue.parts v with | none => z | some (t, a, fl) => f t a fl (fl % 32)) := rfl
theorem rls (v x : Value) : ReflectliteValue.set #[v, x] = (do
 let (some (dst, a, fl), some (src, b, _)) := (← ReflectliteValue.parts v, ← ReflectliteValue.parts x)
  | unsupported (.noEntry "extern/(internal/reflectlite.Value).Set.zeroValue")
 if fl / ReflectliteValue.flagAddr % 2 == 0 then unsupported (.noEntry "extern/(internal/reflectlite.Value).Set.unaddressable")
 let val ← loadVar src b
 if ← Rtype.directlyAssignable dst src then storeVar dst a val
 else if ← Rtype.implements dst src then
  if (← Rtype.kind src) == 20 then
   match val with
   | .nilIface => unsupported (.noEntry "extern/reflectlite: a nil value of one interface type handed on as a value of another")
   | _ => storeVar dst a val
  else storeVar dst a (.iface src val)
 else panicString ("reflectlite.Set: value of type " ++ (← Rtype.spelt src) ++ " is not assignable to type " ++ (← Rtype.spelt dst))
 pure (.tuple #[])) := rfl
theorem as_methodKind (h : Value) (w : World) : (Go.method 428 167 (.agg #[h]) "Kind").run Tryz.prog w = .ok (266, h) w := by kernel_rfl
theorem as_methodElem (h : Value) (w : World) : (Go.method 428 167 (.agg #[h]) "Elem").run Tryz.prog w = .ok (303, .agg #[h]) w := by kernel_rfl
theorem as_methodImplements (h : Value) (w : World) : (Go.method 428 167 (.agg #[h]) "Implements").run Tryz.prog w = .ok (304, .agg #[h]) w := by kernel_rfl
theorem as_methodAssignableTo (h : Value) (w : World) : (Go.method 428 167 (.agg #[h]) "AssignableTo").run Tryz.prog w = .ok (301, .agg #[h]) w := by kernel_rfl
theorem as_methodUnwrap (h : Value) (w : World) : (Go.method 428 242 h "Unwrap").run Tryz.prog w = .ok (325, h) w := by kernel_rfl
theorem as_noAs (v : Value) (xT : TypeId) (w : World) : (Instr.typeAssert (.iface 242 v) xT 171 true).run Tryz.prog w = .ok (.tuple #[.nilIface, .bool false]) w := run_typeAssert_lacksB Tryz.underlying171 (by kernel_rfl) (by kernel_rfl) v xT w
theorem as_hasUnwrap (v : Value) (xT : TypeId) (w : World) : (Instr.typeAssert (.iface 242 v) xT 53 true).run Tryz.prog w = .ok (.tuple #[.iface 242 v, .bool true]) w := run_typeAssert_hasB Tryz.underlying53 (by kernel_rfl) v xT w
theorem told_valueOf (t : Addr) (w : World) : (ReflectliteValue.unpack (.iface 111 (.pointer (some t)))).run Tryz.prog w
 = .ok (.agg #[.pointer (some ⟨1, 111, none⟩), .pointer (some ⟨w.heap.size, 0, none⟩), .int .u64 150]) (w.alloc (.cells #[.pointer (some t)] 111)) := by kernel_rfl
theorem told_type (a : Addr) (w : World) : (ReflectliteValue.methodAny (ReflectliteValue.valueError "reflectlite.Value.Type" 0) (fun t _ _ _ => ReflectliteType.toType t) #[.agg #[.pointer (some ⟨1, 111, none⟩), .pointer (some a), .int .u64 150]]).run Tryz.prog w
 = .ok (.iface 167 (.agg #[.pointer (some ⟨1, 111, none⟩)])) w := by kernel_rfl
theorem told_kindP (w : World) : ((ReflectliteType.abiMethod fun t => (fun a : Nat => Value.int IntKind.u8 (a : Int)) <$> Rtype.kind t) #[.pointer (some ⟨1, 111, none⟩)]).run Tryz.prog w = .ok (.int .u8 22) w := by kernel_rfl
theorem told_kindE (w : World) : ((ReflectliteType.abiMethod fun t => (fun a : Nat => Value.int IntKind.u8 (a : Int)) <$> Rtype.kind t) #[.pointer (some ⟨1, 110, none⟩)]).run Tryz.prog w = .ok (.int .u8 2) w := by kernel_rfl
theorem told_parts (a : Addr) (w : World) : (ReflectliteValue.parts (.agg #[.pointer (some ⟨1, 111, none⟩), .pointer (some a), .int .u64 150])).run Tryz.prog w = .ok (some (111, a, 150)) w := by kernel_rfl
theorem told_isNil (a p : Addr) (W : World) (ha : W.cell? a = some (.pointer (some p))) :
 (ReflectliteValue.method (ReflectliteValue.valueError "reflectlite.Value.IsNil" 0) ReflectliteValue.isNil #[.agg #[.pointer (some ⟨1, 111, none⟩), .pointer (some a), .int .u64 150]]).run Tryz.prog W = .ok (.bool false) W := by
 rw [rlm]
 simp only [Sem.run_bind, told_parts, Result.andThen]
 simp [ReflectliteValue.isNil, loadVar, isAgg, underlying, Tryz.underlying111, ha, Result.andThen]
theorem told_elem (w : World) : (ReflectliteType.method ReflectliteType.elem #[.agg #[.pointer (some ⟨1, 111, none⟩)]]).run Tryz.prog w = .ok (.iface 167 (.agg #[.pointer (some ⟨1, 110, none⟩)])) w := by kernel_rfl
theorem told_implements (w : World) : (ReflectliteType.relation "Implements" ReflectliteType.implements_ #[.agg #[.pointer (some ⟨1, 110, none⟩)], .iface 167 (.agg #[.pointer (some ⟨1, 51, none⟩)])]).run Tryz.prog w = .ok (.bool true) w := by kernel_rfl
theorem told_elemOf (w : World) : (Rtype.elem? 111).run Tryz.prog w = .ok (some 110) w := by kernel_rfl
theorem told_mk (p : Addr) (w : World) : (ReflectliteValue.mk 110 p ReflectliteValue.flagAddr).run Tryz.prog w = .ok (.agg #[.pointer (some ⟨1, 110, none⟩), .pointer (some p), .int .u64 386]) w := by kernel_rfl
theorem told_elemV (a p : Addr) (W : World) (ha : W.cell? a = some (.pointer (some p))) :
 (ReflectliteValue.method (ReflectliteValue.valueError "reflectlite.Value.Elem" 0) ReflectliteValue.elem #[.agg #[.pointer (some ⟨1, 111, none⟩), .pointer (some a), .int .u64 150]]).run Tryz.prog W
  = .ok (.agg #[.pointer (some ⟨1, 110, none⟩), .pointer (some p), .int .u64 386]) W := by
 rw [rlm]
 simp only [Sem.run_bind, told_parts, Result.andThen]
 simp [ReflectliteValue.elem, loadVar, isAgg, underlying, Tryz.underlying111, ha, Result.andThen, told_elemOf, told_mk]
theorem told_partsA (a : Addr) (w : World) : (ReflectliteValue.parts (.agg #[.pointer (some ⟨1, 110, none⟩), .pointer (some a), .int .u64 386])).run Tryz.prog w = .ok (some (110, a, 386)) w := by kernel_rfl
theorem told_direct (w : World) : (Rtype.directlyAssignable 110 110).run Tryz.prog w = .ok true w := by kernel_rfl
theorem told_partsB (a : Addr) (w : World) : (ReflectliteValue.parts (.agg #[.pointer (some ⟨1, 110, none⟩), .pointer (some a), .int .u64 130])).run Tryz.prog w = .ok (some (110, a, 130)) w := by kernel_rfl
theorem told_typeOf (v : Value) (w : World) : (ReflectliteType.typeOf #[.iface 110 v]).run Tryz.prog w = .ok (.iface 167 (.agg #[.pointer (some ⟨1, 110, none⟩)])) w := by kernel_rfl
theorem told_assignable (w : World) : (ReflectliteType.relation "AssignableTo" ReflectliteType.assignableTo #[.agg #[.pointer (some ⟨1, 110, none⟩)], .iface 167 (.agg #[.pointer (some ⟨1, 110, none⟩)])]).run Tryz.prog w = .ok (.bool true) w := by kernel_rfl
theorem plc_typeOf (v : Value) (w : World) : (ReflectliteType.typeOf #[.iface 242 v]).run Tryz.prog w = .ok (.iface 167 (.agg #[.pointer (some ⟨1, 242, none⟩)])) w := by kernel_rfl
theorem told_assignableNo (w : World) : (ReflectliteType.relation "AssignableTo" ReflectliteType.assignableTo #[.agg #[.pointer (some ⟨1, 242, none⟩)], .iface 167 (.agg #[.pointer (some ⟨1, 110, none⟩)])]).run Tryz.prog w = .ok (.bool false) w := by kernel_rfl
theorem told_unpack (e : Int) (w : World) : (ReflectliteValue.unpack (.iface 110 (.int .i64 e))).run Tryz.prog w
 = .ok (.agg #[.pointer (some ⟨1, 110, none⟩), .pointer (some ⟨w.heap.size, 0, none⟩), .int .u64 130]) (w.alloc (.cells #[.int .i64 e] 110)) := by kernel_rfl
theorem told_set (ta b : Addr) (e : Int) (old : Value) (W : World) (hb : W.cell? b = some (.int .i64 e)) (ht : W.cell? ta = some old) (hf : W.frozen? ta = false) :
 (ReflectliteValue.set #[.agg #[.pointer (some ⟨1, 110, none⟩), .pointer (some ta), .int .u64 386], .agg #[.pointer (some ⟨1, 110, none⟩), .pointer (some b), .int .u64 130]]).run Tryz.prog W = .ok (.tuple #[]) (W.setCell ta (.int .i64 e)) := by
 rw [rls]
 simp only [Sem.run_bind, told_partsA, told_partsB, Result.andThen]
 simp [ReflectliteValue.flagAddr, loadVar, isAgg, underlying, Tryz.underlying110, hb, Result.andThen, told_direct, storeVar, Value.cells, storeCells, Addr.add]
 rw [run_store Tryz.prog W ta _ _ (by rfl)]
 simp [ht, hf]
theorem cell_lt {w : World} {a : Addr} {v : Value} (h : w.cell? a = some v) : a.block < w.heap.size := World.block_lt_of_cell? w a h
set_option maxHeartbeats 4000000 in
set_option maxRecDepth 100000 in
theorem as_told (pb : Nat) (e : Int) (t : Addr) (old : Value) (w : World) (hp : w.cell? ⟨pb, 0, none⟩ = some (.iface 110 (.int .i64 e))) (hg : ErrT w) (ht0 : w.cell? t = some old) (hf0 : w.frozen? t = false) :
 Calls Tryz.prog 20 #[.iface 242 (.pointer (some ⟨pb, 0, none⟩)), .iface 111 (.pointer (some t))] w fun ev w' => ev = .returned (.bool true) ∧ w' = ((((w.alloc (.cells #[.pointer (some t)] 111)).alloc (.cells #[.pointer (some ⟨1, 111, none⟩), .pointer (some ⟨w.heap.size, 0, none⟩), .int .u64 150] 99)).alloc (.cells #[.pointer (some ⟨1, 111, none⟩), .pointer (some ⟨w.heap.size, 0, none⟩), .int .u64 150] 99)).alloc (.cells #[.int .i64 e] 110)).setCell t (.int .i64 e) := by
 have h1 := @run_callFunc_extern Tryz.prog 46 _ (fun args => ReflectliteValue.unpack (args.getD 0 (.tuple #[]))) Tryz.func46 (by kernel_rfl) (by kernel_rfl) (by kernel_rfl) (by kernel_rfl)
 have h2 := @run_callFunc_extern Tryz.prog 47 _ (ReflectliteValue.methodAny (ReflectliteValue.valueError "reflectlite.Value.Type" 0) (fun t _ _ _ => ReflectliteType.toType t)) Tryz.func47 (by kernel_rfl) (by kernel_rfl) (by kernel_rfl) (by kernel_rfl)
 have h3 := @run_callFunc_extern Tryz.prog 48 _ (ReflectliteValue.method (ReflectliteValue.valueError "reflectlite.Value.IsNil" 0) ReflectliteValue.isNil) Tryz.func48 (by kernel_rfl) (by kernel_rfl) (by kernel_rfl) (by kernel_rfl)
 have h4 := @run_callFunc_extern Tryz.prog 266 _ (ReflectliteType.abiMethod fun t => do pure (.int .u8 (← Rtype.kind t))) Tryz.func266 (by kernel_rfl) (by kernel_rfl) (by kernel_rfl) (by kernel_rfl)
 have h5 := @run_callFunc_extern Tryz.prog 303 _ (ReflectliteType.method ReflectliteType.elem) Tryz.func303 (by kernel_rfl) (by kernel_rfl) (by kernel_rfl) (by kernel_rfl)
 have h6 := @run_callFunc_extern Tryz.prog 304 _ (ReflectliteType.relation "Implements" ReflectliteType.implements_) Tryz.func304 (by kernel_rfl) (by kernel_rfl) (by kernel_rfl) (by kernel_rfl)
 have h7 := @run_callFunc_extern Tryz.prog 50 _ ReflectliteType.typeOf Tryz.func50 (by kernel_rfl) (by kernel_rfl) (by kernel_rfl) (by kernel_rfl)
 have h8 := @run_callFunc_extern Tryz.prog 301 _ (ReflectliteType.relation "AssignableTo" ReflectliteType.assignableTo) Tryz.func301 (by kernel_rfl) (by kernel_rfl) (by kernel_rfl) (by kernel_rfl)
 have h9 := @run_callFunc_extern Tryz.prog 104 _ (ReflectliteValue.method (ReflectliteValue.valueError "reflectlite.Value.Elem" 0) ReflectliteValue.elem) Tryz.func104 (by kernel_rfl) (by kernel_rfl) (by kernel_rfl) (by kernel_rfl)
 have h10 := @run_callFunc_extern Tryz.prog 105 _ ReflectliteValue.set Tryz.func105 (by kernel_rfl) (by kernel_rfl) (by kernel_rfl) (by kernel_rfl)
 have f_valueOf := told_valueOf
 have f_type := told_type
 have f_kindP := told_kindP
 have f_kindE := told_kindE
 have f_elem := told_elem
 have f_implements := told_implements
 have f_typeOf := told_typeOf
 have f_assignable := told_assignable
 have f_unpack := told_unpack
 have m_Kind := as_methodKind
 have m_Elem := as_methodElem
 have m_Implements := as_methodImplements
 have m_AssignableTo := as_methodAssignableTo
 have f_no := told_assignableNo
 have f_typ := plc_typeOf
 have m_Unwrap := as_methodUnwrap
 have a_no := as_noAs
 have a_un := as_hasUnwrap
 have hpl : pb < w.heap.size := cell_lt hp
 have hp3 : (((w.alloc (.cells #[.pointer (some t)] 111)).alloc (.cells #[.pointer (some ⟨1, 111, none⟩), .pointer (some ⟨w.heap.size, 0, none⟩), .int .u64 150] 99)).alloc (.cells #[.pointer (some ⟨1, 111, none⟩), .pointer (some ⟨w.heap.size, 0, none⟩), .int .u64 150] 99)).cell? ⟨pb, 0, none⟩ = some (.iface 110 (.int .i64 e)) := by
  rw [World.cell?_alloc_lt _ _ ⟨pb, 0, none⟩ (by simp; omega), World.cell?_alloc_lt _ _ ⟨pb, 0, none⟩ (by simp; omega), World.cell?_alloc_lt _ _ ⟨pb, 0, none⟩ hpl]; exact hp
 have n3 := told_isNil ⟨w.heap.size, 0, none⟩ t ((w.alloc (.cells #[.pointer (some t)] 111)).alloc (.cells #[.pointer (some ⟨1, 111, none⟩), .pointer (some ⟨w.heap.size, 0, none⟩), .int .u64 150] 99)) (by simp)
 have hlt := hg.lt
 have htl : t.block < w.heap.size := cell_lt ht0
 unfold ErrT at hg
 have hg2 : ((w.alloc (.cells #[.pointer (some t)] 111)).alloc (.cells #[.pointer (some ⟨1, 111, none⟩), .pointer (some ⟨w.heap.size, 0, none⟩), .int .u64 150] 99)).cell? ⟨0, 0, none⟩ = some (.iface 167 (.agg #[.pointer (some ⟨1, 51, none⟩)])) := by
  rw [World.cell?_alloc_lt _ _ ⟨0, 0, none⟩ (by simp; try omega), World.cell?_alloc_lt _ _ ⟨0, 0, none⟩ hlt]; exact hg
 have el := told_elemV ⟨w.heap.size, 0, none⟩ t (((w.alloc (.cells #[.pointer (some t)] 111)).alloc (.cells #[.pointer (some ⟨1, 111, none⟩), .pointer (some ⟨w.heap.size, 0, none⟩), .int .u64 150] 99)).alloc (.cells #[.pointer (some ⟨1, 111, none⟩), .pointer (some ⟨w.heap.size, 0, none⟩), .int .u64 150] 99)) (by rw [World.cell?_alloc_lt _ _ ⟨w.heap.size, 0, none⟩ (by simp; omega), World.cell?_alloc_lt _ _ ⟨w.heap.size, 0, none⟩ (by simp), World.cell?_alloc_at _ _ _ _ (by simp)]; rfl)
 have st := told_set t ⟨w.heap.size + 1 + 1 + 1, 0, none⟩ e old ((((w.alloc (.cells #[.pointer (some t)] 111)).alloc (.cells #[.pointer (some ⟨1, 111, none⟩), .pointer (some ⟨w.heap.size, 0, none⟩), .int .u64 150] 99)).alloc (.cells #[.pointer (some ⟨1, 111, none⟩), .pointer (some ⟨w.heap.size, 0, none⟩), .int .u64 150] 99)).alloc (.cells #[.int .i64 e] 110))
  (by rw [World.cell?_alloc_at _ _ _ _ (by simp)]; rfl)
  (by rw [World.cell?_alloc_lt _ _ t (by simp; omega), World.cell?_alloc_lt _ _ t (by simp; omega), World.cell?_alloc_lt _ _ t (by simp; omega), World.cell?_alloc_lt _ _ t htl]; exact ht0)
  (by rw [World.frozen?_alloc_old _ _ t (by simp; omega), World.frozen?_alloc_old _ _ t (by simp; omega), World.frozen?_alloc_old _ _ t (by simp; omega), World.frozen?_alloc_old _ _ t (Nat.ne_of_lt htl)]; exact hf0)
 go_enter Tryz.func20, Tryz.ntmps20
 go_wp2
 refine wp_loop_rounds 2 ?_
 rw [rounds_succ]
 go_wp2
 rw [rounds_succ]
 go_wp2
 go_ret
 exact ⟨rfl, rfl⟩
end Go.Proofs.YtidlpihoafnobaaGreatDoor
namespace Go.Proofs.YtidlpihoafnobaaGreatDoor
set_option maxRecDepth 100000
open Go.RowKit Go.Extern.Stop Go.Stop Go.Extern
theorem knw_valueOf (t : Addr) (w : World) : (ReflectliteValue.unpack (.iface 56 (.pointer (some t)))).run Tryz.prog w
 = .ok (.agg #[.pointer (some ⟨1, 56, none⟩), .pointer (some ⟨w.heap.size, 0, none⟩), .int .u64 150]) (w.alloc (.cells #[.pointer (some t)] 56)) := by kernel_rfl
theorem knw_type (a : Addr) (w : World) : (ReflectliteValue.methodAny (ReflectliteValue.valueError "reflectlite.Value.Type" 0) (fun t _ _ _ => ReflectliteType.toType t) #[.agg #[.pointer (some ⟨1, 56, none⟩), .pointer (some a), .int .u64 150]]).run Tryz.prog w
 = .ok (.iface 167 (.agg #[.pointer (some ⟨1, 56, none⟩)])) w := by kernel_rfl
theorem knw_kindP (w : World) : ((ReflectliteType.abiMethod fun t => (fun a : Nat => Value.int IntKind.u8 (a : Int)) <$> Rtype.kind t) #[.pointer (some ⟨1, 56, none⟩)]).run Tryz.prog w = .ok (.int .u8 22) w := by kernel_rfl
theorem knw_kindE (w : World) : ((ReflectliteType.abiMethod fun t => (fun a : Nat => Value.int IntKind.u8 (a : Int)) <$> Rtype.kind t) #[.pointer (some ⟨1, 54, none⟩)]).run Tryz.prog w = .ok (.int .u8 20) w := by kernel_rfl
theorem knw_parts (a : Addr) (w : World) : (ReflectliteValue.parts (.agg #[.pointer (some ⟨1, 56, none⟩), .pointer (some a), .int .u64 150])).run Tryz.prog w = .ok (some (56, a, 150)) w := by kernel_rfl
theorem knw_isNil (a p : Addr) (W : World) (ha : W.cell? a = some (.pointer (some p))) :
 (ReflectliteValue.method (ReflectliteValue.valueError "reflectlite.Value.IsNil" 0) ReflectliteValue.isNil #[.agg #[.pointer (some ⟨1, 56, none⟩), .pointer (some a), .int .u64 150]]).run Tryz.prog W = .ok (.bool false) W := by
 rw [rlm]
 simp only [Sem.run_bind, knw_parts, Result.andThen]
 simp [ReflectliteValue.isNil, loadVar, isAgg, underlying, Tryz.underlying56, ha, Result.andThen]
theorem knw_elem (w : World) : (ReflectliteType.method ReflectliteType.elem #[.agg #[.pointer (some ⟨1, 56, none⟩)]]).run Tryz.prog w = .ok (.iface 167 (.agg #[.pointer (some ⟨1, 54, none⟩)])) w := by kernel_rfl
theorem knw_elemOf (w : World) : (Rtype.elem? 56).run Tryz.prog w = .ok (some 54) w := by kernel_rfl
theorem knw_mk (p : Addr) (w : World) : (ReflectliteValue.mk 54 p ReflectliteValue.flagAddr).run Tryz.prog w = .ok (.agg #[.pointer (some ⟨1, 54, none⟩), .pointer (some p), .int .u64 404]) w := by kernel_rfl
theorem knw_elemV (a p : Addr) (W : World) (ha : W.cell? a = some (.pointer (some p))) :
 (ReflectliteValue.method (ReflectliteValue.valueError "reflectlite.Value.Elem" 0) ReflectliteValue.elem #[.agg #[.pointer (some ⟨1, 56, none⟩), .pointer (some a), .int .u64 150]]).run Tryz.prog W
  = .ok (.agg #[.pointer (some ⟨1, 54, none⟩), .pointer (some p), .int .u64 404]) W := by
 rw [rlm]
 simp only [Sem.run_bind, knw_parts, Result.andThen]
 simp [ReflectliteValue.elem, loadVar, isAgg, underlying, Tryz.underlying56, ha, Result.andThen, knw_elemOf, knw_mk]
theorem knw_partsA (a : Addr) (w : World) : (ReflectliteValue.parts (.agg #[.pointer (some ⟨1, 54, none⟩), .pointer (some a), .int .u64 404])).run Tryz.prog w = .ok (some (54, a, 404)) w := by kernel_rfl
theorem knw_direct (w : World) : (Rtype.directlyAssignable 54 242).run Tryz.prog w = .ok false w := by kernel_rfl
theorem knw_impl (w : World) : (Rtype.implements 54 242).run Tryz.prog w = .ok true w := by kernel_rfl
theorem knw_kindS (w : World) : (Rtype.kind 242).run Tryz.prog w = .ok 22 w := by kernel_rfl
theorem knw_partsB (a : Addr) (w : World) : (ReflectliteValue.parts (.agg #[.pointer (some ⟨1, 242, none⟩), .pointer (some a), .int .u64 150])).run Tryz.prog w = .ok (some (242, a, 150)) w := by kernel_rfl
theorem knw_typeOf (v : Value) (w : World) : (ReflectliteType.typeOf #[.iface 242 v]).run Tryz.prog w = .ok (.iface 167 (.agg #[.pointer (some ⟨1, 242, none⟩)])) w := by kernel_rfl
theorem knw_assignable (w : World) : (ReflectliteType.relation "AssignableTo" ReflectliteType.assignableTo #[.agg #[.pointer (some ⟨1, 242, none⟩)], .iface 167 (.agg #[.pointer (some ⟨1, 54, none⟩)])]).run Tryz.prog w = .ok (.bool true) w := by kernel_rfl
theorem knw_unpack (e : Addr) (w : World) : (ReflectliteValue.unpack (.iface 242 (.pointer (some e)))).run Tryz.prog w
 = .ok (.agg #[.pointer (some ⟨1, 242, none⟩), .pointer (some ⟨w.heap.size, 0, none⟩), .int .u64 150]) (w.alloc (.cells #[.pointer (some e)] 242)) := by kernel_rfl
theorem knw_set (ta b e : Addr) (old : Value) (W : World) (hb : W.cell? b = some (.pointer (some e))) (ht : W.cell? ta = some old) (hf : W.frozen? ta = false) :
 (ReflectliteValue.set #[.agg #[.pointer (some ⟨1, 54, none⟩), .pointer (some ta), .int .u64 404], .agg #[.pointer (some ⟨1, 242, none⟩), .pointer (some b), .int .u64 150]]).run Tryz.prog W = .ok (.tuple #[]) (W.setCell ta (.iface 242 (.pointer (some e)))) := by
 rw [rls]
 simp only [Sem.run_bind, knw_partsA, knw_partsB, Result.andThen]
 simp [ReflectliteValue.flagAddr, loadVar, isAgg, underlying, Tryz.underlying242, hb, Result.andThen, knw_direct, knw_impl, knw_kindS, storeVar, Value.cells, storeCells, Addr.add]
 rw [run_store Tryz.prog W ta _ _ (by rfl)]
 simp [ht, hf]
set_option maxHeartbeats 4000000 in
set_option maxRecDepth 100000 in
theorem as_known (pa : Addr) (t : Addr) (old : Value) (w : World) (ht0 : w.cell? t = some old) (hf0 : w.frozen? t = false) :
 Calls Tryz.prog 20 #[.iface 242 (.pointer (some pa)), .iface 56 (.pointer (some t))] w fun ev w' => ev = .returned (.bool true) ∧ w' = ((((w.alloc (.cells #[.pointer (some t)] 56)).alloc (.cells #[.pointer (some ⟨1, 56, none⟩), .pointer (some ⟨w.heap.size, 0, none⟩), .int .u64 150] 99)).alloc (.cells #[.pointer (some ⟨1, 56, none⟩), .pointer (some ⟨w.heap.size, 0, none⟩), .int .u64 150] 99)).alloc (.cells #[.pointer (some pa)] 242)).setCell t (.iface 242 (.pointer (some pa))) := by
 have h1 := @run_callFunc_extern Tryz.prog 46 _ (fun args => ReflectliteValue.unpack (args.getD 0 (.tuple #[]))) Tryz.func46 (by kernel_rfl) (by kernel_rfl) (by kernel_rfl) (by kernel_rfl)
 have h2 := @run_callFunc_extern Tryz.prog 47 _ (ReflectliteValue.methodAny (ReflectliteValue.valueError "reflectlite.Value.Type" 0) (fun t _ _ _ => ReflectliteType.toType t)) Tryz.func47 (by kernel_rfl) (by kernel_rfl) (by kernel_rfl) (by kernel_rfl)
 have h3 := @run_callFunc_extern Tryz.prog 48 _ (ReflectliteValue.method (ReflectliteValue.valueError "reflectlite.Value.IsNil" 0) ReflectliteValue.isNil) Tryz.func48 (by kernel_rfl) (by kernel_rfl) (by kernel_rfl) (by kernel_rfl)
 have h4 := @run_callFunc_extern Tryz.prog 266 _ (ReflectliteType.abiMethod fun t => do pure (.int .u8 (← Rtype.kind t))) Tryz.func266 (by kernel_rfl) (by kernel_rfl) (by kernel_rfl) (by kernel_rfl)
 have h5 := @run_callFunc_extern Tryz.prog 303 _ (ReflectliteType.method ReflectliteType.elem) Tryz.func303 (by kernel_rfl) (by kernel_rfl) (by kernel_rfl) (by kernel_rfl)
 have h6 := @run_callFunc_extern Tryz.prog 304 _ (ReflectliteType.relation "Implements" ReflectliteType.implements_) Tryz.func304 (by kernel_rfl) (by kernel_rfl) (by kernel_rfl) (by kernel_rfl)
 have h7 := @run_callFunc_extern Tryz.prog 50 _ ReflectliteType.typeOf Tryz.func50 (by kernel_rfl) (by kernel_rfl) (by kernel_rfl) (by kernel_rfl)
 have h8 := @run_callFunc_extern Tryz.prog 301 _ (ReflectliteType.relation "AssignableTo" ReflectliteType.assignableTo) Tryz.func301 (by kernel_rfl) (by kernel_rfl) (by kernel_rfl) (by kernel_rfl)
 have h9 := @run_callFunc_extern Tryz.prog 104 _ (ReflectliteValue.method (ReflectliteValue.valueError "reflectlite.Value.Elem" 0) ReflectliteValue.elem) Tryz.func104 (by kernel_rfl) (by kernel_rfl) (by kernel_rfl) (by kernel_rfl)
 have h10 := @run_callFunc_extern Tryz.prog 105 _ ReflectliteValue.set Tryz.func105 (by kernel_rfl) (by kernel_rfl) (by kernel_rfl) (by kernel_rfl)
 have f_valueOf := knw_valueOf
 have f_type := knw_type
 have f_kindP := knw_kindP
 have f_kindE := knw_kindE
 have f_elem := knw_elem
 have f_typeOf := knw_typeOf
 have f_assignable := knw_assignable
 have f_unpack := knw_unpack
 have m_Kind := as_methodKind
 have m_Elem := as_methodElem
 have m_Implements := as_methodImplements
 have m_AssignableTo := as_methodAssignableTo
 have n3 := knw_isNil ⟨w.heap.size, 0, none⟩ t ((w.alloc (.cells #[.pointer (some t)] 56)).alloc (.cells #[.pointer (some ⟨1, 56, none⟩), .pointer (some ⟨w.heap.size, 0, none⟩), .int .u64 150] 99)) (by simp)
 have htl : t.block < w.heap.size := cell_lt ht0
 have el := knw_elemV ⟨w.heap.size, 0, none⟩ t (((w.alloc (.cells #[.pointer (some t)] 56)).alloc (.cells #[.pointer (some ⟨1, 56, none⟩), .pointer (some ⟨w.heap.size, 0, none⟩), .int .u64 150] 99)).alloc (.cells #[.pointer (some ⟨1, 56, none⟩), .pointer (some ⟨w.heap.size, 0, none⟩), .int .u64 150] 99)) (by rw [World.cell?_alloc_lt _ _ ⟨w.heap.size, 0, none⟩ (by simp; omega), World.cell?_alloc_lt _ _ ⟨w.heap.size, 0, none⟩ (by simp), World.cell?_alloc_at _ _ _ _ (by simp)]; rfl)
 have st := knw_set t ⟨w.heap.size + 1 + 1 + 1, 0, none⟩ pa old ((((w.alloc (.cells #[.pointer (some t)] 56)).alloc (.cells #[.pointer (some ⟨1, 56, none⟩), .pointer (some ⟨w.heap.size, 0, none⟩), .int .u64 150] 99)).alloc (.cells #[.pointer (some ⟨1, 56, none⟩), .pointer (some ⟨w.heap.size, 0, none⟩), .int .u64 150] 99)).alloc (.cells #[.pointer (some pa)] 242))
  (by rw [World.cell?_alloc_at _ _ _ _ (by simp)]; rfl)
  (by rw [World.cell?_alloc_lt _ _ t (by simp; omega), World.cell?_alloc_lt _ _ t (by simp; omega), World.cell?_alloc_lt _ _ t (by simp; omega), World.cell?_alloc_lt _ _ t htl]; exact ht0)
  (by rw [World.frozen?_alloc_old _ _ t (by simp; omega), World.frozen?_alloc_old _ _ t (by simp; omega), World.frozen?_alloc_old _ _ t (by simp; omega), World.frozen?_alloc_old _ _ t (Nat.ne_of_lt htl)]; exact hf0)
 go_enter Tryz.func20, Tryz.ntmps20
 go_wp2
 refine wp_loop_rounds 1 ?_
 rw [rounds_succ]
 go_wp2
 go_ret
 exact ⟨rfl, rfl⟩
theorem is_nil (v : Value) (w : World) : Calls Tryz.prog 21 #[.iface 242 v, .nilIface] w fun ev w' => ev = .returned (.bool false) ∧ w = w' := by
 go_enter Tryz.func21, Tryz.ntmps21
 go_wp2
 go_ret
 exact ⟨rfl, rfl⟩
end Go.Proofs.YtidlpihoafnobaaGreatDoor
namespace Go.Proofs.YtidlpihoafnobaaGreatDoor
set_option maxRecDepth 100000
theorem sealed_eq (l : Bytes) (hl : 4 ≤ l.length) : (sealF (l.take (l.length - 4)) == l) = sealedB l := by
 rw [Bool.eq_iff_iff, beq_iff_eq, sealed_iff l hl]
end Go.Proofs.YtidlpihoafnobaaGreatDoor
namespace Go.Proofs.YtidlpihoafnobaaGreatDoor
set_option maxRecDepth 100000
open Go.RowKit
theorem narrow_len (n : Nat) : BitVec.setWidth 32 (BitVec.ofNat 64 n % 4294967296#64) = BitVec.ofNat 32 n := by
 apply BitVec.eq_of_toNat_eq
 rw [BitVec.toNat_setWidth, BitVec.toNat_umod, BitVec.toNat_ofNat, BitVec.toNat_ofNat, BitVec.toNat_ofNat, show (4294967296 : Nat) % 2 ^ 64 = 4294967296 from by decide, show (2 : Nat) ^ 64 = 18446744073709551616 from by decide, show (2 : Nat) ^ 32 = 4294967296 from by decide]
 omega
set_option maxHeartbeats 1000000 in
theorem refSum_any (a : Option Addr) (n c : Nat) (l : Bytes) (w : World) (h : IsBytes w a n c l) : Calls Tryz.prog 108 #[.slice a n c] w (Gives (.int .u32 (W32 (sumF l))) w) := by
 have hlen := Lib.hid h.1
 unfold sumF
 rw [hlen.out]
 generalize hr : l.foldl sumStep (BitVec.ofNat 32 n) = r
 have HR := Lib.hid hr
 clear hr
 have hc : n ≤ c := h.2.1
 have hc2 : c ≤ 9223372036854775807 := h.2.2.1
 go_enter Tryz.func108, Tryz.ntmps108
 go_wp2
 rw [narrow_len]
 go_loop [3, 13] (fun u i => ∃ (k : Nat) (g : BitVec 32), k ≤ n ∧ i = .int .i64 k ∧ u = .int .u32 (W32 g) ∧ Hid ((l.drop k).foldl sumStep g = r)) (fun _ i => n - (intOf i).toNat)
 case atStart => exact ⟨0, _, by omega, rfl, rfl, HR⟩
 case round =>
  obtain ⟨k, g, hk, rfl, rfl, hg⟩ := hrel
  by_cases hkn : k < n
  · have i4 : (k : Int) < (n : Int) := by omega
    have hkl : k < l.length := by rw [hlen.out]; exact hkn
    obtain ⟨b, off, hbo, hcell⟩ := h.known (by omega)
    have hc0 := hcell k hkn
    have hd := Lib.hid (List.drop_eq_getElem_cons hkl)
    rw [hbo]
    clear hcell hbo
    go_wp2_with fail
    refine (refFmix32_any _ _).mono ?_
    rintro e w' ⟨rfl, rfl⟩
    go_wp2_with fail
    refine ⟨⟨k + 1, sumStep g (l[k]'hkl), by omega, rfl, ?_, ?_⟩, by simp [intOf]; omega⟩
    · rw [sumStep_def]
    · show _ = _
      rw [← hg.out, hd.out, List.foldl_cons]
  · have hkm2 : k = n := by omega
    have i4 : ¬ (k : Int) < (n : Int) := by omega
    have hh : g = r := by have := hg.out; rw [List.drop_eq_nil_of_le (by rw [hlen.out]; omega)] at this; exact this
    rw [hh]
    clear hh hg
    go_wp2_with fail
    go_ret
    exact ⟨rfl, rfl⟩
theorem refSeal_any (a : Option Addr) (n c : Nat) (l : Bytes) (w : World) (h : IsBytes w a n c l) (hr : n + 8 ≤ 140737488355328) : Calls Tryz.prog 55 #[.slice a n c] w (GivesBytes (sealF l) w) := by
 go_enter Tryz.func55, Tryz.ntmps55
 go_wp2_with fail
 refine (refSum_any _ _ _ l _ h).mono ?_
 rintro e w' ⟨rfl, rfl⟩
 go_wp2_with fail
 refine (refBytes_any _ 4 _ (by omega)).mono ?_
 rintro e w1 ⟨v1, rfl, ho1, hf1⟩
 obtain ⟨a1, c1, rfl, hb1, _⟩ := ho1.bytes
 have h1 := h.no hf1
 rw [leb_length] at hb1 ⊢
 go_wp2_with fail
 refine (refBoth_any _ _ _ l _ _ _ _ _ h1 hb1 (by omega)).mono ?_
 rintro e w2 ⟨v2, rfl, ho2, hf2⟩
 go_wp2_with fail
 go_ret
 exact ⟨v2, rfl, ho2.mono hf1.size, hf1.no hf2⟩
def GivesOpenIn (a : Option Addr) (n c : Nat) (l : Bytes) (w : World) (e : Ending) (w' : World) : Prop :=
 ∃ a' n' c', e = .returned (.tuple #[.slice a' n' c', .int .i64 (openF l).2]) ∧ (∀ w2, IsBytes w2 a n c l → IsBytes w2 a' n' c' (openF l).1) ∧ Fr No w w'
set_option maxHeartbeats 1000000 in
theorem refOpen_any (a : Option Addr) (n c : Nat) (l : Bytes) (w : World) (h : IsBytes w a n c l) (hr : n + 8 ≤ 140737488355328) : Calls Tryz.prog 27 #[.slice a n c] w (GivesOpenIn a n c l w) := by
 have hlen := Lib.hid h.1
 have hc : n ≤ c := h.2.1
 have hc2 : c ≤ 9223372036854775807 := h.2.2.1
 by_cases h4 : n < 4
 · have HO := Lib.hid (openF_short (l := l) (by rw [hlen.out]; exact h4))
   have i0 : (n : Int) < 4 := by omega
   go_enter Tryz.func27, Tryz.ntmps27
   go_wp2_with fail
   go_ret2
   exact ⟨_, _, _, by rw [HO.out] <;> rfl, fun w2 _ => by rw [HO.out]; exact IsBytes.nil _, Fr.refl _ _⟩
 · obtain ⟨p, rfl⟩ : ∃ p, n = p + 4 := ⟨n - 4, by omega⟩
   have e0 : ((p + 4 : Nat) : Int) - 4 = (p : Int) := by omega
   have hst : ∀ w2, IsBytes w2 a (p + 4) c l → IsBytes w2 (subAddr a 0 c 1) p c (l.take p) := fun w2 h => h.head p c (n' := p) (c' := c) (by omega) (by omega) (Nat.le_refl _) rfl rfl
   have hcut := hst w h
   have HT : Hid (l.take (l.length - 4) = l.take p) := by show _ = _; rw [hlen.out]; rfl
   have i1 : (p : Int) ≤ (c : Int) := by omega
   have i0 : ¬ (((p + 4 : Nat) : Int)) < 4 := by omega
   have HB := Lib.hid (sealed_eq l (by rw [hlen.out]; omega))
   go_enter Tryz.func27, Tryz.ntmps27
   go_wp2_with fail
   refine (refSeal_any _ _ _ (l.take p) _ hcut (by omega)).mono ?_
   rintro e w1 ⟨v1, rfl, ho1, hf1⟩
   obtain ⟨a1, c1, rfl, hb1, _⟩ := ho1.bytes
   have h1 := h.no hf1
   go_wp2_with fail
   refine (refSame_any _ _ _ (sealF (l.take p)) _ _ _ l _ hb1 h1).mono ?_
   rw [← HT.out, HB.out]
   rintro e w' ⟨rfl, rfl⟩
   cases hs : sealedB l with
   | true =>
    have HO := Lib.hid (openF_yes (l := l) (by rw [hlen.out]; omega) hs)
    go_wp2_with fail
    go_ret2
    exact ⟨_, _, _, by rw [HO.out] <;> rfl, fun w2 h => by rw [HO.out, HT.out]; exact hst w2 h, hf1⟩
   | false =>
    have HO := Lib.hid (openF_no (l := l) (by rw [hlen.out]; omega) hs)
    go_wp2_with fail
    go_ret2
    exact ⟨_, _, _, by rw [HO.out] <;> rfl, fun w2 _ => by rw [HO.out]; exact IsBytes.nil _, hf1⟩
end Go.Proofs.YtidlpihoafnobaaGreatDoor
namespace Go.Proofs.YtidlpihoafnobaaGreatDoor
set_option maxRecDepth 100000
open Go.RowKit
def Found (tb : Nat) (T : TypeId) (v : Value) (w : World) (e : Ending) (w' : World) : Prop := e = .returned (.bool true) ∧ Row1 w' tb T v ∧ Fr (fun x => x = tb) w w'
theorem as_toldF {w : World} {pb : Nat} {e at_ : Int} (hp : Placed w pb e at_) (hg : ErrT w) (tb : Nat) (T : TypeId) (old : Value) (ht : Row1 w tb T old) :
 Calls Tryz.prog 20 #[.iface 242 (.pointer (some ⟨pb, 0, none⟩)), .iface 111 (.pointer (some ⟨tb, 0, none⟩))] w (Found tb T (.int .i64 e) w) := by
 refine (as_told pb e ⟨tb, 0, none⟩ old w hp.c0 hg ht.c0 ht.fz).mono ?_
 rintro ev w' ⟨rfl, rfl⟩
 have hf := (((((Fr.refl No w).alloc _).alloc _).alloc _).alloc _ : Fr No w ((((w.alloc (.cells #[.pointer (some ⟨tb, 0, none⟩)] 111)).alloc (.cells #[.pointer (some ⟨1, 111, none⟩), .pointer (some ⟨w.heap.size, 0, none⟩), .int .u64 150] 99)).alloc (.cells #[.pointer (some ⟨1, 111, none⟩), .pointer (some ⟨w.heap.size, 0, none⟩), .int .u64 150] 99)).alloc (.cells #[.int .i64 e] 110)))
 exact ⟨rfl, (ht.no hf).put _, (hf.mono (G := fun x => x = tb) (fun _ _ f => f.elim)).setCell (p := ⟨tb, 0, none⟩) (.inl rfl) _⟩
theorem Errno_any {w : World} {b : Nat} {e at_ : Int} (h : Placed w b e at_) (hg : ErrT w) : Calls Tryz.prog 22 #[.iface 242 (.pointer (some ⟨b, 0, none⟩))] w (GivesNew (.int .i64 e) w) := by
 have hf : Fr No w (w.alloc (.cells #[.int .i64 0] 110)) := (Fr.refl No w).alloc _
 have ht := row1_new w 110 (.int .i64 0)
 have h1 := h.no hf
 have g1 := hg.no hf
 go_enter Tryz.func22, Tryz.ntmps22
 go_wp2_with fail
 obtain ⟨tb, htb⟩ : ∃ tb, tb = w.heap.size := ⟨_, rfl⟩
 have hge : w.heap.size ≤ tb := by omega
 rw [← htb] at ht ⊢
 clear htb
 generalize w.alloc (.cells #[.int .i64 0] 110) = w1 at hf ht h1 g1 ⊢
 refine (as_toldF h1 g1 tb _ _ ht).mono ?_
 rintro ev w2 ⟨rfl, hr, hf2⟩
 have c0 := hr.c0
 go_wp2_with fail
 go_ret
 exact ⟨rfl, hf.trans hf2 (fun x hx => .inr (by omega))⟩
end Go.Proofs.YtidlpihoafnobaaGreatDoor
namespace Go.Proofs.YtidlpihoafnobaaGreatDoor
set_option maxRecDepth 100000
open Go.RowKit
theorem le_lt8 : ∀ (l : Bytes), l.length < 8 → (le l).toNat < 256 ^ l.length
 | [], _ => by simp [le]
 | b :: r, h => by
  have ih := le_lt8 r (by simp at h; omega)
  have hb := b.isLt
  have hp : 256 ^ (b :: r).length = 256 * 256 ^ r.length := by rw [List.length_cons, Nat.pow_succ, Nat.mul_comm]
  have hr : 256 ^ r.length ≤ 256 ^ 6 := Nat.pow_le_pow_right (by decide) (by simp at h; omega)
  rw [le, BitVec.toNat_add, BitVec.toNat_mul, BitVec.toNat_setWidth, hp]
  have e : (256#64).toNat = 256 := rfl
  rw [e]
  omega
theorem leb_le8 : ∀ (l : Bytes), l.length ≤ 8 → leb (le l) l.length = l
 | [], _ => by simp [leb]
 | b :: r, h => by
  have hlt := le_lt8 r (by simp at h; omega)
  have hr : 256 ^ r.length ≤ 256 ^ 7 := Nat.pow_le_pow_right (by decide) (by simp at h; omega)
  have hb := b.isLt
  have e : (256#64).toNat = 256 := rfl
  have hn : (le (b :: r)).toNat = b.toNat + (le r).toNat * 256 := by
   rw [le, BitVec.toNat_add, BitVec.toNat_mul, BitVec.toNat_setWidth, e]
   omega
  have h1 : (le (b :: r)).setWidth 8 = b := by
   apply BitVec.eq_of_toNat_eq
   rw [BitVec.toNat_setWidth, hn]
   omega
  have h2 : le (b :: r) >>> 8 = le r := by
   apply BitVec.eq_of_toNat_eq
   rw [BitVec.toNat_ushiftRight, hn, Nat.shiftRight_eq_div_pow]
   omega
  rw [List.length_cons, leb_consS, h1, h2, leb_le8 r (by simp at h; omega)]
def ReadN (b : Bytes) (z : Int) : Prop := (¬ formN b = 0 ∧ z = formN b) ∨ (formN b = 0 ∧ ¬ checkB b = 0 ∧ z = checkB b) ∨ (formN b = 0 ∧ checkB b = 0 ∧ ¬ RightB b ∧ z = 5) ∨ (formN b = 0 ∧ checkB b = 0 ∧ RightB b ∧ z = 0)
theorem readN_ex (b : Bytes) : ∃ z, ReadN b z := by
 by_cases h1 : formN b = 0
 · by_cases h2 : checkB b = 0
   · by_cases h3 : RightB b
     · exact ⟨0, .inr (.inr (.inr ⟨h1, h2, h3, rfl⟩))⟩
     · exact ⟨5, .inr (.inr (.inl ⟨h1, h2, h3, rfl⟩))⟩
   · exact ⟨_, .inr (.inl ⟨h1, h2, rfl⟩)⟩
 · exact ⟨_, .inl ⟨h1, rfl⟩⟩
theorem O8_B8' (x : BitVec 8) : O8 (B8 x) = x := by simp [O8, B8]
theorem headT_take (b : Bytes) (hf : Formed b) : ∀ n, n ≤ 7 → headT (kindB b) (wordsT (wordB (innerB b) 1) (wordB (innerB b) 0) (lanesB (innerB b)) (wordB (innerB b) 6)) n = (innerB b).take (2 + 8 * n) := by
 have hlen : 58 ≤ (innerB b).length := by have := hf.len; unfold innerB; rw [List.length_take]; omega
 have hwl : (wordsT (wordB (innerB b) 1) (wordB (innerB b) 0) (lanesB (innerB b)) (wordB (innerB b) 6)).length = 7 := rfl
 have hw : ∀ n, n < 7 → (wordsT (wordB (innerB b) 1) (wordB (innerB b) 0) (lanesB (innerB b)) (wordB (innerB b) 6)).getD n 0 = wordB (innerB b) n := by
  intro n hn
  rcases (show n = 0 ∨ n = 1 ∨ n = 2 ∨ n = 3 ∨ n = 4 ∨ n = 5 ∨ n = 6 by omega) with rfl | rfl | rfl | rfl | rfl | rfl | rfl <;> rfl
 generalize wordsT (wordB (innerB b) 1) (wordB (innerB b) 0) (lanesB (innerB b)) (wordB (innerB b) 6) = ws at hwl hw ⊢
 intro n
 induction n with
 | zero =>
  intro _
  have h0 := hf.head
  have hl := hf.len
  unfold headT kindB innerB
  rw [O8_B8']
  match b, hl with
  | x0 :: x1 :: r, hl =>
   have h0' : x0 = 104#8 := h0
   subst h0'
   rw [List.take_take, Nat.min_eq_left (by simp only [List.length_cons] at hl ⊢; omega)]
   simp
 | succ n ih =>
  intro hn
  rw [headT_next _ _ n (by omega), ih (by omega), hw n (by omega)]
  have h8 : ((innerB b).drop (2 + 8 * n)).take 8 = ((innerB b).take (2 + 8 * (n + 1))).drop (2 + 8 * n) := by
   rw [List.drop_take]; congr 1; omega
  have hl8 : (((innerB b).drop (2 + 8 * n)).take 8).length = 8 := by rw [List.length_take, List.length_drop]; omega
  unfold wordB
  have := leb_le8 (((innerB b).drop (2 + 8 * n)).take 8) (by omega)
  rw [hl8] at this
  rw [this, ← List.take_add]
  congr 1
theorem tell_read {b : Bytes} (h : Formed b) : tellT (kindB b) (wordB (innerB b) 1) (wordB (innerB b) 0) (lanesB (innerB b)) (wordB (innerB b) 6) ((innerB b).drop 58) = b := by
 obtain ⟨h4, hs, _⟩ := openF_zero h.opens
 unfold tellT
 rw [headT_take b h 7 (by omega), show 2 + 8 * 7 = 58 from rfl, List.take_append_drop]
 exact (sealed_iff b h4).2 hs
end Go.Proofs.YtidlpihoafnobaaGreatDoor
