/- What a call gives: a value, the world as it was; bytes in new memory; true. -/
import Derived.Test.YteicdilbmaboiaaDoorMem
namespace Go.Proofs.YteicdilbmaboiaaDoor
set_option linter.unusedVariables false
set_option linter.unusedSimpArgs false
open Go.RowKit

/-- It returns v, and the world is as it was. -/
def Gives (v : Value) (w : World) (e : Ending) (w' : World) : Prop := e = .returned v ∧ w = w'
/-- It returns v; what was there is as it was. -/
def GivesNew (v : Value) (w : World) (e : Ending) (w' : World) : Prop := e = .returned v ∧ Fr No w w'
/-- It returns a slice in new memory that holds the bytes l. -/
def GivesBytes (l : Bytes) (w : World) (e : Ending) (w' : World) : Prop := ∃ v, e = .returned v ∧ Owns w' w.heap.size v l ∧ Fr No w w'
/-- It returns true; what was there is as it was. -/
def Yes (w : World) (e : Ending) (w' : World) : Prop := e = .returned (.bool true) ∧ Fr No w w'
theorem ret_w32 {a b : BitVec 32} (h : a = b) : Ending.returned (.int .u32 (W32 a)) = .returned (.int .u32 (W32 b)) := by rw [h]
theorem ret_w64 {a b : BitVec 64} (h : a = b) : Ending.returned (.int .u64 (W64 a)) = .returned (.int .u64 (W64 b)) := by rw [h]
theorem ret_i64 {a b : Int} (h : a = b) : Ending.returned (.int .i64 a) = .returned (.int .i64 b) := by rw [h]
theorem ret_bool {a b : Bool} (h : a = b) : Ending.returned (.bool a) = .returned (.bool b) := by rw [h]
theorem ret_w32b {a b : BitVec 32} {p q : Bool} (h : a = b) (k : p = q) : Ending.returned (.tuple #[.int .u32 (W32 a), .bool p]) = .returned (.tuple #[.int .u32 (W32 b), .bool q]) := by rw [h, k]
theorem ret_w64b {a b : BitVec 64} {p q : Bool} (h : a = b) (k : p = q) : Ending.returned (.tuple #[.int .u64 (W64 a), .bool p]) = .returned (.tuple #[.int .u64 (W64 b), .bool q]) := by rw [h, k]
end Go.Proofs.YteicdilbmaboiaaDoor
