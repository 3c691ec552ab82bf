/- Two numbers (api.U128) held against each other. -/
import Derived.Test.YtcbbllfgelnpjaaWords2
import Derived.Test.YtcbbllfgelnpjaaProg
import Derived.Laws.StructEq
namespace Go.Proofs.Ytcbbllfgelnpjaa
set_option linter.unusedVariables false
set_option linter.unusedSimpArgs false
open Go.RowKit
set_option maxHeartbeats 400000 in
theorem eq_u128 (a0 a1 b0 b1 : Int) (w : World) : (Op.equalIn 10000 24 (.agg #[.int .u64 a0, .int .u64 a1]) (.agg #[.int .u64 b0, .int .u64 b1])).run Try.prog w = .ok (a0 == b0 && a1 == b1) w := by
  have u3 := Try.underlying22
  have hu : Try.prog.underlying 24 = some (.struct (Try.prog.fieldsOf 24)) := by kernel_rfl
  rw [show (10000 : Nat) = 9999 + 1 from rfl, run_equalIn_struct w 9999 24 _ _ hu (by kernel_rfl)]
  have hf : (Try.prog.fieldsOf 24).toList = [{ name := "Hi", type := 22, offset := 0, embedded := false, tag := "", pkgPath := "", byteOffset := 0 }, { name := "Lo", type := 22, offset := 1, embedded := false, tag := "", pkgPath := "", byteOffset := 8 }] := by kernel_rfl
  rw [hf]
  go_simp
  by_cases h0 : a0 = b0 <;> by_cases h1 : a1 = b1 <;> simp [h0, h1]
theorem eq_u128w (a0 a1 b0 b1 : BitVec 64) (w : World) : (Op.equalIn 10000 24 (.agg #[.int .u64 (W64 a0), .int .u64 (W64 a1)]) (.agg #[.int .u64 (W64 b0), .int .u64 (W64 b1)])).run Try.prog w = .ok (a0 == b0 && a1 == b1) w := by
  rw [eq_u128, W64_beq, W64_beq]
@[go_sem ↓] theorem eql_u128 (a0 a1 b0 b1 : BitVec 64) (w : World) : (binOp .eql 24 (.agg #[.int .u64 (W64 a0), .int .u64 (W64 a1)]) (.agg #[.int .u64 (W64 b0), .int .u64 (W64 b1)])).run Try.prog w = .ok (.bool (a0 == b0 && a1 == b1)) w := by
  rw [run_eql_struct, eq_u128w]; rfl
@[go_sem ↓] theorem neq_u128 (a0 a1 b0 b1 : BitVec 64) (w : World) : (binOp .neq 24 (.agg #[.int .u64 (W64 a0), .int .u64 (W64 a1)]) (.agg #[.int .u64 (W64 b0), .int .u64 (W64 b1)])).run Try.prog w = .ok (.bool (!(a0 == b0 && a1 == b1))) w := by
  rw [run_neq_struct, eq_u128w]; rfl
@[go_sem ↓] theorem eql_u128z (w : World) : (binOp .eql 24 (.agg #[.int .u64 0, .int .u64 0]) (.agg #[.int .u64 0, .int .u64 0])).run Try.prog w = .ok (.bool true) w := by
  rw [run_eql_struct, eq_u128]; rfl
end Go.Proofs.Ytcbbllfgelnpjaa
