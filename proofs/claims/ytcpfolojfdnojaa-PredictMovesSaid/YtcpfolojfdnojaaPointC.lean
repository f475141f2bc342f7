/- A point that is told. No condition. -/
import Derived.Test.YtcpfolojfdnojaaWake28
namespace Go.Proofs.Ytcpfolojfdnojaa
open Go.RowKit

set_option linter.unusedSimpArgs false
set_option linter.unusedVariables false
/-- A point is told. -/
def Pt3 (w : World) (a b c : Int) (e : Ending) (w' : World) : Prop := e = .returned (.agg #[.int .i64 a, .int .i64 b, .int .i64 c]) ∧ Below w.heap.size w w'
theorem run_ne_pt (a b c : Int) (w : World) : (binOp .neq 36 (.agg #[.int .i64 a, .int .i64 b, .int .i64 c]) (.agg #[.int .i64 a, .int .i64 b, .int .i64 c])).run Try.prog w = .ok (.bool false) w := by
  rw [run_neq_struct]
  show ((Op.equalIn (9997 + 1 + 1 + 1) _ _ _).run _ _).andThen _ = _
  unfold Op.equalIn
  simp [go_sem, Try.underlying3, Result.andThen, List.range']
end Go.Proofs.Ytcpfolojfdnojaa
