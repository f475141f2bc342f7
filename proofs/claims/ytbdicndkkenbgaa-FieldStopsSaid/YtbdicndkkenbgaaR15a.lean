/- The small functions of gypsumref15, walked. No condition but sizes. -/
import Derived.Test.YtbdicndkkenbgaaCornerB
import Derived.IntWalk
namespace Go.Proofs.Ytbdicndkkenbgaa
open Go.RowKit

set_option linter.unusedSimpArgs false
set_option linter.unusedVariables false
set_option maxHeartbeats 2000000 in
theorem r15Has_any (t : Tri) (v : Int) (w : World) : Calls Try.prog 31 #[.agg #[.int .i64 t.a, .int .i64 t.b, .int .i64 t.c], .int .i64 v] w (BoolPost w (hasB t v)) := by
  have HB : Hid (Below w.heap.size w (w.alloc (.cells #[.int .i64 t.a, .int .i64 t.b, .int .i64 t.c] 49))) := Lib.hid (bw_alloc (Below.refl _ _) _)
  unfold hasB
  cases h1 : (t.a == v) with
  | true =>
    go_enter Try.func31, Try.ntmps31
    go_wp2_with fail
    go_ret
    exact ⟨rfl, HB.out⟩
  | false =>
    cases h2 : (t.b == v) with
    | true =>
      go_enter Try.func31, Try.ntmps31
      go_wp2_with fail
      go_ret
      exact ⟨rfl, HB.out⟩
    | false =>
      go_enter Try.func31, Try.ntmps31
      go_wp2_with fail
      go_ret
      exact ⟨rfl, HB.out⟩
end Go.Proofs.Ytbdicndkkenbgaa
