/- Rows of what is around, as the reference appends them. No condition. -/
import Derived.Test.YtcpfolojfdnojaaKnRefP
import Derived.Test.YtcpfolojfdnojaaRowP
namespace Go.Proofs.Ytcpfolojfdnojaa
open Go.RowKit

set_option linter.unusedSimpArgs false
set_option linter.unusedVariables false
theorem refAr_info : (Try.prog.info? 31).map (fun i => (i.zero, i.size, i.bytes)) = some (some (.agg #[.int .i64 0, .int .i64 0, .int .i64 0, .int .i64 0, .int .i64 0]), 5, 40) := by kernel_rfl
/-- The cells of the first k of a row. -/
def arL (f : Nat → Ar) : Nat → List Value
  | 0 => []
  | k + 1 => arL f k ++ [.int .i64 (f k).l, .int .i64 (f k).a, .int .i64 (f k).b, .int .i64 (f k).c, .int .i64 (f k).d]
theorem arL_len (f : Nat → Ar) (k : Nat) : (arL f k).length = 5 * k := by
  induction k with
  | zero => rfl
  | succ k ih => unfold arL; rw [List.length_append, ih]; simp; omega
theorem arL_one (f : Nat → Ar) (k : Nat) : ∀ u ∈ arL f k, u.oneCell' = true := by
  induction k with
  | zero => intro u h; cases h
  | succ k ih =>
    intro u h
    unfold arL at h
    rcases List.mem_append.1 h with h | h
    · exact ih u h
    · simp at h; rcases h with rfl | rfl | rfl | rfl | rfl <;> rfl
theorem arL_at {f : Nat → Ar} {k v j : Nat} (hv : v < k) (hj : j < 5) : (arL f k)[v * 5 + j]? = some (.int .i64 (fld (f v) j)) := by
  induction k with
  | zero => omega
  | succ k ih =>
    unfold arL
    by_cases e : v = k
    · subst e
      rw [List.getElem?_append_right (by rw [arL_len]; omega), arL_len, show v * 5 + j - 5 * v = j by omega]
      rcases (by omega : j = 0 ∨ j = 1 ∨ j = 2 ∨ j = 3 ∨ j = 4) with rfl | rfl | rfl | rfl | rfl <;> rfl
    · rw [List.getElem?_append_left (by rw [arL_len]; omega)]
      exact ih (by omega)
end Go.Proofs.Ytcpfolojfdnojaa
