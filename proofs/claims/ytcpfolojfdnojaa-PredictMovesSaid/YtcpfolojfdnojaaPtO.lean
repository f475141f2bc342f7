/- The point that is told, while its coordinates are entered. No condition. -/
import Derived.Test.YtcpfolojfdnojaaPtB
import Derived.Test.YtcpfolojfdnojaaCornerB
namespace Go.Proofs.Ytcpfolojfdnojaa
open Go.RowKit

set_option linter.unusedSimpArgs false
set_option linter.unusedVariables false

/-- The point while its coordinates are entered. -/
def outV (kd : Int) (X : Ar) (P : List Tri) (k i : Nat) : Int := if i < k then pointL kd X P i else 0
def outC (kd : Int) (X : Ar) (P : List Tri) (k : Nat) : Array Value := #[.int .i64 (outV kd X P k 0), .int .i64 (outV kd X P k 1), .int .i64 (outV kd X P k 2)]
theorem outC_zero (kd : Int) (X : Ar) (P : List Tri) : outC kd X P 0 = #[.int .i64 0, .int .i64 0, .int .i64 0] := rfl
theorem out_cell {w : World} {g k : Nat} {kd : Int} {X : Ar} {P : List Tri} (h : Blk w g 36 (outC kd X P k)) (hk : k < 3) : w.cell? ⟨g, k, none⟩ = some (.int .i64 (outV kd X P k k)) := by
  rw [h.cell]
  rcases (by omega : k = 0 ∨ k = 1 ∨ k = 2) with rfl | rfl | rfl <;> rfl
theorem out_set {w : World} {g k : Nat} {kd : Int} {X : Ar} {P : List Tri} {r : Rule} (hk : k < 3) (hr : ruleOf kd X P.length = r) (h : Blk w g 36 (outC kd X P k)) : Blk (w.setCell ⟨g, k, none⟩ (.int .i64 (tell r X P k))) g 36 (outC kd X P (k + 1)) := by
  have h1 := h.set_ k (.int .i64 (tell r X P k))
  have e : (outC kd X P k).setIfInBounds k (.int .i64 (tell r X P k)) = outC kd X P (k + 1) := by
    subst hr
    rcases (by omega : k = 0 ∨ k = 1 ∨ k = 2) with rfl | rfl | rfl <;> rfl
  rwa [e] at h1
theorem out_none {w : World} {g k : Nat} {kd : Int} {X : Ar} {P : List Tri} (hk : k < 3) (hr : ruleOf kd X P.length = .none) (h : Blk w g 36 (outC kd X P k)) : Blk w g 36 (outC kd X P (k + 1)) := by
  have e : outC kd X P k = outC kd X P (k + 1) := by
    have h0 : ∀ i, pointL kd X P i = 0 := fun i => by unfold pointL; rw [hr]; rfl
    unfold outC outV
    simp [h0]
  rwa [← e]
def PtPost (w : World) (kd : Int) (X : Ar) (P : List Tri) (e : Ending) (w' : World) : Prop := e = .returned (.agg #[.int .i64 (pointL kd X P 0), .int .i64 (pointL kd X P 1), .int .i64 (pointL kd X P 2)]) ∧ Below w.heap.size w w'
end Go.Proofs.Ytcpfolojfdnojaa
