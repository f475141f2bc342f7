/- Numbers that a list gives. No condition. -/
import Derived.Test.YtcahbcminonfbaaIRow
namespace Go.Proofs.Ytcahbcminonfbaa
open Go.RowKit

set_option linter.unusedSimpArgs false
set_option linter.unusedVariables false
attribute [local irreducible] Blk LRow IRow World.alloc World.setCell KeepO World.cell? World.frozen?
/-- The number that a list gives a number. -/
def toL (l : List Int) (x : Int) : Int := l.getD x.toNat 0
def renT (l : List Int) (t : Tri) : Tri := ⟨toL l t.a, toL l t.b, toL l t.c⟩
def inL (m : Nat) (t : Tri) : Prop := (0 ≤ t.a ∧ t.a < m) ∧ (0 ≤ t.b ∧ t.b < m) ∧ 0 ≤ t.c ∧ t.c < m
theorem to_cells {w : World} {B m : Nat} {Al : Option Addr} {l : List Int} (h : Reads w B 1 Al m (ZL l)) (hm : 0 < m) : ∃ adl, Al = some adl ∧ adl.block < B ∧ ∀ i : Nat, i < m → w.cell? (adl.add i) = some (.int .i64 (toL l i)) := by
  obtain ⟨adl, e, hb, hc⟩ := h.2 hm
  refine ⟨adl, e, hb, fun i hi => hc i _ ?_⟩
  have hl : l.length = m := by have := h.1; simpa [ZL] using this
  unfold ZL toL
  rw [List.getElem?_map, List.getElem?_eq_getElem (by omega)]
  simp [List.getD_eq_getElem?_getD, List.getElem?_eq_getElem (show i < l.length by omega)]
end Go.Proofs.Ytcahbcminonfbaa
