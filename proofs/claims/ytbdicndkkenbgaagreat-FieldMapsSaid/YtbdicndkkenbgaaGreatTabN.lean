/- A table of a surface, by its corners' numbers. No condition. -/
import Derived.Test.YtbdicndkkenbgaaGreatCorP
import Derived.Test.YtbdicndkkenbgaaGreatCornerB
namespace Go.Proofs.YtbdicndkkenbgaaGreat
open Go.RowKit

set_option linter.unusedSimpArgs false
set_option linter.unusedVariables false
/-- What a table of a surface tells of its corners, by their numbers. -/
structure TabN (w : World) (g m : Nat) (T : List Tri) : Prop where
  t : TabAt w 0 g (m : Int) T
  s : SurfE m T
  n : T.length ≤ 1000
section
variable {w w' : World} {g m : Nat} {T : List Tri}
theorem TabN.below (h : TabN w g m T) (hb : Below w.heap.size w w') : TabN w' g m T := ⟨h.t.below hb, h.s, h.n⟩
theorem TabN.alloc (h : TabN w g m T) (o : Obj) : TabN (w.alloc o) g m T := ⟨h.t.alloc o, h.s, h.n⟩
theorem TabN.drew (h : TabN w g m T) : TabN w.drew g m T := ⟨h.t.drew, h.s, h.n⟩
theorem is_int {v : Int} {e : Ending} (h : IsPost w (.int .i64 v) e w') : IntPost w v e w' := ⟨h.1, h.2 ▸ Below.refl _ _⟩
theorem TabN.next (h : TabN w g m T) {c : Nat} (hc : c < 3 * T.length) : Calls Tryz.prog 49 #[.pointer (some ⟨g, 0, none⟩), .int .i64 (c : Int)] w (IntPost w (nxc c : Int)) := by
  have hn := h.n
  exact nextI_nat hc ▸ (next_any g 0 m T c w (by omega) h.t.s).mono fun e w' h => is_int h
theorem TabN.prev (h : TabN w g m T) {c : Nat} (hc : c < 3 * T.length) : Calls Tryz.prog 50 #[.pointer (some ⟨g, 0, none⟩), .int .i64 (c : Int)] w (IntPost w (pvc c : Int)) := by
  have hn := h.n
  exact prevI_nat hc ▸ (prev_any g 0 m T c w (by omega) h.t.s).mono fun e w' h => is_int h
theorem TabN.vertex (h : TabN w g m T) {c : Nat} (hc : c < 3 * T.length) : Calls Tryz.prog 48 #[.pointer (some ⟨g, 0, none⟩), .int .i64 (c : Int)] w (IntPost w (cv T c)) := by
  have hn := h.n
  exact vertexI_nat hc ▸ (vertex_any g 0 m T c w (by omega) h.t.s).mono fun e w' h => is_int h
theorem TabN.edge (h : TabN w g m T) {c : Nat} (hc : c < 3 * T.length) : Calls Tryz.prog 12 #[.pointer (some ⟨g, 0, none⟩), .int .i64 (c : Int)] w (EdPost w (ce T c)) := by
  have hn := h.n
  exact edgeI_nat hc ▸ edge_any g 0 m T c w (by omega) h.t.s
theorem cv_small (hs : SurfE m T) {c : Nat} (hc : c < 3 * T.length) : (Lit.int .i64 (cv T c)).wf = true := by
  have h1 := cv_ok hs.ok hc
  have h2 := hs.m1
  exact wf_small (by omega) (by omega)
theorem TabN.opp (h : TabN w g m T) {c : Nat} (hc : c < 3 * T.length) : Calls Tryz.prog 15 #[.pointer (some ⟨g, 0, none⟩), .int .i64 (c : Int)] w (IntPost w (optI (oppF T c))) := by
  have hn := h.n
  have b1 : oppI T (c : Int) = optI (oppF T c) := by unfold oppI oppF facingI; rw [edgeI_nat hc]
  exact b1 ▸ opp_any g 0 m T c w (by omega) (by rw [edgeI_nat hc]; exact ⟨cv_small h.s (pvc_lt hc), cv_small h.s (nxc_lt hc)⟩) h.t
theorem TabN.facing (h : TabN w g m T) {c : Nat} (hc : c < 3 * T.length) : Calls Tryz.prog 51 #[.pointer (some ⟨g, 0, none⟩), .agg #[.int .i64 (ce T c).1, .int .i64 (ce T c).2]] w (IntPost w (c : Int)) := by
  have hn := h.n
  have b1 : facingI T ((ce T c).1, (ce T c).2) = (c : Int) := by
    rw [show ((ce T c).1, (ce T c).2) = ce T c from rfl]
    unfold facingI
    rw [facing_ce h.s hc]
    rfl
  exact b1 ▸ facing_any g 0 m T (ce T c).1 (ce T c).2 w (by omega) ⟨cv_small h.s (nxc_lt hc), cv_small h.s (pvc_lt hc)⟩ h.t
end
end Go.Proofs.YtbdicndkkenbgaaGreat
