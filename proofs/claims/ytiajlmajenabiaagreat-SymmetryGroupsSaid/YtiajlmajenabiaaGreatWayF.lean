/- Renumberings and shells: plain. No condition. -/
import Derived.Test.YtiajlmajenabiaaGreatWayE
namespace Go.Proofs.YtiajlmajenabiaaGreat
open Go.RowKit

set_option linter.unusedSimpArgs false
set_option linter.unusedVariables false
section
variable {m : Nat} {T U : List Tri} {f : Nat → Nat} {g : Int → Int}
/-- Shells go to shells. -/
theorem Emb.re (h : Emb T U f g) {x y : Nat} (hx : x < 3 * T.length) (hy : y < 3 * T.length) : Re U (f x / 3) (f y / 3) ↔ Re T (x / 3) (y / 3) := by
  constructor
  · intro hr
    have key : ∀ t, Re U (f x / 3) t → ∃ y, y < 3 * T.length ∧ f y / 3 = t ∧ Re T (x / 3) (y / 3) := by
      intro t ht
      induction ht with
      | refl => exact ⟨x, hx, rfl, .refl _⟩
      | step _ ha ih =>
        obtain ⟨y, hy, rfl, hr⟩ := ih
        obtain ⟨d', o', hd', e, ho', rfl⟩ := ha
        obtain ⟨d, hd, rfl, hdy⟩ : ∃ d, d < 3 * T.length ∧ f d = d' ∧ d / 3 = y / 3 := by
          rcases same_tri.1 e.symm with q | q | q
          · exact ⟨y, hy, q.symm, rfl⟩
          · exact ⟨nxc y, nxc_lt hy, by rw [h.nx y hy, q], nxc_div y⟩
          · exact ⟨pvc y, pvc_lt hy, by rw [h.pv y hy, q], pvc_div y⟩
        have hop := h.op d hd
        rw [ho'] at hop
        cases ho : oppF T d with
        | none => rw [ho] at hop; cases hop
        | some o =>
          rw [ho] at hop
          injection hop with hop
          exact ⟨o, (facing_some ho).1, by rw [hop], hr.step ⟨d, o, hd, hdy, ho, rfl⟩⟩
    obtain ⟨z, hz, e, hr⟩ := key _ hr
    rw [← (h.tri hz hy).1 e]
    exact hr
  · intro hr
    have key : ∀ t, Re T (x / 3) t → ∀ y, y < 3 * T.length → y / 3 = t → Re U (f x / 3) (f y / 3) := by
      intro t ht
      induction ht with
      | refl =>
        intro y hy e
        rw [(h.tri hy hx).2 e]
        exact .refl _
      | step _ ha ih =>
        intro y hy e
        obtain ⟨d, o, hd, ed, ho, eo⟩ := ha
        have h1 := ih d hd ed
        have hop := h.op d hd
        rw [ho] at hop
        have hol := (facing_some ho).1
        refine h1.step ⟨f d, f o, h.lt d hd, rfl, hop, (h.tri hol hy).2 (by omega)⟩
    exact key _ hr y hy rfl
/-- A corner goes to a corner of a shell that has the same form. -/
theorem emb_form (h : Emb T U f g) (hs : SurfE m T) {n : Nat} (hu : SurfE n U) (honto : ∀ y, y < 3 * U.length → ∃ x, x < 3 * T.length ∧ f x = y) {c : Nat} (hc : c < 3 * T.length) : rowC T (bestN T (ofN T (c / 3))) = rowC U (bestN U (ofN U (f c / 3))) := by
  have hk := ofN_lt (T := T) (x := c / 3) (by omega)
  have hfc := h.lt c hc
  have hk' := ofN_lt (T := U) (x := f c / 3) (by omega)
  have b1 := (bestN_is hk).2
  have b2 := (bestN_is hk').2
  obtain ⟨x, hx, ex⟩ := honto _ b2.lt
  have e1 : ofN T (x / 3) = ofN T (c / 3) := by
    refine (ofN_re hs (by omega) (by omega)).2 ((h.re hx hc).1 ?_)
    rw [ex]
    exact (ofN_re hu (by have := b2.lt; omega) (by omega)).1 b2.of
  have e2 : ofN U (f (bestN T (ofN T (c / 3))) / 3) = ofN U (f c / 3) := by
    refine (ofN_re hu (by have := h.lt _ b1.lt; omega) (by omega)).2 ((h.re b1.lt hc).2 ?_)
    exact (ofN_re hs (by have := b1.lt; omega) (by omega)).1 b1.of
  have h1 := b1.le x hx e1
  have h2 := b2.le _ (h.lt _ b1.lt) e2
  rw [h.rowC b1.lt] at h2
  rw [← ex, h.rowC hx] at h2 ⊢
  exact ltL_eq h2 h1
theorem emb_good (h : Emb T U f g) (hs : SurfE m T) {n : Nat} (hu : SurfE n U) (honto : ∀ y, y < 3 * U.length → ∃ x, x < 3 * T.length ∧ f x = y) {c k : Nat} (hg : Good T k c) : Good U (ofN U (f c / 3)) (f c) := by
  obtain ⟨h1, h2, h3⟩ := hg
  refine ⟨h.lt c h1, rfl, ?_⟩
  rw [h.rowC h1, h3, ← h2]
  exact emb_form h hs hu honto h1
end
end Go.Proofs.YtiajlmajenabiaaGreat
