/- A shell from a corner covers all that is reached: plain. No condition. -/
import Derived.Test.YtiajlmajenabiaaGreatPrtC
namespace Go.Proofs.YtiajlmajenabiaaGreat
open Go.RowKit

set_option linter.unusedSimpArgs false
set_option linter.unusedVariables false
/-- The triangle over an edge has come. -/
def Came (T : List Tri) (s : List Nat) (d : Nat) : Prop := ∀ o, oppF T d = some o → o / 3 ∈ s.map (· / 3)
structure BR (T : List Tri) (c i : Nat) (s : List Nat) : Prop where
  fi : RFi T s
  re : ∀ x ∈ s, Re T (c / 3) (x / 3)
  self : ∀ x ∈ s, Came T s x
  il : i ≤ s.length
  done : ∀ j, j < i → Came T s (nxc (s.getD j 0)) ∧ Came T s (pvc (s.getD j 0))
section
variable {m : Nat} {T : List Tri}
theorem Came.more {s l : List Nat} {d : Nat} (h : Came T s d) : Came T (s ++ l) d := fun o ho => by
  rw [List.map_append]
  exact List.mem_append_left _ (h o ho)
theorem over_br (hs : SurfE m T) {c i d : Nat} {s : List Nat} (h : BR T c i s) {x : Nat} (hx : x ∈ s) (hd : d < 3 * T.length) (hdx : d / 3 = x / 3) : BR T c i (overR T d s) ∧ Came T (overR T d s) d := by
  have hfi := overR_fi h.fi d
  unfold overR at hfi ⊢
  cases ho : oppF T d with
  | none => exact ⟨h, fun o e => by rw [ho] at e; cases e⟩
  | some o =>
    rw [ho] at hfi
    dsimp only at hfi ⊢
    by_cases hm : o / 3 ∈ s.map (· / 3)
    · rw [if_pos hm] at hfi ⊢
      exact ⟨h, fun o' e => by rw [ho] at e; injection e with e; rw [← e]; exact hm⟩
    · rw [if_neg hm] at hfi ⊢
      obtain ⟨b1, _, b2, _⟩ := opp_back hs hd ho
      refine ⟨⟨hfi, fun y hy => ?_, fun y hy => ?_, by have := h.il; rw [List.length_append]; omega, fun j hj => ?_⟩, fun o' e => ?_⟩
      · rcases List.mem_append.1 hy with hy | hy
        · exact h.re y hy
        · rw [List.mem_singleton.1 hy]
          exact (h.re x hx).step ⟨d, o, hd, hdx, ho, rfl⟩
      · rcases List.mem_append.1 hy with hy | hy
        · exact (h.self y hy).more
        · rw [List.mem_singleton.1 hy]
          intro o' e
          rw [b2] at e
          injection e with e
          rw [← e, hdx, List.map_append]
          exact List.mem_append_left _ (List.mem_map.2 ⟨x, hx, rfl⟩)
      · have hjl : j < s.length := Nat.lt_of_lt_of_le hj h.il
        have e : (s ++ [o]).getD j 0 = s.getD j 0 := by rw [List.getD_eq_getElem?_getD, List.getElem?_append_left hjl, ← List.getD_eq_getElem?_getD]
        rw [e]
        exact ⟨(h.done j hj).1.more, (h.done j hj).2.more⟩
      · rw [ho] at e
        injection e with e
        rw [← e, List.map_append]
        exact List.mem_append_right _ (by simp)
theorem over_keep {s : List Nat} {d x : Nat} (h : x ∈ s) : x ∈ overR T d s := by
  obtain ⟨l, e⟩ := overR_more (T := T) d s
  rw [e]
  exact List.mem_append_left _ h
theorem over_came {s : List Nat} {d e : Nat} (h : Came T s e) : Came T (overR T d s) e := by
  obtain ⟨l, q⟩ := overR_more (T := T) d s
  rw [q]
  exact h.more
theorem step_br (hs : SurfE m T) {c i : Nat} {s : List Nat} (h : BR T c i s) (hi : i < s.length) : BR T c (i + 1) (stepR T (s.getD i 0) s) := by
  have hx := getD_mem hi
  have hl := h.fi.lt _ hx
  obtain ⟨h1, g1⟩ := over_br hs h hx (d := nxc (s.getD i 0)) (nxc_lt hl) (nxc_div _)
  obtain ⟨h2, g2⟩ := over_br hs h1 (over_keep hx) (d := pvc (s.getD i 0)) (pvc_lt hl) (pvc_div _)
  obtain ⟨l, e⟩ := stepR_more (T := T) (s.getD i 0) s
  obtain ⟨hl1, he⟩ := more_at e hi
  refine ⟨h2.fi, h2.re, h2.self, hl1, fun j hj => ?_⟩
  rcases Nat.lt_succ_iff_lt_or_eq.1 hj with hj | rfl
  · exact h2.done j hj
  · rw [he]
    exact ⟨over_came g1, g2⟩
theorem bfs_br (hs : SurfE m T) {c : Nat} : ∀ (f i : Nat) {s : List Nat}, T.length + 1 ≤ f + i → BR T c i s → ∃ i', (bfsR T f i s).length ≤ i' ∧ BR T c i' (bfsR T f i s)
  | 0, i, s, hf, h => ⟨i, by have := h.fi.short; show s.length ≤ i; omega, h⟩
  | f + 1, i, s, hf, h => by
    by_cases hi : i < s.length
    · rw [bfsR_step hi]
      exact bfs_br hs f (i + 1) (by omega) (step_br hs h hi)
    · rw [bfsR_stop (by omega)]
      exact ⟨i, by omega, h⟩
theorem rootC_br (hs : SurfE m T) {c : Nat} (hc : c < 3 * T.length) : ∃ i', (rootC T c).length ≤ i' ∧ BR T c i' (rootC T c) := by
  refine bfs_br hs _ 0 (by omega) ?_
  unfold overR
  cases ho : oppF T c with
  | none => exact ⟨⟨fun x hx => by rw [List.mem_singleton.1 hx]; exact hc, by simp⟩, fun x hx => (by rw [List.mem_singleton.1 hx]; exact .refl _), fun x hx o e => (by rw [List.mem_singleton.1 hx, ho] at e; cases e), Nat.zero_le _, fun j hj => absurd hj (Nat.not_lt_zero j)⟩
  | some o =>
    obtain ⟨b1, _, b2, b3, _⟩ := opp_back hs hc ho
    dsimp only
    have hne : ¬ o / 3 ∈ [c].map (· / 3) := by simpa using b3
    rw [if_neg hne]
    refine ⟨⟨fun x hx => ?_, ?_⟩, fun x hx => ?_, fun x hx o' e => ?_, Nat.zero_le _, fun j hj => absurd hj (Nat.not_lt_zero j)⟩
    · simp at hx
      rcases hx with rfl | rfl
      · exact hc
      · exact b1
    · simp
      exact fun e => b3 e.symm
    · simp at hx
      rcases hx with rfl | rfl
      · exact .refl _
      · exact (Re.refl _).step ⟨c, x, hc, rfl, ho, rfl⟩
    · simp at hx
      rcases hx with rfl | rfl
      · rw [ho] at e
        injection e with e
        rw [← e]
        simp
      · rw [b2] at e
        injection e with e
        rw [← e]
        simp
/-- Just the triangles that are reached come. -/
theorem rootC_re (hs : SurfE m T) {c : Nat} (hc : c < 3 * T.length) (y : Nat) : y ∈ (rootC T c).map (· / 3) ↔ Re T (c / 3) y := by
  obtain ⟨i, hi, h⟩ := rootC_br hs hc
  constructor
  · intro hy
    obtain ⟨x, hx, rfl⟩ := List.mem_map.1 hy
    exact h.re x hx
  · intro hr
    induction hr with
    | refl =>
      obtain ⟨l, e⟩ := rootC_head (T := T) c
      rw [e]
      simp
    | step _ ha ih =>
      obtain ⟨x, hx, e⟩ := List.mem_map.1 ih
      obtain ⟨j, hj, ej⟩ := List.getElem_of_mem hx
      obtain ⟨d, o, hd, ed, ho, rfl⟩ := ha
      have hjd : (rootC T c).getD j 0 = x := by rw [List.getD_eq_getElem?_getD, List.getElem?_eq_getElem hj, Option.getD_some, ej]
      have h1 := h.self x hx
      have h2 := h.done j (by omega)
      rw [hjd] at h2
      rcases same_tri.1 (show x / 3 = d / 3 by omega) with q | q | q
      · exact h1 o (by rw [← q]; exact ho)
      · exact h2.1 o (by rw [← q]; exact ho)
      · exact h2.2 o (by rw [← q]; exact ho)
end
end Go.Proofs.YtiajlmajenabiaaGreat
