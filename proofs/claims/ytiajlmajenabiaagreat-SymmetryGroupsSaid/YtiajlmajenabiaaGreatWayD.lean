/- The shells' kinds, told of the surface itself: plain. No condition. -/
import Derived.Test.YtiajlmajenabiaaGreatWayC
namespace Go.Proofs.YtiajlmajenabiaaGreat
open Go.RowKit

set_option linter.unusedSimpArgs false
set_option linter.unusedVariables false
theorem triN_inj : ∀ {A B : List Tri}, triN A = triN B → A = B
  | [], [], _ => rfl
  | [], b :: B, h => by simp [triN] at h
  | a :: A, [], h => by simp [triN] at h
  | a :: A, b :: B, h => by
    unfold triN at h
    rw [List.flatMap_cons, List.flatMap_cons] at h
    simp only [List.cons_append, List.nil_append, List.cons.injEq] at h
    obtain ⟨h1, h2, h3, h4⟩ := h
    have := triN_inj (A := A) (B := B) h4
    obtain ⟨a1, a2, a3⟩ := a
    obtain ⟨b1, b2, b3⟩ := b
    simp_all
section
variable {m : Nat} {T : List Tri}
theorem rowC_eq {U : List Tri} {c d : Nat} : rowC T c = rowC U d ↔ (rootO T c).length = (rootO U d).length ∧ rootT T c = rootT U d := by
  unfold rowC rowL
  constructor
  · intro h
    simp only [List.cons.injEq] at h
    exact ⟨by omega, triN_inj h.2.2⟩
  · rintro ⟨h1, h2⟩
    rw [h1, h2]
/-- A corner of a part, told of the surface. -/
theorem part_corner (hs : SurfE m T) {k c : Nat} (hc : c < 3 * (partOf T k).l.length) : fS (partOf T k).l c < 3 * T.length ∧ ofN T (fS (partOf T k).l c / 3) = k := by
  have h := part_sub hs k
  refine ⟨(h.cv hc).2.2, ?_⟩
  have e : fS (partOf T k).l c / 3 = (partOf T k).l.getD (c / 3) 0 := by unfold fS; omega
  rw [e]
  exact (part_l.1 (getD_mem (by omega))).2
theorem part_back (hs : SurfE m T) {k d : Nat} (hd : d < 3 * T.length) (hk : ofN T (d / 3) = k) : ∃ c, c < 3 * (partOf T k).l.length ∧ fS (partOf T k).l c = d := by
  obtain ⟨i, hi, e⟩ := List.getElem_of_mem (part_l.2 ⟨by omega, hk⟩ : d / 3 ∈ (partOf T k).l)
  refine ⟨3 * i + d % 3, by omega, ?_⟩
  unfold fS
  rw [show (3 * i + d % 3) / 3 = i by omega, List.getD_eq_getElem?_getD, List.getElem?_eq_getElem hi, Option.getD_some, e]
  omega
theorem part_root (hs : SurfE m T) {k c : Nat} (hc : c < 3 * (partOf T k).l.length) : rowC (partOf T k).t c = rowC T (fS (partOf T k).l c) ∧ (rootO (partOf T k).t c).map (gS (partOf T k).v) = rootO T (fS (partOf T k).l c) := by
  have h := (part_sub hs k).emb
  rw [part_t]
  have hc' : c < 3 * (subT T (partOf T k).v (partOf T k).l).length := by rw [subT_len]; exact hc
  exact ⟨(h.rowC hc').symm, (h.rootO hc').symm⟩
/-- The best corner of a part is one from which the shell has its form. -/
theorem part_best (hs : SurfE m T) {k : Nat} (hk : k < kN T) : bestN (partOf T k).t 0 < 3 * (partOf T k).l.length ∧ rowC (partOf T k).t (bestN (partOf T k).t 0) = rowC T (bestN T k) := by
  have h1 := (bestN_is (T := (partOf T k).t) (k := 0) (by rw [part_conn hs hk]; omega)).2
  have h2 := (bestN_is hk).2
  have hlt : bestN (partOf T k).t 0 < 3 * (partOf T k).l.length := by have := h1.lt; rw [part_t, subT_len] at this; exact this
  refine ⟨hlt, ?_⟩
  obtain ⟨c, hc, e⟩ := part_back hs h2.lt h2.of
  have hall : ∀ x, x < (partOf T k).t.length → ofN (partOf T k).t x = 0 := fun x hx => by
    have := ofN_lt hx
    rw [part_conn hs hk] at this
    omega
  have h3 := h1.le c (by rw [part_t, subT_len]; exact hc) (hall _ (by rw [part_t, subT_len]; omega))
  have h4 := h2.le _ (part_corner hs hlt).1 (part_corner hs hlt).2
  rw [(part_root hs hc).1, e] at h3
  rw [← (part_root hs hlt).1] at h4
  exact ltL_eq h4 h3
theorem kind_form (hs : SurfE m T) {k : Nat} (hk : k < kN T) : (kindV (partOf T k)).M = ((rootO T (bestN T k)).length : Int) ∧ (kindV (partOf T k)).L = rootT T (bestN T k) := by
  obtain ⟨h1, h2⟩ := part_best hs hk
  obtain ⟨h3, h4⟩ := rowC_eq.1 h2
  unfold kindV
  exact ⟨by dsimp only; rw [h3], h4⟩
/-- Good: from there the shell has its form. -/
def Good (T : List Tri) (k c : Nat) : Prop := c < 3 * T.length ∧ ofN T (c / 3) = k ∧ rowC T c = rowC T (bestN T k)
instance (T : List Tri) (k c : Nat) : Decidable (Good T k c) := inferInstanceAs (Decidable (_ ∧ _ ∧ _))
/-- The ways of a shell. -/
theorem kind_ways (hs : SurfE m T) {k : Nat} (hk : k < kN T) : (kindV (partOf T k)).ws = ((List.range (3 * (partOf T k).l.length)).filter fun c => decide (Good T k (fS (partOf T k).l c))).map fun c => rootO T (fS (partOf T k).l c) := by
  obtain ⟨h1, h2⟩ := part_best hs hk
  unfold kindV waysTo
  dsimp only
  rw [show (partOf T k).t.length = (partOf T k).l.length by rw [part_t, subT_len]]
  have hf : (List.range (3 * (partOf T k).l.length)).filter (goodC (partOf T k).t (rootO (partOf T k).t (bestN (partOf T k).t 0)).length (rootT (partOf T k).t (bestN (partOf T k).t 0))) = (List.range (3 * (partOf T k).l.length)).filter fun c => decide (Good T k (fS (partOf T k).l c)) := by
    refine List.filter_congr fun c hc => ?_
    have hc := List.mem_range.1 hc
    unfold goodC
    rw [decide_eq_decide]
    have e : (((rootO (partOf T k).t c).length : Int) = ((rootO (partOf T k).t (bestN (partOf T k).t 0)).length : Int) ∧ rootT (partOf T k).t c = rootT (partOf T k).t (bestN (partOf T k).t 0)) ↔ rowC (partOf T k).t c = rowC (partOf T k).t (bestN (partOf T k).t 0) := by
      rw [rowC_eq]
      constructor
      · rintro ⟨a, b⟩; exact ⟨by omega, b⟩
      · rintro ⟨a, b⟩; exact ⟨by omega, b⟩
    rw [e, h2, (part_root hs hc).1]
    exact ⟨fun h => ⟨(part_corner hs hc).1, (part_corner hs hc).2, h⟩, fun h => h.2.2⟩
  rw [hf]
  refine List.map_congr_left fun c hc => ?_
  have hc := List.mem_range.1 (List.mem_filter.1 hc).1
  exact (part_root hs hc).2
theorem mem_ways (hs : SurfE m T) {k : Nat} (hk : k < kN T) {w : List Int} : w ∈ (kindV (partOf T k)).ws ↔ ∃ c, Good T k c ∧ w = rootO T c := by
  rw [kind_ways hs hk, List.mem_map]
  constructor
  · rintro ⟨c, hc, rfl⟩
    have := (List.mem_filter.1 hc).2
    exact ⟨_, of_decide_eq_true this, rfl⟩
  · rintro ⟨d, hd, rfl⟩
    obtain ⟨c, hc, e⟩ := part_back hs hd.1 hd.2.1
    exact ⟨c, List.mem_filter.2 ⟨List.mem_range.2 hc, decide_eq_true (by rw [e]; exact hd)⟩, by rw [e]⟩
end
end Go.Proofs.YtiajlmajenabiaaGreat
