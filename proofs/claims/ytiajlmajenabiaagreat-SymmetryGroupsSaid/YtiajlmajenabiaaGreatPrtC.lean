/- All parts of a surface are connected surfaces: plain. No condition. -/
import Derived.Test.YtiajlmajenabiaaGreatPrtB
import Derived.Test.YtiajlmajenabiaaGreatSp47
namespace Go.Proofs.YtiajlmajenabiaaGreat
open Go.RowKit

set_option linter.unusedSimpArgs false
set_option linter.unusedVariables false
section
variable {m : Nat} {T : List Tri}
theorem lst_iff {k x : Nat} : x ∈ lstOf (ofL T) T.length k ↔ x < T.length ∧ ofN T x = k := by
  unfold lstOf
  rw [List.mem_filter, List.mem_range, decide_eq_true_iff]
  constructor
  · rintro ⟨h1, h2⟩
    rw [ofN_eq h1] at h2
    exact ⟨h1, by omega⟩
  · rintro ⟨h1, h2⟩
    refine ⟨h1, ?_⟩
    rw [ofN_eq h1, h2]
theorem part_eq (T : List Tri) (k : Nat) : partOf T k = ⟨((vsL (vtx T (lstOf (ofL T) T.length k))).length : Int), subT T (vsL (vtx T (lstOf (ofL T) T.length k))) (lstOf (ofL T) T.length k), vsL (vtx T (lstOf (ofL T) T.length k)), lstOf (ofL T) T.length k⟩ := rfl
theorem part_sub (hs : SurfE m T) (k : Nat) : SubOk m T (partOf T k).l (partOf T k).v := by
  rw [part_eq]
  refine ⟨hs, (List.pairwise_lt_range).filter _, fun x hx => (lst_iff.1 hx).1, fun x y hx ha => ?_, (vsL_up _).imp fun {a b} hab => by omega, fun z => mem_vsL⟩
  obtain ⟨h1, h2⟩ := lst_iff.1 hx
  refine lst_iff.2 ⟨ha.lt.2, ?_⟩
  rw [← h2]
  exact ((ofN_re hs h1 ha.lt.2).2 (.step (.refl _) ha)).symm
theorem part_t (T : List Tri) (k : Nat) : (partOf T k).t = subT T (partOf T k).v (partOf T k).l := rfl
theorem part_n (T : List Tri) (k : Nat) : (partOf T k).n = ((partOf T k).v.length : Int) := rfl
theorem part_l {k x : Nat} : x ∈ (partOf T k).l ↔ x < T.length ∧ ofN T x = k := lst_iff
theorem surf_chk {n : Nat} {U : List Tri} (h : SurfE n U) : checkR (n : Int) U = (0, 0, 0) := by
  unfold checkR
  rw [is_surf.2 ⟨n, rfl, h⟩]
  rfl
/-- What is reached in the surface is reached in the part. -/
theorem SubOk.re {l : List Nat} {V : List Int} (h : SubOk m T l V) {i y : Nat} (hi : i < l.length) (hr : Re T (l.getD i 0) y) : ∃ j, j < l.length ∧ l.getD j 0 = y ∧ Re (subT T V l) i j := by
  induction hr with
  | refl => exact ⟨i, hi, rfl, .refl _⟩
  | step _ ha ih =>
    obtain ⟨j, hj, rfl, hr⟩ := ih
    obtain ⟨d, o, hd, e, ho, rfl⟩ := ha
    have hc : 3 * j + d % 3 < 3 * l.length := by omega
    have ef : fS l (3 * j + d % 3) = d := by
      unfold fS
      rw [show (3 * j + d % 3) / 3 = j by omega, ← e]
      omega
    have hop := h.emb.op (3 * j + d % 3) (by rw [subT_len]; exact hc)
    rw [ef, ho] at hop
    cases hu : oppF (subT T V l) (3 * j + d % 3) with
    | none => rw [hu] at hop; cases hop
    | some o' =>
      rw [hu] at hop
      injection hop with hop
      have h1 := (facing_some hu).1
      have h2 := opp_tri hu
      rw [subT_len] at h2
      refine ⟨o' / 3, h2, by rw [hop]; unfold fS; omega, hr.step ⟨3 * j + d % 3, o', by rw [subT_len]; exact hc, by omega, hu, rfl⟩⟩
theorem part_conn (hs : SurfE m T) {k : Nat} (hk : k < kN T) : kN (partOf T k).t = 1 := by
  have h := part_sub hs k
  have hsu := h.surf
  have hl : 0 < (partOf T k).l.length := lst_pos hk
  have hsame : ∀ i j, i < (partOf T k).l.length → j < (partOf T k).l.length → ofN (partOf T k).t i = ofN (partOf T k).t j := fun i j hi hj => by
    have h1 := part_l.1 (getD_mem hi)
    have h2 := part_l.1 (getD_mem hj)
    have hr := (ofN_re hs h1.1 h2.1).1 (by rw [h1.2, h2.2])
    obtain ⟨j', hj', e, hr'⟩ := h.re hi hr
    have ej : 3 * j' = 3 * j := h.inj (by omega) (by omega) (by unfold fS; rw [show 3 * j' / 3 = j' by omega, show 3 * j / 3 = j by omega, e]; omega)
    obtain rfl : j' = j := by omega
    rw [part_t]
    exact (ofN_re hsu (by rw [subT_len]; exact hi) (by rw [subT_len]; exact hj)).2 hr'
  have e0 : ∀ r, r < kN (partOf T k).t → ∃ x, x < (partOf T k).l.length ∧ ofN (partOf T k).t x = r := fun r hr => by
    obtain ⟨x, hx⟩ := List.exists_mem_of_length_pos (lst_pos hr)
    have := lst_iff.1 hx
    rw [part_t, subT_len] at this
    exact ⟨x, this⟩
  have h0 := ofN_lt (T := (partOf T k).t) (x := 0) (by rw [part_t, subT_len]; exact hl)
  rcases Nat.lt_or_ge (kN (partOf T k).t) 2 with h2 | h2
  · omega
  · obtain ⟨x, hx, ex⟩ := e0 0 (by omega)
    obtain ⟨y, hy, ey⟩ := e0 1 (by omega)
    have := hsame x y hx hy
    omega
/-- All parts of a surface are connected surfaces. -/
theorem parts_ok (hs : SurfE m T) : PartsOk T := fun k hk => by
  refine ⟨?_, part_conn hs hk⟩
  rw [part_n, part_t]
  exact surf_chk (part_sub hs k).surf
theorem chk_surf {N : Int} (h : checkR N T = (0, 0, 0)) : ∃ m : Nat, N = (m : Int) ∧ SurfE m T := is_surf.1 (checkR_zero (by rw [h])).1
end
end Go.Proofs.YtiajlmajenabiaaGreat
