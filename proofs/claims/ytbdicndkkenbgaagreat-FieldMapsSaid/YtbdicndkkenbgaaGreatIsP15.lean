/- What a surface is, test by test: plain laws. -/
import Derived.Test.YtbdicndkkenbgaaGreatFanP
namespace Go.Proofs.YtbdicndkkenbgaaGreat
open Go.RowKit

set_option linter.unusedSimpArgs false
set_option linter.unusedVariables false
theorem chk_iff {N : Int} {T : List Tri} : checkR N T = (0, 0, 0) ↔ ∃ m : Nat, N = (m : Int) ∧ SurfE m T := by
  constructor
  · intro h
    exact is_surf.1 (checkR_zero (by rw [h])).1
  · intro h
    unfold checkR
    rw [is_surf.2 h]
    rfl
/-- A corner is right. -/
def GoodC (N : Int) (t : Tri) (k : Nat) : Prop := (0 ≤ cornerT t k ∧ cornerT t k < N) ∧ cornerT t k ≠ cornerT t ((k + 1) % 3)
theorem good_ok {m : Nat} {t : Tri} (h : ∀ k, k < 3 → GoodC (m : Int) t k) : TriOk m t := by
  have h0 := h 0 (by omega)
  have h1 := h 1 (by omega)
  have h2 := h 2 (by omega)
  exact ⟨h0.1.1, h0.1.2, h1.1.1, h1.1.2, h2.1.1, h2.1.2, h0.2, h1.2, h2.2⟩
theorem ok_good {m : Nat} {t : Tri} (h : TriOk m t) {k : Nat} (hk : k < 3) : GoodC (m : Int) t k := by
  rcases (by omega : k = 0 ∨ k = 1 ∨ k = 2) with rfl | rfl | rfl
  · exact ⟨⟨h.a0, h.a1⟩, h.ab⟩
  · exact ⟨⟨h.b0, h.b1⟩, h.bc⟩
  · exact ⟨⟨h.c0, h.c1⟩, h.ca⟩
/-- Do two triangles have a directed edge in common, from these corners on? -/
def EdgeEq (t u : Tri) (x y : Nat) : Prop := cornerT t x = cornerT u y ∧ cornerT t ((x + 1) % 3) = cornerT u ((y + 1) % 3)
theorem twice_edges15 {t u : Tri} : twiceB t u = true ↔ ∃ x y, x < 3 ∧ y < 3 ∧ EdgeEq t u x y := by
  unfold twiceB edgeB
  simp only [Bool.or_eq_true, Bool.and_eq_true, beq_iff_eq]
  constructor
  · rintro ((((⟨p, q⟩ | ⟨p, q⟩) | ⟨p, q⟩) | ((⟨p, q⟩ | ⟨p, q⟩) | ⟨p, q⟩)) | ((⟨p, q⟩ | ⟨p, q⟩) | ⟨p, q⟩))
    · exact ⟨0, 0, by omega, by omega, p.symm, q.symm⟩
    · exact ⟨0, 1, by omega, by omega, p.symm, q.symm⟩
    · exact ⟨0, 2, by omega, by omega, p.symm, q.symm⟩
    · exact ⟨1, 0, by omega, by omega, p.symm, q.symm⟩
    · exact ⟨1, 1, by omega, by omega, p.symm, q.symm⟩
    · exact ⟨1, 2, by omega, by omega, p.symm, q.symm⟩
    · exact ⟨2, 0, by omega, by omega, p.symm, q.symm⟩
    · exact ⟨2, 1, by omega, by omega, p.symm, q.symm⟩
    · exact ⟨2, 2, by omega, by omega, p.symm, q.symm⟩
  · rintro ⟨x, y, hx, hy, p, q⟩
    rcases (by omega : x = 0 ∨ x = 1 ∨ x = 2) with rfl | rfl | rfl <;> rcases (by omega : y = 0 ∨ y = 1 ∨ y = 2) with rfl | rfl | rfl
    · exact .inl (.inl (.inl (.inl ⟨p.symm, q.symm⟩)))
    · exact .inl (.inl (.inl (.inr ⟨p.symm, q.symm⟩)))
    · exact .inl (.inl (.inr ⟨p.symm, q.symm⟩))
    · exact .inl (.inr (.inl (.inl ⟨p.symm, q.symm⟩)))
    · exact .inl (.inr (.inl (.inr ⟨p.symm, q.symm⟩)))
    · exact .inl (.inr (.inr ⟨p.symm, q.symm⟩))
    · exact .inr (.inl (.inl ⟨p.symm, q.symm⟩))
    · exact .inr (.inl (.inr ⟨p.symm, q.symm⟩))
    · exact .inr (.inr ⟨p.symm, q.symm⟩)
theorem twice_symm (t u : Tri) : twiceB t u = twiceB u t := by
  rw [Bool.eq_iff_iff, twice_edges15, twice_edges15]
  constructor
  · rintro ⟨x, y, hx, hy, p, q⟩
    exact ⟨y, x, hy, hx, p.symm, q.symm⟩
  · rintro ⟨x, y, hx, hy, p, q⟩
    exact ⟨y, x, hy, hx, p.symm, q.symm⟩
theorem mirr_cnt {t u : Tri} : cntB t u 3 = 3 ↔ mirrB t u = true := by
  rw [cnt3]
  unfold mirrB
  cases hasB u t.a <;> cases hasB u t.b <;> cases hasB u t.c <;> simp
theorem mirr_symm {m : Nat} {t u : Tri} (ht : TriOk m t) (hu : TriOk m u) : mirrB t u = mirrB u t := by
  rw [Bool.eq_iff_iff, mirrB_iff ht hu, mirrB_iff hu ht]
  exact ⟨fun ⟨x, h, h'⟩ => ⟨x, h', h⟩, fun ⟨x, h, h'⟩ => ⟨x, h', h⟩⟩
/-- No two of the first triangles have an edge, or all vertices, in common. -/
def PairOk (T : List Tri) (i : Nat) : Prop := ∀ a b, b < a → a < i → twiceB (tri T a) (tri T b) = false ∧ mirrB (tri T a) (tri T b) = false
/-- The triangles of a vertex are there, and one ring, or fan. -/
def VertOk (T : List Tri) (v : Nat) : Prop := atL T T.length (v : Int) ≠ [] ∧ ∀ k ∈ atL T T.length (v : Int), Reach (fun a b => a ∈ atL T T.length (v : Int) ∧ b ∈ atL T T.length (v : Int) ∧ Nbr T (v : Int) a b) ((atL T T.length (v : Int)).headD 0) k
theorem vert_ok {m : Nat} {T : List Tri} (hok : ∀ t ∈ T, TriOk m t) (v : Nat) : VertOk T v ↔ (∃ t ∈ T, (v : Int) ∈ verts t) ∧ ConnE T (v : Int) := by
  have hS : ∀ i, i ∈ atL T T.length (v : Int) ↔ i < T.length ∧ (v : Int) ∈ verts (tri T i) := fun i => by
    unfold atL
    rw [List.mem_filter, List.mem_range, decide_eq_true_eq]
  have hu : atL T T.length (v : Int) ≠ [] ↔ ∃ t ∈ T, (v : Int) ∈ verts t := by
    constructor
    · intro h
      obtain ⟨i, hi⟩ := List.exists_mem_of_ne_nil _ h
      exact ⟨_, tri_mem ((hS i).1 hi).1, ((hS i).1 hi).2⟩
    · rintro ⟨t, ht, hv⟩ h
      obtain ⟨i, hi, rfl⟩ := tri_idx ht
      have := (hS i).2 ⟨hi, hv⟩
      rw [h] at this
      cases this
  have hc : atL T T.length (v : Int) ≠ [] → ((∀ k ∈ atL T T.length (v : Int), Reach (fun a b => a ∈ atL T T.length (v : Int) ∧ b ∈ atL T T.length (v : Int) ∧ Nbr T (v : Int) a b) ((atL T T.length (v : Int)).headD 0) k) ↔ ConnE T (v : Int)) := fun h0 => by
    rw [← pinched_conn hok v]
    unfold pinchedB
    have e0 : (!(atL T T.length (v : Int)).isEmpty) = true := by
      cases h : atL T T.length (v : Int) with
      | nil => exact absurd h h0
      | cons a l => rfl
    rw [e0, Bool.true_and, pinchB_conn (atL_nodup _ _ _) h0, Bool.not_eq_false', connB_iff]
    exact Iff.rfl
  constructor
  · rintro ⟨h1, h2⟩
    exact ⟨hu.1 h1, (hc h1).1 h2⟩
  · rintro ⟨h1, h2⟩
    have h3 := hu.2 h1
    exact ⟨h3, (hc h3).2 h2⟩
theorem pair_all {m : Nat} {T : List Tri} (hok : ∀ t ∈ T, TriOk m t) : PairOk T T.length ↔ T.Pairwise (fun t u => twiceB t u = false) ∧ T.Pairwise (fun t u => mirrB t u = false) := by
  rw [List.pairwise_iff_getElem, List.pairwise_iff_getElem]
  have ht : ∀ i (h : i < T.length), tri T i = T[i] := fun i h => tri_of (List.getElem?_eq_getElem h)
  constructor
  · intro h
    refine ⟨fun i j hi hj hij => ?_, fun i j hi hj hij => ?_⟩
    · have := (h j i hij hj).1
      rw [ht i hi, ht j hj, twice_symm] at this
      exact this
    · have := (h j i hij hj).2
      rw [ht i hi, ht j hj, mirr_symm (hok _ (List.getElem_mem hj)) (hok _ (List.getElem_mem hi))] at this
      exact this
  · rintro ⟨h1, h2⟩ a b hba ha
    have hb : b < T.length := by omega
    rw [ht a ha, ht b hb]
    refine ⟨?_, ?_⟩
    · rw [twice_symm]
      exact h1 b a hb ha hba
    · rw [mirr_symm (hok _ (List.getElem_mem ha)) (hok _ (List.getElem_mem hb))]
      exact h2 b a hb ha hba
/-- All tests together. -/
theorem surf_tests {m : Nat} {T : List Tri} (hm : m ≤ 4096) (hT : T.length ≤ 8192) : SurfE m T ↔ (∀ t ∈ T, TriOk m t) ∧ PairOk T T.length ∧ ∀ v, v < m → VertOk T v := by
  constructor
  · intro h
    exact ⟨h.ok, (pair_all h.ok).2 ⟨h.tw, h.mi⟩, fun v hv => (vert_ok h.ok v).2 ⟨h.used v hv, h.con v hv⟩⟩
  · rintro ⟨h1, h2, h3⟩
    obtain ⟨h4, h5⟩ := (pair_all h1).1 h2
    exact ⟨hm, hT, h1, h4, h5, fun v hv => ((vert_ok h1 v).1 (h3 v hv)).1, fun v hv => ((vert_ok h1 v).1 (h3 v hv)).2⟩
end Go.Proofs.YtbdicndkkenbgaaGreat
