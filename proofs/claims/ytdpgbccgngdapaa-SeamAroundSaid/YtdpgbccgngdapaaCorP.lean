/- Corners of surfaces: plain laws. No condition. -/
import Derived.Test.YtdpgbccgngdapaaCornerB
import Derived.Test.YtdpgbccgngdapaaPlainB
namespace Go.Proofs.Ytdpgbccgngdapaa
open Go.RowKit

set_option linter.unusedSimpArgs false
set_option linter.unusedVariables false
theorem nxc_div (c : Nat) : nxc c / 3 = c / 3 := by unfold nxc; omega
theorem pvc_div (c : Nat) : pvc c / 3 = c / 3 := by unfold pvc; omega
theorem nxc_mod (c : Nat) : nxc c % 3 = (c + 1) % 3 := by unfold nxc; omega
theorem pvc_mod (c : Nat) : pvc c % 3 = (c + 2) % 3 := by unfold pvc; omega
theorem nxc3 (c : Nat) : nxc (nxc (nxc c)) = c := by unfold nxc; omega
theorem pvc_nxc (c : Nat) : pvc (nxc c) = c := by unfold pvc nxc; omega
/-- The edge that a corner faces, by its triangle. -/
def ct (t : Tri) (r : Nat) : Int × Int := (cornerT t ((r + 1) % 3), cornerT t ((r + 2) % 3))
theorem ce_ct (T : List Tri) (c : Nat) : ce T c = ct (tri T (c / 3)) (c % 3) := by
  unfold ce cv ct
  rw [nxc_div, pvc_div, nxc_mod, pvc_mod]
  congr 2 <;> omega
theorem cv_ct (T : List Tri) (c : Nat) : cv T c = cornerT (tri T (c / 3)) (c % 3) := rfl
theorem ct_edge (t : Tri) {r : Nat} (h : r < 3) : edgeB t (ct t r).1 (ct t r).2 = true := by
  rcases (by omega : r = 0 ∨ r = 1 ∨ r = 2) with rfl | rfl | rfl <;> simp [ct, cornerT, edgeB]
theorem edge_ct {t : Tri} {a b : Int} (h : edgeB t a b = true) : ∃ r, r < 3 ∧ ct t r = (a, b) := by
  unfold edgeB at h
  simp only [Bool.or_eq_true, Bool.and_eq_true, beq_iff_eq] at h
  rcases h with (⟨rfl, rfl⟩ | ⟨rfl, rfl⟩) | ⟨rfl, rfl⟩
  · exact ⟨2, by omega, rfl⟩
  · exact ⟨0, by omega, rfl⟩
  · exact ⟨1, by omega, rfl⟩
theorem ct_inj {m : Nat} {t : Tri} (h : TriOk m t) {r s : Nat} (hr : r < 3) (hs : s < 3) (e : ct t r = ct t s) : r = s := by
  obtain ⟨_, _, _, _, _, _, ab, bc, ca⟩ := h
  unfold ct at e
  injection e with e1 e2
  rcases (by omega : r = 0 ∨ r = 1 ∨ r = 2) with rfl | rfl | rfl <;> rcases (by omega : s = 0 ∨ s = 1 ∨ s = 2) with rfl | rfl | rfl <;> simp [cornerT] at e1 e2 <;> first | rfl | omega
theorem ct_swap {m : Nat} {t : Tri} (h : TriOk m t) {r s : Nat} (hr : r < 3) (hs : s < 3) (e : ct t s = ((ct t r).2, (ct t r).1)) : False := by
  obtain ⟨_, _, _, _, _, _, ab, bc, ca⟩ := h
  unfold ct at e
  injection e with e1 e2
  rcases (by omega : r = 0 ∨ r = 1 ∨ r = 2) with rfl | rfl | rfl <;> rcases (by omega : s = 0 ∨ s = 1 ∨ s = 2) with rfl | rfl | rfl <;> simp [cornerT] at e1 e2 <;> omega
section
variable {m : Nat} {T : List Tri}
theorem tri_ok (h : SurfE m T) {i : Nat} (hi : i < T.length) : TriOk m (tri T i) := by
  refine h.ok _ ?_
  rw [tri_of (List.getElem?_eq_getElem hi)]
  exact List.getElem_mem hi
theorem pair_no {test : Tri → Tri → Bool} (h : T.Pairwise fun t u => test t u = false) {i j : Nat} (hij : i < j) (hj : j < T.length) : test (tri T i) (tri T j) = false := by
  rw [tri_of (List.getElem?_eq_getElem (by omega)), tri_of (List.getElem?_eq_getElem hj)]
  exact List.pairwise_iff_getElem.1 h i j (by omega) hj hij
theorem ce_inj (h : SurfE m T) {c d : Nat} (hc : c < 3 * T.length) (hd : d < 3 * T.length) (e : ce T c = ce T d) : c = d := by
  rw [ce_ct, ce_ct] at e
  have hc3 : c / 3 < T.length := by omega
  have hd3 : d / 3 < T.length := by omega
  have e1 := ct_edge (tri T (c / 3)) (Nat.mod_lt c (by omega : 0 < 3))
  have e2 := ct_edge (tri T (d / 3)) (Nat.mod_lt d (by omega : 0 < 3))
  rw [e] at e1
  rcases Nat.lt_trichotomy (c / 3) (d / 3) with h1 | h1 | h1
  · have := pair_no h.tw h1 hd3
    rw [(twice_edges _ _).2 ⟨_, _, e1, e2⟩] at this
    cases this
  · rw [h1] at e
    have := ct_inj (tri_ok h hd3) (Nat.mod_lt c (by omega)) (Nat.mod_lt d (by omega)) e
    omega
  · have := pair_no h.tw h1 hc3
    rw [(twice_edges _ _).2 ⟨_, _, e2, e1⟩] at this
    cases this
theorem facing_ce (h : SurfE m T) {c : Nat} (hc : c < 3 * T.length) : facingF T (ce T c) = some c :=
  leastF_is (Nat.zero_le c) (by omega) (by simp) fun i _ hi => by
    simp only [decide_eq_false_iff_not]
    intro e
    have := ce_inj h (by omega) hc e
    omega
theorem facing_some {e : Int × Int} {d : Nat} (h : facingF T e = some d) : d < 3 * T.length ∧ ce T d = e := by
  obtain ⟨_, h2, h3, _⟩ := leastF_some h
  exact ⟨by omega, by simpa using h3⟩
theorem facing_is (h : SurfE m T) {e : Int × Int} {d : Nat} (hd : d < 3 * T.length) (he : ce T d = e) : facingF T e = some d := by
  subst he
  exact facing_ce h hd
/-- The corner across. -/
def oppF (T : List Tri) (c : Nat) : Option Nat := facingF T ((ce T c).2, (ce T c).1)
theorem opp_back (h : SurfE m T) {c d : Nat} (hc : c < 3 * T.length) (ho : oppF T c = some d) : d < 3 * T.length ∧ ce T d = ((ce T c).2, (ce T c).1) ∧ oppF T d = some c ∧ d / 3 ≠ c / 3 ∧ cv T d ≠ cv T c := by
  obtain ⟨hd, e⟩ := facing_some ho
  have hc3 : c / 3 < T.length := by omega
  have hd3 : d / 3 < T.length := by omega
  have hne : d / 3 ≠ c / 3 := fun he => by
    rw [ce_ct, ce_ct, he] at e
    exact ct_swap (tri_ok h hc3) (Nat.mod_lt c (by omega)) (Nat.mod_lt d (by omega)) e
  refine ⟨hd, e, ?_, hne, fun hv => ?_⟩
  · unfold oppF
    rw [e]
    exact facing_ce h hc
  · have hall : ∀ v, v ∈ verts (tri T (d / 3)) ↔ v ∈ verts (tri T (c / 3)) := by
      intro v
      rw [ce_ct, ce_ct] at e
      rw [cv_ct, cv_ct] at hv
      have r1 := Nat.mod_lt c (by omega : 0 < 3)
      have r2 := Nat.mod_lt d (by omega : 0 < 3)
      generalize c % 3 = r at *
      generalize d % 3 = s at *
      generalize tri T (d / 3) = t at *
      generalize tri T (c / 3) = u at *
      unfold ct at e
      injection e with e1 e2
      rw [verts_mem, verts_mem]
      rcases (by omega : r = 0 ∨ r = 1 ∨ r = 2) with rfl | rfl | rfl <;> rcases (by omega : s = 0 ∨ s = 1 ∨ s = 2) with rfl | rfl | rfl <;> simp [cornerT] at e1 e2 hv <;> omega
    have key : ∀ t u : Tri, (∀ v, v ∈ verts t ↔ v ∈ verts u) → mirrB t u = true := fun t u hh => by
      unfold mirrB hasB
      have ha := (hh t.a).1 (verts_mem.2 (.inl rfl))
      have hb := (hh t.b).1 (verts_mem.2 (.inr (.inl rfl)))
      have hc := (hh t.c).1 (verts_mem.2 (.inr (.inr rfl)))
      rw [verts_mem] at ha hb hc
      simp only [Bool.and_eq_true, Bool.or_eq_true, beq_iff_eq]
      omega
    rcases Nat.lt_or_gt_of_ne hne with h1 | h1
    · have := pair_no h.mi h1 hc3
      rw [key _ _ hall] at this
      cases this
    · have := pair_no h.mi h1 hd3
      rw [key _ _ fun v => (hall v).symm] at this
      cases this
end
end Go.Proofs.Ytdpgbccgngdapaa
