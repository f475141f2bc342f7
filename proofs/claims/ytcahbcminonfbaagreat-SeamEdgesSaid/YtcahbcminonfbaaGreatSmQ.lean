/- Seams as the document looks for them: plain laws. No condition. -/
import Derived.Test.YtcahbcminonfbaaGreatSmP
namespace Go.Proofs.YtcahbcminonfbaaGreat
open Go.RowKit

set_option linter.unusedSimpArgs false
set_option linter.unusedVariables false
/-- The first triangle with a directed edge. -/
def withF (T : List Tri) (a b : Int) : Option Nat := leastF (fun i => edgeB (tri T i) a b) 0 T.length
/-- The corner of a vertex in a triangle. -/
def atI (T : List Tri) (i : Nat) (v : Int) : Int := if cornerT (tri T i) 0 = v then (3 * i : Nat) else if cornerT (tri T i) 1 = v then (3 * i + 1 : Nat) else if cornerT (tri T i) 2 = v then (3 * i + 2 : Nat) else -1
/-- Is the edge between two vertices a seam? -/
def isR (T : List Tri) (K : List Int) (a b : Int) : Bool := match facingF T (a, b) with
  | none => false
  | some c => partsB T K c
def innR (T : List Tri) (a b : Int) : Bool := (facingF T (a, b)).isSome && (facingF T (b, a)).isSome
section
variable {m : Nat} {T : List Tri} {K : List Int}
theorem ce_make {i r : Nat} (hr : r < 3) : ce T (3 * i + r) = ct (tri T i) r := by
  rw [ce_ct, show (3 * i + r) / 3 = i by omega, show (3 * i + r) % 3 = r by omega]
theorem with_none {a b : Int} (h : facingF T (a, b) = none) : withF T a b = none := by
  unfold facingF at h
  have h0 := leastF_none h
  refine leastF_no fun i _ hi => ?_
  cases he : edgeB (tri T i) a b with
  | false => rfl
  | true =>
    obtain ⟨r, hr, e⟩ := edge_ct he
    have h1 := h0 (3 * i + r) (Nat.zero_le _) (by omega)
    simp only [decide_eq_false_iff_not] at h1
    exact absurd (by rw [ce_make hr, e]) h1
theorem with_some (hs : SurfE m T) {a b : Int} {c : Nat} (h : facingF T (a, b) = some c) : withF T a b = some (c / 3) := by
  obtain ⟨hc, he⟩ := facing_some h
  refine leastF_is (Nat.zero_le _) (by omega) ?_ fun i _ hi => ?_
  · have h1 := ct_edge (tri T (c / 3)) (Nat.mod_lt c (by omega : 0 < 3))
    rw [← ce_ct, he] at h1
    exact h1
  · cases hx : edgeB (tri T i) a b with
    | false => rfl
    | true =>
      obtain ⟨r, hr, e⟩ := edge_ct hx
      have h1 : ce T (3 * i + r) = ce T c := by rw [ce_make hr, e, he]
      have := ce_inj hs (by omega) hc h1
      omega
theorem at_corner (hs : SurfE m T) {c : Nat} (hc : c < 3 * T.length) : atI T (c / 3) (cv T c) = (c : Int) := by
  have h := tri_ok hs (show c / 3 < T.length by omega)
  have h1 := h.ab
  have h2 := h.bc
  have h3 := h.ca
  unfold atI cv
  have hr := Nat.mod_lt c (show 0 < 3 by omega)
  have hm : 3 * (c / 3) + c % 3 = c := by omega
  generalize c % 3 = r at *
  generalize c / 3 = q at *
  generalize tri T q = t at *
  rcases (by omega : r = 0 ∨ r = 1 ∨ r = 2) with rfl | rfl | rfl
  · rw [if_pos rfl]; omega
  · rw [if_neg (show ¬ cornerT t 0 = cornerT t 1 from h1), if_pos rfl]; omega
  · rw [if_neg (show ¬ cornerT t 0 = cornerT t 2 from Ne.symm h3), if_neg (show ¬ cornerT t 1 = cornerT t 2 from h2), if_pos rfl]; omega
theorem at_a (hs : SurfE m T) {a b : Int} {c : Nat} (h : facingF T (a, b) = some c) : atI T (c / 3) a = (nxc c : Int) ∧ atI T (c / 3) b = (pvc c : Int) := by
  obtain ⟨hc, he⟩ := facing_some h
  unfold ce at he
  injection he with e1 e2
  have h1 := at_corner hs (nxc_lt hc)
  have h2 := at_corner hs (pvc_lt hc)
  rw [nxc_div, e1] at h1
  rw [pvc_div, e2] at h2
  exact ⟨h1, h2⟩
theorem is_opp {a b : Int} {c : Nat} (h : facingF T (a, b) = some c) : oppF T c = facingF T (b, a) := by
  unfold oppF
  rw [(facing_some h).2]
/-- All pairs of numbers below m, the less one first; the first ones up to b, of the row a. -/
def rowP (a b : Nat) : List (Int × Int) := ((List.range b).filter (fun x => decide (a < x))).map fun x : Nat => ((a : Int), (x : Int))
def pairsP (m a : Nat) : List (Int × Int) := (List.range a).flatMap fun x => rowP x m
theorem rowP_step (a b : Nat) : rowP a (b + 1) = rowP a b ++ (if a < b then [((a : Int), (b : Int))] else []) := by
  unfold rowP
  rw [List.range_succ, List.filter_append, List.map_append]
  by_cases h : a < b <;> simp [h]
theorem rowP_start (a : Nat) : rowP a (a + 1) = [] := by
  unfold rowP
  rw [List.map_eq_nil_iff, List.filter_eq_nil_iff]
  intro x hx
  rw [List.mem_range] at hx
  simp
  omega
theorem pairsP_step (m a : Nat) : pairsP m (a + 1) = pairsP m a ++ rowP a m := by
  unfold pairsP
  rw [List.range_succ, List.flatMap_append]
  simp
theorem rowP_mem {a b : Nat} {e : Int × Int} : e ∈ rowP a b ↔ ∃ x : Nat, a < x ∧ x < b ∧ e = ((a : Int), (x : Int)) := by
  unfold rowP
  rw [List.mem_map]
  constructor
  · rintro ⟨x, hx, rfl⟩
    rw [List.mem_filter, List.mem_range] at hx
    exact ⟨x, of_decide_eq_true hx.2, hx.1, rfl⟩
  · rintro ⟨x, h1, h2, rfl⟩
    exact ⟨x, List.mem_filter.2 ⟨List.mem_range.2 h2, decide_eq_true h1⟩, rfl⟩
theorem pairsP_mem {m a : Nat} {e : Int × Int} : e ∈ pairsP m a ↔ ∃ y x : Nat, y < a ∧ y < x ∧ x < m ∧ e = ((y : Int), (x : Int)) := by
  unfold pairsP
  rw [List.mem_flatMap]
  constructor
  · rintro ⟨y, hy, h⟩
    obtain ⟨x, h1, h2, h3⟩ := rowP_mem.1 h
    exact ⟨y, x, List.mem_range.1 hy, h1, h2, h3⟩
  · rintro ⟨y, x, h1, h2, h3, h4⟩
    exact ⟨y, List.mem_range.2 h1, rowP_mem.2 ⟨x, h2, h3, h4⟩⟩
theorem rowP_sorted (a b : Nat) : (rowP a b).Pairwise ltE := by
  induction b with
  | zero => exact List.Pairwise.nil
  | succ b ih =>
    rw [rowP_step]
    refine List.pairwise_append.2 ⟨ih, ?_, fun x hx y hy => ?_⟩
    · split
      · exact List.pairwise_singleton _ _
      · exact List.Pairwise.nil
    · obtain ⟨u, h1, h2, rfl⟩ := rowP_mem.1 hx
      split at hy
      · rw [List.mem_singleton] at hy
        subst hy
        exact .inr ⟨rfl, by show (u : Int) < (b : Int); omega⟩
      · cases hy
theorem pairsP_sorted (m a : Nat) : (pairsP m a).Pairwise ltE := by
  induction a with
  | zero => exact List.Pairwise.nil
  | succ a ih =>
    rw [pairsP_step]
    refine List.pairwise_append.2 ⟨ih, rowP_sorted _ _, fun x hx y hy => ?_⟩
    obtain ⟨p, q, h1, h2, h3, rfl⟩ := pairsP_mem.1 hx
    obtain ⟨u, h4, h5, rfl⟩ := rowP_mem.1 hy
    exact .inl (by show (p : Int) < (a : Int); omega)
/-- The document's seams, and its bits. -/
def refE (T : List Tri) (K : List Int) (m : Nat) : List (Int × Int) := (pairsP m m).filter fun e => isR T K e.1 e.2
def refBits (T : List Tri) (K : List Int) (m : Nat) : List Bool := ((pairsP m m).filter fun e => innR T e.1 e.2).map fun e => isR T K e.1 e.2
theorem refE_sorted (m : Nat) : (refE T K m).Pairwise ltE := (pairsP_sorted m m).filter _
theorem refE_mem (hs : SurfE m T) (e : Int × Int) : e ∈ seamsN T K (3 * T.length) ↔ e ∈ refE T K m := by
  unfold refE
  rw [seamsN_mem, List.mem_filter, pairsP_mem]
  constructor
  · rintro ⟨c, hc, hb, rfl⟩
    unfold seamB at hb
    rw [Bool.and_eq_true, decide_eq_true_eq] at hb
    have h1 := cv_ok hs.ok (nxc_lt hc)
    have h2 := cv_ok hs.ok (pvc_lt hc)
    have hlt : cv T (nxc c) < cv T (pvc c) := hb.1
    refine ⟨⟨(cv T (nxc c)).toNat, (cv T (pvc c)).toNat, by omega, by omega, by omega, ?_⟩, ?_⟩
    · unfold ce
      rw [show ((cv T (nxc c)).toNat : Int) = cv T (nxc c) by omega, show ((cv T (pvc c)).toNat : Int) = cv T (pvc c) by omega]
    · unfold isR
      rw [show ((ce T c).1, (ce T c).2) = ce T c from rfl, facing_ce hs hc]
      exact hb.2
  · rintro ⟨⟨y, x, h1, h2, h3, rfl⟩, h4⟩
    unfold isR at h4
    cases hf : facingF T ((y : Int), (x : Int)) with
    | none => simp only [hf] at h4; cases h4
    | some c =>
      simp only [hf] at h4
      obtain ⟨hc, he⟩ := facing_some hf
      refine ⟨c, hc, ?_, he⟩
      unfold seamB
      rw [he, Bool.and_eq_true]
      exact ⟨decide_eq_true (by show (y : Int) < (x : Int); omega), h4⟩
/-- Two sorted lists with the same members are the same. -/
theorem sortE_ext {L M : List (Int × Int)} (hL : L.Pairwise ltE) (hM : M.Pairwise ltE) (h : ∀ e, e ∈ L ↔ e ∈ M) : L = M := by
  induction L generalizing M with
  | nil =>
    cases M with
    | nil => rfl
    | cons y M => exact absurd ((h y).2 (by simp)) (by simp)
  | cons x L ih =>
    cases M with
    | nil => exact absurd ((h x).1 (by simp)) (by simp)
    | cons y M =>
      rw [List.pairwise_cons] at hL hM
      have hxy : x = y := by
        rcases List.mem_cons.1 ((h x).1 (by simp)) with e | e
        · exact e
        · rcases List.mem_cons.1 ((h y).2 (by simp)) with e' | e'
          · exact e'.symm
          · exact absurd (ltE_trans (hM.1 x e) (hL.1 y e')) (ltE_irr _)
      subst hxy
      congr 1
      refine ih hL.2 hM.2 fun e => ?_
      constructor
      · intro he
        rcases List.mem_cons.1 ((h e).1 (List.mem_cons_of_mem _ he)) with e' | e'
        · subst e'; exact absurd (hL.1 _ he) (ltE_irr _)
        · exact e'
      · intro he
        rcases List.mem_cons.1 ((h e).2 (List.mem_cons_of_mem _ he)) with e' | e'
        · subst e'; exact absurd (hM.1 _ he) (ltE_irr _)
        · exact e'
end
end Go.Proofs.YtcahbcminonfbaaGreat
