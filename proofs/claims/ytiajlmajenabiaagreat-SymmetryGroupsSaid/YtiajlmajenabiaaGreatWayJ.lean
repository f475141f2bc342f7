/- All's rows are the renumberings of the surface onto itself: plain. No condition. -/
import Derived.Test.YtiajlmajenabiaaGreatWayI
namespace Go.Proofs.YtiajlmajenabiaaGreat
open Go.RowKit

set_option linter.unusedSimpArgs false
set_option linter.unusedVariables false
section
variable {m : Nat} {T : List Tri}
/-- A vertex lies in one shell alone. -/
theorem vertex_shell (hs : SurfE m T) {x y : Nat} (hx : x < 3 * T.length) (hy : y < 3 * T.length) (h : cv T x = cv T y) : Re T (x / 3) (y / 3) := by
  have hb := cv_bd hs hx
  have hvx : cv T x ∈ verts (tri T (x / 3)) := verts_corner.2 ⟨x % 3, Nat.mod_lt _ (by decide), rfl⟩
  have hvy : cv T x ∈ verts (tri T (y / 3)) := by rw [h]; exact verts_corner.2 ⟨y % 3, Nat.mod_lt _ (by decide), rfl⟩
  have hc := hs.con (cv T x).toNat (by omega) (tri T (x / 3)) (tri T (y / 3)) (tri_mem (by omega)) (by rw [Int.toNat_of_nonneg hb.1]; exact hvx) (tri_mem (by omega)) (by rw [Int.toNat_of_nonneg hb.1]; exact hvy)
  rw [Int.toNat_of_nonneg hb.1] at hc
  have hne : ∀ i j, i < T.length → j < T.length → tri T i = tri T j → i = j := fun i j hi hj e => by
    have e1 := ct_edge (tri T i) (r := 0) (by decide)
    have e2 := ct_edge (tri T j) (r := 0) (by decide)
    have := ce_inj hs (c := 3 * i) (d := 3 * j) (by omega) (by omega) (by rw [ce_ct, ce_ct, show 3 * i / 3 = i by omega, show 3 * j / 3 = j by omega, e, show 3 * i % 3 = 0 by omega, show 3 * j % 3 = 0 by omega])
    omega
  obtain ⟨k, hk, e, hr⟩ := hc (fun t => ∃ k, k < T.length ∧ tri T k = t ∧ Re T (x / 3) k) ⟨x / 3, by omega, rfl, .refl _⟩ (by
    rintro t u ⟨k, hk, rfl, hr⟩ ⟨⟨_, h1⟩, ⟨hu, h2⟩, w, hw, h3, h4⟩
    obtain ⟨j, hj, rfl⟩ := tri_idx hu
    by_cases e : k = j
    · exact ⟨j, hj, rfl, e ▸ hr⟩
    · exact ⟨j, hj, rfl, hr.step (nbr_adj hs hk hj e hw h1 h3 h2 h4)⟩)
  rw [← hne k (y / 3) hk (by omega) e]
  exact hr
/-- A way written: at each of its places what it tells. -/
theorem setW_at {V way ts : List Int} (hn : V.Nodup) (h0 : ∀ v ∈ V, 0 ≤ v) {k : Nat} : ∀ n, n ≤ V.length → k < n → (V.getD k 0).toNat < ts.length → (setW V way n ts).getD (V.getD k 0).toNat 0 = way.getD k 0
  | 0, _, hk, _ => by omega
  | n + 1, hl, hk, ht => by
    rw [setW, getD_setN, setW_len]
    have e1 : V.getD n 0 = V[n] := by rw [List.getD_eq_getElem?_getD, List.getElem?_eq_getElem (by omega)]; rfl
    have e2 : V.getD k 0 = V[k] := by rw [List.getD_eq_getElem?_getD, List.getElem?_eq_getElem (by omega)]; rfl
    by_cases e : n = k
    · subst e
      rw [if_pos ⟨rfl, ht⟩]
    · rw [if_neg, setW_at hn h0 n (by omega) (by omega) ht]
      rintro ⟨e3, _⟩
      rw [e1, e2] at e3
      have a := h0 _ (List.getElem_mem (show n < V.length by omega))
      have b := h0 _ (List.getElem_mem (show k < V.length by omega))
      exact e (nodup_at hn (by omega) (by omega) (by omega))
theorem apply_len {ks : List KindV} : ∀ (p : List Choice) (i : Nat) (ts : List Int), (applyP ks i p ts).length = ts.length
  | [], _, _ => rfl
  | (_, w) :: p, i, ts => by rw [applyP, apply_len p, setW_len]
/-- Shells' places are apart. -/
structure Apart (ks : List KindV) (m : Nat) : Prop where
  nd : ∀ i, i < ks.length → (plW ks i).Nodup
  bd : ∀ i, i < ks.length → ∀ v ∈ plW ks i, 0 ≤ v ∧ v < (m : Int)
  ap : ∀ i j, i < ks.length → j < ks.length → i ≠ j → ∀ v ∈ plW ks i, v ∉ plW ks j
theorem apply_off {ks : List KindV} {m : Nat} (h : Apart ks m) {v : Int} (hv : 0 ≤ v) : ∀ (p : List Choice) (i : Nat) (ts : List Int), i + p.length ≤ ks.length → (∀ j, i ≤ j → j < ks.length → v ∉ plW ks j) → (applyP ks i p ts).getD v.toNat 0 = ts.getD v.toNat 0
  | [], _, _, _, _ => rfl
  | (_, w) :: p, i, ts, hl, hno => by
    rw [List.length_cons] at hl
    rw [applyP, apply_off h hv p (i + 1) _ (by omega) fun j hj => hno j (by omega)]
    refine setW_off _ (Nat.le_refl _) fun u hu e => hno i (Nat.le_refl _) (by omega) ?_
    have := (h.bd i (by omega) u hu).1
    rw [show v = u by omega]
    exact hu
theorem apply_at {ks : List KindV} {m : Nat} (h : Apart ks m) {i' k : Nat} : ∀ (p : List Choice) (i : Nat) (ts : List Int), ts.length = m → i + p.length ≤ ks.length → i ≤ i' → i' < i + p.length → k < (plW ks i').length →
    (applyP ks i p ts).getD ((plW ks i').getD k 0).toNat 0 = ((p.getD (i' - i) (0, [])).2).getD k 0
  | [], i, ts, _, _, h1, h2, _ => by simp at h2; omega
  | (j, w) :: p, i, ts, ht, hl, h1, h2, hk => by
    rw [List.length_cons] at hl h2
    have hm : (plW ks i').getD k 0 ∈ plW ks i' := by rw [List.getD_eq_getElem?_getD, List.getElem?_eq_getElem hk]; exact List.getElem_mem _
    have hb := h.bd i' (by omega) _ hm
    rw [applyP]
    rcases Nat.eq_or_lt_of_le h1 with e | h1
    · subst e
      rw [apply_off h hb.1 p (i + 1) _ (by omega) fun j' hj hj' => h.ap i j' (by omega) hj' (by omega) _ hm]
      rw [setW_at (h.nd i (by omega)) (fun v hv => (h.bd i (by omega) v hv).1) _ (Nat.le_refl _) hk (by rw [ht]; omega)]
      simp
    · rw [apply_at h p (i + 1) _ (by rw [setW_len]; exact ht) (by omega) (by omega) (by omega) hk]
      rw [show i' - i = (i' - (i + 1)) + 1 by omega]
      rfl
theorem kAt_kinds {i K : Nat} (hi : i < K) : kAt (kindsL T K) i = kindV (partOf T i) := by
  refine kAt_some ?_
  unfold kindsL
  rw [List.getElem?_map, List.getElem?_range hi]
  rfl
theorem plW_is (hs : SurfE m T) {i : Nat} (hi : i < kN T) : ∃ a, Good T i a ∧ plW (kindsL T (kN T)) i = rootO T a := by
  unfold plW
  rw [kAt_kinds hi]
  have hp := ways_pos hs hi
  have hm : (kindV (partOf T i)).ws.getD 0 [] ∈ (kindV (partOf T i)).ws := by
    cases h : (kindV (partOf T i)).ws with
    | nil => exact absurd h hp
    | cons x l => exact List.mem_cons_self
  exact (mem_ways hs hi).1 hm
/-- The vertices of unlike shells are unlike. -/
theorem rootO_apart (hs : SurfE m T) {c d : Nat} (hc : c < 3 * T.length) (hd : d < 3 * T.length) (hne : ofN T (c / 3) ≠ ofN T (d / 3)) : ∀ v ∈ rootO T c, v ∉ rootO T d := fun v h1 h2 => by
  obtain ⟨x, hx, rx, rfl⟩ := (rootO_iff hs hc v).1 h1
  obtain ⟨y, hy, ry, e⟩ := (rootO_iff hs hd _).1 h2
  have := vertex_shell hs hx hy e.symm
  exact hne ((ofN_re hs (by omega) (by omega)).2 ((rx.trans this).trans (ry.symm hs)))
theorem apart_kinds (hs : SurfE m T) : Apart (kindsL T (kN T)) m := by
  have hl := kindsL_len T (kN T)
  refine ⟨fun i hi => ?_, fun i hi v hv => ?_, fun i j hi hj hij v h1 h2 => ?_⟩
  · obtain ⟨a, _, e⟩ := plW_is hs (i := i) (by omega)
    rw [e]
    exact oldC_nd _
  · obtain ⟨a, ha, e⟩ := plW_is hs (i := i) (by omega)
    rw [e] at hv
    exact rootO_bd hs ha.1 v hv
  · obtain ⟨a, ha, e⟩ := plW_is hs (i := i) (by omega)
    obtain ⟨b, hb, e'⟩ := plW_is hs (i := j) (by omega)
    rw [e] at h1
    rw [e'] at h2
    exact rootO_apart hs ha.1 hb.1 (by rw [ha.2.1, hb.2.1]; exact hij) v h1 h2
theorem path_at {ks : List KindV} : ∀ {d i : Nat} {used : Nat → Bool} {p : List Choice}, p ∈ pathsL ks d i used → ∀ n, n < d → (p.getD n (0, [])).1 < ks.length ∧ used (p.getD n (0, [])).1 = false ∧ alikeK (kAt ks (p.getD n (0, [])).1) (kAt ks (i + n)) = true ∧ (p.getD n (0, [])).2 ∈ (kAt ks (p.getD n (0, [])).1).ws
  | 0, _, _, _, _, n, hn => by omega
  | d + 1, i, used, p, h, n, hn => by
    obtain ⟨j, w, p', rfl⟩ := paths_cons h
    obtain ⟨h1, h2, h3, h4, h5⟩ := mem_paths.1 h
    cases n with
    | zero => exact ⟨h1, h2, h3, h4⟩
    | succ n =>
      obtain ⟨g1, g2, g3, g4⟩ := path_at h5 n (by omega)
      rw [show i + 1 + n = i + (n + 1) by omega] at g3
      refine ⟨g1, ?_, g3, g4⟩
      show used (p'.getD n (0, [])).1 = false
      by_cases e : (p'.getD n (0, [])).1 = j
      · rw [e]; exact h2
      · rw [updF_ne _ _ e] at g2
        exact g2
theorem path_ne {ks : List KindV} : ∀ {d i : Nat} {used : Nat → Bool} {p : List Choice}, p ∈ pathsL ks d i used → ∀ n n', n < n' → n' < d → (p.getD n (0, [])).1 ≠ (p.getD n' (0, [])).1
  | 0, _, _, _, _, n, n', hn, hn' => by omega
  | d + 1, i, used, p, h, n, n', hn, hn' => by
    obtain ⟨j, w, p', rfl⟩ := paths_cons h
    obtain ⟨h1, h2, h3, h4, h5⟩ := mem_paths.1 h
    obtain ⟨q, rfl⟩ : ∃ q, n' = q + 1 := ⟨n' - 1, by omega⟩
    cases n with
    | zero =>
      intro e
      have g2 := (path_at h5 q (by omega)).2.1
      change j = (p'.getD q (0, [])).1 at e
      rw [← e, updF_at] at g2
      cases g2
    | succ n => exact path_ne h5 n q (by omega) (by omega)
/-- What a row tells of a shell. -/
theorem row_shell (hs : SurfE m T) {p : List Choice} (hp : p ∈ pathsL (kindsL T (kN T)) (kN T) 0 (fun _ => false)) {i : Nat} (hi : i < kN T) :
    ∃ a d, Good T i a ∧ Good T (p.getD i (0, [])).1 d ∧ (p.getD i (0, [])).2 = rootO T d ∧ plW (kindsL T (kN T)) i = rootO T a ∧ rowC T a = rowC T d ∧ ∀ v ∈ rootO T a, gS (applyP (kindsL T (kN T)) 0 p (List.replicate m 0)) v = goesTo T T a d v := by
  have hl := kindsL_len T (kN T)
  have hpl := paths_len hp
  obtain ⟨g1, _, g3, g4⟩ := path_at hp i hi
  rw [hl] at g1
  rw [Nat.zero_add, kAt_kinds g1, kAt_kinds hi] at g3
  rw [kAt_kinds g1] at g4
  obtain ⟨a, ha, ea⟩ := plW_is hs hi
  obtain ⟨d, hd, ed⟩ := (mem_ways hs g1).1 g4
  have hrow : rowC T a = rowC T d := by
    rw [ha.2.2, hd.2.2, rowC_eq]
    obtain ⟨e1, e2⟩ := alike_eq.1 g3
    rw [(kind_form hs g1).1, (kind_form hs hi).1] at e1
    rw [(kind_form hs g1).2, (kind_form hs hi).2] at e2
    exact ⟨by omega, e2.symm⟩
  refine ⟨a, d, ha, hd, ed, ea, hrow, fun v hv => ?_⟩
  have hk := List.idxOf_lt_length_iff.2 hv
  have := apply_at (apart_kinds hs) (i' := i) (k := (rootO T a).idxOf v) p 0 (List.replicate m 0) (by simp) (by omega) (Nat.zero_le _) (by omega) (by rw [ea]; exact hk)
  rw [ea, getD_idxOf hv, Nat.sub_zero, ed] at this
  exact this
theorem vertex_at (hs : SurfE m T) {v : Int} (hv : 0 ≤ v ∧ v < (m : Int)) : ∃ x, x < 3 * T.length ∧ cv T x = v := by
  obtain ⟨t, ht, h⟩ := hs.used v.toNat (by omega)
  obtain ⟨i, hi, rfl⟩ := tri_idx ht
  rw [Int.toNat_of_nonneg hv.1] at h
  obtain ⟨r, hr, e⟩ := verts_corner.1 h
  exact ⟨3 * i + r, by omega, by rw [cv_ct, show (3 * i + r) / 3 = i by omega, show (3 * i + r) % 3 = r by omega, e]⟩
theorem goesTo_mem {U : List Tri} {c d : Nat} (hl : (rootO T c).length = (rootO U d).length) {v : Int} (hv : v ∈ rootO T c) : goesTo T U c d v ∈ rootO U d := by
  unfold goesTo
  rw [List.getD_eq_getElem?_getD, List.getElem?_eq_getElem (by rw [← hl]; exact List.idxOf_lt_length_iff.2 hv), Option.getD_some]
  exact List.getElem_mem _
theorem goesTo_inj {U : List Tri} {c d : Nat} (hl : (rootO T c).length = (rootO U d).length) {v w : Int} (hv : v ∈ rootO T c) (hw : w ∈ rootO T c) (e : goesTo T U c d v = goesTo T U c d w) : v = w := by
  have la := List.idxOf_lt_length_iff.2 hv
  have lb := List.idxOf_lt_length_iff.2 hw
  unfold goesTo at e
  rw [List.getD_eq_getElem?_getD, List.getD_eq_getElem?_getD, List.getElem?_eq_getElem (show _ < (rootO U d).length by omega), List.getElem?_eq_getElem (show _ < (rootO U d).length by omega)] at e
  simp only [Option.getD_some] at e
  have := nodup_at (oldC_nd _) _ _ e
  rw [← getD_idxOf hv, this, getD_idxOf hw]
/-- Each row is a renumbering. -/
theorem row_iso (hs : SurfE m T) {p : List Choice} (hp : p ∈ pathsL (kindsL T (kN T)) (kN T) 0 (fun _ => false)) : IsoL m T T (applyP (kindsL T (kN T)) 0 p (List.replicate m 0)) := by
  obtain ⟨r, hr⟩ : ∃ r, r = applyP (kindsL T (kN T)) 0 p (List.replicate m 0) := ⟨_, rfl⟩
  have hrl : r.length = m := by rw [hr, apply_len]; simp
  have key : ∀ x, x < 3 * T.length → ∃ i a d, i < kN T ∧ i = ofN T (x / 3) ∧ Good T i a ∧ Good T (p.getD i (0, [])).1 d ∧ rowC T a = rowC T d ∧ cv T x ∈ rootO T a ∧ Re T (a / 3) (x / 3) ∧ ∀ v ∈ rootO T a, gS r v = goesTo T T a d v := fun x hx => by
    obtain ⟨a, d, h1, h2, _, _, h5, h6⟩ := row_shell hs hp (i := ofN T (x / 3)) (ofN_lt (by omega))
    have hre : Re T (a / 3) (x / 3) := (ofN_re hs (by have := h1.1; omega) (by omega)).1 h1.2.1
    exact ⟨_, a, d, ofN_lt (by omega), rfl, h1, h2, h5, (rootO_iff hs h1.1 _).2 ⟨x, hx, hre, rfl⟩, hre, by rw [hr]; exact h6⟩
  rw [← hr]
  refine ⟨hrl, ?_, fun v hv => ?_, fun x hx => ?_⟩
  · unfold List.Nodup
    rw [List.pairwise_iff_getElem]
    intro q q' hq hq' hqq e
    obtain ⟨x, hx, ex⟩ := vertex_at hs (v := (q : Int)) ⟨by omega, by omega⟩
    obtain ⟨y, hy, ey⟩ := vertex_at hs (v := (q' : Int)) ⟨by omega, by omega⟩
    obtain ⟨i, a, d, hi, ei, ga, gd, hrow, hm, hre, hv⟩ := key x hx
    obtain ⟨i', a', d', hi', ei', ga', gd', hrow', hm', hre', hv'⟩ := key y hy
    rw [ex] at hm
    rw [ey] at hm'
    have v1 := hv _ hm
    have v2 := hv' _ hm'
    have gq : gS r (q : Int) = r[q] := by unfold gS; rw [Int.toNat_natCast, List.getD_eq_getElem?_getD, List.getElem?_eq_getElem hq]; rfl
    have gq' : gS r (q' : Int) = r[q'] := by unfold gS; rw [Int.toNat_natCast, List.getD_eq_getElem?_getD, List.getElem?_eq_getElem hq']; rfl
    rw [gq] at v1
    rw [gq'] at v2
    by_cases hii : i = i'
    · subst hii
      obtain ⟨a2, d2, b1, b2, b3, b4, b5, b6⟩ := row_shell hs hp hi
      have hma : ∀ {z : Nat} {w : Int}, Good T i z → w ∈ rootO T z → w ∈ rootO T a2 := fun {z w} hz hw => by
        obtain ⟨u, hu, ru, rfl⟩ := (rootO_iff hs hz.1 _).1 hw
        refine (rootO_iff hs b1.1 _).2 ⟨u, hu, ?_, rfl⟩
        exact ((ofN_re hs (by have := b1.1; omega) (by have := hz.1; omega)).1 (by rw [b1.2.1, hz.2.1])).trans ru
      have w1 := b6 _ (hma ga hm)
      have w2 := b6 _ (hma ga' hm')
      rw [← hr, gq] at w1
      rw [← hr, gq'] at w2
      have := goesTo_inj (rowC_eq.1 b5).1 (hma ga hm) (hma ga' hm') (by rw [← w1, ← w2, e])
      omega
    · have n1 := goesTo_mem (rowC_eq.1 hrow).1 hm
      have n2 := goesTo_mem (rowC_eq.1 hrow').1 hm'
      rw [← v1, e, v2] at n1
      have hne : (p.getD i (0, [])).1 ≠ (p.getD i' (0, [])).1 := by
        rcases Nat.lt_or_gt_of_ne hii with h | h
        · exact path_ne hp i i' h hi'
        · exact (path_ne hp i' i h hi).symm
      exact rootO_apart hs gd.1 gd'.1 (by rw [gd.2.1, gd'.2.1]; exact hne) _ n1 n2
  · obtain ⟨q, hq, e⟩ := List.getElem_of_mem hv
    obtain ⟨x, hx, ex⟩ := vertex_at hs (v := (q : Int)) ⟨by omega, by omega⟩
    obtain ⟨i, a, d, hi, ei, ga, gd, hrow, hm, hre, hv'⟩ := key x hx
    rw [ex] at hm
    have v1 := hv' _ hm
    have gq : gS r (q : Int) = r[q] := by unfold gS; rw [Int.toNat_natCast, List.getD_eq_getElem?_getD, List.getElem?_eq_getElem hq]; rfl
    rw [gq, e] at v1
    rw [v1]
    exact rootO_bd hs gd.1 _ (goesTo_mem (rowC_eq.1 hrow).1 hm)
  · obtain ⟨i, a, d, hi, ei, ga, gd, hrow, hm, hre, hv⟩ := key x hx
    obtain ⟨y, hy, _, g1, g2, g3⟩ := shape_tri hs hs ga.1 gd.1 (rowC_eq.1 hrow).2 hx hre
    refine ⟨y, hy, ?_, ?_, ?_⟩
    · rw [g1, hv _ hm]
    · rw [g2, hv _ ((rootO_iff hs ga.1 _).2 ⟨nxc x, nxc_lt hx, by rw [nxc_div]; exact hre, rfl⟩)]
    · rw [g3, hv _ ((rootO_iff hs ga.1 _).2 ⟨pvc x, pvc_lt hx, by rw [pvc_div]; exact hre, rfl⟩)]
end
end Go.Proofs.YtiajlmajenabiaaGreat
