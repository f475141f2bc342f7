/- Connected surfaces of one form: a renumbering takes the one to the other. Plain. No condition. -/
import Derived.Test.YtiajlmajenabiaaGreatWayF
import Derived.Test.YtiajlmajenabiaaGreatWayH
namespace Go.Proofs.YtiajlmajenabiaaGreat
open Go.RowKit

set_option linter.unusedSimpArgs false
set_option linter.unusedVariables false
theorem len_sub {α : Type} [DecidableEq α] : ∀ {A B : List α}, A.Nodup → (∀ x ∈ A, x ∈ B) → A.length ≤ B.length
  | [], _, _, _ => Nat.zero_le _
  | a :: A, B, hn, h => by
    rw [List.nodup_cons] at hn
    have hb := h a List.mem_cons_self
    have := len_sub (B := B.erase a) hn.2 fun x hx => (List.mem_erase_of_ne (fun e => hn.1 (by rw [← e]; exact hx) : x ≠ a)).2 (h x (List.mem_cons_of_mem _ hx))
    rw [List.length_erase_of_mem hb] at this
    have := List.length_pos_of_mem hb
    rw [List.length_cons]
    omega
section
variable {m n : Nat} {T U : List Tri}
/-- Of a connected surface all is reached. -/
theorem conn_re (hs : SurfE m T) (h1 : kN T = 1) {x y : Nat} (hx : x < T.length) (hy : y < T.length) : Re T x y := by
  refine (ofN_re hs hx hy).1 ?_
  have a := ofN_lt hx
  have b := ofN_lt hy
  omega
theorem conn_rootO (hs : SurfE m T) (h1 : kN T = 1) {c : Nat} (hc : c < 3 * T.length) (v : Int) : v ∈ rootO T c ↔ 0 ≤ v ∧ v < (m : Int) := by
  constructor
  · exact rootO_bd hs hc v
  · rintro ⟨h0, h2⟩
    obtain ⟨t, ht, hv⟩ := hs.used v.toNat (by omega)
    obtain ⟨i, hi, rfl⟩ := tri_idx ht
    rw [Int.toNat_of_nonneg h0] at hv
    obtain ⟨r, hr, e⟩ := verts_corner.1 hv
    refine (rootO_iff hs hc v).2 ⟨3 * i + r, by omega, conn_re hs h1 (by omega) (by omega), ?_⟩
    rw [cv_ct, show (3 * i + r) / 3 = i by omega, show (3 * i + r) % 3 = r by omega, e]
theorem nodup_full {L : List Int} (hn : L.Nodup) (h : ∀ v, v ∈ L ↔ 0 ≤ v ∧ v < (m : Int)) : L.length = m := by
  have h1 : (L.map Int.toNat).Nodup := nodup_mapI (fun a ha b hb e => by
    have := (h a).1 ha
    have := (h b).1 hb
    omega) hn
  have h2 := nodup_leN m h1 fun x hx => by
    obtain ⟨v, hv, rfl⟩ := List.mem_map.1 hx
    have := (h v).1 hv
    omega
  rw [List.length_map] at h2
  have h3 : (List.range m).length ≤ L.length := by
    have hs : ∀ x ∈ (List.range m).map (fun (x : Nat) => (x : Int)), x ∈ L := fun x hx => by
      obtain ⟨k, hk, rfl⟩ := List.mem_map.1 hx
      exact (h _).2 ⟨by omega, by have := List.mem_range.1 hk; omega⟩
    have hnd : ((List.range m).map (fun (x : Nat) => (x : Int))).Nodup := nodup_mapI (fun a _ b _ e => by omega) List.nodup_range
    have := len_sub hnd hs
    rwa [List.length_map] at this
  rw [List.length_range] at h3
  omega
theorem conn_len (hs : SurfE m T) (h1 : kN T = 1) {c : Nat} (hc : c < 3 * T.length) : (rootO T c).length = m := nodup_full (oldC_nd _) fun v => conn_rootO hs h1 hc v
theorem conn_tri (hs : SurfE m T) (h1 : kN T = 1) {c : Nat} (hc : c < 3 * T.length) : (rootC T c).length = T.length := by
  have h2 := (rootC_fi hc).short
  have h3 : (List.range T.length).length ≤ ((rootC T c).map (· / 3)).length := by
    refine len_sub List.nodup_range fun x hx => ?_
    exact (rootC_re hs hc x).2 (conn_re hs h1 (by omega) (List.mem_range.1 hx))
  rw [List.length_range, List.length_map] at h3
  omega
/-- Where each vertex goes. -/
def goesL (T U : List Tri) (m c d : Nat) : List Int := (List.range m).map fun (v : Nat) => goesTo T U c d (v : Int)
theorem goesL_at {c d : Nat} {v : Int} (h : 0 ≤ v ∧ v < (m : Int)) : gS (goesL T U m c d) v = goesTo T U c d v := by
  unfold gS goesL
  rw [List.getD_eq_getElem?_getD, List.getElem?_map, List.getElem?_range (show v.toNat < m by omega)]
  simp only [Option.map_some, Option.getD_some]
  rw [Int.toNat_of_nonneg h.1]
theorem conn_iso (hs : SurfE m T) (h1 : kN T = 1) (hu : SurfE n U) (h2 : kN U = 1) {c d : Nat} (hc : c < 3 * T.length) (hd : d < 3 * U.length) (h : rowC T c = rowC U d) : m = n ∧ T.length = U.length ∧ IsoL m T U (goesL T U m c d) := by
  obtain ⟨e1, e2⟩ := rowC_eq.1 h
  have hmn : m = n := by rw [← conn_len hs h1 hc, e1, conn_len hu h2 hd]
  have hl : T.length = U.length := by rw [← conn_tri hs h1 hc, ← rootT_len, e2, rootT_len, conn_tri hu h2 hd]
  refine ⟨hmn, hl, ⟨by simp [goesL], ?_, fun v hv => ?_, fun x hx => ?_⟩⟩
  · unfold goesL
    refine nodup_mapI (fun a ha b hb e => ?_) List.nodup_range
    have ha := (conn_rootO hs h1 hc (a : Int)).2 ⟨by omega, by have := List.mem_range.1 ha; omega⟩
    have hb := (conn_rootO hs h1 hc (b : Int)).2 ⟨by omega, by have := List.mem_range.1 hb; omega⟩
    have la := List.idxOf_lt_length_iff.2 ha
    have lb := List.idxOf_lt_length_iff.2 hb
    unfold goesTo at e
    rw [List.getD_eq_getElem?_getD, List.getD_eq_getElem?_getD, List.getElem?_eq_getElem (show _ < (rootO U d).length by omega), List.getElem?_eq_getElem (show _ < (rootO U d).length by omega)] at e
    simp only [Option.getD_some] at e
    have := nodup_at (oldC_nd _) _ _ e
    have e3 := getD_idxOf ha
    rw [this, getD_idxOf hb] at e3
    omega
  · unfold goesL at hv
    obtain ⟨k, hk, rfl⟩ := List.mem_map.1 hv
    have ha := (conn_rootO hs h1 hc (k : Int)).2 ⟨by omega, by have := List.mem_range.1 hk; omega⟩
    have la := List.idxOf_lt_length_iff.2 ha
    have : goesTo T U c d (k : Int) ∈ rootO U d := by
      unfold goesTo
      rw [List.getD_eq_getElem?_getD, List.getElem?_eq_getElem (show _ < (rootO U d).length by omega), Option.getD_some]
      exact List.getElem_mem _
    rw [hmn]
    exact (conn_rootO hu h2 hd _).1 this
  · obtain ⟨y, hy, _, g1, g2, g3⟩ := shape_tri hs hu hc hd e2 hx (conn_re hs h1 (by omega) (by omega))
    refine ⟨y, hy, ?_, ?_, ?_⟩
    · rw [g1, goesL_at (cv_bd hs hx)]
    · rw [g2, goesL_at (cv_bd hs (nxc_lt hx))]
    · rw [g3, goesL_at (cv_bd hs (pvc_lt hx))]
theorem good_iff {P : List Tri} {b c : Nat} : goodC P ((rootO P b).length : Int) (rootT P b) c = true ↔ rowC P c = rowC P b := by
  unfold goodC
  rw [decide_eq_true_iff, rowC_eq]
  constructor
  · rintro ⟨a, b⟩; exact ⟨by omega, b⟩
  · rintro ⟨a, b⟩; exact ⟨by omega, b⟩
theorem ways_le (hs : SurfE m T) {i j : Nat} (hi : i < kN T) (hj : j < kN T) (h : alikeK (kindV (partOf T i)) (kindV (partOf T j)) = true) : (kindV (partOf T i)).ws.length ≤ (kindV (partOf T j)).ws.length := by
  obtain ⟨e1, e2⟩ := alike_eq.1 h
  have si := (part_sub hs i).surf
  have sj := (part_sub hs j).surf
  rw [← part_t] at si sj
  have ci := part_conn hs hi
  have cj := part_conn hs hj
  have bi := (bestN_is (T := (partOf T i).t) (k := 0) (by rw [ci]; omega)).2.lt
  have bj := (bestN_is (T := (partOf T j).t) (k := 0) (by rw [cj]; omega)).2.lt
  have hrow : rowC (partOf T i).t (bestN (partOf T i).t 0) = rowC (partOf T j).t (bestN (partOf T j).t 0) := by
    rw [rowC_eq]
    unfold kindV at e1 e2
    dsimp only at e1 e2
    exact ⟨by omega, e2⟩
  obtain ⟨hm, hl, hiso⟩ := conn_iso si ci sj cj bi bj hrow
  rw [← hm] at sj
  obtain ⟨f, hf, _, _⟩ := hiso.emb si sj hl
  unfold kindV waysTo
  dsimp only
  rw [List.length_map, List.length_map]
  have hsub : ∀ x ∈ ((List.range (3 * (partOf T i).t.length)).filter (goodC (partOf T i).t (rootO (partOf T i).t (bestN (partOf T i).t 0)).length (rootT (partOf T i).t (bestN (partOf T i).t 0)))).map f, x ∈ (List.range (3 * (partOf T j).t.length)).filter (goodC (partOf T j).t (rootO (partOf T j).t (bestN (partOf T j).t 0)).length (rootT (partOf T j).t (bestN (partOf T j).t 0))) := fun x hx => by
    obtain ⟨c, hc, rfl⟩ := List.mem_map.1 hx
    obtain ⟨hc, hg⟩ := List.mem_filter.1 hc
    have hc := List.mem_range.1 hc
    refine List.mem_filter.2 ⟨List.mem_range.2 (hf.lt c hc), good_iff.2 ?_⟩
    rw [hf.rowC hc, good_iff.1 hg, hrow]
  have hnd : (((List.range (3 * (partOf T i).t.length)).filter (goodC (partOf T i).t (rootO (partOf T i).t (bestN (partOf T i).t 0)).length (rootT (partOf T i).t (bestN (partOf T i).t 0)))).map f).Nodup :=
    nodup_mapI (fun a ha b hb e => hf.inj a b (List.mem_range.1 (List.mem_filter.1 ha).1) (List.mem_range.1 (List.mem_filter.1 hb).1) e) (List.Pairwise.filter _ List.nodup_range)
  have := len_sub hnd hsub
  rw [List.length_map] at this
  exact this
theorem ways_same (hs : SurfE m T) : ∀ a ∈ kindsL T (kN T), ∀ b ∈ kindsL T (kN T), alikeK a b = true → a.ws.length = b.ws.length := fun a ha b hb h => by
  obtain ⟨i, hi, rfl⟩ := kinds_mem.1 ha
  obtain ⟨j, hj, rfl⟩ := kinds_mem.1 hb
  exact Nat.le_antisymm (ways_le hs hi hj h) (ways_le hs hj hi (alike_eq.2 ⟨(alike_eq.1 h).1.symm, (alike_eq.1 h).2.symm⟩))
/-- What order tells is how many rows there are. -/
theorem allR_len (hs : SurfE m T) {o : Nat} (h : orderN (kindsL T (kN T)) (kN T) = some o) : (allR m T).length = o := by
  have hl := kindsL_len T (kN T)
  obtain ⟨ts, e, _⟩ := goR_paths (ks := kindsL T (kN T)) (kN T) 0 (fun _ => false) (by omega) [] (List.replicate m 0)
  have hp := orderN_prod (ks := kindsL T (kN T)) (by omega) h
  rw [show (kindsL T (kN T)).take (kN T) = kindsL T (kN T) from List.take_of_length_le (by omega)] at hp
  unfold allR
  rw [e]
  simp only [List.nil_append, List.length_map]
  rw [paths_count (ways_same hs) (kN T) 0 (fun _ => false) (by omega) (fun k => usedN_none k), hp]
  rfl
end
end Go.Proofs.YtiajlmajenabiaaGreat
