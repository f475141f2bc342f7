/- Seams: plain words and laws. No condition. -/
import Derived.Test.YtdpgbccgngdapaaCorP
namespace Go.Proofs.Ytdpgbccgngdapaa
open Go.RowKit

set_option linter.unusedSimpArgs false
set_option linter.unusedVariables false
/-- May values be those of a surface of so many triangles? -/
def okK (n : Nat) (K : List Int) : Prop := K = [] ∨ (K.length = 3 * n ∧ ∀ x ∈ K, 0 ≤ x ∧ x ≤ 65535)
def kval (K : List Int) (c : Nat) : Int := K.getD c 0
/-- Do values part at the edge that a corner faces? -/
def partsB (T : List Tri) (K : List Int) (c : Nat) : Bool := match oppF T c with
  | none => false
  | some o => decide (K ≠ []) && ((kval K (nxc c) != kval K (pvc o)) || (kval K (pvc c) != kval K (nxc o)))
def seamB (T : List Tri) (K : List Int) (c : Nat) : Bool := decide ((ce T c).1 < (ce T c).2) && partsB T K c
/-- The seams of the first n corners. -/
def seamsN (T : List Tri) (K : List Int) (n : Nat) : List (Int × Int) := ((List.range n).filter (seamB T K)).map (ce T)
theorem nodup_map_on {α β : Type} {l : List α} {f : α → β} (hn : l.Nodup) (h : ∀ x ∈ l, ∀ y ∈ l, f x = f y → x = y) : (l.map f).Nodup := by
  induction l with
  | nil => exact List.nodup_nil
  | cons x l ih =>
    rw [List.nodup_cons] at hn
    rw [List.map_cons, List.nodup_cons]
    refine ⟨fun hm => ?_, ih hn.2 fun a ha b hb => h a (List.mem_cons_of_mem _ ha) b (List.mem_cons_of_mem _ hb)⟩
    obtain ⟨y, hy, e⟩ := List.mem_map.1 hm
    exact hn.1 (h y (List.mem_cons_of_mem _ hy) x (by simp) e ▸ hy)
theorem seamsN_step (T : List Tri) (K : List Int) (n : Nat) : seamsN T K (n + 1) = seamsN T K n ++ (if seamB T K n then [ce T n] else []) := by
  unfold seamsN
  rw [List.range_succ, List.filter_append, List.map_append]
  cases h : seamB T K n <;> simp [h]
theorem seamsN_mem {T : List Tri} {K : List Int} {n : Nat} {e : Int × Int} : e ∈ seamsN T K n ↔ ∃ c, c < n ∧ seamB T K c = true ∧ ce T c = e := by
  unfold seamsN
  rw [List.mem_map]
  constructor
  · rintro ⟨c, hc, he⟩
    rw [List.mem_filter, List.mem_range] at hc
    exact ⟨c, hc.1, hc.2, he⟩
  · rintro ⟨c, h1, h2, h3⟩
    exact ⟨c, List.mem_filter.2 ⟨List.mem_range.2 h1, h2⟩, h3⟩
theorem seamsN_len (T : List Tri) (K : List Int) (n : Nat) : (seamsN T K n).length ≤ n := by
  unfold seamsN
  rw [List.length_map]
  exact Nat.le_trans (List.length_filter_le _ _) (by rw [List.length_range]; exact Nat.le_refl _)
theorem kval_at {K : List Int} {c : Nat} (h : c < K.length) : K[c]? = some (kval K c) := by
  unfold kval
  rw [List.getD_eq_getElem?_getD, List.getElem?_eq_getElem h]
  rfl
theorem kval_map {K : List Int} {f : Int → Int} {c : Nat} (h : c < K.length) : kval (K.map f) c = f (kval K c) := by
  unfold kval
  rw [List.getD_eq_getElem?_getD, List.getD_eq_getElem?_getD, List.getElem?_map, List.getElem?_eq_getElem h]
  rfl
theorem kval_set {K : List Int} {i : Nat} {v : Int} {c : Nat} (h : c ≠ i) : kval (K.set i v) c = kval K c := by
  unfold kval
  rw [List.getD_eq_getElem?_getD, List.getD_eq_getElem?_getD, List.getElem?_set_ne (Ne.symm h)]
theorem nxc_pvc (c : Nat) : nxc (pvc c) = c := by unfold pvc nxc; omega
section
variable {m : Nat} {T : List Tri} {K : List Int}
theorem oppF_lt {c d : Nat} (h : oppF T c = some d) : d < 3 * T.length := (facing_some h).1
/-- Unlike values to unlike ones. -/
theorem parts_map {f : Int → Int} (hK : okK T.length K) (hf : ∀ x ∈ K, ∀ y ∈ K, f x = f y → x = y) {c : Nat} (hc : c < 3 * T.length) : partsB T (K.map f) c = partsB T K c := by
  unfold partsB
  cases ho : oppF T c with
  | none => rfl
  | some o =>
    have hol := oppF_lt ho
    rcases hK with rfl | ⟨hl, hv⟩
    · rfl
    · have h1 := nxc_lt hc
      have h2 := pvc_lt hc
      have h3 := nxc_lt hol
      have h4 := pvc_lt hol
      have hm : ∀ i, i < 3 * T.length → kval K i ∈ K := fun i hi => List.mem_of_getElem? (kval_at (by rw [hl]; exact hi))
      simp only
      rw [kval_map (by omega), kval_map (by omega), kval_map (by omega), kval_map (by omega)]
      have hne : ∀ i j, i < 3 * T.length → j < 3 * T.length → (f (kval K i) != f (kval K j)) = (kval K i != kval K j) := fun i j hi hj => by
        rw [Bool.eq_iff_iff, bne_iff_ne, bne_iff_ne]
        exact ⟨fun h e => h (by rw [e]), fun h e => h (hf _ (hm i hi) _ (hm j hj) e)⟩
      rw [hne _ _ h1 h4, hne _ _ h2 h3]
      congr 1
      rw [Bool.eq_iff_iff, decide_eq_true_eq, decide_eq_true_eq]
      exact not_congr List.map_eq_nil_iff
theorem seams_map {f : Int → Int} (hK : okK T.length K) (hf : ∀ x ∈ K, ∀ y ∈ K, f x = f y → x = y) : seamsN T (K.map f) (3 * T.length) = seamsN T K (3 * T.length) := by
  unfold seamsN
  congr 1
  refine List.filter_congr fun c hc => ?_
  unfold seamB
  rw [parts_map hK hf (List.mem_range.1 hc)]
/-- Where one value alone is another one, seams are others at two edges alone. -/
theorem parts_set {i : Nat} {v : Int} {c : Nat} (hne : partsB T (K.set i v) c ≠ partsB T K c) : ∃ o, oppF T c = some o ∧ (i = nxc c ∨ i = pvc c ∨ i = nxc o ∨ i = pvc o) := by
  unfold partsB at hne
  cases ho : oppF T c with
  | none => rw [ho] at hne; exact absurd rfl hne
  | some o =>
    refine ⟨o, rfl, ?_⟩
    rw [ho] at hne
    by_cases h1 : i = nxc c
    · exact .inl h1
    by_cases h2 : i = pvc c
    · exact .inr (.inl h2)
    by_cases h3 : i = nxc o
    · exact .inr (.inr (.inl h3))
    by_cases h4 : i = pvc o
    · exact .inr (.inr (.inr h4))
    exfalso
    apply hne
    simp only
    rw [kval_set (Ne.symm h1), kval_set (Ne.symm h2), kval_set (Ne.symm h3), kval_set (Ne.symm h4)]
    congr 1
    rw [Bool.eq_iff_iff, decide_eq_true_eq, decide_eq_true_eq]
    exact not_congr (by rw [← List.length_eq_zero_iff, List.length_set, List.length_eq_zero_iff])
theorem one_law (hs : SurfE m T) {i : Nat} {v : Int} {c : Nat} (hc : c < 3 * T.length) (hne : partsB T (K.set i v) c ≠ partsB T K c) :
    ce T c = ce T (nxc i) ∨ ce T c = ce T (pvc i) ∨ ((ce T c).2, (ce T c).1) = ce T (nxc i) ∨ ((ce T c).2, (ce T c).1) = ce T (pvc i) := by
  obtain ⟨o, ho, h⟩ := parts_set hne
  have hb := (opp_back hs hc ho).2.1
  rcases h with rfl | rfl | rfl | rfl
  · exact .inr (.inl (by rw [pvc_nxc]))
  · exact .inl (by rw [nxc_pvc])
  · exact .inr (.inr (.inr (by rw [pvc_nxc, hb])))
  · exact .inr (.inr (.inl (by rw [nxc_pvc, hb])))
theorem seams_one (hs : SurfE m T) {i : Nat} {v : Int} {e : Int × Int} {K1 K2 : List Int} (hK : K1 = K.set i v ∧ K2 = K ∨ K1 = K ∧ K2 = K.set i v) (h1 : e ∈ seamsN T K1 (3 * T.length)) (h2 : ¬ e ∈ seamsN T K2 (3 * T.length)) :
    e = ce T (nxc i) ∨ e = ce T (pvc i) ∨ (e.2, e.1) = ce T (nxc i) ∨ (e.2, e.1) = ce T (pvc i) := by
  obtain ⟨c, hc, hb, rfl⟩ := seamsN_mem.1 h1
  have hne : partsB T K1 c ≠ partsB T K2 c := fun e => h2 (seamsN_mem.2 ⟨c, hc, by unfold seamB at hb ⊢; rw [← e]; exact hb, rfl⟩)
  rcases hK with ⟨rfl, rfl⟩ | ⟨rfl, rfl⟩
  · exact one_law hs hc hne
  · exact one_law hs hc (Ne.symm hne)
/-- Both sides tell the same. -/
theorem parts_opp (hs : SurfE m T) {c o : Nat} (hc : c < 3 * T.length) (ho : oppF T c = some o) : partsB T K o = partsB T K c := by
  have hb := opp_back hs hc ho
  unfold partsB
  rw [ho, hb.2.2.1]
  simp only
  congr 1
  rw [Bool.or_comm]
  congr 1
  · rw [bne_comm]
  · rw [bne_comm]
theorem ce_ne (hs : SurfE m T) {c : Nat} (hc : c < 3 * T.length) : (ce T c).1 ≠ (ce T c).2 := by
  have hq : c / 3 < T.length := by omega
  have h := tri_ok hs hq
  have h1 := h.ab
  have h2 := h.bc
  have h3 := h.ca
  rw [ce_ct]
  unfold ct
  have hr := Nat.mod_lt c (show 0 < 3 by omega)
  generalize c % 3 = r at *
  rcases (by omega : r = 0 ∨ r = 1 ∨ r = 2) with rfl | rfl | rfl
  · exact h2
  · exact h3
  · exact h1
theorem seams_nodup (hs : SurfE m T) : (seamsN T K (3 * T.length)).Nodup := by
  unfold seamsN
  refine nodup_map_on (List.nodup_range.filter _) ?_
  intro x hx y hy e
  rw [List.mem_filter, List.mem_range] at hx hy
  exact ce_inj hs hx.1 hy.1 e
end
end Go.Proofs.Ytdpgbccgngdapaa
