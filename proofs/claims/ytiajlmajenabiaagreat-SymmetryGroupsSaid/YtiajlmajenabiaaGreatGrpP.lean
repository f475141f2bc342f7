/- Renumberings of a surface onto itself are a group, and the least one leaves all: plain. No condition. -/
import Derived.Test.YtiajlmajenabiaaGreatOntoP
namespace Go.Proofs.YtiajlmajenabiaaGreat
open Go.RowKit

set_option linter.unusedSimpArgs false
set_option linter.unusedVariables false
/-- All stays. -/
def idL (m : Nat) : List Int := (List.range m).map fun (v : Nat) => (v : Int)
theorem idL_len (m : Nat) : (idL m).length = m := by simp [idL]
theorem idL_at {m i : Nat} (h : i < m) : (idL m).getD i 0 = (i : Int) := by
  unfold idL
  rw [List.getD_eq_getElem?_getD, List.getElem?_map, List.getElem?_range h]
  rfl
theorem gS_id {m : Nat} {v : Int} (h : 0 ≤ v ∧ v < (m : Int)) : gS (idL m) v = v := by
  unfold gS
  rw [idL_at (by omega)]
  omega
section
variable {m : Nat} {T U V : List Tri} {a b : List Int}
theorem id_iso (hs : SurfE m T) : IsoL m T T (idL m) := by
  refine ⟨idL_len m, ?_, fun v hv => ?_, fun x hx => ⟨x, hx, ?_, ?_, ?_⟩⟩
  · unfold idL
    exact nodup_mapI (fun a _ b _ e => by omega) List.nodup_range
  · obtain ⟨i, hi, rfl⟩ := List.mem_map.1 hv
    have := List.mem_range.1 hi
    omega
  · rw [gS_id (cv_bd hs hx)]
  · rw [gS_id (cv_bd hs (nxc_lt hx))]
  · rw [gS_id (cv_bd hs (pvc_lt hx))]
theorem gS_comp {v : Int} (h0 : 0 ≤ v) (h1 : v < (a.length : Int)) : gS (compL a b) v = gS b (gS a v) := by
  unfold compL gS
  have hl : v.toNat < a.length := by omega
  rw [List.getD_eq_getElem?_getD, List.getElem?_map, List.getD_eq_getElem?_getD (l := a), List.getElem?_eq_getElem hl]
  rfl
theorem comp_iso (ha : IsoL m T U a) (hb : IsoL m U V b) (hs : SurfE m T) : IsoL m T V (compL a b) := by
  have hl : (compL a b).length = m := by unfold compL; rw [List.length_map, ha.len]
  refine ⟨hl, ?_, fun v hv => ?_, fun x hx => ?_⟩
  · unfold compL
    exact nodup_mapI (fun x hx y hy e => hb.inj (ha.bd x hx) (ha.bd y hy) e) ha.nd
  · unfold compL at hv
    obtain ⟨x, hx, rfl⟩ := List.mem_map.1 hv
    obtain ⟨h1, h2⟩ := ha.bd x hx
    refine hb.bd _ ?_
    obtain ⟨h3, h4⟩ := gS_at (rn := b) h1 (by rw [hb.len]; exact h2)
    unfold gS at h4
    rw [h4]
    exact List.getElem_mem _
  · obtain ⟨y, hy, h1, h2, h3⟩ := ha.tri x hx
    obtain ⟨z, hz, h4, h5, h6⟩ := hb.tri y hy
    have key : ∀ {c : Nat}, c < 3 * T.length → gS (compL a b) (cv T c) = gS b (gS a (cv T c)) := fun {c} hc => by
      have := cv_bd hs hc
      exact gS_comp this.1 (by rw [ha.len]; exact this.2)
    refine ⟨z, hz, ?_, ?_, ?_⟩
    · rw [key hx, ← h1, h4]
    · rw [key (nxc_lt hx), ← h2, h5]
    · rw [key (pvc_lt hx), ← h3, h6]
/-- None stands ahead of that which leaves all. -/
theorem id_least {rn : List Int} (hl : rn.length = m) (hn : rn.Nodup) (hb : ∀ v ∈ rn, 0 ≤ v ∧ v < (m : Int)) : ¬ ltL rn (idL m) := by
  have key : ∀ d k, k + d = m → (∀ j, j < k → rn.getD j 0 = (j : Int)) → ¬ ltL (rn.drop k) ((idL m).drop k) := by
    intro d
    induction d with
    | zero =>
      intro k hk _
      have e : (idL m).drop k = [] := List.drop_eq_nil_of_le (by rw [idL_len]; omega)
      rw [e]
      exact ltL_nil
    | succ d ih =>
      intro k hk hj h
      have hk1 : k < rn.length := by omega
      have hk2 : k < (idL m).length := by rw [idL_len]; omega
      rw [List.drop_eq_getElem_cons hk1, List.drop_eq_getElem_cons hk2, ltL_cc] at h
      have e1 : (idL m)[k] = (k : Int) := by
        have := idL_at (m := m) (i := k) (by omega)
        rw [List.getD_eq_getElem?_getD, List.getElem?_eq_getElem hk2] at this
        exact this
      have e2 : rn.getD k 0 = rn[k] := by rw [List.getD_eq_getElem?_getD, List.getElem?_eq_getElem hk1, Option.getD_some]
      rw [e1] at h
      rcases h with h | ⟨h1, h2⟩
      · have h0 := (hb rn[k] (List.getElem_mem hk1)).1
        have hjl : rn[k].toNat < rn.length := by omega
        have h3 := hj rn[k].toNat (by omega)
        rw [List.getD_eq_getElem?_getD, List.getElem?_eq_getElem hjl, Option.getD_some] at h3
        have := nodup_at hn hjl hk1 (by omega)
        omega
      · refine ih (k + 1) (by omega) (fun j hj' => ?_) h2
        rcases Nat.lt_succ_iff_lt_or_eq.1 hj' with h4 | h4
        · exact hj j h4
        · rw [h4, e2, h1]
  have := key m 0 (by omega) (fun j hj => by omega)
  simpa using this
/-- The rows that All tells are a group, and the first one leaves all. -/
theorem all_group (hs : SurfE m T) {ws : List (List Int)} (hp : ws.Perm (allR m T)) (ho : ws.Pairwise fun x y => ¬ ltL y x) :
    GroupI (m : Int) ws ∧ ¬ GroupI ((m : Int) + 1) ws ∧ ∃ l, ws = idL m :: l := by
  have hm : ∀ a, a ∈ ws ↔ IsoL m T T a := fun a => by rw [hp.mem_iff, allR_iff hs]
  have hid := (hm _).2 (id_iso hs)
  have hperm : ∀ a ∈ ws, PermI (m : Int) a := fun a ha => by
    have := (hm a).1 ha
    exact ⟨by rw [this.len], this.bd, this.nd⟩
  refine ⟨⟨by omega, List.ne_nil_of_mem hid, hperm, hp.nodup_iff.2 (allR_nd hs), fun a ha b hb => (hm _).2 (comp_iso ((hm a).1 ha) ((hm b).1 hb) hs)⟩, fun h => ?_, ?_⟩
  · have := (h.2.2.1 _ hid).1
    rw [idL_len] at this
    omega
  · cases ws with
    | nil => cases hid
    | cons x l =>
      refine ⟨l, ?_⟩
      have hx := (hm x).1 List.mem_cons_self
      have h1 := id_least hx.len hx.nd hx.bd
      rw [List.pairwise_cons] at ho
      rcases List.mem_cons.1 hid with e | hid
      · rw [e]
      · have h2 := ho.1 _ hid
        rcases ltL_tri x (idL m) with h | h | h
        · exact absurd h h1
        · rw [h]
        · exact absurd h h2
theorem allR_pos (hs : SurfE m T) : 0 < (allR m T).length := List.length_pos_of_mem ((allR_iff hs _).2 (id_iso hs))
end
end Go.Proofs.YtiajlmajenabiaaGreat
