/- Renumberings of a surface onto another one: plain. No condition. -/
import Derived.Test.YtiajlmajenabiaaGreatWayB
namespace Go.Proofs.YtiajlmajenabiaaGreat
open Go.RowKit

set_option linter.unusedSimpArgs false
set_option linter.unusedVariables false
/-- A triangle goes to a triangle, from some corner on. -/
def GoesC (T U : List Tri) (g : Int → Int) (x y : Nat) : Prop := cv U y = g (cv T x) ∧ cv U (nxc y) = g (cv T (nxc x)) ∧ cv U (pvc y) = g (cv T (pvc x))
/-- A renumbering that takes each triangle to a triangle. -/
structure IsoL (m : Nat) (T U : List Tri) (rn : List Int) : Prop where
  len : rn.length = m
  nd : rn.Nodup
  bd : ∀ v ∈ rn, 0 ≤ v ∧ v < (m : Int)
  tri : ∀ x, x < 3 * T.length → ∃ y, y < 3 * U.length ∧ GoesC T U (gS rn) x y
theorem onto_of {N : Nat} {f : Nat → Nat} (hlt : ∀ x, x < N → f x < N) (hinj : ∀ x y, x < N → y < N → f x = f y → x = y) {y : Nat} (hy : y < N) : ∃ x, x < N ∧ f x = y := by
  apply Classical.byContradiction
  intro hno
  have hnd : (y :: (List.range N).map f).Nodup := by
    rw [List.nodup_cons]
    refine ⟨fun hm => ?_, ?_⟩
    · obtain ⟨x, hx, e⟩ := List.mem_map.1 hm
      exact hno ⟨x, List.mem_range.1 hx, e⟩
    · unfold List.Nodup
      rw [List.pairwise_map]
      refine (List.Pairwise.and_mem.1 (List.nodup_range (n := N))).imp ?_
      rintro a b ⟨ha, hb, hab⟩ e
      exact hab (hinj a b (List.mem_range.1 ha) (List.mem_range.1 hb) e)
  have := nodup_leN N hnd fun x hx => by
    rcases List.mem_cons.1 hx with rfl | hx
    · exact hy
    · obtain ⟨z, hz, rfl⟩ := List.mem_map.1 hx
      exact hlt z (List.mem_range.1 hz)
  rw [List.length_cons, List.length_map, List.length_range] at this
  omega
section
variable {m : Nat} {T U : List Tri} {rn : List Int}
theorem cv_bd (hs : SurfE m T) {x : Nat} (hx : x < 3 * T.length) : 0 ≤ cv T x ∧ cv T x < (m : Int) :=
  ok_verts (tri_ok hs (i := x / 3) (by omega)) (verts_corner.2 ⟨x % 3, Nat.mod_lt _ (by decide), rfl⟩)
theorem gS_at {v : Int} (h0 : 0 ≤ v) (h1 : v < (rn.length : Int)) : ∃ h : v.toNat < rn.length, gS rn v = rn[v.toNat] := by
  refine ⟨by omega, ?_⟩
  unfold gS
  rw [List.getD_eq_getElem?_getD, List.getElem?_eq_getElem (show v.toNat < rn.length by omega), Option.getD_some]
theorem nodup_at {l : List Int} (h : l.Nodup) {i j : Nat} (hi : i < l.length) (hj : j < l.length) (e : l[i] = l[j]) : i = j := by
  have hp := List.pairwise_iff_getElem.1 h
  rcases Nat.lt_trichotomy i j with h1 | h1 | h1
  · exact absurd e (hp i j hi hj h1)
  · exact h1
  · exact absurd e.symm (hp j i hj hi h1)
theorem IsoL.inj (h : IsoL m T U rn) {v w : Int} (hv : 0 ≤ v ∧ v < (m : Int)) (hw : 0 ≤ w ∧ w < (m : Int)) (e : gS rn v = gS rn w) : v = w := by
  obtain ⟨h1, e1⟩ := gS_at (rn := rn) hv.1 (by rw [h.len]; exact hv.2)
  obtain ⟨h2, e2⟩ := gS_at (rn := rn) hw.1 (by rw [h.len]; exact hw.2)
  rw [e1, e2] at e
  have := nodup_at h.nd h1 h2 e
  omega
theorem goes_nx {g : Int → Int} {x y : Nat} (h : GoesC T U g x y) : GoesC T U g (nxc x) (nxc y) := by
  obtain ⟨h1, h2, h3⟩ := h
  refine ⟨h2, ?_, ?_⟩
  · rw [nxc_nxc, nxc_nxc]; exact h3
  · rw [pvc_nxc, pvc_nxc]; exact h1
theorem goes_ce {g : Int → Int} {x y : Nat} (h : GoesC T U g x y) : ce U y = (g (ce T x).1, g (ce T x).2) := by
  unfold ce
  rw [h.2.1, h.2.2]
/-- Corners go to corners. -/
theorem IsoL.emb (h : IsoL m T U rn) (hs : SurfE m T) (hu : SurfE m U) (hl : T.length = U.length) : ∃ f : Nat → Nat, Emb T U f (gS rn) ∧ (∀ x, x < 3 * T.length → GoesC T U (gS rn) x (f x)) ∧ ∀ y, y < 3 * U.length → ∃ x, x < 3 * T.length ∧ f x = y := by
  have hch : ∃ f : Nat → Nat, ∀ x, x < 3 * T.length → f x < 3 * U.length ∧ GoesC T U (gS rn) x (f x) := by
    refine ⟨fun x => if hx : x < 3 * T.length then Classical.choose (h.tri x hx) else 0, fun x hx => ?_⟩
    dsimp only
    rw [dif_pos hx]
    exact Classical.choose_spec (h.tri x hx)
  obtain ⟨f, hf⟩ := hch
  have hce : ∀ x y, x < 3 * T.length → y < 3 * T.length → ce U (f x) = ce U (f y) → ce T x = ce T y := fun x y hx hy e => by
    rw [goes_ce (hf x hx).2, goes_ce (hf y hy).2] at e
    injection e with e1 e2
    exact Prod.ext (h.inj (cv_bd hs (nxc_lt hx)) (cv_bd hs (nxc_lt hy)) e1) (h.inj (cv_bd hs (pvc_lt hx)) (cv_bd hs (pvc_lt hy)) e2)
  have hinj : ∀ x y, x < 3 * T.length → y < 3 * T.length → f x = f y → x = y := fun x y hx hy e => ce_inj hs hx hy (hce x y hx hy (by rw [e]))
  have honto : ∀ y, y < 3 * U.length → ∃ x, x < 3 * T.length ∧ f x = y := fun y hy => by
    rw [← hl] at hy
    exact onto_of (fun x hx => by rw [hl]; exact (hf x hx).1) hinj hy
  refine ⟨f, ⟨by omega, fun c hc => (hf c hc).1, fun c hc => ?_, fun c hc => ?_, hinj, fun c hc => (hf c hc).2.1, fun c d hc hd e => h.inj (cv_bd hs hc) (cv_bd hs hd) e⟩, fun x hx => (hf x hx).2, honto⟩
  · have h1 := hf (nxc c) (nxc_lt hc)
    refine ce_inj hu h1.1 (nxc_lt (hf c hc).1) ?_
    rw [goes_ce h1.2, goes_ce (goes_nx (hf c hc).2)]
  · cases ho : oppF T c with
    | some o =>
      obtain ⟨h1, h2⟩ := facing_some ho
      show facingF U _ = some (f o)
      refine facing_is hu (hf o h1).1 ?_
      rw [goes_ce (hf o h1).2, goes_ce (hf c hc).2, h2]
    | none =>
      cases hU : oppF U (f c) with
      | none => rfl
      | some o' =>
        exfalso
        obtain ⟨h1, h2⟩ := facing_some hU
        obtain ⟨z, hz, rfl⟩ := honto o' h1
        rw [goes_ce (hf z hz).2, goes_ce (hf c hc).2] at h2
        injection h2 with e1 e2
        have a1 := h.inj (cv_bd hs (nxc_lt hz)) (cv_bd hs (pvc_lt hc)) e1
        have a2 := h.inj (cv_bd hs (pvc_lt hz)) (cv_bd hs (nxc_lt hc)) e2
        have := facing_is hs hz (show ce T z = ((ce T c).2, (ce T c).1) from Prod.ext a1 a2)
        unfold oppF at ho
        rw [this] at ho
        cases ho
end
end Go.Proofs.YtiajlmajenabiaaGreat
