/- Two shells that are alike from two corners: triangles go to triangles. Plain. No condition. -/
import Derived.Test.YtiajlmajenabiaaGreatWayA
namespace Go.Proofs.YtiajlmajenabiaaGreat
open Go.RowKit

set_option linter.unusedSimpArgs false
set_option linter.unusedVariables false
section
variable {m n : Nat} {T U : List Tri}
theorem putX_mem (o : List Int) (x : Nat) : cv T x ∈ putX T o x ∧ cv T (nxc x) ∈ putX T o x ∧ cv T (pvc x) ∈ putX T o x := by
  unfold putX
  have keep : ∀ (o : List Int) (v z : Int), z ∈ o → z ∈ putW o v := fun o v z h => by
    obtain ⟨l, e⟩ := putW_more o v
    rw [e]
    exact List.mem_append_left _ h
  exact ⟨keep _ _ _ (keep _ _ _ (putW_mem _ _)), keep _ _ _ (putW_mem _ _), putW_mem _ _⟩
theorem putW_iff {o : List Int} {v z : Int} : z ∈ putW o v ↔ z ∈ o ∨ z = v := by
  unfold putW
  split
  · rename_i h
    exact ⟨.inl, fun e => by rcases e with e | rfl; exact e; exact h⟩
  · rw [List.mem_append, List.mem_singleton]
theorem oldC_iff (cs : List Nat) (z : Int) : z ∈ oldC T cs ↔ ∃ x ∈ cs, z = cv T x ∨ z = cv T (nxc x) ∨ z = cv T (pvc x) := by
  unfold oldC
  have : ∀ (cs : List Nat) (o : List Int), z ∈ cs.foldl (putX T) o ↔ z ∈ o ∨ ∃ x ∈ cs, z = cv T x ∨ z = cv T (nxc x) ∨ z = cv T (pvc x) := by
    intro cs
    induction cs with
    | nil => intro o; simp
    | cons c cs ih =>
      intro o
      rw [List.foldl_cons, ih]
      unfold putX
      rw [putW_iff, putW_iff, putW_iff]
      simp only [List.mem_cons, exists_eq_or_imp]
      constructor
      · rintro ((((h | h) | h) | h) | h)
        · exact .inl h
        · exact .inr (.inl (.inl h))
        · exact .inr (.inl (.inr (.inl h)))
        · exact .inr (.inl (.inr (.inr h)))
        · exact .inr (.inr h)
      · rintro (h | (h | h | h) | h)
        · exact .inl (.inl (.inl (.inl h)))
        · exact .inl (.inl (.inl (.inr h)))
        · exact .inl (.inl (.inr h))
        · exact .inl (.inr h)
        · exact .inr h
  rw [this]
  simp
/-- The vertices of a shell. -/
theorem rootO_iff (hs : SurfE m T) {c : Nat} (hc : c < 3 * T.length) (z : Int) : z ∈ rootO T c ↔ ∃ x, x < 3 * T.length ∧ Re T (c / 3) (x / 3) ∧ cv T x = z := by
  unfold rootO
  rw [oldC_iff]
  constructor
  · rintro ⟨x, hx, h⟩
    have hl := (rootC_fi hc).lt x hx
    have hr := (rootC_re hs hc (x / 3)).1 (List.mem_map.2 ⟨x, hx, rfl⟩)
    rcases h with rfl | rfl | rfl
    · exact ⟨x, hl, hr, rfl⟩
    · exact ⟨nxc x, nxc_lt hl, by rw [nxc_div]; exact hr, rfl⟩
    · exact ⟨pvc x, pvc_lt hl, by rw [pvc_div]; exact hr, rfl⟩
  · rintro ⟨x, hl, hr, rfl⟩
    obtain ⟨y, hy, e⟩ := List.mem_map.1 ((rootC_re hs hc (x / 3)).2 hr)
    refine ⟨y, hy, ?_⟩
    rcases same_tri.1 (show y / 3 = x / 3 from e) with q | q | q
    · exact .inl (by rw [q])
    · exact .inr (.inl (by rw [q]))
    · exact .inr (.inr (by rw [q]))
/-- Where a vertex goes, if the one corner goes to the other one. -/
def goesTo (T U : List Tri) (c d : Nat) (v : Int) : Int := (rootO U d).getD ((rootO T c).idxOf v) 0
theorem getD_idxOf {o : List Int} {v : Int} (h : v ∈ o) : o.getD (o.idxOf v) 0 = v := by
  rw [List.getD_eq_getElem?_getD, List.getElem?_eq_getElem (List.idxOf_lt_length_iff.2 h), Option.getD_some]
  exact List.getElem_idxOf _
theorem shape_at (hs : SurfE m T) (hu : SurfE n U) {c d : Nat} (hc : c < 3 * T.length) (hd : d < 3 * U.length) (h : rootT T c = rootT U d) {x : Nat} (hx : x ∈ rootC T c) :
    ∃ y ∈ rootC U d, cv U y = goesTo T U c d (cv T x) ∧ cv U (nxc y) = goesTo T U c d (cv T (nxc x)) ∧ cv U (pvc y) = goesTo T U c d (cv T (pvc x)) := by
  obtain ⟨i, hi, rfl⟩ := List.getElem_of_mem hx
  have hlen : (rootC T c).length = (rootC U d).length := by rw [← rootT_len, ← rootT_len, h]
  have hi' : i < (rootC U d).length := by omega
  have e : (rootT T c)[i]? = (rootT U d)[i]? := by rw [h]
  unfold rootT at e
  rw [List.getElem?_map, List.getElem?_map, List.getElem?_eq_getElem hi, List.getElem?_eq_getElem hi'] at e
  simp only [Option.map_some, Option.some.injEq] at e
  have hy := List.getElem_mem hi'
  refine ⟨(rootC U d)[i], hy, ?_⟩
  unfold triR at e
  injection e with e1 e2 e3
  have m1 : cv U (rootC U d)[i] ∈ rootO U d := (oldC_iff _ _).2 ⟨_, hy, .inl rfl⟩
  have m2 : cv U (nxc (rootC U d)[i]) ∈ rootO U d := (oldC_iff _ _).2 ⟨_, hy, .inr (.inl rfl)⟩
  have m3 : cv U (pvc (rootC U d)[i]) ∈ rootO U d := (oldC_iff _ _).2 ⟨_, hy, .inr (.inr rfl)⟩
  unfold goesTo rootO
  rw [show (oldC T (rootC T c)).idxOf (cv T (rootC T c)[i]) = (oldC U (rootC U d)).idxOf (cv U (rootC U d)[i]) by omega, show (oldC T (rootC T c)).idxOf (cv T (nxc (rootC T c)[i])) = (oldC U (rootC U d)).idxOf (cv U (nxc (rootC U d)[i])) by omega, show (oldC T (rootC T c)).idxOf (cv T (pvc (rootC T c)[i])) = (oldC U (rootC U d)).idxOf (cv U (pvc (rootC U d)[i])) by omega]
  exact ⟨(getD_idxOf m1).symm, (getD_idxOf m2).symm, (getD_idxOf m3).symm⟩
/-- Each triangle of the one shell goes to one of the other one, the way round as it was. -/
theorem shape_tri (hs : SurfE m T) (hu : SurfE n U) {c d : Nat} (hc : c < 3 * T.length) (hd : d < 3 * U.length) (h : rootT T c = rootT U d) {x : Nat} (hx : x < 3 * T.length) (hr : Re T (c / 3) (x / 3)) :
    ∃ y, y < 3 * U.length ∧ Re U (d / 3) (y / 3) ∧ cv U y = goesTo T U c d (cv T x) ∧ cv U (nxc y) = goesTo T U c d (cv T (nxc x)) ∧ cv U (pvc y) = goesTo T U c d (cv T (pvc x)) := by
  obtain ⟨z, hz, e⟩ := List.mem_map.1 ((rootC_re hs hc (x / 3)).2 hr)
  obtain ⟨y, hy, h1, h2, h3⟩ := shape_at hs hu hc hd h hz
  have hl := (rootC_fi hd).lt y hy
  have hry := (rootC_re hu hd (y / 3)).1 (List.mem_map.2 ⟨y, hy, rfl⟩)
  rcases same_tri.1 (show z / 3 = x / 3 from e) with q | q | q
  · rw [q]
    exact ⟨y, hl, hry, h1, h2, h3⟩
  · rw [q]
    refine ⟨nxc y, nxc_lt hl, by rw [nxc_div]; exact hry, h2, ?_, ?_⟩
    · rw [nxc_nxc, nxc_nxc]; exact h3
    · rw [pvc_nxc, pvc_nxc]; exact h1
  · rw [q, ← nxc_nxc z]
    refine ⟨pvc y, pvc_lt hl, by rw [pvc_div]; exact hry, ?_, ?_, ?_⟩
    · rw [nxc_nxc]; exact h3
    · rw [← nxc_nxc y, nxc3, nxc3]; exact h1
    · rw [← nxc_nxc y, pvc_nxc, pvc_nxc]; exact h2
end
end Go.Proofs.YtiajlmajenabiaaGreat
