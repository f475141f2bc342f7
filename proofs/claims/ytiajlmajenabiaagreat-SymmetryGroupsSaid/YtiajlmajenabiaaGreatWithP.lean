/- The triangle with a directed edge (gypsumref11.With): plain. No condition. -/
import Derived.Test.YtiajlmajenabiaaGreatWayK
namespace Go.Proofs.YtiajlmajenabiaaGreat
open Go.RowKit

set_option linter.unusedSimpArgs false
set_option linter.unusedVariables false
/-- The first triangle with a directed edge. -/
def withF (T : List Tri) (a b : Int) : Option Nat := leastF (fun i => edgeB (tri T i) a b) 0 T.length
/-- Is there one? -/
def hasW (T : List Tri) (a b : Int) : Bool := (withF T a b).isSome
section
variable {m n : Nat} {T U : List Tri}
theorem nxc_pvcW (c : Nat) : nxc (pvc c) = c := by unfold pvc nxc; omega
theorem ce_makeW {i r : Nat} (hr : r < 3) : ce T (3 * i + r) = ct (tri T i) r := by
  rw [ce_ct, show (3 * i + r) / 3 = i by omega, show (3 * i + r) % 3 = r by omega]
theorem withF_some (hs : SurfE m T) {a b : Int} {c : Nat} (hc : c < 3 * T.length) (he : ce T c = (a, b)) : withF T a b = some (c / 3) := by
  refine leastF_is (Nat.zero_le _) (by omega) ?_ fun i _ hi => ?_
  · have h1 := ct_edge (tri T (c / 3)) (Nat.mod_lt c (by omega : 0 < 3))
    rw [← ce_ct, he] at h1
    exact h1
  · cases hx : edgeB (tri T i) a b with
    | false => rfl
    | true =>
      obtain ⟨r, hr, e⟩ := edge_ct hx
      have h1 : ce T (3 * i + r) = ce T c := by rw [ce_makeW hr, e, he]
      have := ce_inj hs (by omega) hc h1
      omega
theorem withF_is {a b : Int} {i : Nat} (h : withF T a b = some i) : ∃ c, c < 3 * T.length ∧ c / 3 = i ∧ ce T c = (a, b) := by
  obtain ⟨_, h1, h2, _⟩ := leastF_some h
  obtain ⟨r, hr, e⟩ := edge_ct h2
  exact ⟨3 * i + r, by omega, by omega, by rw [ce_makeW hr, e]⟩
theorem hasW_iff (hs : SurfE m T) {a b : Int} : hasW T a b = true ↔ ∃ c, c < 3 * T.length ∧ ce T c = (a, b) := by
  unfold hasW
  rw [Option.isSome_iff_exists]
  constructor
  · rintro ⟨i, h⟩
    obtain ⟨c, h1, _, h2⟩ := withF_is h
    exact ⟨c, h1, h2⟩
  · rintro ⟨c, h1, h2⟩
    exact ⟨_, withF_some hs h1 h2⟩
/-- A triangle with two directed edges. -/
def isT (U : List Tri) (a b c : Int) : Bool := match withF U a b with
  | none => false
  | some i => decide (withF U b c = some i)
theorem cv_same (hs : SurfE m T) {x y : Nat} (hx : x < 3 * T.length) (h : x / 3 = y / 3) (e : cv T x = cv T y) : x = y := by
  have h0 := tri_ok hs (show x / 3 < T.length by omega)
  have h1 := h0.ab
  have h2 := h0.bc
  have h3 := h0.ca
  unfold cv at e
  rw [← h] at e
  have hr := Nat.mod_lt x (show 0 < 3 by omega)
  have hq := Nat.mod_lt y (show 0 < 3 by omega)
  have hm : 3 * (x / 3) + x % 3 = x := by omega
  have hm' : 3 * (x / 3) + y % 3 = y := by omega
  generalize x % 3 = r at *
  generalize y % 3 = s at *
  generalize x / 3 = q at *
  generalize tri T q = t at *
  have key : r = s := by
    rcases (by omega : r = 0 ∨ r = 1 ∨ r = 2) with rfl | rfl | rfl <;> rcases (by omega : s = 0 ∨ s = 1 ∨ s = 2) with rfl | rfl | rfl <;> first | rfl | (exfalso; simp [cornerT] at e; first | exact h1 e | exact h1 e.symm | exact h2 e | exact h2 e.symm | exact h3 e | exact h3 e.symm)
  omega
theorem isT_iff (hs : SurfE m U) {a b c : Int} : isT U a b c = true ↔ ∃ y, y < 3 * U.length ∧ cv U y = a ∧ cv U (nxc y) = b ∧ cv U (pvc y) = c := by
  constructor
  · intro h
    unfold isT at h
    split at h
    · cases h
    · rename_i i hi
      rw [decide_eq_true_iff] at h
      obtain ⟨p, hp, hpi, hpe⟩ := withF_is hi
      obtain ⟨q, hq, hqi, hqe⟩ := withF_is h
      unfold ce at hpe hqe
      injection hpe with p1 p2
      injection hqe with q1 q2
      have h1 : nxc q = pvc p := cv_same hs (nxc_lt hq) (by unfold nxc pvc; omega) (by rw [q1, p2])
      refine ⟨nxc p, nxc_lt hp, p1, ?_, ?_⟩
      · rw [nxc_nxc]; exact p2
      · rw [← q2]
        congr 1
        unfold nxc pvc at *
        omega
  · rintro ⟨y, hy, rfl, rfl, rfl⟩
    unfold isT
    have h1 : ce U (pvc y) = (cv U y, cv U (nxc y)) := by unfold ce; rw [nxc_pvcW, pvc_pvc]
    have h2 : ce U y = (cv U (nxc y), cv U (pvc y)) := rfl
    rw [withF_some hs (pvc_lt hy) h1, withF_some hs hy h2]
    dsimp only
    rw [decide_eq_true_iff]
    congr 1
    unfold pvc
    omega
end
end Go.Proofs.YtiajlmajenabiaaGreat
