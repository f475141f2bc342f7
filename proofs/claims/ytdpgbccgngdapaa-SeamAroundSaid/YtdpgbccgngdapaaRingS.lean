/- Seams around a vertex: plain laws. No condition. -/
import Derived.Test.YtdpgbccgngdapaaRingP
import Derived.Test.YtdpgbccgngdapaaSmP
namespace Go.Proofs.Ytdpgbccgngdapaa
open Go.RowKit

set_option linter.unusedSimpArgs false
set_option linter.unusedVariables false
theorem Run.step {f : Nat → Option Nat} {s : Nat} : ∀ {L : List Nat} {c : Nat}, Run f s L c → ∀ i x y, L[i]? = some x → L[i + 1]? = some y → f x = some y
  | [x], c, h, i, u, v, hu, hv => by simp at hv
  | x :: z :: L, c, h, 0, u, v, hu, hv => by
    obtain ⟨rfl, h1, h2, h3⟩ := h
    simp at hu hv
    rw [← hu, ← hv]; exact h1
  | x :: z :: L, c, h, i + 1, u, v, hu, hv => Run.step h.2.2.2 i u v (by simpa using hu) (by simpa using hv)
theorem lastN_at : ∀ {L : List Nat} {c : Nat}, L ≠ [] → L[L.length - 1]? = some (lastN L c)
  | [x], c, _ => rfl
  | x :: y :: L, c, _ => by
    have := lastN_at (L := y :: L) (c := x) (by simp)
    simpa [lastN] using this
section
variable {m : Nat} {T : List Tri} {K : List Int}
/-- Where values part behind a corner there is a seam. -/
theorem seam_aft (hs : SurfE m T) (hK : K ≠ []) {a d : Nat} (h : aftF T a = some d) (hne : kval K d ≠ kval K a) : (min (cv T d) (cv T (nxc d)), max (cv T d) (cv T (nxc d))) ∈ seamsN T K (3 * T.length) := by
  obtain ⟨ha, o, ho, rfl⟩ := aft_some h
  obtain ⟨ho3, hce, _, _⟩ := opp_back hs (nxc_lt ha) ho
  have hp : partsB T K (nxc a) = true := by
    unfold partsB
    rw [ho]
    simp only [Bool.and_eq_true, Bool.or_eq_true, decide_eq_true_eq, bne_iff_ne]
    exact ⟨hK, .inr (by rw [pvc_nxc]; exact fun e => hne e.symm)⟩
  have hpo := (parts_opp (K := K) hs (nxc_lt ha) ho).trans hp
  have hco : ce T o = (cv T (nxc o), cv T (nxc (nxc o))) := by unfold ce; rw [nxc_nxc]
  have hca : ce T (nxc a) = (cv T (nxc (nxc o)), cv T (nxc o)) := by rw [hco] at hce; injection hce with h1 h2; rw [h1, h2]
  have hno := ce_ne hs ho3
  rw [hco] at hno
  simp only at hno
  by_cases hlt : cv T (nxc o) < cv T (nxc (nxc o))
  · rw [Int.min_eq_left (by omega), Int.max_eq_right (by omega)]
    refine seamsN_mem.2 ⟨o, ho3, ?_, hco⟩
    unfold seamB
    rw [hpo, hco, Bool.and_true, decide_eq_true_eq]
    exact hlt
  · rw [Int.min_eq_right (by omega), Int.max_eq_left (by omega)]
    refine seamsN_mem.2 ⟨nxc a, nxc_lt ha, ?_, hca⟩
    unfold seamB
    rw [hp, hca, Bool.and_true, decide_eq_true_eq]
    simp only
    omega
/-- How many times values change as one goes around. -/
def PartsI (q0 cur : Int) (p : Int) : Prop := (p = 0 ∧ cur = q0) ∨ (p = 1 ∧ cur ≠ q0) ∨ 2 ≤ p
theorem PartsI.start (q0 : Int) : PartsI q0 q0 0 := .inl ⟨rfl, rfl⟩
theorem PartsI.same {q0 cur p x : Int} (h : PartsI q0 cur p) (e : x = cur) : PartsI q0 x p := e ▸ h
theorem PartsI.other {q0 cur p x : Int} (h : PartsI q0 cur p) (e : x ≠ cur) : PartsI q0 x (p + 1) := by
  rcases h with ⟨h1, h2⟩ | ⟨h1, h2⟩ | h
  · exact .inr (.inl ⟨by omega, by rw [← h2]; exact e⟩)
  · exact .inr (.inr (by omega))
  · exact .inr (.inr (by omega))
theorem PartsI.end_ {q0 p : Int} (h : PartsI q0 q0 p) : p ≠ 1 := by
  rcases h with ⟨h1, _⟩ | ⟨_, h2⟩ | h
  · omega
  · exact absurd rfl h2
  · omega
end
end Go.Proofs.Ytdpgbccgngdapaa
