/- The plain law of gypsumref28.Known: the last corner written on the way down is the least. No condition. -/
import Derived.Test.YtcpfolojfdnojaaKnP
namespace Go.Proofs.Ytcpfolojfdnojaa
open Go.RowKit

set_option linter.unusedSimpArgs false
set_option linter.unusedVariables false
/-- The least corner at or behind c that tells v. -/
def dnF (T : List Tri) (v : Int) (c : Nat) : Option Nat := leastF (topB T v) c (3 * T.length - c)
def dnA (T : List Tri) (v : Int) (c : Nat) : Int := match dnF T v c with | none => -1 | some d => cv T (nxc d)
def dnB (T : List Tri) (v : Int) (c : Nat) : Int := match dnF T v c with | none => -1 | some d => cv T (pvc d)
theorem dn_end (T : List Tri) (v : Int) : dnA T v (3 * T.length) = -1 ∧ dnB T v (3 * T.length) = -1 := by
  unfold dnA dnB dnF
  rw [Nat.sub_self]
  exact ⟨rfl, rfl⟩
theorem dn_step {T : List Tri} (v : Int) {c : Nat} (h : c < 3 * T.length) : dnF T v c = if topB T v c then some c else dnF T v (c + 1) := by
  unfold dnF
  rw [show 3 * T.length - c = (3 * T.length - (c + 1)) + 1 by omega]
  rfl
theorem dn_yes {T : List Tri} {v : Int} {c : Nat} (h : c < 3 * T.length) (ht : topB T v c = true) : dnA T v c = cv T (nxc c) ∧ dnB T v c = cv T (pvc c) := by
  unfold dnA dnB
  rw [dn_step v h, ht]
  exact ⟨rfl, rfl⟩
theorem dn_no {T : List Tri} {v : Int} {c : Nat} (h : c < 3 * T.length) (ht : topB T v c = false) : dnA T v c = dnA T v (c + 1) ∧ dnB T v c = dnB T v (c + 1) := by
  unfold dnA dnB
  rw [dn_step v h, ht]
  exact ⟨rfl, rfl⟩
theorem known_dn {m : Nat} {T : List Tri} (hok : ∀ t ∈ T, TriOk m t) (v : Nat) :
    (dnA T (v : Int) 0 = -1 ∧ dnB T (v : Int) 0 = -1 ∧ known T v = ar0 (v : Int)) ∨
    (0 ≤ dnA T (v : Int) 0 ∧ known T v = ⟨(v : Int) - 1, dnA T (v : Int) 0, dnB T (v : Int) 0, overI T (dnB T (v : Int) 0) (dnA T (v : Int) 0) v,
      if overI T (dnB T (v : Int) 0) (dnA T (v : Int) 0) v < 0 then -1
      else if overI T (dnB T (v : Int) 0) (overI T (dnB T (v : Int) 0) (dnA T (v : Int) 0) v) v < 0 then overI T (overI T (dnB T (v : Int) 0) (dnA T (v : Int) 0) v) (dnA T (v : Int) 0) v
      else overI T (dnB T (v : Int) 0) (overI T (dnB T (v : Int) 0) (dnA T (v : Int) 0) v) v⟩) := by
  unfold dnA dnB dnF known knK
  rw [Nat.sub_zero]
  cases h : leastF (topB T (v : Int)) 0 (3 * T.length) with
  | none => exact .inl ⟨rfl, rfl, rfl⟩
  | some c =>
    obtain ⟨_, h2, h3, _⟩ := leastF_some h
    exact .inr ⟨(cv_ok hok (nxc_lt (show c < 3 * T.length by omega))).1, rfl⟩
end Go.Proofs.Ytcpfolojfdnojaa
