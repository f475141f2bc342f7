/- What is around a vertex: below it, each once. Plain laws. -/
import Derived.Test.YtcpfolojfdnojaaKnB
import Derived.Test.YtcpfolojfdnojaaCorP
namespace Go.Proofs.Ytcpfolojfdnojaa
open Go.RowKit

set_option linter.unusedSimpArgs false
set_option linter.unusedVariables false
/-- Either nothing is around but the last one, or A and B, and then perhaps C, and then perhaps D. -/
def ArOk (v : Int) (x : Ar) : Prop :=
  x.l = v - 1 ∧ ((x.a = -1 ∧ x.b = -1 ∧ x.c = -1 ∧ x.d = -1) ∨
    ((0 ≤ x.a ∧ x.a < v) ∧ (0 ≤ x.b ∧ x.b < v) ∧ x.a ≠ x.b ∧ ((x.c = -1 ∧ x.d = -1) ∨ ((0 ≤ x.c ∧ x.c < v ∧ x.c ≠ x.a ∧ x.c ≠ x.b) ∧ (x.d = -1 ∨ (0 ≤ x.d ∧ x.d < v ∧ x.d ≠ x.c))))))
theorem cv_ne {m : Nat} {T : List Tri} (hok : ∀ t ∈ T, TriOk m t) {c : Nat} (hc : c < 3 * T.length) : cv T (nxc c) ≠ cv T (pvc c) ∧ cv T c ≠ cv T (nxc c) ∧ cv T c ≠ cv T (pvc c) := by
  have hq : c / 3 < T.length := by omega
  have ht : tri T (c / 3) ∈ T := by
    rw [tri_of (List.getElem?_eq_getElem hq)]
    exact List.getElem_mem hq
  have h := hok _ ht
  have hr := Nat.mod_lt c (show 0 < 3 by omega)
  unfold cv
  rw [nxc_div, pvc_div, nxc_mod, pvc_mod]
  have h1 := h.ab
  have h2 := h.bc
  have h3 := h.ca
  rw [show (c + 1) % 3 = (c % 3 + 1) % 3 by omega, show (c + 2) % 3 = (c % 3 + 2) % 3 by omega]
  generalize c % 3 = r at *
  rcases (by omega : r = 0 ∨ r = 1 ∨ r = 2) with rfl | rfl | rfl
  · exact ⟨h2, h1, Ne.symm h3⟩
  · exact ⟨h3, h2, Ne.symm h1⟩
  · exact ⟨h1, h3, Ne.symm h2⟩
theorem over_ok {m : Nat} {T : List Tri} (hok : ∀ t ∈ T, TriOk m t) {a b v : Int} : overI T a b v = -1 ∨ (0 ≤ overI T a b v ∧ overI T a b v < v ∧ overI T a b v ≠ a ∧ overI T a b v ≠ b) := by
  unfold overI
  split
  · exact .inl rfl
  · rename_i h
    have h1 : ¬ facingI T (a, b) < 0 := fun e => h (.inl e)
    have h2 : ¬ v ≤ vertexI T (facingI T (a, b)) := fun e => h (.inr e)
    cases hf : facingF T (a, b) with
    | none =>
      exfalso
      apply h1
      unfold facingI
      rw [hf]
      decide
    | some d =>
      obtain ⟨hd, he⟩ := facing_some hf
      have e1 : facingI T (a, b) = (d : Int) := by unfold facingI; rw [hf]; rfl
      rw [e1, vertexI_nat hd] at h2 ⊢
      have h3 := cv_ne hok hd
      have h4 := cv_ok hok hd
      unfold ce at he
      injection he with he1 he2
      rw [he1, he2] at h3
      exact .inr ⟨h4.1, by omega, h3.2.1, h3.2.2⟩
theorem known_ok {m : Nat} {T : List Tri} (hok : ∀ t ∈ T, TriOk m t) (v : Nat) : ArOk (v : Int) (known T v) := by
  unfold known knK
  cases h : leastF (topB T (v : Int)) 0 (3 * T.length) with
  | none => exact ⟨rfl, .inl ⟨rfl, rfl, rfl, rfl⟩⟩
  | some c =>
    obtain ⟨_, h2, h3, _⟩ := leastF_some h
    have hc : c < 3 * T.length := by omega
    unfold topB at h3
    rw [decide_eq_true_eq] at h3
    obtain ⟨h4, h5, h6⟩ := h3
    have o1 := cv_ok hok (nxc_lt hc)
    have o2 := cv_ok hok (pvc_lt hc)
    have o3 := cv_ne hok hc
    refine ⟨rfl, .inr ⟨⟨o1.1, h5⟩, ⟨o2.1, h6⟩, o3.1, ?_⟩⟩
    show (overI T (cv T (pvc c)) (cv T (nxc c)) v = -1 ∧ (if overI T (cv T (pvc c)) (cv T (nxc c)) v < 0 then (-1 : Int) else if overI T (cv T (pvc c)) (overI T (cv T (pvc c)) (cv T (nxc c)) v) v < 0 then overI T (overI T (cv T (pvc c)) (cv T (nxc c)) v) (cv T (nxc c)) v else overI T (cv T (pvc c)) (overI T (cv T (pvc c)) (cv T (nxc c)) v) v) = -1) ∨ _
    rcases over_ok (a := cv T (pvc c)) (b := cv T (nxc c)) (v := (v : Int)) hok with e | ⟨e1, e2, e3, e4⟩
    · exact .inl ⟨e, by rw [if_pos (by omega)]⟩
    · refine .inr ⟨⟨e1, e2, e4, e3⟩, ?_⟩
      show (if overI T (cv T (pvc c)) (cv T (nxc c)) v < 0 then (-1 : Int) else if overI T (cv T (pvc c)) (overI T (cv T (pvc c)) (cv T (nxc c)) v) v < 0 then overI T (overI T (cv T (pvc c)) (cv T (nxc c)) v) (cv T (nxc c)) v else overI T (cv T (pvc c)) (overI T (cv T (pvc c)) (cv T (nxc c)) v) v) = -1 ∨ (0 ≤ (if overI T (cv T (pvc c)) (cv T (nxc c)) v < 0 then (-1 : Int) else if overI T (cv T (pvc c)) (overI T (cv T (pvc c)) (cv T (nxc c)) v) v < 0 then overI T (overI T (cv T (pvc c)) (cv T (nxc c)) v) (cv T (nxc c)) v else overI T (cv T (pvc c)) (overI T (cv T (pvc c)) (cv T (nxc c)) v) v) ∧ (if overI T (cv T (pvc c)) (cv T (nxc c)) v < 0 then (-1 : Int) else if overI T (cv T (pvc c)) (overI T (cv T (pvc c)) (cv T (nxc c)) v) v < 0 then overI T (overI T (cv T (pvc c)) (cv T (nxc c)) v) (cv T (nxc c)) v else overI T (cv T (pvc c)) (overI T (cv T (pvc c)) (cv T (nxc c)) v) v) < v ∧ (if overI T (cv T (pvc c)) (cv T (nxc c)) v < 0 then (-1 : Int) else if overI T (cv T (pvc c)) (overI T (cv T (pvc c)) (cv T (nxc c)) v) v < 0 then overI T (overI T (cv T (pvc c)) (cv T (nxc c)) v) (cv T (nxc c)) v else overI T (cv T (pvc c)) (overI T (cv T (pvc c)) (cv T (nxc c)) v) v) ≠ overI T (cv T (pvc c)) (cv T (nxc c)) v)
      rw [if_neg (by omega)]
      generalize overI T (cv T (pvc c)) (cv T (nxc c)) v = x at *
      split
      · rcases over_ok (a := x) (b := cv T (nxc c)) (v := (v : Int)) hok with f | ⟨f1, f2, f3, f4⟩
        · exact .inl f
        · exact .inr ⟨f1, f2, f3⟩
      · rcases over_ok (a := cv T (pvc c)) (b := x) (v := (v : Int)) hok with f | ⟨f1, f2, f3, f4⟩
        · exact .inl f
        · exact .inr ⟨f1, f2, f4⟩
end Go.Proofs.Ytcpfolojfdnojaa
