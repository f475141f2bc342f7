/- Points moved, and mirrored: what is told moves, and is mirrored. Plain. No condition but sizes. -/
import Derived.Test.YtcpfolojfdnojaaPtA
namespace Go.Proofs.Ytcpfolojfdnojaa
/-- Whether a vertex is known. -/
def knowA (A : Ar) (n : Nat) : Prop := hasP n A.l ∨ hasP n A.a ∧ hasP n A.b
instance (A : Ar) (n : Nat) : Decidable (knowA A n) := inferInstanceAs (Decidable (_ ∨ _))
/-- By how much what is told moves. -/
def stepM (k : Int) (A : Ar) (n : Nat) (s : Int) : Int := if ¬ knowA A n then 0 else if k = 0 ∧ ¬ hasP n A.l then 0 else s
structure Mov (n : Nat) (O Q M : List Tri) (i : Nat) (s : Int) : Prop where
  o : O.length = n
  q : Q.length = n
  m : M.length = n
  st : ∃ t, s = 2 * t ∧ -499 ≤ t ∧ t ≤ 499
  p : ∀ v, v < n → ∃ e, -499 ≤ e ∧ e ≤ 499 ∧ cornerT (tri O v) i = 2 * e ∧ cornerT (tri Q v) i = 2 * e + s ∧ cornerT (tri M v) i = -(2 * e)
theorem Mov.pc {n : Nat} {O Q M : List Tri} {i : Nat} {t v : Int} (h : Mov n O Q M i (2 * t)) (hv : hasP n v) : ∃ e, -499 ≤ e ∧ e ≤ 499 ∧ pc O v i = 2 * e ∧ pc Q v i = 2 * (e + t) ∧ pc M v i = 2 * (-e) := by
  obtain ⟨h0, h1⟩ := hv
  obtain ⟨t', ht, hl, hu⟩ := h.st
  obtain rfl : t = t' := by omega
  obtain ⟨e, e0, e1, c0, c1, c2⟩ := h.p v.toNat (by omega)
  refine ⟨e, e0, e1, ?_, ?_, ?_⟩
  · unfold Go.Proofs.Ytcpfolojfdnojaa.pc; rw [c0, cut_in (by omega) (by omega)]
  · unfold Go.Proofs.Ytcpfolojfdnojaa.pc; rw [c1, cut_in (by omega) (by omega)]; omega
  · unfold Go.Proofs.Ytcpfolojfdnojaa.pc; rw [c2, cut_in (by omega) (by omega)]; omega
theorem half2 (x : Int) : Int.tdiv (2 * x) 2 = x := Int.mul_tdiv_cancel_left _ (by omega)
theorem moves_law {k : Int} {A : Ar} {n : Nat} {O Q M : List Tri} {i : Nat} {s : Int} (hk : 0 ≤ k ∧ k < 4) (h : Mov n O Q M i s) :
    pointL k A Q i = pointL k A O i + stepM k A n s ∧ pointL k A M i = -pointL k A O i := by
  obtain ⟨t, rfl, hl, hu⟩ := h.st
  unfold pointL
  rw [h.o, h.q, h.m]
  by_cases ha : hasP n A.a ∧ hasP n A.b
  · obtain ⟨a, a0, a1, pa, qa, ma⟩ := h.pc ha.1
    obtain ⟨b, b0, b1, pb, qb, mb⟩ := h.pc ha.2
    have hkn : knowA A n := .inr ha
    by_cases h3 : k = 3 ∧ hasP n A.a ∧ hasP n A.b ∧ hasP n A.c ∧ hasP n A.d
    · have hr : ruleOf k A n = .double := by unfold ruleOf; rw [if_pos h3]
      obtain ⟨c, c0, c1, pcc, qc, mc⟩ := h.pc h3.2.2.2.1
      obtain ⟨d, d0, d1, pd, qd, md⟩ := h.pc h3.2.2.2.2
      have hs : stepM k A n (2 * t) = 2 * t := by unfold stepM; rw [if_neg (fun f => f hkn), if_neg (by omega)]
      rw [hr, hs]
      unfold tell
      simp only
      rw [pa, pb, pcc, pd, qa, qb, qc, qd, ma, mb, mc, md]
      rw [show 2 * (2 * (a + t)) + 2 * (2 * (b + t)) - 2 * (c + t) - 2 * (d + t) = 2 * (2 * a + 2 * b - c - d + 2 * t) by omega, show 2 * (2 * a) + 2 * (2 * b) - 2 * c - 2 * d = 2 * (2 * a + 2 * b - c - d) by omega, show 2 * (2 * -a) + 2 * (2 * -b) - 2 * -c - 2 * -d = 2 * (-(2 * a + 2 * b - c - d)) by omega, half2, half2, half2, cut_in (by omega) (by omega), cut_in (by omega) (by omega), cut_in (by omega) (by omega)]
      omega
    · by_cases h2 : (k = 3 ∨ k = 2) ∧ hasP n A.a ∧ hasP n A.b ∧ hasP n A.c
      · have hr : ruleOf k A n = .across := by unfold ruleOf; rw [if_neg h3, if_pos h2]
        obtain ⟨c, c0, c1, pcc, qc, mc⟩ := h.pc h2.2.2.2
        have hs : stepM k A n (2 * t) = 2 * t := by unfold stepM; rw [if_neg (fun f => f hkn), if_neg (by omega)]
        rw [hr, hs]
        unfold tell
        simp only
        rw [pa, pb, pcc, qa, qb, qc, ma, mb, mc, cut_in (by omega) (by omega), cut_in (by omega) (by omega), cut_in (by omega) (by omega)]
        omega
      · by_cases h1 : k = 3 ∨ k = 2 ∨ k = 1
        · have hr : ruleOf k A n = .middle := by unfold ruleOf; rw [if_neg h3, if_neg h2, if_pos ⟨h1, ha⟩]
          have hs : stepM k A n (2 * t) = 2 * t := by unfold stepM; rw [if_neg (fun f => f hkn), if_neg (by omega)]
          rw [hr, hs]
          unfold tell
          simp only
          rw [pa, pb, qa, qb, ma, mb, show 2 * (a + t) + 2 * (b + t) = 2 * (a + b + 2 * t) by omega, show 2 * a + 2 * b = 2 * (a + b) by omega, show 2 * -a + 2 * -b = 2 * -(a + b) by omega, half2, half2, half2, cut_in (by omega) (by omega), cut_in (by omega) (by omega), cut_in (by omega) (by omega)]
          omega
        · have h0 : k = 0 := by omega
          by_cases hL : hasP n A.l
          · have hr : ruleOf k A n = .last := by unfold ruleOf; rw [if_neg h3, if_neg h2, if_neg (fun e => h1 e.1), if_pos ⟨by omega, hL⟩]
            obtain ⟨e, e0, e1, pe, qe, me⟩ := h.pc hL
            have hs : stepM k A n (2 * t) = 2 * t := by unfold stepM; rw [if_neg (fun f => f hkn), if_neg (fun e => e.2 hL)]
            rw [hr, hs]
            unfold tell
            simp only
            rw [pe, qe, me]
            omega
          · have hr : ruleOf k A n = .none := by unfold ruleOf; rw [if_neg h3, if_neg h2, if_neg (fun e => h1 e.1), if_neg (fun e => hL e.2)]
            have hs : stepM k A n (2 * t) = 0 := by unfold stepM; rw [if_neg (fun f => f hkn), if_pos ⟨h0, hL⟩]
            rw [hr, hs]
            exact ⟨rfl, rfl⟩
  · have h3 : ¬ (k = 3 ∧ hasP n A.a ∧ hasP n A.b ∧ hasP n A.c ∧ hasP n A.d) := fun e => ha ⟨e.2.1, e.2.2.1⟩
    have h2 : ¬ ((k = 3 ∨ k = 2) ∧ hasP n A.a ∧ hasP n A.b ∧ hasP n A.c) := fun e => ha ⟨e.2.1, e.2.2.1⟩
    have h1 : ¬ ((k = 3 ∨ k = 2 ∨ k = 1) ∧ hasP n A.a ∧ hasP n A.b) := fun e => ha e.2
    by_cases hL : hasP n A.l
    · have hr : ruleOf k A n = .last := by unfold ruleOf; rw [if_neg h3, if_neg h2, if_neg h1, if_pos ⟨by omega, hL⟩]
      obtain ⟨e, e0, e1, pe, qe, me⟩ := h.pc hL
      have hkn : knowA A n := .inl hL
      have hs : stepM k A n (2 * t) = 2 * t := by unfold stepM; rw [if_neg (fun f => f hkn), if_neg (fun e => e.2 hL)]
      rw [hr, hs]
      unfold tell
      simp only
      rw [pe, qe, me]
      omega
    · have hr : ruleOf k A n = .none := by unfold ruleOf; rw [if_neg h3, if_neg h2, if_neg h1, if_neg (fun e => hL e.2)]
      have hkn : ¬ knowA A n := fun e => e.elim hL ha
      have hs : stepM k A n (2 * t) = 0 := by unfold stepM; rw [if_pos hkn]
      rw [hr, hs]
      exact ⟨rfl, rfl⟩
theorem point_le (k : Int) (A : Ar) (P : List Tri) (i : Nat) : -1048576 ≤ pointL k A P i ∧ pointL k A P i ≤ 1048576 := by
  unfold pointL tell
  split
  · omega
  · exact pc_le _ _ _
  · exact cut_le _
  · exact cut_le _
  · exact cut_le _
end Go.Proofs.Ytcpfolojfdnojaa
