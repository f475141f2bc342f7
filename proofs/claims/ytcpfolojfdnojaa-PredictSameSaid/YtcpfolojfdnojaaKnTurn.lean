/- Triangles turned by their corners: the same is around each vertex. Plain laws. No condition. -/
import Derived.Test.YtcpfolojfdnojaaKnP
import Derived.Test.YtcpfolojfdnojaaPlainB
namespace Go.Proofs.Ytcpfolojfdnojaa
open Go.RowKit

set_option linter.unusedSimpArgs false
set_option linter.unusedVariables false
theorem rot_corner {k r : Nat} (hk : k < 3) (hr : r < 3) (t : Tri) : cornerT (rotT k t) r = cornerT t ((r + k) % 3) := by
  rcases (by omega : k = 0 ∨ k = 1 ∨ k = 2) with rfl | rfl | rfl <;> rcases (by omega : r = 0 ∨ r = 1 ∨ r = 2) with rfl | rfl | rfl <;> rfl
/-- Where a corner was. -/
def phi (k : Nat → Nat) (c : Nat) : Nat := 3 * (c / 3) + (c % 3 + k (c / 3)) % 3
theorem phi_div (k : Nat → Nat) (c : Nat) : phi k c / 3 = c / 3 := by unfold phi; omega
theorem phi_mod (k : Nat → Nat) (c : Nat) : phi k c % 3 = (c % 3 + k (c / 3)) % 3 := by unfold phi; omega
theorem divmod3 {x y : Nat} (h1 : x / 3 = y / 3) (h2 : x % 3 = y % 3) : x = y := by omega
theorem phi_nxc (k : Nat → Nat) (c : Nat) : phi k (nxc c) = nxc (phi k c) := by
  refine divmod3 ?_ ?_
  · rw [phi_div, nxc_div, nxc_div, phi_div]
  · rw [phi_mod, nxc_mod, nxc_div, nxc_mod]
    unfold phi
    omega
theorem phi_pvc (k : Nat → Nat) (c : Nat) : phi k (pvc c) = pvc (phi k c) := by
  refine divmod3 ?_ ?_
  · rw [phi_div, pvc_div, pvc_div, phi_div]
  · rw [phi_mod, pvc_mod, pvc_div, pvc_mod]
    unfold phi
    omega
theorem phi_lt {k : Nat → Nat} {c n : Nat} (h : c < 3 * n) : phi k c < 3 * n := by unfold phi; omega
theorem phi_inj {k : Nat → Nat} {c d : Nat} (h : phi k c = phi k d) : c = d := by
  have h1 := congrArg (· / 3) h
  have h2 := congrArg (· % 3) h
  simp only [phi_div, phi_mod] at h1 h2
  rw [h1] at h2
  generalize k (d / 3) = j at h2
  exact divmod3 h1 (by omega)
theorem phi_sur {k : Nat → Nat} {n c : Nat} (hc : c < 3 * n) : ∃ d, d < 3 * n ∧ phi k d = c := by
  have h3 : (3 * (c / 3) + (c % 3 + (3 - k (c / 3) % 3)) % 3) / 3 = c / 3 := by omega
  refine ⟨3 * (c / 3) + (c % 3 + (3 - k (c / 3) % 3)) % 3, by omega, divmod3 ?_ ?_⟩
  · rw [phi_div, h3]
  · rw [phi_mod, h3]
    generalize k (c / 3) = j
    omega
section
variable {m : Nat} {T U : List Tri} {k : Nat → Nat}
theorem cv_phi (hk : ∀ i, k i < 3) (h : ∀ i, i < T.length → tri U i = rotT (k i) (tri T i)) {c : Nat} (hc : c < 3 * T.length) : cv U c = cv T (phi k c) := by
  unfold cv
  rw [h _ (by omega), rot_corner (hk _) (Nat.mod_lt _ (by omega)), phi_div, phi_mod]
theorem ce_phi (hk : ∀ i, k i < 3) (h : ∀ i, i < T.length → tri U i = rotT (k i) (tri T i)) {c : Nat} (hc : c < 3 * T.length) : ce U c = ce T (phi k c) := by
  unfold ce
  rw [cv_phi hk h (nxc_lt hc), cv_phi hk h (pvc_lt hc), phi_nxc, phi_pvc]
theorem facing_phi (hs : SurfE m T) (hl : U.length = T.length) (hk : ∀ i, k i < 3) (h : ∀ i, i < T.length → tri U i = rotT (k i) (tri T i)) (e : Int × Int) :
    (facingF T e = none ∧ facingF U e = none) ∨ ∃ c d, facingF T e = some c ∧ facingF U e = some d ∧ d < 3 * T.length ∧ c < 3 * T.length ∧ phi k d = c := by
  cases hf : facingF T e with
  | none =>
    refine .inl ⟨rfl, leastF_no fun i _ hi => ?_⟩
    have hi' : i < 3 * T.length := by omega
    simp only [decide_eq_false_iff_not]
    intro he
    rw [ce_phi hk h hi'] at he
    rw [facing_is hs (phi_lt hi') he] at hf
    cases hf
  | some c =>
    obtain ⟨hc, he⟩ := facing_some hf
    obtain ⟨d, hd, hdc⟩ := phi_sur (k := k) hc
    refine .inr ⟨c, d, rfl, leastF_is (Nat.zero_le _) (by omega) ?_ fun i _ hi => ?_, hd, hc, hdc⟩
    · simp only [decide_eq_true_eq]
      rw [ce_phi hk h hd, hdc, he]
    · simp only [decide_eq_false_iff_not]
      intro he'
      have hi' : i < 3 * T.length := by omega
      rw [ce_phi hk h hi'] at he'
      have := ce_inj hs (phi_lt hi') hc (he'.trans he.symm)
      have := phi_inj (this.trans hdc.symm)
      omega
theorem over_phi (hs : SurfE m T) (hl : U.length = T.length) (hk : ∀ i, k i < 3) (h : ∀ i, i < T.length → tri U i = rotT (k i) (tri T i)) (a b v : Int) : overI U a b v = overI T a b v := by
  unfold overI
  have h1 : vertexI U (facingI U (a, b)) = vertexI T (facingI T (a, b)) ∧ (facingI U (a, b) < 0 ↔ facingI T (a, b) < 0) := by
    unfold facingI
    rcases facing_phi hs hl hk h (a, b) with ⟨e1, e2⟩ | ⟨c, d, e1, e2, hd, hc, hp⟩
    · rw [e1, e2]
      refine ⟨?_, Iff.rfl⟩
      have hz : ∀ V : List Tri, vertexI V (optI none) = -1 := fun V => by
        unfold vertexI isC
        exact if_neg fun h => absurd h.1 (by decide)
      rw [hz, hz]
    · rw [e1, e2]
      refine ⟨?_, ?_⟩
      · show vertexI U (d : Int) = vertexI T (c : Int)
        rw [vertexI_nat (by omega), vertexI_nat hc, cv_phi hk h hd, hp]
      · show ((d : Int) < 0 ↔ (c : Int) < 0)
        omega
  rw [h1.1]
  by_cases hx : facingI T (a, b) < 0 ∨ v ≤ vertexI T (facingI T (a, b))
  · rw [if_pos hx, if_pos (by rcases hx with hx | hx; exact .inl (h1.2.2 hx); exact .inr hx)]
  · rw [if_neg hx, if_neg (fun hy => hx (by rcases hy with hy | hy; exact .inl (h1.2.1 hy); exact .inr hy))]
theorem top_phi (hk : ∀ i, k i < 3) (h : ∀ i, i < T.length → tri U i = rotT (k i) (tri T i)) (v : Int) {c : Nat} (hc : c < 3 * T.length) : topB U v c = topB T v (phi k c) := by
  unfold topB
  rw [cv_phi hk h hc, cv_phi hk h (nxc_lt hc), cv_phi hk h (pvc_lt hc), phi_nxc, phi_pvc]
theorem corner_one (hs : SurfE m T) {c d : Nat} (hd : d < 3 * T.length) (hq : c / 3 = d / 3) (hv : cv T c = cv T d) : c = d := by
  have hn := cv_ne hs.ok hd
  rcases (by unfold nxc pvc; omega : c = d ∨ c = nxc d ∨ c = pvc d) with e | e | e
  · exact e
  · rw [e] at hv; exact absurd hv.symm hn.2.1
  · rw [e] at hv; exact absurd hv.symm hn.2.2
theorem top_v {v : Int} {c : Nat} (h : topB T v c = true) : cv T c = v := by
  unfold topB at h
  exact (of_decide_eq_true h).1
theorem known_phi (hs : SurfE m T) (hl : U.length = T.length) (hk : ∀ i, k i < 3) (h : ∀ i, i < T.length → tri U i = rotT (k i) (tri T i)) (v : Nat) : known U v = known T v := by
  unfold known knK
  cases hf : leastF (topB T (v : Int)) 0 (3 * T.length) with
  | none =>
    have h0 := leastF_none hf
    rw [show leastF (topB U (v : Int)) 0 (3 * U.length) = none from leastF_no fun i _ hi => by
      have hi' : i < 3 * T.length := by omega
      rw [top_phi hk h _ hi']
      exact h0 _ (Nat.zero_le _) (by have := phi_lt (k := k) hi'; omega)]
  | some c =>
    obtain ⟨_, hc, ht, hless⟩ := leastF_some hf
    have hc' : c < 3 * T.length := by omega
    obtain ⟨d, hd, hdc⟩ := phi_sur (k := k) hc'
    rw [show leastF (topB U (v : Int)) 0 (3 * U.length) = some d from leastF_is (Nat.zero_le _) (by omega) (by rw [top_phi hk h _ hd, hdc]; exact ht) fun i _ hi => by
      have hi' : i < 3 * T.length := by omega
      rw [top_phi hk h _ hi']
      cases hx : topB T (v : Int) (phi k i) with
      | false => rfl
      | true =>
        exfalso
        by_cases hlt : phi k i < c
        · rw [hless _ (Nat.zero_le _) hlt] at hx
          cases hx
        · have e1 := phi_div k i
          have e2 := phi_div k d
          rw [hdc] at e2
          have e3 : phi k i / 3 = c / 3 := by omega
          have := corner_one hs hc' e3 ((top_v hx).trans (top_v ht).symm)
          have := phi_inj (this.trans hdc.symm)
          omega]
    show arOf U v d = arOf T v c
    unfold arOf
    simp only [cv_phi hk h (nxc_lt hd), cv_phi hk h (pvc_lt hd), phi_nxc, phi_pvc, hdc, over_phi hs hl hk h]
end
end Go.Proofs.Ytcpfolojfdnojaa
