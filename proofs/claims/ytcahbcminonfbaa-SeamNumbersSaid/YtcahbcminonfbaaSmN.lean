/- Seams of a surface with other numbers: plain laws. No condition. -/
import Derived.Test.YtcahbcminonfbaaSmP
import Derived.Test.YtcahbcminonfbaaCorP3
namespace Go.Proofs.Ytcahbcminonfbaa
open Go.RowKit

set_option linter.unusedSimpArgs false
set_option linter.unusedVariables false
section
variable {m : Nat} {T : List Tri} {K : List Int} {ρ : Int → Int}
theorem parts_ren (hr : Renames m ρ) (hs : SurfE m T) {c : Nat} (hc : c < 3 * T.length) : partsB (T.map (mapT ρ)) K c = partsB T K c := by
  unfold partsB
  rw [opp_ren hr hs hc]
theorem parts_some {c : Nat} (h : partsB T K c = true) : ∃ o, oppF T c = some o := by
  unfold partsB at h
  cases ho : oppF T c with
  | none => simp only [ho] at h; cases h
  | some o => exact ⟨o, rfl⟩
theorem numbers_mem (hr : Renames m ρ) (hs : SurfE m T) {e : Int × Int} (h : e ∈ seamsN T K (3 * T.length)) : (min (ρ e.1) (ρ e.2), max (ρ e.1) (ρ e.2)) ∈ seamsN (T.map (mapT ρ)) K (3 * T.length) := by
  obtain ⟨c, hc, hb, rfl⟩ := seamsN_mem.1 h
  unfold seamB at hb
  rw [Bool.and_eq_true, decide_eq_true_eq] at hb
  have h1 := cv_ok hs.ok (nxc_lt hc)
  have h2 := cv_ok hs.ok (pvc_lt hc)
  have hne : ρ (ce T c).1 ≠ ρ (ce T c).2 := fun e => absurd (hr.inj _ _ e) (by have := hb.1; show ¬ (ce T c).1 = (ce T c).2; omega)
  rw [seamsN_mem]
  by_cases hlt : ρ (ce T c).1 < ρ (ce T c).2
  · refine ⟨c, hc, ?_, ?_⟩
    · unfold seamB
      rw [parts_ren hr hs hc, ce_ren ρ hc, Bool.and_eq_true]
      exact ⟨decide_eq_true hlt, hb.2⟩
    · rw [ce_ren ρ hc, Int.min_eq_left (by omega), Int.max_eq_right (by omega)]
  · obtain ⟨o, ho⟩ := parts_some hb.2
    have ho2 := opp_back hs hc ho
    refine ⟨o, ho2.1, ?_, ?_⟩
    · unfold seamB
      rw [parts_ren hr hs ho2.1, ce_ren ρ ho2.1, parts_opp hs hc ho, ho2.2.1, Bool.and_eq_true]
      exact ⟨decide_eq_true (by show ρ (ce T c).2 < ρ (ce T c).1; omega), hb.2⟩
    · rw [ce_ren ρ ho2.1, ho2.2.1, Int.min_eq_right (by omega), Int.max_eq_left (by omega)]
def oppD (T : List Tri) (c : Nat) : Nat := (oppF T c).getD 0
theorem opp_D (hs : SurfE m T) {c : Nat} (hc : c < 3 * T.length) (hp : partsB T K c = true) : oppD T c < 3 * T.length ∧ partsB T K (oppD T c) = true ∧ oppD T (oppD T c) = c ∧ ce T (oppD T c) = ((ce T c).2, (ce T c).1) := by
  obtain ⟨o, ho⟩ := parts_some hp
  have hb := opp_back hs hc ho
  have e : oppD T c = o := by unfold oppD; rw [ho]; rfl
  rw [e]
  refine ⟨hb.1, by rw [parts_opp hs hc ho]; exact hp, ?_, hb.2.1⟩
  unfold oppD
  rw [hb.2.2.1]
  rfl
def ups (T : List Tri) (K : List Int) : List Nat := (List.range (3 * T.length)).filter (seamB T K)
def dns (T : List Tri) (K : List Int) : List Nat := (List.range (3 * T.length)).filter fun c => !(decide ((ce T c).1 < (ce T c).2)) && partsB T K c
theorem sub_lenN {R l : List Nat} (hn : R.Nodup) (h : ∀ x ∈ R, x ∈ l) : R.length ≤ l.length := by
  induction R generalizing l with
  | nil => exact Nat.zero_le _
  | cons x R ih =>
    rw [List.nodup_cons] at hn
    have hx := h x (by simp)
    have h1 := ih (l := l.erase x) hn.2 fun y hy => by
      have hne : y ≠ x := fun e => hn.1 (by rw [← e]; exact hy)
      exact (List.mem_erase_of_ne hne).2 (h y (List.mem_cons_of_mem _ hy))
    rw [List.length_erase_of_mem hx] at h1
    have h2 : 0 < l.length := List.length_pos_of_mem hx
    simp only [List.length_cons]
    omega
theorem ups_dns (hs : SurfE m T) : (ups T K).length = (dns T K).length := by
  have hu : ∀ c, c ∈ ups T K ↔ c < 3 * T.length ∧ (ce T c).1 < (ce T c).2 ∧ partsB T K c = true := fun c => by
    unfold ups seamB
    rw [List.mem_filter, List.mem_range, Bool.and_eq_true, decide_eq_true_eq]
  have hd : ∀ c, c ∈ dns T K ↔ c < 3 * T.length ∧ ¬ (ce T c).1 < (ce T c).2 ∧ partsB T K c = true := fun c => by
    unfold dns
    rw [List.mem_filter, List.mem_range, Bool.and_eq_true, Bool.not_eq_true', decide_eq_false_iff_not]
  apply Nat.le_antisymm
  · have h1 := sub_lenN (R := (ups T K).map (oppD T)) (l := dns T K) (nodup_map_on (List.nodup_range.filter _) fun x hx y hy e => by
      have ⟨a1, a2, a3⟩ := (hu x).1 hx
      have ⟨b1, b2, b3⟩ := (hu y).1 hy
      rw [← (opp_D hs a1 a3).2.2.1, e, (opp_D hs b1 b3).2.2.1]) fun x hx => by
      obtain ⟨y, hy, rfl⟩ := List.mem_map.1 hx
      have ⟨b1, b2, b3⟩ := (hu y).1 hy
      have o := opp_D hs b1 b3
      rw [hd]
      refine ⟨o.1, ?_, o.2.1⟩
      rw [o.2.2.2]
      show ¬ (ce T y).2 < (ce T y).1
      omega
    rwa [List.length_map] at h1
  · have h1 := sub_lenN (R := (dns T K).map (oppD T)) (l := ups T K) (nodup_map_on (List.nodup_range.filter _) fun x hx y hy e => by
      have ⟨a1, a2, a3⟩ := (hd x).1 hx
      have ⟨b1, b2, b3⟩ := (hd y).1 hy
      rw [← (opp_D hs a1 a3).2.2.1, e, (opp_D hs b1 b3).2.2.1]) fun x hx => by
      obtain ⟨y, hy, rfl⟩ := List.mem_map.1 hx
      have ⟨b1, b2, b3⟩ := (hd y).1 hy
      have o := opp_D hs b1 b3
      have hne := ce_ne hs b1
      rw [hu]
      refine ⟨o.1, ?_, o.2.1⟩
      rw [o.2.2.2]
      show (ce T y).2 < (ce T y).1
      omega
    rwa [List.length_map] at h1
theorem split_len (p q : Nat → Bool) : ∀ l : List Nat, (l.filter q).length = (l.filter fun c => p c && q c).length + (l.filter fun c => !p c && q c).length
  | [] => rfl
  | x :: l => by
    have ih := split_len p q l
    cases hp : p x <;> cases hq : q x <;> simp [List.filter_cons, hp, hq] <;> omega
theorem half (hs : SurfE m T) : ((List.range (3 * T.length)).filter (partsB T K)).length = 2 * (seamsN T K (3 * T.length)).length := by
  have h1 := split_len (fun c => decide ((ce T c).1 < (ce T c).2)) (partsB T K) (List.range (3 * T.length))
  have h2 := ups_dns (K := K) hs
  unfold ups dns seamB at h2
  unfold seamsN seamB
  rw [List.length_map]
  omega
theorem numbers_len (hr : Renames m ρ) (hs : SurfE m T) : (seamsN (T.map (mapT ρ)) K (3 * T.length)).length = (seamsN T K (3 * T.length)).length := by
  have h1 := half (K := K) hs
  have h2 := half (K := K) (surf_ren hr hs)
  rw [List.length_map] at h2
  rw [List.filter_congr (q := partsB T K) fun c hc => parts_ren hr hs (List.mem_range.1 hc)] at h2
  omega
end
end Go.Proofs.Ytcahbcminonfbaa
