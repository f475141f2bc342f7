/- LineInbox, the plain law: in whatever order packets are taken. No program in sight. -/
import Derived.Test.YtieoeednfgpoiaaCome
namespace Go.Proofs.Ytieoeednfgpoiaa
open Go.RowKit

/-- An inbox that took of a list, each number once. -/
structure GoodIn (F : List (Int × List UInt8)) (t : IS) : Prop where
  of : ∀ p ∈ t.took, p ∈ F ∧ 0 ≤ p.1
  once : (t.took.map (·.1)).Nodup
  last0 : 0 ≤ t.last
  lastLe : ∀ p ∈ t.took, p.1 ≤ t.last
  lastAt : t.last = 0 ∨ t.has t.last
/-- All that can be taken was. -/
def AllIn (F : List (Int × List UInt8)) (t : IS) : Prop := ∀ p ∈ F, 0 ≤ p.1 → t.has p.1

theorem good_start (F : List (Int × List UInt8)) : GoodIn F ⟨[], 0⟩ :=
  ⟨(fun p hp => by cases hp), List.nodup_nil, Int.le_refl _, (fun p hp => by cases hp), .inl rfl⟩
theorem take_has {t : IS} {x y : Int} (d : List UInt8) (h : t.has y) : (t.take x d).has y := by
  unfold IS.take
  split
  · exact h
  · obtain ⟨p, hp, e⟩ := h
    exact ⟨p, by simp [hp], e⟩
theorem take_has_self (t : IS) {x : Int} (d : List UInt8) (h : 0 ≤ x) : (t.take x d).has x := by
  unfold IS.take
  split
  · rename_i h'
    rcases h' with h' | h'
    · omega
    · exact h'
  · exact ⟨(x, d), by simp, rfl⟩
theorem good_take {F : List (Int × List UInt8)} {t : IS} {x : Int} {d : List UInt8} (h : GoodIn F t) (hp : (x, d) ∈ F) : GoodIn F (t.take x d) := by
  unfold IS.take
  split
  · exact h
  · rename_i hn
    have hx : 0 ≤ x := Int.not_lt.1 fun h' => hn (.inl h')
    have hno : ¬ t.has x := fun h' => hn (.inr h')
    refine ⟨fun p hp' => ?_, ?_, ?_, fun p hp' => ?_, ?_⟩
    · rcases List.mem_append.1 hp' with h1 | h1
      · exact h.of p h1
      · simp at h1; subst h1; exact ⟨hp, hx⟩
    · show ((t.took ++ [(x, d)]).map (·.1)).Nodup
      rw [List.map_append, List.nodup_append]
      refine ⟨h.once, by simp, fun a ha b hb => ?_⟩
      simp at hb
      subst hb
      rintro rfl
      obtain ⟨p, hp1, e⟩ := List.mem_map.1 ha
      exact hno ⟨p, hp1, e⟩
    · show 0 ≤ max t.last x
      omega
    · show p.1 ≤ max t.last x
      rcases List.mem_append.1 hp' with h1 | h1
      · have := h.lastLe p h1; omega
      · simp at h1; subst h1; show x ≤ _; omega
    · show max t.last x = 0 ∨ _
      rcases (by omega : max t.last x = x ∨ max t.last x = t.last) with e | e
      · right
        show IS.has _ (max t.last x)
        rw [e]
        exact ⟨(x, d), by simp, rfl⟩
      · rcases h.lastAt with h0 | ⟨p, hp1, e1⟩
        · left; omega
        · right
          show IS.has _ (max t.last x)
          rw [e]
          exact ⟨p, by simp [hp1], e1⟩
theorem take_again {t : IS} {x : Int} (d : List UInt8) (h : 0 ≤ x → t.has x) : t.take x d = t := by
  unfold IS.take
  rw [if_pos]
  by_cases hx : x < 0
  · exact .inl hx
  · exact .inr (h (by omega))

theorem key_eq {F : List (Int × List UInt8)} (hF : (F.map (·.1)).Nodup) {p q : Int × List UInt8} (hp : p ∈ F) (hq : q ∈ F) (e : p.1 = q.1) : p = q := by
  obtain ⟨i, hi, rfl⟩ := List.getElem_of_mem hp
  obtain ⟨j, hj, rfl⟩ := List.getElem_of_mem hq
  have : i = j := by
    have h := List.pairwise_iff_getElem.1 hF
    rcases Nat.lt_trichotomy i j with h' | h' | h'
    · exact absurd e (by have := h i j (by simpa using hi) (by simpa using hj) h'; simpa using this)
    · exact h'
    · exact absurd e.symm (by have := h j i (by simpa using hj) (by simpa using hi) h'; simpa using this)
  subst this
  rfl
theorem at_iff {t : IS} (h : (t.took.map (·.1)).Nodup) (x : Int) (d : List UInt8) : t.at_ x = some d ↔ (x, d) ∈ t.took := by
  constructor
  · exact at_some
  · intro hm
    cases ha : t.at_ x with
    | none => exact absurd rfl (at_none ha _ hm)
    | some d' =>
      have := key_eq h (at_some ha) hm rfl
      injection this with _ e
      rw [e]
theorem frontFrom_congr {a b : IS} (h : ∀ x, a.at_ x = b.at_ x) : ∀ n k, frontFrom a n k = frontFrom b n k
  | 0, _ => rfl
  | n + 1, k => by
    unfold frontFrom
    rw [h]
    cases b.at_ k with
    | none => rfl
    | some d => show d ++ _ = d ++ _; rw [frontFrom_congr h n (k + 1)]

/-- Two inboxes that took all of the same list tell the same. -/
theorem same_in {F : List (Int × List UInt8)} (hF : (F.map (·.1)).Nodup) {a b : IS} (ga : GoodIn F a) (gb : GoodIn F b) (ca : AllIn F a) (cb : AllIn F b) : a.front = b.front ∧ a.gaps = b.gaps := by
  have half : ∀ {a b : IS}, GoodIn F a → GoodIn F b → AllIn F b → ∀ p ∈ a.took, p ∈ b.took := by
    intro a b ga gb cb p hp
    obtain ⟨h1, h2⟩ := ga.of p hp
    obtain ⟨q, hq, e⟩ := cb p h1 h2
    rw [key_eq hF h1 (gb.of q hq).1 e.symm]
    exact hq
  have hab := half ga gb cb
  have hba := half gb ga ca
  have hat : ∀ x, a.at_ x = b.at_ x := by
    intro x
    cases ha : a.at_ x with
    | some d => exact ((at_iff gb.once x d).2 (hab _ ((at_iff ga.once x d).1 ha))).symm
    | none =>
      cases hb : b.at_ x with
      | none => rfl
      | some d => rw [(at_iff ga.once x d).2 (hba _ ((at_iff gb.once x d).1 hb))] at ha; cases ha
  have hlen : a.took.length = b.took.length := by
    have h1 := nodup_le (a.took.map (·.1)) (b.took.map (·.1)) ga.once fun x hx => by
      obtain ⟨p, hp, rfl⟩ := List.mem_map.1 hx
      exact List.mem_map.2 ⟨p, hab p hp, rfl⟩
    have h2 := nodup_le (b.took.map (·.1)) (a.took.map (·.1)) gb.once fun x hx => by
      obtain ⟨p, hp, rfl⟩ := List.mem_map.1 hx
      exact List.mem_map.2 ⟨p, hba p hp, rfl⟩
    simp at h1 h2
    omega
  have hlast : a.last = b.last := by
    have half2 : ∀ {a b : IS}, GoodIn F a → GoodIn F b → (∀ p ∈ a.took, p ∈ b.took) → a.last ≤ b.last := by
      intro a b ga gb hs
      rcases ga.lastAt with h0 | ⟨p, hp, e⟩
      · have := gb.last0; omega
      · have := gb.lastLe p (hs p hp); omega
    have := half2 ga gb hab
    have := half2 gb ga hba
    omega
  constructor
  · unfold IS.front
    rw [hlen, frontFrom_congr hat]
  · unfold IS.gaps gapsTo
    rw [hlast]
    congr 2
    refine List.filter_congr fun j _ => ?_
    rw [hat]
/-- No gap is a number of the list. -/
theorem gap_not {F : List (Int × List UInt8)} {a : IS} (ca : AllIn F a) : ∀ x ∈ a.gaps, 0 ≤ x ∧ ∀ p ∈ F, p.1 ≠ x := by
  intro x hx
  have hx := List.mem_of_mem_take hx
  unfold gapsTo at hx
  obtain ⟨j, hj, rfl⟩ := List.mem_map.1 hx
  refine ⟨Int.natCast_nonneg _, fun p hp e => ?_⟩
  obtain ⟨q, hq, e2⟩ := ca p hp (by omega)
  have h2 := (List.mem_filter.1 hj).2
  cases ha : a.at_ (j : Int) with
  | some d => rw [ha] at h2; cases h2
  | none => exact at_none ha q hq (by omega)
end Go.Proofs.Ytieoeednfgpoiaa
