/- Of a surface of at most 14 triangles the symmetries can be counted: plain. Conditions: at most 14 triangles. -/
import Derived.Test.YtiajlmajenabiaaGreatWayK
namespace Go.Proofs.YtiajlmajenabiaaGreat
open Go.RowKit

set_option linter.unusedSimpArgs false
set_option linter.unusedVariables false
/-- As many symmetries at most. -/
def capN : Nat → Nat
  | 0 => 1
  | s + 1 => capN s * (3 * (s + 1))
theorem capN_pos : ∀ s, 0 < capN s
  | 0 => by decide
  | s + 1 => Nat.mul_pos (capN_pos s) (by omega)
theorem capN_step (s : Nat) : capN s ≤ capN (s + 1) := Nat.le_mul_of_pos_right _ (by omega)
theorem capN_mono {s : Nat} : ∀ {t : Nat}, s ≤ t → capN s ≤ capN t
  | 0, h => by obtain rfl : s = 0 := by omega
               exact Nat.le_refl _
  | t + 1, h => by
    rcases Nat.eq_or_lt_of_le h with e | h
    · rw [e]; exact Nat.le_refl _
    · exact Nat.le_trans (capN_mono (by omega)) (capN_step t)
theorem capN_more (s : Nat) : ∀ {t : Nat}, 1 ≤ t → capN s * (3 * t * (s + 1)) ≤ capN (s + t)
  | 0, h => by omega
  | 1, _ => by rw [capN]; exact Nat.le_refl _
  | t + 2, _ => by
    have ih := capN_more s (t := t + 1) (by omega)
    rw [← Nat.add_assoc, capN]
    refine Nat.le_trans ?_ (Nat.mul_le_mul_right (3 * (s + (t + 1) + 1)) ih)
    rw [Nat.mul_assoc (capN s)]
    refine Nat.mul_le_mul_left _ ?_
    have h1 : (t + 2) * (s + 1) ≤ (t + 1) * (s + 1) * 2 := by
      rw [Nat.mul_right_comm]
      exact Nat.mul_le_mul_right _ (by omega)
    have h2 : (t + 1) * (s + 1) * 2 ≤ (t + 1) * (s + 1) * (3 * (s + (t + 1) + 1)) := Nat.mul_le_mul_left _ (by omega)
    have h3 : 3 * (t + 1 + 1) * (s + 1) = 3 * ((t + 2) * (s + 1)) := by rw [Nat.mul_assoc]
    have h4 : 3 * (t + 1) * (s + 1) * (3 * (s + (t + 1) + 1)) = 3 * ((t + 1) * (s + 1) * (3 * (s + (t + 1) + 1))) := by simp only [Nat.mul_assoc]
    rw [h3, h4]
    exact Nat.mul_le_mul_left _ (Nat.le_trans h1 h2)
section
variable {m : Nat} {T : List Tri}
/-- How many triangles the first i shells have. -/
def cntS (T : List Tri) (i : Nat) : Nat := ((List.range T.length).filter fun x => decide (ofN T x < i)).length
theorem cntS_le (i : Nat) : cntS T i ≤ T.length := by
  unfold cntS
  exact Nat.le_trans (List.length_filter_le _ _) (by simp)
theorem filter_add47 {α : Type} {p q r : α → Bool} : ∀ {L : List α}, (∀ x ∈ L, r x = (p x || q x) ∧ (p x && q x) = false) → (L.filter r).length = (L.filter p).length + (L.filter q).length
  | [], _ => rfl
  | x :: L, h => by
    have ih := filter_add47 (L := L) fun y hy => h y (List.mem_cons_of_mem _ hy)
    obtain ⟨h1, h2⟩ := h x List.mem_cons_self
    rw [List.filter_cons, List.filter_cons, List.filter_cons, h1]
    cases hp : p x <;> cases hq : q x <;> simp_all <;> omega
theorem cntS_succ (i : Nat) : cntS T (i + 1) = cntS T i + (partOf T i).l.length := by
  unfold cntS
  rw [show (partOf T i).l = lstOf (ofL T) T.length i from rfl]
  unfold lstOf
  refine filter_add47 fun x hx => ?_
  rw [ofN_eq (List.mem_range.1 hx)]
  constructor
  · rw [Bool.eq_iff_iff]; simp; omega
  · rw [Bool.and_eq_false_iff]; simp; omega
theorem part_pos {i : Nat} (hi : i < kN T) : 1 ≤ (partOf T i).l.length := by
  have hb := (bestN_is hi).2
  have : bestN T i / 3 ∈ (partOf T i).l := part_l.2 ⟨by have := hb.lt; omega, hb.of⟩
  exact List.length_pos_of_mem this
theorem cntS_ge : ∀ {i : Nat}, i ≤ kN T → i ≤ cntS T i
  | 0, _ => Nat.zero_le _
  | i + 1, h => by
    have h1 := cntS_ge (show i ≤ kN T by omega)
    have h2 := part_pos (show i < kN T by omega)
    rw [cntS_succ]
    omega
theorem ways_short (hs : SurfE m T) {i : Nat} (hi : i < kN T) : (kindV (partOf T i)).ws.length ≤ 3 * (partOf T i).l.length := by
  rw [kind_ways hs hi, List.length_map]
  exact Nat.le_trans (List.length_filter_le _ _) (by simp)
theorem order_some (hs : SurfE m T) (hn : T.length ≤ 14) : ∀ {i : Nat}, i ≤ kN T → ∃ n, orderN (kindsL T (kN T)) i = some n ∧ n ≤ capN (cntS T i)
  | 0, _ => ⟨1, rfl, capN_pos _⟩
  | i + 1, h => by
    obtain ⟨n, h1, h2⟩ := order_some hs hn (show i ≤ kN T by omega)
    have hi : i < kN T := by omega
    have hk : (kindsL T (kN T))[i]? = some (kindV (partOf T i)) := by
      unfold kindsL
      rw [List.getElem?_map, List.getElem?_range hi]
      rfl
    have h3 := ways_short hs hi
    have h4 := likeN_le (kindsL T (kN T)) (kindV (partOf T i)) i
    have h5 := cntS_ge (T := T) (show i ≤ kN T by omega)
    have h6 := part_pos hi
    have hcap : capN (cntS T (i + 1)) ≤ 4611686018427387904 := Nat.le_trans (capN_mono (t := 14) (Nat.le_trans (cntS_le _) hn)) (by decide)
    have hmain : n * (kindV (partOf T i)).ws.length * likeN (kindsL T (kN T)) (kindV (partOf T i)) i ≤ capN (cntS T (i + 1)) := by
      rw [cntS_succ]
      refine Nat.le_trans ?_ (capN_more (cntS T i) h6)
      rw [Nat.mul_assoc]
      exact Nat.mul_le_mul h2 (Nat.mul_le_mul h3 (by omega))
    have hl1 : 1 ≤ likeN (kindsL T (kN T)) (kindV (partOf T i)) i := by unfold likeN; omega
    have hfirst : n * (kindV (partOf T i)).ws.length ≤ 4611686018427387904 := Nat.le_trans (Nat.le_trans (Nat.le_mul_of_pos_right _ hl1) hmain) hcap
    refine ⟨_, ?_, hmain⟩
    rw [orderN_succ h1 hk, timesN_yes hfirst, Option.bind_some, timesN_yes (Nat.le_trans hmain hcap)]
/-- How many symmetries there are. -/
theorem order_is (hs : SurfE m T) (hn : T.length ≤ 14) : ∃ n, orderN (kindsL T (kN T)) (kN T) = some n ∧ (allR m T).length = n ∧ n ≤ 4611686018427387904 := by
  obtain ⟨n, h1, h2⟩ := order_some hs hn (Nat.le_refl (kN T))
  exact ⟨n, h1, allR_len hs h1, Nat.le_trans h2 (Nat.le_trans (capN_mono (t := 14) (Nat.le_trans (cntS_le _) hn)) (by decide))⟩
end
end Go.Proofs.YtiajlmajenabiaaGreat
