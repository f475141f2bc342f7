/- What is sent, tick by tick (plain laws): the document's packets, and a line's. No condition. -/
import Derived.Test.YtieoeednfgpoiaaBoth
namespace Go.Proofs.Ytieoeednfgpoiaa
open Go.RowKit

set_option linter.unusedSimpArgs false
set_option linter.unusedVariables false
/-- A packet of the document. -/
structure RP where
  seq : Int
  at_ : Int
  data : List UInt8
def RP.pk (p : RP) : Pk := ⟨p.at_, p.seq, p.data⟩
def lenR (r : Nat) (b : List UInt8) : Nat := min r b.length
def nextRP (r d : Nat) (lost : List Int) (k : Nat) (l : List RP) (b : List UInt8) : RP := ⟨(l.length : Int), if (l.length : Int) ∈ lost then -1 else (k : Int) + 1 + (d : Int), b.take (lenR r b)⟩
def sentK (r d : Nat) (lost : List Int) (bs : List (List UInt8)) : Nat → List RP × List UInt8
  | 0 => ([], [])
  | k + 1 =>
    if (sentK r d lost bs k).2 ++ bs.getD k [] = [] then ((sentK r d lost bs k).1, [])
    else ((sentK r d lost bs k).1 ++ [nextRP r d lost k (sentK r d lost bs k).1 ((sentK r d lost bs k).2 ++ bs.getD k [])], ((sentK r d lost bs k).2 ++ bs.getD k []).drop (lenR r ((sentK r d lost bs k).2 ++ bs.getD k [])))
def stK (r d : Nat) (lost : List Int) (bs : List (List UInt8)) : Nat → LS
  | 0 => LS.start r d lost
  | k + 1 => ((stK r d lost bs k).send (bs.getD k [])).tick
section
variable {r d : Nat} {lost : List Int} {bs : List (List UInt8)}
theorem sent_none {k : Nat} (h : (sentK r d lost bs k).2 ++ bs.getD k [] = []) : sentK r d lost bs (k + 1) = ((sentK r d lost bs k).1, []) := by rw [sentK, if_pos h]
theorem sent_some {k : Nat} (h : (sentK r d lost bs k).2 ++ bs.getD k [] ≠ []) : sentK r d lost bs (k + 1) = ((sentK r d lost bs k).1 ++ [nextRP r d lost k (sentK r d lost bs k).1 ((sentK r d lost bs k).2 ++ bs.getD k [])], ((sentK r d lost bs k).2 ++ bs.getD k []).drop (lenR r ((sentK r d lost bs k).2 ++ bs.getD k []))) := by rw [sentK, if_neg h]
theorem sent_len : ∀ k, (sentK r d lost bs k).1.length ≤ k
  | 0 => Nat.le_refl _
  | k + 1 => by
    have := sent_len k
    by_cases h : (sentK r d lost bs k).2 ++ bs.getD k [] = []
    · rw [sent_none h]; dsimp only; omega
    · rw [sent_some h]; dsimp only; rw [List.length_append, List.length_singleton]; omega
theorem sent_in : ∀ k, ∀ p ∈ (sentK r d lost bs k).1, (p.at_ = -1 ∨ ((d : Int) < p.at_ ∧ p.at_ ≤ (k : Int) + (d : Int))) ∧ 0 ≤ p.seq ∧ p.seq < ((sentK r d lost bs k).1.length : Int)
  | 0, p, hp => by cases hp
  | k + 1, p, hp => by
    by_cases h : (sentK r d lost bs k).2 ++ bs.getD k [] = []
    · rw [sent_none h] at hp ⊢
      obtain ⟨h1, h2, h3⟩ := sent_in k p hp
      exact ⟨by omega, h2, h3⟩
    · rw [sent_some h] at hp ⊢
      dsimp only at hp ⊢
      rw [List.length_append, List.length_singleton]
      rcases List.mem_append.1 hp with hp | hp
      · obtain ⟨h1, h2, h3⟩ := sent_in k p hp
        exact ⟨by omega, h2, by omega⟩
      · rw [List.mem_singleton.1 hp]
        unfold nextRP
        dsimp only
        refine ⟨?_, by omega, by omega⟩
        split <;> omega
/-- What is sent later lies behind. -/
theorem sent_more (k : Nat) : ∀ n, ∃ l, (sentK r d lost bs (k + n)).1 = (sentK r d lost bs k).1 ++ l ∧ ∀ p ∈ l, (p.at_ = -1 ∨ (k : Int) + (d : Int) < p.at_) ∧ ((sentK r d lost bs k).1.length : Int) ≤ p.seq
  | 0 => ⟨[], by simp, fun p hp => by cases hp⟩
  | n + 1 => by
    obtain ⟨l, h1, h2⟩ := sent_more k n
    rw [← Nat.add_assoc]
    by_cases h : (sentK r d lost bs (k + n)).2 ++ bs.getD (k + n) [] = []
    · rw [sent_none h]
      exact ⟨l, h1, h2⟩
    · rw [sent_some h]
      dsimp only
      refine ⟨l ++ [nextRP r d lost (k + n) (sentK r d lost bs (k + n)).1 ((sentK r d lost bs (k + n)).2 ++ bs.getD (k + n) [])], by rw [h1, List.append_assoc], fun p hp => ?_⟩
      rcases List.mem_append.1 hp with hp | hp
      · exact h2 p hp
      · rw [List.mem_singleton.1 hp]
        unfold nextRP
        dsimp only
        rw [h1, List.length_append]
        refine ⟨?_, by omega⟩
        split <;> omega
theorem st_eq (k : Nat) : stK r d lost bs k = ⟨r, d, k, ((sentK r d lost bs k).1.length : Int), lost, (sentK r d lost bs k).2, ((sentK r d lost bs k).1.filter (fun p => decide ((k : Int) < p.at_))).map RP.pk⟩ ∧
    ∀ j, k = j + 1 → ((stK r d lost bs j).send (bs.getD j [])).out = ((sentK r d lost bs k).1.filter (fun p => decide (p.at_ = (k : Int)))).map RP.pk := by
  induction k with
  | zero => exact ⟨rfl, fun j h => by omega⟩
  | succ k ih =>
    have e := ih.1
    have ff : ∀ l : List RP, ((l.filter (fun p => decide ((k : Int) < p.at_))).map RP.pk).filter (fun p => decide (p.at_ ≠ (k : Int) + 1)) = (l.filter (fun p => decide (((k + 1 : Nat) : Int) < p.at_))).map RP.pk := fun l => by
      rw [List.filter_map, List.filter_filter]
      congr 1
      apply List.filter_congr
      intro p _
      show (decide (p.pk.at_ ≠ (k : Int) + 1) && decide ((k : Int) < p.at_)) = _
      unfold RP.pk
      dsimp only
      rw [Bool.eq_iff_iff]
      simp only [Bool.and_eq_true, decide_eq_true_eq, ne_eq]
      omega
    have fo : ∀ l : List RP, ((l.filter (fun p => decide ((k : Int) < p.at_))).map RP.pk).filter (fun p => decide (p.at_ = (k : Int) + 1)) = (l.filter (fun p => decide (p.at_ = ((k + 1 : Nat) : Int)))).map RP.pk := fun l => by
      rw [List.filter_map, List.filter_filter]
      congr 1
      apply List.filter_congr
      intro p _
      show (decide (p.pk.at_ = (k : Int) + 1) && decide ((k : Int) < p.at_)) = _
      unfold RP.pk
      dsimp only
      rw [Bool.eq_iff_iff]
      simp only [Bool.and_eq_true, decide_eq_true_eq]
      omega
    suffices hs : ((stK r d lost bs k).send (bs.getD k [])).tick = ⟨r, d, ((k + 1 : Nat) : Int), ((sentK r d lost bs (k + 1)).1.length : Int), lost, (sentK r d lost bs (k + 1)).2, ((sentK r d lost bs (k + 1)).1.filter (fun p => decide (((k + 1 : Nat) : Int) < p.at_))).map RP.pk⟩ ∧
        ((stK r d lost bs k).send (bs.getD k [])).out = ((sentK r d lost bs (k + 1)).1.filter (fun p => decide (p.at_ = ((k + 1 : Nat) : Int)))).map RP.pk by
      exact ⟨hs.1, fun j hj => by obtain rfl : k = j := by omega
                                  exact hs.2⟩
    rw [e]
    unfold LS.tick LS.out LS.put LS.send LS.pk LS.len
    dsimp only
    by_cases h : (sentK r d lost bs k).2 ++ bs.getD k [] = []
    · rw [sent_none h, if_pos h]
      dsimp only
      rw [ff, fo, h]
      exact ⟨by rw [show ((k + 1 : Nat) : Int) = (k : Int) + 1 by omega], rfl⟩
    · rw [sent_some h, if_neg h]
      dsimp only
      have hr : (r : Int).toNat = r := rfl
      rw [hr]
      have hl : (((sentK r d lost bs k).1 ++ [nextRP r d lost k (sentK r d lost bs k).1 ((sentK r d lost bs k).2 ++ bs.getD k [])]).length : Int) = ((sentK r d lost bs k).1.length : Int) + 1 := by rw [List.length_append, List.length_singleton]; omega
      rw [hl]
      by_cases hin : ((sentK r d lost bs k).1.length : Int) ∈ lost
      · rw [if_pos hin, ff, fo]
        have hn : nextRP r d lost k (sentK r d lost bs k).1 ((sentK r d lost bs k).2 ++ bs.getD k []) = ⟨((sentK r d lost bs k).1.length : Int), -1, ((sentK r d lost bs k).2 ++ bs.getD k []).take (lenR r ((sentK r d lost bs k).2 ++ bs.getD k []))⟩ := by unfold nextRP; rw [if_pos hin]
        have h1 : decide (((k + 1 : Nat) : Int) < -1) = false := decide_eq_false (by omega)
        have h2 : decide ((-1 : Int) = ((k + 1 : Nat) : Int)) = false := decide_eq_false (by omega)
        rw [hn, List.filter_append, List.filter_append, List.filter_cons, List.filter_cons]
        dsimp only
        rw [h1, h2]
        simp only [List.filter_nil, Bool.false_eq_true, if_false, List.append_nil]
        exact ⟨by rw [show ((k + 1 : Nat) : Int) = (k : Int) + 1 by omega]; rfl, trivial⟩
      · rw [if_neg hin]
        have hn : nextRP r d lost k (sentK r d lost bs k).1 ((sentK r d lost bs k).2 ++ bs.getD k []) = ⟨((sentK r d lost bs k).1.length : Int), (k : Int) + 1 + (d : Int), ((sentK r d lost bs k).2 ++ bs.getD k []).take (lenR r ((sentK r d lost bs k).2 ++ bs.getD k []))⟩ := by unfold nextRP; rw [if_neg hin]
        rw [hn, List.filter_append, List.filter_append, List.filter_append, List.filter_append, ff, fo, List.map_append, List.map_append, List.filter_cons, List.filter_cons, List.filter_cons, List.filter_cons]
        dsimp only
        have c1 : decide (((k + 1 : Nat) : Int) < (k : Int) + 1 + (d : Int)) = decide ((k : Int) + 1 + (d : Int) ≠ (k : Int) + 1) := by rw [Bool.eq_iff_iff]; simp only [decide_eq_true_eq, ne_eq]; omega
        have c2 : decide ((k : Int) + 1 + (d : Int) = ((k + 1 : Nat) : Int)) = decide ((k : Int) + 1 + (d : Int) = (k : Int) + 1) := by rw [Bool.eq_iff_iff]; simp only [decide_eq_true_eq]; omega
        rw [c1, c2]
        refine ⟨?_, ?_⟩
        · rw [show ((k + 1 : Nat) : Int) = (k : Int) + 1 by omega]
          by_cases hd : (k : Int) + 1 + (d : Int) ≠ (k : Int) + 1
          · rw [decide_eq_true hd]; rfl
          · rw [decide_eq_false hd]; rfl
        · by_cases hd : (k : Int) + 1 + (d : Int) = (k : Int) + 1
          · rw [decide_eq_true hd]; rfl
          · rw [decide_eq_false hd]; rfl
/-- How many bytes: those that left, and those that wait. -/
def sizes (l : List RP) : Nat := (l.map fun p => p.data.length).sum
theorem sizes_snoc (l : List RP) (p : RP) : sizes (l ++ [p]) = sizes l + p.data.length := by unfold sizes; simp
theorem sizes_append (l l' : List RP) : sizes (l ++ l') = sizes l + sizes l' := by unfold sizes; simp
theorem take_flat (bs : List (List UInt8)) (k : Nat) : (bs.take (k + 1)).flatten = (bs.take k).flatten ++ bs.getD k [] := by
  by_cases h : k < bs.length
  · rw [List.take_succ_eq_append_getElem h, List.flatten_append, List.getD_eq_getElem?_getD, List.getElem?_eq_getElem h]; simp
  · rw [List.take_of_length_le (by omega), List.take_of_length_le (by omega), List.getD_eq_getElem?_getD, List.getElem?_eq_none (by omega)]; simp
theorem sent_sum : ∀ k, sizes (sentK r d lost bs k).1 + (sentK r d lost bs k).2.length = (bs.take k).flatten.length
  | 0 => rfl
  | k + 1 => by
    have ih := sent_sum k
    rw [take_flat, List.length_append]
    by_cases h : (sentK r d lost bs k).2 ++ bs.getD k [] = []
    · have h2 : ((sentK r d lost bs k).2 ++ bs.getD k []).length = 0 := by rw [h]; rfl
      rw [List.length_append] at h2
      rw [sent_none h]
      dsimp only
      rw [List.length_nil]
      omega
    · rw [sent_some h]
      dsimp only
      rw [sizes_snoc, List.length_drop, List.length_append]
      unfold nextRP lenR
      dsimp only
      rw [List.length_take, List.length_append]
      omega
/-- What the law counts, over the first packets of all. -/
def goneL (left : Nat) (l : List RP) : Nat := sizes (l.filter fun p => decide (p.seq < (left : Int)))
def comingL (d now : Nat) (l : List RP) : Bool := l.any fun p => decide ((now : Int) < p.at_) && decide (p.at_ - (d : Int) ≤ (now : Int))
theorem goneL_snoc (left : Nat) (l : List RP) (p : RP) : goneL left (l ++ [p]) = if p.seq < (left : Int) then goneL left l + p.data.length else goneL left l := by
  unfold goneL
  rw [List.filter_append, List.filter_cons]
  by_cases h : p.seq < (left : Int)
  · rw [decide_eq_true h, if_pos h, if_pos rfl, List.filter_nil, sizes_snoc]
  · rw [decide_eq_false h, if_neg h]; simp
theorem comingL_snoc (d now : Nat) (l : List RP) (p : RP) : comingL d now (l ++ [p]) = (comingL d now l || (decide ((now : Int) < p.at_) && decide (p.at_ - (d : Int) ≤ (now : Int)))) := by
  unfold comingL
  rw [List.any_append, List.any_cons, List.any_nil, Bool.or_false]
theorem gone_all {n k : Nat} (h : k ≤ n) : goneL (sentK r d lost bs k).1.length (sentK r d lost bs n).1 = sizes (sentK r d lost bs k).1 := by
  obtain ⟨m, rfl⟩ := Nat.exists_eq_add_of_le h
  obtain ⟨l, h1, h2⟩ := sent_more (r := r) (d := d) (lost := lost) (bs := bs) k m
  rw [h1]
  unfold goneL
  rw [List.filter_append, List.filter_eq_self.2 (fun p hp => decide_eq_true (sent_in k p hp).2.2), List.filter_eq_nil_iff.2 (fun p hp => by rw [decide_eq_true_eq]; have := (h2 p hp).2; omega), List.append_nil]
theorem out_all {n k : Nat} (h : k + 1 ≤ n) : ((stK r d lost bs k).send (bs.getD k [])).out = ((sentK r d lost bs n).1.filter (fun p => decide (p.at_ = ((k + 1 : Nat) : Int)))).map RP.pk := by
  rw [(st_eq (k + 1)).2 k rfl]
  obtain ⟨m, rfl⟩ := Nat.exists_eq_add_of_le h
  obtain ⟨l, h1, h2⟩ := sent_more (r := r) (d := d) (lost := lost) (bs := bs) (k + 1) m
  have e2 : l.filter (fun p => decide (p.at_ = ((k + 1 : Nat) : Int))) = [] := List.filter_eq_nil_iff.2 (fun p hp => by rw [decide_eq_true_eq]; have := (h2 p hp).1; omega)
  rw [h1, List.filter_append, e2, List.append_nil]
theorem idle_all {n k : Nat} (h : k ≤ n) : idleB (stK r d lost bs k) = (decide (goneL (sentK r d lost bs k).1.length (sentK r d lost bs n).1 = (bs.take k).flatten.length) && !comingL d k (sentK r d lost bs n).1) := by
  rw [gone_all h, (st_eq k).1]
  unfold idleB
  dsimp only
  congr 1
  · have := sent_sum (r := r) (d := d) (lost := lost) (bs := bs) k
    rw [Bool.eq_iff_iff, decide_eq_true_eq, List.isEmpty_iff]
    constructor
    · intro e; rw [e] at this; simpa using this
    · intro e; exact List.eq_nil_of_length_eq_zero (by omega)
  · obtain ⟨m, rfl⟩ := Nat.exists_eq_add_of_le h
    obtain ⟨l, h1, h2⟩ := sent_more (r := r) (d := d) (lost := lost) (bs := bs) k m
    rw [h1]
    unfold comingL
    rw [List.any_append]
    have e2 : (l.any fun p => decide ((k : Int) < p.at_) && decide (p.at_ - (d : Int) ≤ (k : Int))) = false := by
      rw [List.any_eq_false]
      intro p hp
      have := (h2 p hp).1
      simp only [Bool.and_eq_true, decide_eq_true_eq]
      omega
    rw [e2, Bool.or_false, Bool.eq_iff_iff, List.isEmpty_iff, Bool.not_eq_true', List.any_eq_false, List.map_eq_nil_iff, List.filter_eq_nil_iff]
    constructor
    · intro hh p hp
      have := hh p hp
      simp only [Bool.and_eq_true, decide_eq_true_eq] at this ⊢
      omega
    · intro hh p hp
      have := hh p hp
      have h3 := (sent_in k p hp).1
      simp only [Bool.and_eq_true, decide_eq_true_eq] at this ⊢
      omega
end
end Go.Proofs.Ytieoeednfgpoiaa
