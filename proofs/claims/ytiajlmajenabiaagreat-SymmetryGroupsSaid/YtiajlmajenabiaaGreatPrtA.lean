/- The shells of a surface are what is reached over edges: plain. No condition. -/
import Derived.Test.YtiajlmajenabiaaGreatPlB
import Derived.Test.YtiajlmajenabiaaGreatSh47
namespace Go.Proofs.YtiajlmajenabiaaGreat
open Go.RowKit

set_option linter.unusedSimpArgs false
set_option linter.unusedVariables false
/-- Two triangles with an edge in common. -/
def Adj (T : List Tri) (x y : Nat) : Prop := ∃ d o, d < 3 * T.length ∧ d / 3 = x ∧ oppF T d = some o ∧ o / 3 = y
/-- Reached over edges. -/
inductive Re (T : List Tri) : Nat → Nat → Prop
  | refl (x : Nat) : Re T x x
  | step {x y z : Nat} : Re T x y → Adj T y z → Re T x z
section
variable {m : Nat} {T : List Tri}
theorem Adj.lt {x y : Nat} (h : Adj T x y) : x < T.length ∧ y < T.length := by
  obtain ⟨d, o, hd, rfl, ho, rfl⟩ := h
  exact ⟨by omega, opp_tri ho⟩
theorem Adj.symm (hs : SurfE m T) {x y : Nat} (h : Adj T x y) : Adj T y x := by
  obtain ⟨d, o, hd, rfl, ho, rfl⟩ := h
  obtain ⟨h1, _, h2, _⟩ := opp_back hs hd ho
  exact ⟨o, d, h1, rfl, h2, rfl⟩
theorem Re.trans {x y z : Nat} (h1 : Re T x y) (h2 : Re T y z) : Re T x z := by
  induction h2 with
  | refl => exact h1
  | step _ h ih => exact ih.step h
theorem Re.symm (hs : SurfE m T) {x y : Nat} (h : Re T x y) : Re T y x := by
  induction h with
  | refl => exact .refl _
  | step _ h ih => exact (Re.step (.refl _) (h.symm hs)).trans ih
theorem Re.lt {x y : Nat} (h : Re T x y) (hx : x < T.length) : y < T.length := by
  cases h with
  | refl => exact hx
  | step _ h => exact h.lt.2
/-- What holds while a shell is gone through, from the triangle k. -/
structure BJ (T : List Tri) (n k : Nat) (O : List Int) (i : Nat) (s : List Int × List Nat) : Prop where
  bf : BFi T n s
  q : ∀ x ∈ s.2, Re T k x ∧ s.1.getD x 0 = (n : Int) ∧ O.getD x 0 < 0
  o : ∀ x, x ∉ s.2 → s.1.getD x 0 = O.getD x 0
  il : i ≤ s.2.length
  done : ∀ j, j < i → ∀ y, Adj T (s.2.getD j 0) y → y ∈ s.2
  k : k ∈ s.2
theorem getD_mem {l : List Nat} {i : Nat} (h : i < l.length) : l.getD i 0 ∈ l := by
  rw [List.getD_eq_getElem?_getD, List.getElem?_eq_getElem h]
  exact List.getElem_mem h
/-- One edge. -/
theorem BJ.over (hs : SurfE m T) {n k i : Nat} {O : List Int} {s : List Int × List Nat} (h : BJ T n k O i s) (hO : ∀ x y, 0 ≤ O.getD x 0 → Adj T x y → 0 ≤ O.getD y 0) {t : Nat} (ht : t ∈ s.2) {d : Nat} (hd : d < 3 * T.length) (hdt : d / 3 = t) :
    BJ T n k O i (overS T n d s) ∧ (∀ x ∈ s.2, x ∈ (overS T n d s).2) ∧ ∀ o, oppF T d = some o → o / 3 ∈ (overS T n d s).2 := by
  have hbf := overS_bf h.bf d
  unfold overS at hbf ⊢
  cases ho : oppF T d with
  | none => exact ⟨h, fun x hx => hx, fun o h => by cases h⟩
  | some o =>
    rw [ho] at hbf
    dsimp only at hbf ⊢
    have hadj : Adj T t (o / 3) := ⟨d, o, hd, hdt, ho, rfl⟩
    have hol := opp_tri ho
    by_cases hn : s.1.getD (o / 3) 0 < 0
    · rw [if_pos hn] at hbf ⊢
      have hl' : o / 3 < s.1.length := by rw [h.bf.len]; exact hol
      have hnm : o / 3 ∉ s.2 := fun hm => by have := h.bf.ge _ hm; omega
      refine ⟨⟨hbf, fun x hx => ?_, fun x hx => ?_, by have := h.il; rw [List.length_append]; omega, fun j hj y hy => ?_, List.mem_append_left _ h.k⟩, fun x hx => List.mem_append_left _ hx, fun o' e => ?_⟩
      · dsimp only
        rw [getD_set hl']
        rcases List.mem_append.1 hx with hx | hx
        · have hne : o / 3 ≠ x := fun e => hnm (e ▸ hx)
          rw [if_neg hne]
          exact h.q x hx
        · rw [List.mem_singleton.1 hx, if_pos rfl]
          exact ⟨(h.q t ht).1.step hadj, rfl, by rw [← h.o _ hnm]; exact hn⟩
      · dsimp only
        have hne : o / 3 ≠ x := fun e => hx (List.mem_append_right _ (by rw [e]; exact List.mem_singleton_self _))
        rw [getD_set hl', if_neg hne]
        exact h.o x fun hm => hx (List.mem_append_left _ hm)
      · have hjl : j < s.2.length := Nat.lt_of_lt_of_le hj h.il
        dsimp only at hy ⊢
        rw [List.getD_eq_getElem?_getD, List.getElem?_append_left hjl, ← List.getD_eq_getElem?_getD] at hy
        exact List.mem_append_left _ (h.done j hj y hy)
      · injection e with e
        subst e
        exact List.mem_append_right _ (List.mem_singleton_self _)
    · rw [if_neg hn] at hbf ⊢
      refine ⟨h, fun x hx => hx, fun o' e => ?_⟩
      injection e with e
      subst e
      apply Classical.byContradiction
      intro hm
      have h1 := h.o _ hm
      have h2 := hO (o / 3) t (by omega) (hadj.symm hs)
      have h3 := (h.q t ht).2.2
      omega
/-- One triangle. -/
theorem BJ.next (hs : SurfE m T) {n k i : Nat} {O : List Int} {s : List Int × List Nat} (h : BJ T n k O i s) (hO : ∀ x y, 0 ≤ O.getD x 0 → Adj T x y → 0 ≤ O.getD y 0) (hi : i < s.2.length) : BJ T n k O (i + 1) (overN T n (s.2.getD i 0) 3 s) := by
  have ht := getD_mem hi
  have htl := h.bf.lt _ ht
  have key : ∀ j, j ≤ 3 → BJ T n k O i (overN T n (s.2.getD i 0) j s) ∧ (∀ x ∈ s.2, x ∈ (overN T n (s.2.getD i 0) j s).2) ∧ ∀ r, r < j → ∀ o, oppF T (3 * s.2.getD i 0 + r) = some o → o / 3 ∈ (overN T n (s.2.getD i 0) j s).2 := by
    intro j
    induction j with
    | zero => exact fun _ => ⟨h, fun x hx => hx, fun r hr => absurd hr (Nat.not_lt_zero r)⟩
    | succ j ih =>
      intro hj
      obtain ⟨h1, h2, h3⟩ := ih (by omega)
      obtain ⟨g1, g2, g3⟩ := h1.over hs hO (h2 _ ht) (d := 3 * s.2.getD i 0 + j) (by omega) (by omega)
      refine ⟨g1, fun x hx => g2 x (h2 x hx), fun r hr o ho => ?_⟩
      rcases Nat.lt_succ_iff_lt_or_eq.1 hr with hr | rfl
      · exact g2 _ (h3 r hr o ho)
      · exact g3 o ho
  obtain ⟨h1, h2, h3⟩ := key 3 (Nat.le_refl _)
  obtain ⟨hl, he⟩ := overN_at (T := T) (n := n) (t := s.2.getD i 0) (j := 3) hi
  refine ⟨h1.bf, h1.q, h1.o, hl, fun j hj y hy => ?_, h1.k⟩
  rcases Nat.lt_succ_iff_lt_or_eq.1 hj with hj | rfl
  · exact h1.done j hj y hy
  · rw [he] at hy
    obtain ⟨d, o, hd, e, ho, rfl⟩ := hy
    refine h3 (d % 3) (Nat.mod_lt _ (by decide)) o ?_
    rw [show 3 * s.2.getD j 0 + d % 3 = d by omega]
    exact ho
theorem BJ.whole (hs : SurfE m T) {n k : Nat} {O : List Int} (hO : ∀ x y, 0 ≤ O.getD x 0 → Adj T x y → 0 ≤ O.getD y 0) : ∀ (f i : Nat) {s : List Int × List Nat}, T.length + 1 ≤ f + i → BJ T n k O i s → ∃ i', (bfsS T n f i s).2.length ≤ i' ∧ BJ T n k O i' (bfsS T n f i s)
  | 0, i, s, hf, h => ⟨i, by have := h.bf.short; show s.2.length ≤ i; omega, h⟩
  | f + 1, i, s, hf, h => by
    unfold bfsS
    by_cases hi : i < s.2.length
    · rw [if_pos hi]
      exact BJ.whole hs hO f (i + 1) (by omega) (h.next hs hO hi)
    · rw [if_neg hi]
      exact ⟨i, by omega, h⟩
open Classical in
/-- One shell more. -/
theorem shell_next (hs : SurfE m T) {k : Nat} {st : List Int × Nat} (h : Ofi T k st) (hk : k < T.length) (hO : ∀ x y, 0 ≤ st.1.getD x 0 → Adj T x y → 0 ≤ st.1.getD y 0) (x : Nat) :
    (shellS T k st).1.getD x 0 = if st.1.getD k 0 < 0 ∧ Re T k x then (st.2 : Int) else st.1.getD x 0 := by
  unfold shellS
  by_cases h0 : 0 ≤ st.1.getD k 0
  · rw [if_pos h0, if_neg (by omega)]
  · rw [if_neg h0]
    have hb := first_bf h hk
    have hkl : k < st.1.length := by rw [h.len]; exact hk
    have hj : BJ T st.2 k st.1 0 (st.1.set k (st.2 : Int), [k]) := by
      refine ⟨hb, fun x hx => ?_, fun x hx => ?_, Nat.zero_le _, fun j hj => absurd hj (Nat.not_lt_zero j), by simp⟩
      · rw [List.mem_singleton.1 hx]
        exact ⟨.refl _, by dsimp only; rw [getD_set hkl, if_pos rfl], by omega⟩
      · dsimp only
        rw [getD_set hkl, if_neg fun e => hx (by rw [e]; exact List.mem_singleton_self _)]
    obtain ⟨i', hi', hJ⟩ := BJ.whole hs hO (T.length + 1) 0 (by omega) hj
    have hall : ∀ y, Re T k y → y ∈ (bfsS T st.2 (T.length + 1) 0 (st.1.set k (st.2 : Int), [k])).2 := fun y hy => by
      induction hy with
      | refl => exact hJ.k
      | step _ ha ih =>
        obtain ⟨j, hj, e⟩ := List.getElem_of_mem ih
        refine hJ.done j (by omega) _ ?_
        rw [List.getD_eq_getElem?_getD, List.getElem?_eq_getElem hj, Option.getD_some, e]
        exact ha
    dsimp only
    by_cases hx : Re T k x
    · rw [if_pos ⟨by omega, hx⟩]
      exact (hJ.q x (hall x hx)).2.1
    · rw [if_neg fun h => hx h.2]
      exact hJ.o x fun hm => hx (hJ.q x hm).1
/-- Which triangles have numbers, and which have the same. -/
structure OfR (T : List Tri) (k : Nat) (st : List Int × Nat) : Prop where
  i : Ofi T k st
  a : ∀ x, x < T.length → (0 ≤ st.1.getD x 0 ↔ ∃ r, r < k ∧ Re T r x)
  b : ∀ x y, 0 ≤ st.1.getD x 0 → Adj T x y → st.1.getD y 0 = st.1.getD x 0
  c : ∀ x y, x < T.length → y < T.length → 0 ≤ st.1.getD x 0 → st.1.getD x 0 = st.1.getD y 0 → Re T x y
theorem of_re (hs : SurfE m T) : ∀ k, k ≤ T.length → OfR T k (ofS T k)
  | 0, h => by
    have hn : ∀ x, x < T.length → (ofS T 0).1.getD x 0 < 0 := fun x hx => by
      show (List.replicate T.length (-1 : Int)).getD x 0 < 0
      rw [List.getD_eq_getElem?_getD, List.getElem?_replicate, if_pos hx]
      decide
    refine ⟨of_inv 0 h, fun x hx => ⟨fun h => ?_, fun ⟨r, hr, _⟩ => absurd hr (Nat.not_lt_zero r)⟩, fun x y hx ha => ?_, fun x y hx _ h0 _ => ?_⟩
    · have := hn x hx; omega
    · have := hn x ha.lt.1; omega
    · have := hn x hx; omega
  | k + 1, hk => by
    have h := of_re hs k (by omega)
    have hO : ∀ x y, 0 ≤ (ofS T k).1.getD x 0 → Adj T x y → 0 ≤ (ofS T k).1.getD y 0 := fun x y hx ha => by rw [h.b x y hx ha]; exact hx
    have hn := fun x => shell_next hs h.i (show k < T.length by omega) hO x
    have hi := of_inv (T := T) (k + 1) hk
    show OfR T (k + 1) (shellS T k (ofS T k))
    replace hi : Ofi T (k + 1) (shellS T k (ofS T k)) := hi
    have hbnd : ∀ x, x < T.length → (ofS T k).1.getD x 0 < ((ofS T k).2 : Int) := fun x hx => by
      rcases h.i.val x with h1 | h1
      · exact h1
      · omega
    by_cases h0 : (ofS T k).1.getD k 0 < 0
    · have hnew : ∀ x, Re T k x → (ofS T k).1.getD x 0 < 0 := fun x hx => by
        apply Int.lt_of_not_ge
        intro hge
        obtain ⟨r, hr, hre⟩ := (h.a x (hx.lt (by omega))).1 hge
        have := (h.a k (by omega)).2 ⟨r, hr, hre.trans (hx.symm hs)⟩
        omega
      refine ⟨hi, fun x hx => ?_, fun x y hx ha => ?_, fun x y hx hy hge he => ?_⟩
      · rw [hn x]
        by_cases hr : Re T k x
        · rw [if_pos ⟨h0, hr⟩]
          exact ⟨fun _ => ⟨k, by omega, hr⟩, fun _ => by omega⟩
        · rw [if_neg fun h => hr h.2, h.a x hx]
          constructor
          · rintro ⟨r, h1, h2⟩
            exact ⟨r, by omega, h2⟩
          · rintro ⟨r, h1, h2⟩
            rcases Nat.lt_succ_iff_lt_or_eq.1 h1 with h1 | rfl
            · exact ⟨r, h1, h2⟩
            · exact absurd h2 hr
      · rw [hn x] at hx ⊢
        rw [hn y]
        by_cases hr : Re T k x
        · rw [if_pos ⟨h0, hr.step ha⟩, if_pos ⟨h0, hr⟩]
        · have hry : ¬ Re T k y := fun h => hr (h.step (ha.symm hs))
          rw [if_neg fun h => hr h.2] at hx
          rw [if_neg fun h => hry h.2, if_neg fun h => hr h.2]
          exact h.b x y hx ha
      · rw [hn x] at hge he
        rw [hn y] at he
        by_cases hr : Re T k x
        · by_cases hry : Re T k y
          · exact (hr.symm hs).trans hry
          · rw [if_pos ⟨h0, hr⟩, if_neg fun h => hry h.2] at he
            have := hbnd y hy
            omega
        · rw [if_neg fun h => hr h.2] at hge he
          by_cases hry : Re T k y
          · rw [if_pos ⟨h0, hry⟩] at he
            have := hbnd x hx
            omega
          · rw [if_neg fun h => hry h.2] at he
            exact h.c x y hx hy hge he
    · have hn2 : ∀ x, (shellS T k (ofS T k)).1.getD x 0 = (ofS T k).1.getD x 0 := fun x => by rw [hn x, if_neg fun h => h0 h.1]
      refine ⟨hi, fun x hx => ?_, fun x y hx ha => ?_, fun x y hx hy hge he => ?_⟩
      · rw [hn2, h.a x hx]
        constructor
        · rintro ⟨r, h1, h2⟩
          exact ⟨r, by omega, h2⟩
        · rintro ⟨r, h1, h2⟩
          rcases Nat.lt_succ_iff_lt_or_eq.1 h1 with h1 | rfl
          · exact ⟨r, h1, h2⟩
          · obtain ⟨q, hq, hq2⟩ := (h.a r (by omega)).1 (by omega)
            exact ⟨q, hq, hq2.trans h2⟩
      · rw [hn2] at hx
        rw [hn2, hn2]
        exact h.b x y hx ha
      · rw [hn2] at hge he
        rw [hn2] at he
        exact h.c x y hx hy hge he
/-- Two triangles are in one shell just if the one is reached from the other one. -/
theorem ofN_re (hs : SurfE m T) {x y : Nat} (hx : x < T.length) (hy : y < T.length) : ofN T x = ofN T y ↔ Re T x y := by
  have h := of_re hs T.length (Nat.le_refl _)
  have h1 := ofN_eq hx
  have h2 := ofN_eq hy
  have hx0 : 0 ≤ (ofS T T.length).1.getD x 0 := h.i.ge x hx hx
  constructor
  · intro e
    refine h.c x y hx hy hx0 ?_
    show (ofL T).getD x 0 = (ofL T).getD y 0
    rw [h1, h2, e]
  · intro hr
    have key : (ofL T).getD y 0 = (ofL T).getD x 0 := by
      clear h2 hy
      induction hr with
      | refl => rfl
      | step h3 ha ih =>
        have hy1 := h3.lt hx
        rw [← ih]
        exact h.b _ _ (by show 0 ≤ (ofL T).getD _ 0; rw [ih]; exact hx0) ha
    rw [h1, h2] at key
    omega
/-- The shells are the same, and their numbers, where the same triangles are reached. -/
theorem of_same {n : Nat} {U : List Tri} (hs : SurfE m T) (hu : SurfE n U) (hl : T.length = U.length) (hr : ∀ x y, x < T.length → (Re T x y ↔ Re U x y)) : ofL T = ofL U ∧ kN T = kN U := by
  have key : ∀ k, k ≤ T.length → (ofS T k).2 = (ofS U k).2 ∧ ∀ x, (ofS T k).1.getD x 0 = (ofS U k).1.getD x 0 := by
    intro k
    induction k with
    | zero => intro _; exact ⟨rfl, fun x => by simp only [ofS]; rw [hl]⟩
    | succ k ih =>
      intro hk
      obtain ⟨h1, h2⟩ := ih (by omega)
      have a := of_re hs k (by omega)
      have b := of_re hu k (by omega)
      have e1 := fun x => shell_next hs a.i (show k < T.length by omega) (fun x y hx ha => by rw [a.b x y hx ha]; exact hx) x
      have e2 := fun x => shell_next hu b.i (show k < U.length by omega) (fun x y hx ha => by rw [b.b x y hx ha]; exact hx) x
      refine ⟨?_, fun x => ?_⟩
      · show (shellS T k (ofS T k)).2 = (shellS U k (ofS U k)).2
        unfold shellS
        rw [← h2 k]
        split
        · exact h1
        · dsimp only
          rw [h1]
      · show (shellS T k (ofS T k)).1.getD x 0 = (shellS U k (ofS U k)).1.getD x 0
        rw [e1, e2, ← h2 k, ← h2 x, ← h1]
        have := hr k x (by omega)
        by_cases hq : (ofS T k).1.getD k 0 < 0 ∧ Re T k x
        · rw [if_pos hq, if_pos ⟨hq.1, this.1 hq.2⟩]
        · rw [if_neg hq, if_neg fun h => hq ⟨h.1, this.2 h.2⟩]
  have e : ofL T = ofL U := by
    apply List.ext_getElem (by rw [ofL_len, ofL_len, hl])
    intro i h1 h2
    have := (key T.length (Nat.le_refl _)).2 i
    have e1 : (ofS U T.length).1 = ofL U := by unfold ofL; rw [hl]
    rw [e1] at this
    change (ofL T).getD i 0 = _ at this
    rw [List.getD_eq_getElem?_getD, List.getD_eq_getElem?_getD, List.getElem?_eq_getElem h1, List.getElem?_eq_getElem h2] at this
    exact this
  exact ⟨e, by unfold kN; rw [e]⟩
end
end Go.Proofs.YtiajlmajenabiaaGreat
