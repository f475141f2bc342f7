/- The paths of choices: which they are, and how many. Plain. No condition. -/
import Derived.Test.YtiajlmajenabiaaGreatWayG
namespace Go.Proofs.YtiajlmajenabiaaGreat
open Go.RowKit

set_option linter.unusedSimpArgs false
set_option linter.unusedVariables false
section
variable {ks : List KindV}
theorem mem_paths {d i j : Nat} {used : Nat → Bool} {way : List Int} {p : List Choice} : (j, way) :: p ∈ pathsL ks (d + 1) i used ↔ j < ks.length ∧ used j = false ∧ alikeK (kAt ks j) (kAt ks i) = true ∧ way ∈ (kAt ks j).ws ∧ p ∈ pathsL ks d (i + 1) (updF used j true) := by
  rw [pathsL, List.mem_flatMap]
  constructor
  · rintro ⟨j', hj', h⟩
    split at h
    · cases h
    · rename_i hu
      obtain ⟨way', hw, h⟩ := List.mem_flatMap.1 h
      obtain ⟨p', hp, e⟩ := List.mem_map.1 h
      injection e with e1 e2
      injection e1 with e1 e3
      subst e1 e2 e3
      simp only [Bool.or_eq_true, Bool.not_eq_true', not_or, Bool.not_eq_true, Bool.not_eq_false] at hu
      exact ⟨List.mem_range.1 hj', hu.1, hu.2, hw, hp⟩
  · rintro ⟨hj, h1, h2, hw, hp⟩
    refine ⟨j, List.mem_range.2 hj, ?_⟩
    rw [if_neg (by rw [h1, h2]; decide)]
    exact List.mem_flatMap.2 ⟨way, hw, List.mem_map.2 ⟨p, hp, rfl⟩⟩
theorem paths_cons {d i : Nat} {used : Nat → Bool} {p : List Choice} (h : p ∈ pathsL ks (d + 1) i used) : ∃ j way p', p = (j, way) :: p' := by
  have := paths_len h
  cases p with
  | nil => simp at this
  | cons x p' => exact ⟨x.1, x.2, p', rfl⟩
theorem nodup_flatMap {α β : Type} {f : α → List β} : ∀ {l : List α}, l.Nodup → (∀ a ∈ l, (f a).Nodup) → (∀ a ∈ l, ∀ b ∈ l, a ≠ b → ∀ x, x ∈ f a → x ∈ f b → False) → (l.flatMap f).Nodup
  | [], _, _, _ => by simp
  | a :: l, hn, h1, h2 => by
    rw [List.flatMap_cons, List.nodup_append]
    rw [List.nodup_cons] at hn
    refine ⟨h1 a List.mem_cons_self, nodup_flatMap hn.2 (fun b hb => h1 b (List.mem_cons_of_mem _ hb)) (fun b hb c hc => h2 b (List.mem_cons_of_mem _ hb) c (List.mem_cons_of_mem _ hc)), fun x hx y hy e => ?_⟩
    subst e
    obtain ⟨b, hb, hxb⟩ := List.mem_flatMap.1 hy
    exact h2 a List.mem_cons_self b (List.mem_cons_of_mem _ hb) (fun e => hn.1 (e ▸ hb)) x hx hxb
theorem nodup_mapI {α β : Type} {f : α → β} {l : List α} (hf : ∀ a ∈ l, ∀ b ∈ l, f a = f b → a = b) (h : l.Nodup) : (l.map f).Nodup := by
  unfold List.Nodup
  rw [List.pairwise_map]
  refine (List.Pairwise.and_mem.1 h).imp ?_
  rintro a b ⟨ha, hb, hab⟩ e
  exact hab (hf a ha b hb e)
theorem paths_nodup (hw : ∀ j, j < ks.length → (kAt ks j).ws.Nodup) : ∀ d i used, (pathsL ks d i used).Nodup
  | 0, _, _ => by simp [pathsL]
  | d + 1, i, used => by
    rw [pathsL]
    refine nodup_flatMap List.nodup_range (fun j hj => ?_) fun a ha b hb hab x hxa hxb => ?_
    · split
      · exact List.nodup_nil
      · refine nodup_flatMap (hw j (List.mem_range.1 hj)) (fun way _ => nodup_mapI (fun p _ q _ e => by injection e) (paths_nodup hw d _ _)) fun a _ b _ hab x hxa hxb => ?_
        obtain ⟨p, _, rfl⟩ := List.mem_map.1 hxa
        obtain ⟨q, _, e⟩ := List.mem_map.1 hxb
        injection e with e1 e2
        injection e1 with e1 e3
        exact hab e3.symm
    · split at hxa
      · cases hxa
      · split at hxb
        · cases hxb
        · obtain ⟨w1, _, h1⟩ := List.mem_flatMap.1 hxa
          obtain ⟨w2, _, h2⟩ := List.mem_flatMap.1 hxb
          obtain ⟨p, _, rfl⟩ := List.mem_map.1 h1
          obtain ⟨q, _, e⟩ := List.mem_map.1 h2
          injection e with e1 e2
          injection e1 with e1 e3
          exact hab e1.symm
/-- As many of a list are like one. -/
def cntK (k : KindV) (l : List KindV) : Nat := (l.filter fun o => alikeK o k).length
/-- From the front: how many are like it, itself and behind it. -/
def prodF : List KindV → Nat
  | [] => 1
  | y :: l => y.ws.length * (1 + cntK y l) * prodF l
theorem alike_eq {a b : KindV} : alikeK a b = true ↔ a.M = b.M ∧ a.L = b.L := by unfold alikeK; rw [decide_eq_true_iff]
theorem cntK_same {a b : KindV} (h : alikeK a b = true) (l : List KindV) : cntK a l = cntK b l := by
  have := alike_eq.1 h
  unfold cntK alikeK
  rw [this.1, this.2]
theorem cntK_snoc (k x : KindV) (l : List KindV) : cntK k (l ++ [x]) = cntK k l + if alikeK x k then 1 else 0 := by
  unfold cntK
  rw [List.filter_append, List.length_append]
  by_cases h : alikeK x k = true <;> simp [h]
theorem prodF_snoc (x : KindV) : ∀ l : List KindV, prodF (l ++ [x]) = prodF l * (x.ws.length * (1 + cntK x l))
  | [] => by simp [prodF, cntK]
  | y :: l => by
    rw [List.cons_append, prodF, prodF_snoc x l, prodF, cntK_snoc]
    have hc : cntK x (y :: l) = cntK x l + if alikeK y x then 1 else 0 := by
      unfold cntK
      rw [List.filter_cons]
      by_cases h : alikeK y x = true <;> simp [h]
    rw [hc]
    by_cases h : alikeK x y = true
    · have h' : alikeK y x = true := by rw [alike_eq] at h ⊢; exact ⟨h.1.symm, h.2.symm⟩
      rw [if_pos h, if_pos h', cntK_same h]
      generalize prodF l = A
      generalize cntK y l = C
      generalize y.ws.length = Y
      generalize x.ws.length = X
      rw [show Y * (1 + (C + 1)) * (A * (X * (1 + C))) = Y * (1 + C) * A * (X * (1 + (C + 1))) by ac_rfl]
    · have h' : ¬ alikeK y x = true := fun h2 => h (by rw [alike_eq] at h2 ⊢; exact ⟨h2.1.symm, h2.2.symm⟩)
      rw [if_neg h, if_neg h', Nat.add_zero, Nat.add_zero]
      generalize 1 + cntK y l = C
      generalize 1 + cntK x l = D
      ac_rfl
theorem flatMap_lenB {α β : Type} {f : α → List β} {b : α → Bool} {X : Nat} : ∀ {L : List α}, (∀ j ∈ L, (f j).length = if b j then X else 0) → (L.flatMap f).length = (L.filter b).length * X
  | [], _ => by simp
  | j :: L, h => by
    rw [List.flatMap_cons, List.length_append, h j List.mem_cons_self, flatMap_lenB fun k hk => h k (List.mem_cons_of_mem _ hk), List.filter_cons]
    by_cases hb : b j = true
    · rw [if_pos hb, if_pos hb, List.length_cons, Nat.succ_mul]; omega
    · rw [if_neg hb, if_neg hb]; omega
theorem kAt_list (ks : List KindV) : (List.range ks.length).map (kAt ks) = ks := by
  apply List.ext_getElem (by simp)
  intro i h1 h2
  simp [kAt, List.getD, h2]
theorem cnt_all (k : KindV) : ((List.range ks.length).filter fun j => alikeK (kAt ks j) k).length = cntK k ks := by
  have : cntK k ((List.range ks.length).map (kAt ks)) = ((List.range ks.length).filter fun j => alikeK (kAt ks j) k).length := by
    unfold cntK
    rw [List.filter_map, List.length_map]
    rfl
  rw [← this, kAt_list]
/-- As many used ones are like one. -/
def usedN (ks : List KindV) (used : Nat → Bool) (k : KindV) : Nat := ((List.range ks.length).filter fun j => used j && alikeK (kAt ks j) k).length
theorem filter_split {α : Type} (b c : α → Bool) : ∀ L : List α, (L.filter c).length = (L.filter fun j => b j && c j).length + (L.filter fun j => !b j && c j).length
  | [] => rfl
  | j :: L => by
    have := filter_split b c L
    simp only [List.filter_cons]
    cases b j <;> cases c j <;> simp <;> omega
theorem filter_one {b b' : Nat → Bool} {j : Nat} {v : Bool} (hj : b j = false) (hv : b' j = v) (hne : ∀ k, k ≠ j → b' k = b k) : ∀ {L : List Nat}, L.Nodup → j ∈ L → (L.filter b').length = (L.filter b).length + if v then 1 else 0
  | x :: L, hn, hm => by
    rw [List.nodup_cons] at hn
    rw [List.filter_cons, List.filter_cons]
    by_cases e : x = j
    · subst e
      have hs : L.filter b' = L.filter b := List.filter_congr fun k hk => hne k fun e => hn.1 (e ▸ hk)
      rw [hj, hv, hs]
      cases v <;> simp
    · have hm' : j ∈ L := by
        rcases List.mem_cons.1 hm with h | h
        · exact absurd h.symm e
        · exact h
      have ih := filter_one hj hv hne hn.2 hm'
      rw [hne x e]
      cases b x
      · simpa using ih
      · simp only [if_true, List.length_cons, ih]
        omega
/-- How many paths there are. -/
theorem paths_count (hw : ∀ a ∈ ks, ∀ b ∈ ks, alikeK a b = true → a.ws.length = b.ws.length) : ∀ (d i : Nat) (used : Nat → Bool), i + d = ks.length → (∀ k, usedN ks used k = cntK k (ks.take i)) → (pathsL ks d i used).length = prodF (ks.drop i)
  | 0, i, used, h, _ => by
    rw [List.drop_of_length_le (by omega)]
    rfl
  | d + 1, i, used, h, hu => by
    have hi : i < ks.length := by omega
    have hki : kAt ks i = ks[i] := by simp [kAt, List.getD, hi]
    have hdrop : ks.drop i = ks[i] :: ks.drop (i + 1) := List.drop_eq_getElem_cons hi
    rw [pathsL, flatMap_lenB (b := fun j => !used j && alikeK (kAt ks j) (kAt ks i)) (X := (kAt ks i).ws.length * prodF (ks.drop (i + 1)))]
    · have h1 := filter_split used (fun j => alikeK (kAt ks j) (kAt ks i)) (List.range ks.length)
      rw [cnt_all] at h1
      have h2 := hu (kAt ks i)
      unfold usedN at h2
      have h3 : cntK (kAt ks i) ks = cntK (kAt ks i) (ks.take i) + cntK (kAt ks i) (ks.drop i) := by
        unfold cntK
        rw [← List.length_append, ← List.filter_append, List.take_append_drop]
      have h4 : cntK (kAt ks i) (ks.drop i) = 1 + cntK (kAt ks i) (ks.drop (i + 1)) := by
        rw [hdrop]
        unfold cntK
        rw [List.filter_cons, if_pos (by rw [hki, alike_eq]; exact ⟨rfl, rfl⟩), List.length_cons]
        omega
      have h5 : ((List.range ks.length).filter fun j => !used j && alikeK (kAt ks j) (kAt ks i)).length = 1 + cntK (kAt ks i) (ks.drop (i + 1)) := by omega
      rw [h5, hdrop, prodF, ← hki]
      generalize 1 + cntK (kAt ks i) (ks.drop (i + 1)) = C
      ac_rfl
    · intro j hj
      have hj := List.mem_range.1 hj
      have hkj : kAt ks j = ks[j] := by simp [kAt, List.getD, hj]
      by_cases hb : (used j || !alikeK (kAt ks j) (kAt ks i)) = true
      · rw [if_pos hb, if_neg (by simp at hb ⊢; intro h1; rcases hb with h2 | h2; (rw [h1] at h2; cases h2); exact h2)]
        rfl
      · have hb' : used j = false ∧ alikeK (kAt ks j) (kAt ks i) = true := by simpa using hb
        rw [if_neg hb, if_pos (by rw [hb'.1, hb'.2]; rfl)]
        have hstep : ∀ k, usedN ks (updF used j true) k = cntK k (ks.take (i + 1)) := fun k => by
          have e1 : usedN ks (updF used j true) k = usedN ks used k + if alikeK (kAt ks j) k then 1 else 0 := by
            unfold usedN
            refine filter_one (j := j) (by rw [hb'.1]; rfl) (by rw [updF_at]; exact Bool.true_and _) (fun q hq => by rw [updF_ne _ _ hq]) List.nodup_range (List.mem_range.2 hj)
          rw [e1, hu k, List.take_succ_eq_append_getElem hi, cntK_snoc, ← hki]
          have := alike_eq.1 hb'.2
          unfold alikeK
          rw [this.1, this.2]
        have ih := paths_count hw d (i + 1) (updF used j true) (by omega) hstep
        have hlen : ∀ W : List (List Int), (W.flatMap fun way => (pathsL ks d (i + 1) (updF used j true)).map fun p => ((j, way) :: p : List Choice)).length = W.length * prodF (ks.drop (i + 1)) := by
          intro W
          induction W with
          | nil => simp
          | cons w W ihW => rw [List.flatMap_cons, List.length_append, ihW, List.length_map, ih, List.length_cons, Nat.succ_mul]; omega
        rw [hlen, hw _ (by rw [hkj]; exact List.getElem_mem _) _ (by rw [hki]; exact List.getElem_mem _) hb'.2]
theorem usedN_none (k : KindV) : usedN ks (fun _ => false) k = cntK k (ks.take 0) := by
  unfold usedN cntK
  simp
/-- What order tells is how many paths there are. -/
theorem orderN_prod : ∀ {i n : Nat}, i ≤ ks.length → orderN ks i = some n → n = prodF (ks.take i)
  | 0, n, _, h => by
    rw [orderN] at h
    injection h with h
    rw [← h]
    rfl
  | i + 1, n, hi, h => by
    cases ho : orderN ks i with
    | none => rw [orderN, ho] at h; cases h
    | some n0 =>
      have ih := orderN_prod (show i ≤ ks.length by omega) ho
      have hk : ks[i]? = some ks[i] := List.getElem?_eq_getElem (by omega)
      rw [orderN_succ ho hk] at h
      unfold timesN at h
      split at h
      · simp only [Option.bind_some] at h
        split at h
        · injection h with h
          rw [List.take_succ_eq_append_getElem (by omega), prodF_snoc, ← ih, ← h]
          have : likeN ks ks[i] i = 1 + cntK ks[i] (ks.take i) := rfl
          rw [this, Nat.mul_assoc]
        · cases h
      · cases h
end
end Go.Proofs.YtiajlmajenabiaaGreat
