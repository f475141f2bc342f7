/- SoupParts: the plain laws. No condition. -/
import Derived.Test.YtmmjonpkpeanpaaRefPart8
import Derived.Test.YtmmjonpkpeanpaaJoinA8
namespace Go.Proofs.Ytmmjonpkpeanpaa
open Go.RowKit

set_option linter.unusedSimpArgs false
set_option linter.unusedVariables false
/-- So many numbers, from this one on. -/
def seqL (b : Int) (n : Nat) : List Int := (List.range n).map fun i : Nat => b + (i : Int)
theorem seqL_len (b : Int) (n : Nat) : (seqL b n).length = n := by simp [seqL]
theorem seqL_at {b : Int} {n i : Nat} (h : i < n) : (seqL b n)[i]? = some (b + (i : Int)) := by simp [seqL, h]
theorem seqL_succ (b : Int) (n : Nat) : seqL b (n + 1) = seqL b n ++ [b + (n : Int)] := by simp [seqL, List.range_succ]
theorem seqL_mem {b : Int} {n : Nat} {x : Int} (h : x ∈ seqL b n) : b ≤ x ∧ x < b + n := by
  obtain ⟨i, hi, rfl⟩ := List.mem_map.1 h
  have := List.mem_range.1 hi
  omega
theorem seqL_nodup (b : Int) (n : Nat) : (seqL b n).Nodup := by
  rw [List.nodup_iff_pairwise_ne, List.pairwise_iff_getElem]
  intro i j hi hj hij
  simp only [seqL_len] at hi hj
  simp only [seqL, List.getElem_map, List.getElem_range]
  omega
theorem seqL_cons (b : Int) (n : Nat) : seqL b (n + 1) = b :: seqL (b + 1) n := by
  refine List.ext_getElem? fun i => ?_
  cases i with
  | zero => simp [seqL]
  | succ i =>
    by_cases hi : i < n
    · rw [seqL_at (by omega), List.getElem?_cons_succ, seqL_at hi]
      congr 1
      omega
    · rw [List.getElem?_eq_none (by rw [seqL_len]; omega), List.getElem?_eq_none (by rw [List.length_cons, seqL_len]; omega)]
theorem sorted_within : ∀ (L : List Int) (b : Int) (n : Nat), L.Pairwise (· < ·) → (∀ x ∈ L, b ≤ x ∧ x < b + n) → L.length ≤ n ∧ (L.length = n → L = seqL b n)
  | [], b, n, _, _ => ⟨Nat.zero_le _, fun h => by obtain rfl : n = 0 := h.symm; rfl⟩
  | x :: L, b, n, hp, hm => by
    have hx := hm x (List.mem_cons_self ..)
    cases n with
    | zero => omega
    | succ n =>
      have h := sorted_within L (b + 1) n (List.pairwise_cons.1 hp).2 fun y hy => by
        have h1 := (List.pairwise_cons.1 hp).1 y hy
        have h2 := hm y (List.mem_cons_of_mem _ hy)
        omega
      refine ⟨by have := h.1; rw [List.length_cons]; omega, fun he => ?_⟩
      rw [List.length_cons] at he
      have h3 := h.2 (by omega)
      rw [seqL_cons, h3]
      congr 1
      by_cases hn : n = 0
      · omega
      · have h4 : b + 1 ∈ L := by
          rw [h3]
          refine List.mem_of_getElem? (i := 0) ?_
          rw [seqL_at (by omega)]
          simp
        have := (List.pairwise_cons.1 hp).1 _ h4
        omega
theorem place_seq {b : Int} {n : Nat} {x : Int} (h0 : b ≤ x) (h1 : x < b + n) : placeL (seqL b n) x = x - b := by
  obtain ⟨k, hk⟩ := Int.eq_ofNat_of_zero_le (show 0 ≤ x - b by omega)
  obtain rfl : x = b + (k : Int) := by omega
  have hat := seqL_at (b := b) (n := n) (i := k) (by omega)
  rw [place_at (k := k) (fun hm => ?_) hat]
  · omega
  · obtain ⟨i, hi, e⟩ := List.mem_iff_getElem.1 hm
    rw [List.getElem_take] at e
    rw [List.length_take, seqL_len] at hi
    simp only [seqL, List.getElem_map, List.getElem_range] at e
    omega
/-- Two soups side by side. -/
def jT (Na : Int) (Ta Tb : List Tri) : List Tri := Ta ++ Tb.map (shT Na)
theorem shT_zero (T : List Tri) : T.map (shT 0) = T := by
  refine (List.map_congr_left fun t _ => ?_).trans (List.map_id T)
  show shT 0 t = t
  unfold shT
  simp
theorem join_two {a b : Sp} (ha : fitL a.N a.T = true) (hb : fitL b.N b.T = true) : joinL [a, b] = if 4096 < a.N + b.N then (0, [], 7) else (a.N + b.N, jT a.N a.T b.T, 0) := by
  have e : joinS [a, b] = (a.N + b.N, jT a.N a.T b.T) := by
    unfold joinS jT
    simp [joinStep, shT_zero]
  unfold joinL
  rw [if_neg (by simp [allFit, ha, hb]), e]
theorem fit_mem {N : Int} {T : List Tri} (h : fitL N T = true) {t : Tri} (ht : t ∈ T) : fitT N t = true := by
  unfold fitL at h
  simp only [Bool.and_eq_true, List.all_eq_true] at h
  exact h.2 t ht
theorem fit_mk {N : Int} {T : List Tri} (h0 : 0 ≤ N) (h1 : N ≤ 4096) (h : ∀ t ∈ T, fitT N t = true) : fitL N T = true := by
  unfold fitL
  simp only [Bool.and_eq_true, List.all_eq_true, decide_eq_true_eq]
  exact ⟨⟨h0, h1⟩, h⟩
theorem fit_join {Na Nb : Int} {Ta Tb : List Tri} (ha : fitL Na Ta = true) (hb : fitL Nb Tb = true) (h : Na + Nb ≤ 4096) : fitL (Na + Nb) (jT Na Ta Tb) = true := by
  have h1 := fit_N ha
  have h2 := fit_N hb
  refine fit_mk (by omega) h fun t ht => ?_
  rcases List.mem_append.1 ht with ht | ht
  · have := fitT_iff.1 (fit_mem ha ht)
    rw [fitT_iff]
    omega
  · obtain ⟨u, hu, rfl⟩ := List.mem_map.1 ht
    have := fitT_iff.1 (fit_mem hb hu)
    rw [fitT_iff]
    simp only [shT]
    omega
/-- A part by triangles of which there are so many. -/
theorem part_ok {N : Int} {T : List Tri} {l : List Int} (hf : fitL N T = true) (hi : ∀ x ∈ l, 0 ≤ x ∧ x < (T.length : Int)) (hd : l.Nodup) : partL N T l = ((((oldL N T l).length : Int), l.map fun i => partT (oldL N T l) (tri T i.toNat)), oldL N T l, 0) := by
  unfold partL
  rw [if_neg (by rw [hf]; simp), if_neg, if_neg (by simp [twiceL, hd])]
  rw [List.any_eq_true]
  rintro ⟨x, hx, ho⟩
  have := hi x hx
  unfold outOf at ho
  simp only [Bool.or_eq_true, decide_eq_true_eq] at ho
  omega
theorem has_iff {t : Tri} {v : Int} : hasV t v = true ↔ t.a = v ∨ t.b = v ∨ t.c = v := by
  unfold hasV
  simp only [Bool.or_eq_true, beq_iff_eq, or_assoc]
theorem tri_mem {T : List Tri} {i : Nat} (h : i < T.length) : tri T i ∈ T := by
  rw [tri_of (List.getElem?_eq_getElem h)]
  exact List.getElem_mem h
theorem tri_left {Na : Int} {Ta Tb : List Tri} {i : Nat} (h : i < Ta.length) : tri (jT Na Ta Tb) i = tri Ta i := by
  rw [tri_of (List.getElem?_eq_getElem h)]
  exact tri_of (by unfold jT; rw [List.getElem?_append_left h, List.getElem?_eq_getElem h])
theorem tri_right {Na : Int} {Ta Tb : List Tri} {i : Nat} (h : i < Tb.length) : tri (jT Na Ta Tb) (Ta.length + i) = shT Na (tri Tb i) := by
  rw [tri_of (List.getElem?_eq_getElem h)]
  exact tri_of (by unfold jT; rw [List.getElem?_append_right (by omega)]; simp [h])
theorem jT_len (Na : Int) (Ta Tb : List Tri) : (jT Na Ta Tb).length = Ta.length + Tb.length := by simp [jT]
section
variable {Na Nb : Int} {Ta Tb : List Tri}
theorem old_first (ha : fitL Na Ta = true) (hb : fitL Nb Tb = true) : ∀ x ∈ oldL (Na + Nb) (jT Na Ta Tb) (seqL 0 Ta.length), 0 ≤ x ∧ x < 0 + (Na.toNat : Int) := fun x hx => by
  obtain ⟨_, i, hi, hv⟩ := (old_mem _ _ _ _).1 hx
  have h1 := seqL_mem hi
  have h0 := fit_N ha
  rw [tri_left (by omega)] at hv
  have := fitT_iff.1 (fit_mem ha (tri_mem (i := i.toNat) (by omega)))
  have := has_iff.1 hv
  omega
theorem old_second (ha : fitL Na Ta = true) (hb : fitL Nb Tb = true) : ∀ x ∈ oldL (Na + Nb) (jT Na Ta Tb) (seqL Ta.length Tb.length), Na ≤ x ∧ x < Na + (Nb.toNat : Int) := fun x hx => by
  obtain ⟨_, i, hi, hv⟩ := (old_mem _ _ _ _).1 hx
  have h1 := seqL_mem hi
  have h0 := fit_N hb
  have hk : i.toNat = Ta.length + (i.toNat - Ta.length) := by omega
  rw [hk, tri_right (by omega)] at hv
  have := fitT_iff.1 (fit_mem hb (tri_mem (i := i.toNat - Ta.length) (by omega)))
  have := has_iff.1 hv
  simp only [shT] at this
  omega
theorem first_part (ha : fitL Na Ta = true) (hb : fitL Nb Tb = true) (h : Na + Nb ≤ 4096) :
    ∃ of X, partL (Na + Nb) (jT Na Ta Tb) (seqL 0 Ta.length) = (((of.length : Int), X), of, 0) ∧ X.length = Ta.length ∧ (of.length : Int) ≤ Na ∧ ((of.length : Int) = Na → X = Ta) := by
  have hs := sorted_within _ 0 Na.toNat (old_sorted (Na + Nb) (jT Na Ta Tb) (seqL 0 Ta.length)) (old_first ha hb)
  have h0 := fit_N ha
  refine ⟨oldL (Na + Nb) (jT Na Ta Tb) (seqL 0 Ta.length), (seqL 0 Ta.length).map fun i => partT (oldL (Na + Nb) (jT Na Ta Tb) (seqL 0 Ta.length)) (tri (jT Na Ta Tb) i.toNat), part_ok (fit_join ha hb h) (fun x hx => ?_) (seqL_nodup _ _), by simp [seqL_len], by omega, fun he => ?_⟩
  · have := seqL_mem hx
    rw [jT_len]
    omega
  · rw [hs.2 (by omega)]
    refine List.ext_getElem? fun i => ?_
    by_cases hi : i < Ta.length
    · rw [List.getElem?_map, seqL_at hi, List.getElem?_eq_getElem hi]
      simp only [Option.map_some]
      rw [show ((0 : Int) + (i : Int)).toNat = i by omega, tri_left hi, ← tri_of (List.getElem?_eq_getElem hi)]
      have := fitT_iff.1 (fit_mem ha (tri_mem hi))
      generalize tri Ta i = t at *
      unfold partT
      rw [place_seq (by omega) (by omega), place_seq (by omega) (by omega), place_seq (by omega) (by omega)]
      simp
    · rw [List.getElem?_eq_none (by simp [seqL_len]; omega), List.getElem?_eq_none (by omega)]
theorem second_part (ha : fitL Na Ta = true) (hb : fitL Nb Tb = true) (h : Na + Nb ≤ 4096) :
    ∃ at_ Y, partL (Na + Nb) (jT Na Ta Tb) (seqL Ta.length Tb.length) = (((at_.length : Int), Y), at_, 0) ∧ Y.length = Tb.length ∧ (at_.length : Int) ≤ Nb ∧ ((at_.length : Int) = Nb → Y = Tb) := by
  have hs := sorted_within _ Na Nb.toNat (old_sorted (Na + Nb) (jT Na Ta Tb) (seqL Ta.length Tb.length)) (old_second ha hb)
  have h0 := fit_N hb
  refine ⟨oldL (Na + Nb) (jT Na Ta Tb) (seqL Ta.length Tb.length), (seqL Ta.length Tb.length).map fun i => partT (oldL (Na + Nb) (jT Na Ta Tb) (seqL Ta.length Tb.length)) (tri (jT Na Ta Tb) i.toNat), part_ok (fit_join ha hb h) (fun x hx => ?_) (seqL_nodup _ _), by simp [seqL_len], by omega, fun he => ?_⟩
  · have := seqL_mem hx
    rw [jT_len]
    omega
  · rw [hs.2 (by omega)]
    refine List.ext_getElem? fun i => ?_
    by_cases hi : i < Tb.length
    · rw [List.getElem?_map, seqL_at hi, List.getElem?_eq_getElem hi]
      simp only [Option.map_some]
      rw [show ((Ta.length : Int) + (i : Int)).toNat = Ta.length + i by omega, tri_right hi, ← tri_of (List.getElem?_eq_getElem hi)]
      have := fitT_iff.1 (fit_mem hb (tri_mem hi))
      generalize tri Tb i = t at *
      unfold partT shT
      simp only
      rw [place_seq (by omega) (by omega), place_seq (by omega) (by omega), place_seq (by omega) (by omega)]
      obtain ⟨ta, tb, tc⟩ := t
      simp only [Option.some.injEq, Tri.mk.injEq]
      omega
    · rw [List.getElem?_eq_none (by simp [seqL_len]; omega), List.getElem?_eq_none (by omega)]
end
/-- What a part is: its numbers rise, and by them its triangles are what they were. -/
theorem place_get {L : List Int} {x : Int} (h : x ∈ L) : ∃ k : Nat, placeL L x = k ∧ k < L.length ∧ L[k]? = some x := by
  refine ⟨L.idxOf x, by unfold placeL; rw [if_pos h], List.idxOf_lt_length_of_mem h, ?_⟩
  rw [List.getElem?_eq_getElem (List.idxOf_lt_length_of_mem h), List.getElem_idxOf]
theorem part_fits {N : Int} {T : List Tri} {l : List Int} (hf : fitL N T = true) (hi : ∀ x ∈ l, 0 ≤ x ∧ x < (T.length : Int)) : fitL ((oldL N T l).length : Int) (l.map fun i => partT (oldL N T l) (tri T i.toNat)) = true := by
  have hs := sorted_within _ 0 N.toNat (old_sorted N T l) (fun x hx => by
    have := ((old_mem N T l x).1 hx).1
    omega)
  have h0 := fit_N hf
  refine fit_mk (by omega) (by have := hs.1; omega) fun t ht => ?_
  obtain ⟨x, hx, rfl⟩ := List.mem_map.1 ht
  have hxi := hi x hx
  have hft := fitT_iff.1 (fit_mem hf (tri_mem (i := x.toNat) (by omega)))
  have hm : ∀ v, hasV (tri T x.toNat) v = true → 0 ≤ v → v < N → v ∈ oldL N T l := fun v hv h1 h2 => (old_mem N T l v).2 ⟨⟨h1, h2⟩, x, hx, hv⟩
  obtain ⟨ka, ea, la, ga⟩ := place_get (hm _ (has_iff.2 (.inl rfl)) hft.1.1 hft.1.2.1)
  obtain ⟨kb, eb, lb, gb⟩ := place_get (hm _ (has_iff.2 (.inr (.inl rfl))) hft.1.2.2.1 hft.1.2.2.2.1)
  obtain ⟨kc, ec, lc, gc⟩ := place_get (hm _ (has_iff.2 (.inr (.inr rfl))) hft.1.2.2.2.2.1 hft.1.2.2.2.2.2)
  rw [fitT_iff]
  unfold partT
  simp only [ea, eb, ec]
  have hab : ka ≠ kb := fun e => hft.2.1 (by rw [e, gb] at ga; injection ga with ga; exact ga.symm)
  have hbc : kb ≠ kc := fun e => hft.2.2.1 (by rw [e, gc] at gb; injection gb with gb; exact gb.symm)
  have hca : kc ≠ ka := fun e => hft.2.2.2 (by rw [e, ga] at gc; injection gc with gc; exact gc.symm)
  omega
/-- One triangle of a part. -/
theorem part_tri {N : Int} {T : List Tri} {l : List Int} (hf : fitL N T = true) (hi : ∀ x ∈ l, 0 ≤ x ∧ x < (T.length : Int)) {i : Nat} {x : Int} (hx : l[i]? = some x) :
    ∃ ka kb kc : Nat, (l.map fun i => partT (oldL N T l) (tri T i.toNat))[i]? = some ⟨ka, kb, kc⟩ ∧ (oldL N T l)[ka]? = some (tri T x.toNat).a ∧ (oldL N T l)[kb]? = some (tri T x.toNat).b ∧ (oldL N T l)[kc]? = some (tri T x.toNat).c := by
  have hxm := List.mem_of_getElem? hx
  have hxi := hi x hxm
  have hft := fitT_iff.1 (fit_mem hf (tri_mem (i := x.toNat) (by omega)))
  have hm : ∀ v, hasV (tri T x.toNat) v = true → 0 ≤ v → v < N → v ∈ oldL N T l := fun v hv h1 h2 => (old_mem N T l v).2 ⟨⟨h1, h2⟩, x, hxm, hv⟩
  obtain ⟨ka, ea, la, ga⟩ := place_get (hm _ (has_iff.2 (.inl rfl)) hft.1.1 hft.1.2.1)
  obtain ⟨kb, eb, lb, gb⟩ := place_get (hm _ (has_iff.2 (.inr (.inl rfl))) hft.1.2.2.1 hft.1.2.2.2.1)
  obtain ⟨kc, ec, lc, gc⟩ := place_get (hm _ (has_iff.2 (.inr (.inr rfl))) hft.1.2.2.2.2.1 hft.1.2.2.2.2.2)
  refine ⟨ka, kb, kc, ?_, ga, gb, gc⟩
  rw [List.getElem?_map, hx]
  simp only [Option.map_some, partT, ea, eb, ec]
end Go.Proofs.Ytmmjonpkpeanpaa
