/- SoupBack: the plain laws. No condition. -/
import Derived.Test.YtmmjonpkpeanpaaRename8
import Derived.Test.YtmmjonpkpeanpaaEdgesW
namespace Go.Proofs.Ytmmjonpkpeanpaa
open Go.RowKit

set_option linter.unusedSimpArgs false
set_option linter.unusedVariables false
theorem fit_map (f : Tri → Tri) (N : Int) (T : List Tri) (h : fitL N T = true) (hf : ∀ t ∈ T, fitT N t = true → fitT N (f t) = true) : fitL N (T.map f) = true := by
  unfold fitL at *
  simp only [Bool.and_eq_true, List.all_eq_true] at *
  refine ⟨h.1, fun t ht => ?_⟩
  obtain ⟨u, hu, rfl⟩ := List.mem_map.1 ht
  exact hf u hu (h.2 u hu)
theorem fit_all {N : Int} {T : List Tri} (h : fitL N T = true) : ∀ t ∈ T, fitT N t = true := by
  unfold fitL at h
  simp only [Bool.and_eq_true, List.all_eq_true] at h
  exact h.2
theorem fit_mir {N : Int} {T : List Tri} (h : fitL N T = true) : fitL N (T.map mirT) = true := fit_map mirT N T h fun t _ ht => by
  rw [fitT_iff] at *
  unfold mirT
  simp only
  omega
theorem fit_turn {N : Int} {T : List Tri} (h : fitL N T = true) : fitL N (T.map (turnT 1)) = true := fit_map _ N T h fun t _ ht => by
  rw [show turnT 1 t = ⟨t.b, t.c, t.a⟩ from rfl]
  rw [fitT_iff] at *
  simp only
  omega
theorem edgeE_comm (a b : Int) : edgeE a b = edgeE b a := by
  unfold edgeE
  by_cases h1 : b < a
  · rw [if_pos h1, if_neg (by omega)]
  · by_cases h2 : a < b
    · rw [if_neg h1, if_pos h2]
    · obtain rfl : a = b := by omega
      rfl
theorem edgesL_mem {N : Int} {T : List Tri} (h : fitL N T = true) (x : Int × Int) : x ∈ edgesL N T ↔ ∃ t ∈ T, x ∈ edgesT t := by
  unfold edgesL
  rw [if_neg (by rw [h]; simp), foldl_ins_mem, List.mem_flatMap]
  simp
theorem edgesL_sorted (N : Int) (T : List Tri) : (edgesL N T).Pairwise ltE := by
  unfold edgesL
  split
  · exact List.Pairwise.nil
  · exact foldl_ins_sorted _ _ List.Pairwise.nil
theorem edgesL_nodup (N : Int) (T : List Tri) : (edgesL N T).Nodup := (edgesL_sorted N T).imp fun h e => by
  subst e
  exact ltE_irr _ h
theorem edges_same {N : Int} {T U : List Tri} (h : fitL N T = true) (hu : fitL N U = true) (hm : ∀ x, (∃ t ∈ T, x ∈ edgesT t) ↔ ∃ t ∈ U, x ∈ edgesT t) : edgesL N T = edgesL N U :=
  sorted_ext (r := ltE) (fun _ _ _ => ltE_trans) ltE_irr (edgesL_sorted N T) (edgesL_sorted N U) fun x => by rw [edgesL_mem h, edgesL_mem hu, hm]
theorem edges_map {N : Int} {T : List Tri} (f : Tri → Tri) (h : fitL N T = true) (hu : fitL N (T.map f) = true) (hf : ∀ t x, x ∈ edgesT (f t) ↔ x ∈ edgesT t) : edgesL N (T.map f) = edgesL N T :=
  edges_same hu h fun x => by
    constructor
    · rintro ⟨t, ht, hx⟩
      obtain ⟨u, hu, rfl⟩ := List.mem_map.1 ht
      exact ⟨u, hu, (hf u x).1 hx⟩
    · rintro ⟨t, ht, hx⟩
      exact ⟨f t, List.mem_map_of_mem ht, (hf t x).2 hx⟩
theorem edges_mir {N : Int} {T : List Tri} (h : fitL N T = true) : edgesL N (T.map mirT) = edgesL N T := edges_map mirT h (fit_mir h) fun t x => by
  unfold edgesT mirT
  simp only [edgeE_comm t.a t.c, edgeE_comm t.c t.b, edgeE_comm t.b t.a, List.mem_cons, List.not_mem_nil, or_false]
  constructor
  · rintro (h | h | h)
    · exact .inr (.inr h)
    · exact .inr (.inl h)
    · exact .inl h
  · rintro (h | h | h)
    · exact .inr (.inr h)
    · exact .inr (.inl h)
    · exact .inl h
theorem edges_turn {N : Int} {T : List Tri} (h : fitL N T = true) : edgesL N (T.map (turnT 1)) = edgesL N T := edges_map _ h (fit_turn h) fun t x => by
  unfold edgesT turnT
  simp only [if_neg (show ¬ (1 : Nat) = 0 by omega), if_pos rfl, List.mem_cons, List.not_mem_nil, or_false]
  constructor
  · rintro (h | h | h)
    · exact .inr (.inl h)
    · exact .inr (.inr h)
    · exact .inl h
  · rintro (h | h | h)
    · exact .inr (.inr h)
    · exact .inl h
    · exact .inr (.inl h)
theorem mir_mir (T : List Tri) : (T.map mirT).map mirT = T := by
  rw [List.map_map]
  exact (List.map_congr_left fun t _ => rfl).trans (List.map_id T)
/-- Turned so often. -/
def itR : Nat → List Tri → List Tri
  | 0, X => X
  | k + 1, X => (itR k X).map (turnT 1)
theorem itR_len (k : Nat) (X : List Tri) : (itR k X).length = X.length := by
  induction k with
  | zero => rfl
  | succ k ih => simp [itR, ih]
theorem itR_fit {N : Int} {T : List Tri} (h : fitL N T = true) : ∀ k, fitL N (itR k T) = true
  | 0 => h
  | k + 1 => fit_turn (itR_fit h k)
theorem itR_edges {N : Int} {T : List Tri} (h : fitL N T = true) : ∀ k, edgesL N (itR k T) = edgesL N T
  | 0 => rfl
  | k + 1 => (edges_turn (itR_fit h k)).trans (itR_edges h k)
theorem itR_three (T : List Tri) : itR 3 T = T := by
  show ((T.map _).map _).map _ = T
  rw [List.map_map, List.map_map]
  exact (List.map_congr_left fun t _ => rfl).trans (List.map_id T)
/-- Each triangle's second corner. -/
def secL (n : Nat) : List Int := (List.range n).map fun i : Nat => 3 * (i : Int) + 1
theorem secL_succ (n : Nat) : secL (n + 1) = secL n ++ [3 * (n : Int) + 1] := by simp [secL, List.range_succ]
theorem secL_len (n : Nat) : (secL n).length = n := by simp [secL]
theorem pick_sec {N : Int} {X : List Tri} (h : fitL N X = true) : pickL N X (secL X.length) = (N, X.map (turnT 1), 0) := by
  unfold pickL
  rw [if_neg (by rw [h]; simp), if_neg]
  · congr 2
    refine List.ext_getElem? fun i => ?_
    by_cases hi : i < X.length
    · simp only [secL, List.map_map, List.getElem?_map, List.getElem?_range hi, List.getElem?_eq_getElem hi, Option.map_some, Function.comp]
      unfold pickT
      rw [show (3 * (i : Int) + 1).toNat % 3 = 1 by omega, show (3 * (i : Int) + 1).toNat / 3 = i by omega, tri_of (List.getElem?_eq_getElem hi)]
    · rw [List.getElem?_eq_none (by simp [secL]; omega), List.getElem?_eq_none (by simp; omega)]
  · rw [List.any_eq_true]
    rintro ⟨x, hx, ho⟩
    obtain ⟨i, hi, rfl⟩ := List.mem_map.1 hx
    have := List.mem_range.1 hi
    unfold outOf at ho
    simp only [Bool.or_eq_true, decide_eq_true_eq] at ho
    omega
/-- The list of numbers that takes all back. -/
def bkL (l : List Int) (n : Nat) : Nat → List Int
  | 0 => List.replicate n 0
  | v + 1 => (bkL l n v).set (l.getD v 0).toNat (v : Int)
theorem bkL_len (l : List Int) (n : Nat) : ∀ v, (bkL l n v).length = n
  | 0 => by simp [bkL]
  | v + 1 => by simp [bkL, bkL_len l n v]
theorem perm_get {n : Nat} {l : List Int} (h : permP n l) {v : Nat} (hv : v < n) : 0 ≤ l.getD v 0 ∧ l.getD v 0 < n := by
  have hl := h.1
  rw [List.getD_eq_getElem?_getD, List.getElem?_eq_getElem (by omega)]
  exact h.2.2 _ (List.getElem_mem _)
theorem perm_inj {n : Nat} {l : List Int} (h : permP n l) {u v : Nat} (hu : u < n) (hv : v < n) (e : (l.getD u 0).toNat = (l.getD v 0).toNat) : u = v := by
  have hl := h.1
  have h1 := perm_get h hu
  have h2 := perm_get h hv
  have e2 : l.getD u 0 = l.getD v 0 := by omega
  rw [List.getD_eq_getElem?_getD, List.getElem?_eq_getElem (by omega), List.getD_eq_getElem?_getD, List.getElem?_eq_getElem (by omega)] at e2
  have hp := List.pairwise_iff_getElem.1 h.2.1
  rcases Nat.lt_trichotomy u v with h3 | h3 | h3
  · exact absurd e2 (hp u v (by omega) (by omega) h3)
  · exact h3
  · exact absurd e2.symm (hp v u (by omega) (by omega) h3)
theorem bkL_at {n : Nat} {l : List Int} (h : permP n l) : ∀ v, v ≤ n → ∀ u, u < v → (bkL l n v)[(l.getD u 0).toNat]? = some (u : Int)
  | 0, _, u, hu => absurd hu (by omega)
  | v + 1, hv, u, hu => by
    show ((bkL l n v).set (l.getD v 0).toNat (v : Int))[(l.getD u 0).toNat]? = _
    have hp := perm_get h (show v < n by omega)
    by_cases e : u = v
    · subst e
      rw [List.getElem?_set_self (by rw [bkL_len]; omega)]
    · rw [List.getElem?_set_ne (fun e2 => e (perm_inj h (by omega) (by omega) e2.symm))]
      exact bkL_at h v (by omega) u (by omega)
theorem bk_toL {n : Nat} {l : List Int} (h : permP n l) {x : Int} (h0 : 0 ≤ x) (h1 : x < n) : toL (bkL l n n) (toL l x) = x := by
  obtain ⟨u, rfl⟩ := Int.eq_ofNat_of_zero_le h0
  have h2 := bkL_at h n (Nat.le_refl _) u (by omega)
  unfold toL
  rw [show ((u : Int)).toNat = u from rfl, List.getD_eq_getElem?_getD, h2]
  rfl
theorem perm_of_mem {n : Nat} {l : List Int} (hl : l.length = n) (h : ∀ v : Nat, v < n → (v : Int) ∈ l) : permP n l := by
  have hin : ∀ x ∈ l, 0 ≤ x ∧ x < (n : Int) := fun x hx => by
    by_cases hx0 : 0 ≤ x ∧ x < (n : Int)
    · exact hx0
    · have h2 := sub_len (upto n) (l.erase x) (upto_nodup n) (fun y hy => by
        have hy2 := mem_upto.1 hy
        obtain ⟨yn, rfl⟩ := Int.eq_ofNat_of_zero_le hy2.1
        exact (List.mem_erase_of_ne (fun e : (yn : Int) = x => hx0 (e ▸ hy2))).2 (h yn (by omega)))
      have h3 := List.length_erase_of_mem hx
      have h4 := upto_len n
      have h5 : 0 < l.length := List.length_pos_of_mem hx
      omega
  refine ⟨by omega, List.nodup_iff_count.2 fun x => ?_, hin⟩
  by_cases hc : l.count x ≤ 1
  · exact hc
  · have hx : x ∈ l := List.one_le_count_iff.1 (by omega)
    have h2 := sub_len (upto n) (l.erase x) (upto_nodup n) (fun y hy => by
      have hy2 := mem_upto.1 hy
      obtain ⟨yn, rfl⟩ := Int.eq_ofNat_of_zero_le hy2.1
      by_cases e : (yn : Int) = x
      · rw [e]
        refine List.one_le_count_iff.1 ?_
        rw [List.count_erase_self]
        omega
      · exact (List.mem_erase_of_ne e).2 (h yn (by omega)))
    have h3 := List.length_erase_of_mem hx
    have h4 := upto_len n
    have h5 : 0 < l.length := List.length_pos_of_mem hx
    omega
theorem bk_perm {n : Nat} {l : List Int} (h : permP n l) : permP n (bkL l n n) := perm_of_mem (bkL_len l n n) fun v hv => List.mem_of_getElem? (bkL_at h n (Nat.le_refl _) v hv)
theorem toL_in {n : Nat} {l : List Int} (h : permP n l) {x : Int} (h0 : 0 ≤ x) (h1 : x < n) : 0 ≤ toL l x ∧ toL l x < n := by
  obtain ⟨u, rfl⟩ := Int.eq_ofNat_of_zero_le h0
  exact perm_get h (by omega)
theorem toL_inj {n : Nat} {l : List Int} (h : permP n l) {x y : Int} (h0 : 0 ≤ x) (h1 : x < n) (h2 : 0 ≤ y) (h3 : y < n) (e : toL l x = toL l y) : x = y := by
  rw [← bk_toL h h0 h1, ← bk_toL h h2 h3, e]
theorem fit_ren {n : Nat} {l : List Int} {T : List Tri} (h : fitL n T = true) (hp : permP n l) : fitL n (T.map (renT l)) = true := fit_map _ _ T h fun t _ ht => by
  rw [fitT_iff] at *
  obtain ⟨⟨a0, a1, b0, b1, c0, c1⟩, ab, bc, ca⟩ := ht
  have h1 := toL_in hp a0 a1
  have h2 := toL_in hp b0 b1
  have h3 := toL_in hp c0 c1
  refine ⟨⟨h1.1, h1.2, h2.1, h2.2, h3.1, h3.2⟩, fun e => ab (toL_inj hp a0 a1 b0 b1 e), fun e => bc (toL_inj hp b0 b1 c0 c1 e), fun e => ca (toL_inj hp c0 c1 a0 a1 e)⟩
theorem ren_back {n : Nat} {l : List Int} {T : List Tri} (h : fitL n T = true) (hp : permP n l) : (T.map (renT l)).map (renT (bkL l n n)) = T := by
  rw [List.map_map]
  refine (List.map_congr_left fun t ht => ?_).trans (List.map_id T)
  obtain ⟨⟨a0, a1, b0, b1, c0, c1⟩, _⟩ := fitT_iff.1 (fit_all h t ht)
  show renT _ (renT l t) = t
  unfold renT
  simp only
  rw [bk_toL hp a0 a1, bk_toL hp b0 b1, bk_toL hp c0 c1]
theorem edgeE_in {N a b : Int} (ha : 0 ≤ a ∧ a < N) (hb : 0 ≤ b ∧ b < N) : (0 ≤ (edgeE a b).1 ∧ (edgeE a b).1 < N) ∧ 0 ≤ (edgeE a b).2 ∧ (edgeE a b).2 < N := by
  unfold edgeE
  split
  · exact ⟨hb, ha⟩
  · exact ⟨ha, hb⟩
theorem edges_in {N : Int} {T : List Tri} (h : fitL N T = true) : ∀ x ∈ edgesL N T, ((0 ≤ x.1 ∧ x.1 < N) ∧ 0 ≤ x.2 ∧ x.2 < N) ∧ edgeE x.1 x.2 = x := fun x hx => by
  obtain ⟨t, ht, he⟩ := (edgesL_mem h x).1 hx
  obtain ⟨⟨a0, a1, b0, b1, c0, c1⟩, _⟩ := fitT_iff.1 (fit_all h t ht)
  have hid : ∀ a b, edgeE (edgeE a b).1 (edgeE a b).2 = edgeE a b := fun a b => by
    unfold edgeE
    split <;> simp only <;> rw [if_neg (by omega)]
  simp only [edgesT, List.mem_cons, List.not_mem_nil, or_false] at he
  rcases he with rfl | rfl | rfl
  · exact ⟨edgeE_in ⟨a0, a1⟩ ⟨b0, b1⟩, hid _ _⟩
  · exact ⟨edgeE_in ⟨b0, b1⟩ ⟨c0, c1⟩, hid _ _⟩
  · exact ⟨edgeE_in ⟨c0, c1⟩ ⟨a0, a1⟩, hid _ _⟩
theorem edgeE_cases (a b : Int) : edgeE a b = (a, b) ∨ edgeE a b = (b, a) := by
  unfold edgeE
  split
  · exact .inr rfl
  · exact .inl rfl
theorem edge_ren (f : Int → Int) (a b : Int) : edgeE (f (edgeE a b).1) (f (edgeE a b).2) = edgeE (f a) (f b) := by
  rcases edgeE_cases a b with e | e <;> rw [e]
  exact edgeE_comm _ _
theorem edges_le {n : Nat} {l : List Int} {T : List Tri} (h : fitL n T = true) (hp : permP n l) : (edgesL n T).length ≤ (edgesL n (T.map (renT l))).length := by
  have hf := fit_ren h hp
  have h1 := sub_len ((edgesL n T).map fun x => toL l x.1 * 100000 + toL l x.2) ((edgesL n T).map fun x => toL l x.1 * 100000 + toL l x.2)
  clear h1
  have key : ∀ (R : List (Int × Int)), R.Nodup → (∀ x ∈ R, x ∈ edgesL n T) → ∀ S : List (Int × Int), (∀ x ∈ R, edgeE (toL l x.1) (toL l x.2) ∈ S) → R.length ≤ S.length := by
    intro R
    induction R with
    | nil => intro _ _ S _; exact Nat.zero_le _
    | cons x R ih =>
      intro hn hs S hS
      have hx := hS x (List.mem_cons_self ..)
      have h2 := ih (List.nodup_cons.1 hn).2 (fun y hy => hs y (List.mem_cons_of_mem _ hy)) (S.erase (edgeE (toL l x.1) (toL l x.2))) (fun y hy => by
        refine (List.mem_erase_of_ne fun e => ?_).2 (hS y (List.mem_cons_of_mem _ hy))
        obtain ⟨⟨⟨x0, x1⟩, x2, x3⟩, ex⟩ := edges_in h x (hs x (List.mem_cons_self ..))
        obtain ⟨⟨⟨y0, y1⟩, y2, y3⟩, ey⟩ := edges_in h y (hs y (List.mem_cons_of_mem _ hy))
        have hxy : y = x := by
          rcases edgeE_cases (toL l y.1) (toL l y.2) with e1 | e1 <;> rcases edgeE_cases (toL l x.1) (toL l x.2) with e2 | e2 <;> rw [e1, e2] at e <;> injection e with e3 e4
          · rw [Prod.ext_iff]
            exact ⟨toL_inj hp y0 y1 x0 x1 e3, toL_inj hp y2 y3 x2 x3 e4⟩
          · have p1 := toL_inj hp y0 y1 x2 x3 e3
            have p2 := toL_inj hp y2 y3 x0 x1 e4
            rw [← ey, ← ex, p1, p2, edgeE_comm]
          · have p1 := toL_inj hp y2 y3 x0 x1 e3
            have p2 := toL_inj hp y0 y1 x2 x3 e4
            rw [← ey, ← ex, p1, p2, edgeE_comm]
          · rw [Prod.ext_iff]
            exact ⟨toL_inj hp y0 y1 x0 x1 e4, toL_inj hp y2 y3 x2 x3 e3⟩
        exact (List.nodup_cons.1 hn).1 (hxy ▸ hy))
      have h3 := List.length_erase_of_mem hx
      have h5 : 0 < S.length := List.length_pos_of_mem hx
      rw [List.length_cons]
      omega
  refine key _ (edgesL_nodup _ _) (fun x hx => hx) _ fun x hx => ?_
  obtain ⟨t, ht, he⟩ := (edgesL_mem h x).1 hx
  refine (edgesL_mem hf _).2 ⟨renT l t, List.mem_map_of_mem ht, ?_⟩
  simp only [edgesT, renT, List.mem_cons, List.not_mem_nil, or_false] at he ⊢
  rcases he with rfl | rfl | rfl
  · exact .inl (edge_ren _ _ _)
  · exact .inr (.inl (edge_ren _ _ _))
  · exact .inr (.inr (edge_ren _ _ _))
theorem edges_many {n : Nat} {l : List Int} {T : List Tri} (h : fitL n T = true) (hp : permP n l) : (edgesL n (T.map (renT l))).length = (edgesL n T).length := by
  have h1 := edges_le h hp
  have h2 := edges_le (fit_ren h hp) (bk_perm hp)
  rw [ren_back h hp] at h2
  omega
end Go.Proofs.Ytmmjonpkpeanpaa
