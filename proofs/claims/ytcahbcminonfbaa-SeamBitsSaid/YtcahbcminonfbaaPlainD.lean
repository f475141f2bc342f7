/- Numbered in another way, or in another order: as many witnesses, of the same kind. The plain law. -/
import Derived.Test.YtcahbcminonfbaaPlainC
namespace Go.Proofs.Ytcahbcminonfbaa
open Go.RowKit

theorem tri_range : ∀ T : List Tri, (List.range T.length).map (tri T) = T := fun T => by
  refine List.ext_getElem (by simp) fun i h1 h2 => ?_
  rw [List.getElem_map, List.getElem_range]
  exact tri_of (List.getElem?_eq_getElem h2)
theorem count_tri (T : List Tri) (p : Tri → Bool) : ((List.range T.length).filter fun i => p (tri T i)).length = T.countP p := by
  rw [← List.countP_eq_length_filter]
  conv => rhs; rw [← tri_range T, List.countP_map]
  rfl
/-- How many two of a list pass a test. -/
def pairC (test : Tri → Tri → Bool) : List Tri → Nat
  | [] => 0
  | t :: l => l.countP (test t) + pairC test l
theorem pairC_snoc (test : Tri → Tri → Bool) (t : Tri) : ∀ T : List Tri, pairC test (T ++ [t]) = pairC test T + T.countP fun a => test a t
  | [] => rfl
  | x :: T => by
    show (T ++ [t]).countP (test x) + pairC test (T ++ [t]) = _
    rw [pairC_snoc test t T, List.countP_append, List.countP_cons, List.countP_cons]
    show _ = (T.countP (test x) + pairC test T) + _
    simp only [List.countP_nil]
    omega
theorem refD_count (test : Tri → Tri → Bool) (T : List Tri) : ∀ n, n ≤ T.length → (refD test T n).length = pairC test (T.take n)
  | 0, _ => rfl
  | n + 1, h => by
    have ht : T[n]? = some (tri T n) := tri_at (by omega)
    have e : T.take (n + 1) = T.take n ++ [tri T n] := by rw [List.take_add_one, ht]; rfl
    have e1 : (refD test T (n + 1)).length = (refD test T n).length + ((List.range n).filter fun a => test (tri T a) (tri T n)).length := by
      unfold refD
      rw [List.range_succ, List.flatMap_append, List.length_append]
      simp
    rw [e, pairC_snoc, e1, refD_count test T n (by omega)]
    congr 1
    have hl : (T.take n).length = n := by rw [List.length_take]; omega
    rw [← count_tri, hl]
    congr 1
    refine List.filter_congr fun i hi => ?_
    have hi := List.mem_range.1 hi
    have : tri (T.take n) i = tri T i := tri_of (by rw [List.getElem?_take_of_lt hi]; exact tri_at (by omega))
    rw [this]
theorem pairC_perm {test : Tri → Tri → Bool} {T U : List Tri} (h : T.Perm U) : (∀ t u, t ∈ T → u ∈ T → test t u = test u t) → pairC test T = pairC test U := by
  induction h with
  | nil => exact fun _ => rfl
  | cons x h ih =>
    intro hs
    show _ + _ = _ + _
    rw [h.countP_eq, ih fun t u ht hu => hs t u (List.mem_cons_of_mem _ ht) (List.mem_cons_of_mem _ hu)]
  | swap x y l =>
    intro hs
    show (x :: l).countP (test y) + (l.countP (test x) + pairC test l) = (y :: l).countP (test x) + (l.countP (test y) + pairC test l)
    rw [List.countP_cons, List.countP_cons, hs y x (by simp) (by simp)]
    omega
  | trans h1 _ ih1 ih2 =>
    intro hs
    rw [ih1 hs, ih2 fun t u ht hu => hs t u (h1.mem_iff.2 ht) (h1.mem_iff.2 hu)]
theorem pairC_map (test : Tri → Tri → Bool) (f : Tri → Tri) : ∀ T : List Tri, pairC test (T.map f) = pairC (fun t u => test (f t) (f u)) T
  | [] => rfl
  | t :: l => by
    show (l.map f).countP (test (f t)) + pairC test (l.map f) = _
    rw [List.countP_map, pairC_map test f l]
    rfl
theorem reidx {m : Nat} {σ : Nat → Nat} (hp : ((List.range m).map σ).Perm (List.range m)) {p q : Nat → Bool} (h : ∀ v, v < m → q (σ v) = p v) : (List.range m).countP p = (List.range m).countP q := by
  rw [← hp.countP_eq q, List.countP_map]
  refine (List.countP_congr fun v hv => ?_).symm
  rw [Function.comp, h v (List.mem_range.1 hv)]

/-- The same triangles, renamed. -/
def mapT (ρ : Int → Int) (t : Tri) : Tri := ⟨ρ t.a, ρ t.b, ρ t.c⟩
structure Renames (m : Nat) (ρ : Int → Int) : Prop where
  inj : ∀ x y, ρ x = ρ y → x = y
  bad : ∀ v, badV (m : Int) (ρ v) = badV (m : Int) v
  perm : ((List.range m).map fun v : Nat => (ρ v).toNat).Perm (List.range m)
section
variable {m : Nat} {ρ : Int → Int} (h : Renames m ρ)
include h
theorem Renames.nat {v : Nat} (hv : v < m) : ((ρ v).toNat : Int) = ρ v := by
  have := h.bad (v : Int)
  have hb : badV (m : Int) (v : Int) = false := by unfold badV; simp; omega
  rw [hb] at this
  have := badV_no (by rw [this]; decide)
  omega
theorem Renames.eq (x y : Int) : (ρ x == ρ y) = (x == y) := by
  by_cases e : x = y
  · subst e; simp
  · rw [beq_eq_false_iff_ne.2 e, beq_eq_false_iff_ne.2 fun e' => e (h.inj _ _ e')]
theorem Renames.edge (t : Tri) (a b : Int) : edgeB (mapT ρ t) (ρ a) (ρ b) = edgeB t a b := by
  unfold edgeB mapT
  simp only [h.eq]
theorem Renames.twice (t u : Tri) : twiceB (mapT ρ t) (mapT ρ u) = twiceB t u := by
  show (edgeB (mapT ρ u) (ρ t.a) (ρ t.b) || edgeB (mapT ρ u) (ρ t.b) (ρ t.c) || edgeB (mapT ρ u) (ρ t.c) (ρ t.a)) = _
  rw [h.edge, h.edge, h.edge]
  rfl
theorem Renames.has (t : Tri) (v : Int) : hasB (mapT ρ t) (ρ v) = hasB t v := by
  unfold hasB mapT
  simp only [h.eq]
theorem Renames.mirr (t u : Tri) : mirrB (mapT ρ t) (mapT ρ u) = mirrB t u := by
  show (hasB (mapT ρ u) (ρ t.a) && hasB (mapT ρ u) (ρ t.b) && hasB (mapT ρ u) (ρ t.c)) = _
  rw [h.has, h.has, h.has]
  rfl
theorem Renames.loop (t : Tri) : loopT (mapT ρ t) = loopT t := by
  unfold loopT mapT
  simp only [h.eq]
theorem Renames.map_inj {t u : Tri} (e : mapT ρ t = mapT ρ u) : t = u := by
  obtain ⟨a, b, c⟩ := t
  obtain ⟨a', b', c'⟩ := u
  simp only [mapT, Tri.mk.injEq] at e
  rw [h.inj _ _ e.1, h.inj _ _ e.2.1, h.inj _ _ e.2.2]
omit h in
theorem map_verts (t : Tri) (x : Int) : x ∈ verts (mapT ρ t) ↔ ∃ y, y ∈ verts t ∧ x = ρ y := by
  constructor
  · intro hx
    rcases verts_mem.1 hx with e | e | e
    · exact ⟨_, verts_mem.2 (.inl rfl), e⟩
    · exact ⟨_, verts_mem.2 (.inr (.inl rfl)), e⟩
    · exact ⟨_, verts_mem.2 (.inr (.inr rfl)), e⟩
  · rintro ⟨y, hy, rfl⟩
    rcases verts_mem.1 hy with e | e | e
    · exact verts_mem.2 (.inl (by rw [e]; rfl))
    · exact verts_mem.2 (.inr (.inl (by rw [e]; rfl)))
    · exact verts_mem.2 (.inr (.inr (by rw [e]; rfl)))
theorem Renames.verts (t : Tri) (v : Int) : ρ v ∈ verts (mapT ρ t) ↔ v ∈ verts t := by
  rw [map_verts]
  constructor
  · rintro ⟨y, hy, e⟩
    rwa [h.inj _ _ e]
  · exact fun hv => ⟨v, hv, rfl⟩
theorem Renames.ok {t : Tri} (ht : TriOk m t) : TriOk m (mapT ρ t) := by
  have key : ∀ v : Int, 0 ≤ v → v < m → 0 ≤ ρ v ∧ ρ v < m := fun v h0 h1 => by
    have := h.bad v
    have hb : badV (m : Int) v = false := by unfold badV; simp; omega
    rw [hb] at this
    exact badV_no (by rw [this]; decide)
  obtain ⟨a0, a1, b0, b1, c0, c1, e1, e2, e3⟩ := ht
  exact ⟨(key _ a0 a1).1, (key _ a0 a1).2, (key _ b0 b1).1, (key _ b0 b1).2, (key _ c0 c1).1, (key _ c0 c1).2, fun e => e1 (h.inj _ _ e), fun e => e2 (h.inj _ _ e), fun e => e3 (h.inj _ _ e)⟩
theorem Renames.conn {T U : List Tri} (hp : U.Perm (T.map (mapT ρ))) (v : Int) : ConnE U (ρ v) ↔ ConnE T v := by
  have hm : ∀ u, u ∈ U ↔ ∃ t ∈ T, u = mapT ρ t := fun u => by
    rw [hp.mem_iff, List.mem_map]
    exact ⟨fun ⟨t, ht, e⟩ => ⟨t, ht, e.symm⟩, fun ⟨t, ht, e⟩ => ⟨t, ht, e.symm⟩⟩
  constructor
  · intro hc t u ht hv hu hv'
    have hr := hc _ _ ((hm _).2 ⟨t, ht, rfl⟩) ((h.verts t v).2 hv) ((hm _).2 ⟨u, hu, rfl⟩) ((h.verts u v).2 hv')
    refine hr (fun x => ∀ t', mapT ρ t' = x → ReachE (NbrE T v) t t') (fun t' e => by rw [h.map_inj e]; exact ReachE.refl _ _) (fun x y hx hn t' e => ?_) u rfl
    obtain ⟨⟨h1, h2⟩, ⟨h3, h4⟩, w, h5, h6, h7⟩ := hn
    obtain ⟨tx, htx, rfl⟩ := (hm x).1 h1
    obtain ⟨ty, hty, rfl⟩ := (hm y).1 h3
    obtain rfl := h.map_inj e
    obtain ⟨w', hw', rfl⟩ := (map_verts tx w).1 h6
    exact (hx tx rfl).step ⟨⟨htx, (h.verts _ _).1 h2⟩, ⟨hty, (h.verts _ _).1 h4⟩, w', fun e => h5 (by rw [e]), hw', (h.verts _ _).1 h7⟩
  · intro hc t u ht hv hu hv'
    obtain ⟨t, ht', rfl⟩ := (hm t).1 ht
    obtain ⟨u, hu', rfl⟩ := (hm u).1 hu
    refine ReachE.map (mapT ρ) (fun x y hn => ?_) (hc t u ht' ((h.verts _ _).1 hv) hu' ((h.verts _ _).1 hv'))
    obtain ⟨⟨h1, h2⟩, ⟨h3, h4⟩, w, h5, h6, h7⟩ := hn
    exact ⟨⟨(hm _).2 ⟨_, h1, rfl⟩, (h.verts _ _).2 h2⟩, ⟨(hm _).2 ⟨_, h3, rfl⟩, (h.verts _ _).2 h4⟩, ρ w, fun e => h5 (h.inj _ _ e), (h.verts _ _).2 h6, (h.verts _ _).2 h7⟩
end

/-- As many, and of one kind. -/
def AsMany (x y : List (Int × Int × Int)) : Prop := x.length = y.length ∧ (x.headD (0, 0, 0)).1 = (y.headD (0, 0, 0)).1
theorem AsMany.of {k : Int} {x y : List (Int × Int × Int)} (h : x.length = y.length) (hx : ∀ w ∈ x, w.1 = k) (hy : ∀ w ∈ y, w.1 = k) : AsMany x y := by
  refine ⟨h, ?_⟩
  cases x with
  | nil =>
    obtain rfl := List.eq_nil_of_length_eq_zero (l := y) (by rw [← h]; rfl)
    rfl
  | cons a l =>
    cases y with
    | nil => cases h
    | cons b l' => exact (hx a (by simp)).trans (hy b (by simp)).symm
theorem first_many {k : Int} {x y : List (Int × Int × Int)} {l l' : List (List (Int × Int × Int))} (h : x.length = y.length) (hx : ∀ w ∈ x, w.1 = k) (hy : ∀ w ∈ y, w.1 = k) (h2 : x = [] → AsMany (firstL l) (firstL l')) : AsMany (firstL (x :: l)) (firstL (y :: l')) := by
  by_cases e : x = []
  · have e' : y = [] := List.eq_nil_of_length_eq_zero (by rw [← h, e]; rfl)
    rw [firstL_no e, firstL_no e']
    exact h2 e
  · have e' : y ≠ [] := fun e' => e (List.eq_nil_of_length_eq_zero (by rw [h, e']; rfl))
    rw [firstL_yes e, firstL_yes e']
    exact AsMany.of h hx hy
theorem picks_count (kind : Int) (p : Nat → Bool) (k : Nat) : (picks kind p k).length = (List.range k).countP p := by
  unfold picks
  rw [List.length_map, ← List.countP_eq_length_filter]
theorem index_kind (N : Int) (n : Nat) (T : List Tri) : ∀ w ∈ indexL N n T, w.1 = 1 := fun w hw => by
  rw [indexL_wit] at hw
  obtain ⟨i, _, rfl⟩ := List.mem_map.1 hw
  rfl
theorem numbered_law {m : Nat} {ρ : Int → Int} (h : Renames m ρ) {T U : List Tri} (hp : U.Perm (T.map (mapT ρ))) : AsMany (refAll (m : Int) T) (refAll (m : Int) U) := by
  have hlen : U.length = T.length := by rw [hp.length_eq, List.length_map]
  have hmem : ∀ u, u ∈ U ↔ ∃ t ∈ T, u = mapT ρ t := fun u => by
    rw [hp.mem_iff, List.mem_map]
    exact ⟨fun ⟨t, ht, e⟩ => ⟨t, ht, e.symm⟩, fun ⟨t, ht, e⟩ => ⟨t, ht, e.symm⟩⟩
  have hcount : ∀ p : Tri → Bool, (∀ t, p (mapT ρ t) = p t) → T.countP p = U.countP p := fun p hpp => by
    rw [hp.countP_eq, List.countP_map]
    exact List.countP_congr fun t _ => by rw [Function.comp, hpp]
  unfold refAll
  refine first_many ?_ (index_kind _ _ _) (index_kind _ _ _) fun h1 => ?_
  · unfold indexL
    rw [hlen]
    split
    · rfl
    · rw [picks_count, picks_count]
      have e : ∀ T : List Tri, (List.range T.length).countP (indexB (m : Int) T) = T.countP fun t => (verts t).any (badV m) := fun T => by
        rw [← count_tri, ← List.countP_eq_length_filter]
        refine List.countP_congr fun i hi => ?_
        rw [indexB_tri (List.mem_range.1 hi), List.any_eq_true]
      rw [e, ← hlen, e]
      exact hcount _ fun t => by simp [verts, mapT, h.bad]
  rw [indexL_wit] at h1
  have h1 : indexD (m : Int) T.length T = [] := List.map_eq_nil_iff.1 h1
  obtain ⟨q1, q2, q3⟩ := indexD_nil rfl h1
  refine first_many ?_ (fun _ h => picks_kind h) (fun _ h => picks_kind h) fun h2 => ?_
  · rw [picks_count, picks_count]
    have e : ∀ T : List Tri, (List.range T.length).countP (loopB T) = T.countP loopT := fun T => by
      rw [← count_tri, ← List.countP_eq_length_filter]
      refine List.countP_congr fun i hi => ?_
      rw [loopB_tri (List.mem_range.1 hi)]
    rw [e, e]
    exact hcount _ h.loop
  have hl := picks_nil h2
  have hok : ∀ t ∈ T, TriOk m t := fun t ht => by
    obtain ⟨⟨a0, a1⟩, ⟨b0, b1⟩, c0, c1⟩ := q3 t ht
    obtain ⟨i, hi, rfl⟩ := tri_idx ht
    have hb := hl i hi
    rw [loopB_tri hi] at hb
    unfold loopT at hb
    simp only [Bool.or_eq_false_iff, beq_eq_false_iff_ne] at hb
    exact ⟨a0, a1, b0, b1, c0, c1, hb.1.1, hb.1.2, hb.2⟩
  have hoku : ∀ u ∈ U, TriOk m u := fun u hu => by
    obtain ⟨t, ht, rfl⟩ := (hmem u).1 hu
    exact h.ok (hok t ht)
  have hpair : ∀ (kind : Int) (test : Tri → Tri → Bool), (∀ t u, TriOk m t → TriOk m u → test t u = test u t) → (∀ t u, test (mapT ρ t) (mapT ρ u) = test t u) → (refW kind test T T.length).length = (refW kind test U U.length).length := fun kind test hs hm => by
    unfold refW
    rw [List.length_map, List.length_map, refD_count _ _ _ (Nat.le_refl _), refD_count _ _ _ (Nat.le_refl _), List.take_length, List.take_length, pairC_perm hp fun t u ht hu => hs t u (hoku t ht) (hoku u hu), pairC_map]
    simp only [hm]
  refine first_many (hpair 3 _ (fun t u _ _ => twice_symm t u) h.twice) (fun _ h => refW_kind h) (fun _ h => refW_kind h) fun h3 => ?_
  refine first_many (hpair 4 _ (fun t u ht hu => mirr_symm ht hu) h.mirr) (fun _ h => refW_kind h) (fun _ h => refW_kind h) fun h4 => ?_
  rw [Int.toNat_natCast]
  refine first_many ?_ (fun _ h => picks_kind h) (fun _ h => picks_kind h) fun h5 => ?_
  · rw [picks_count, picks_count]
    refine reidx h.perm fun v hv => ?_
    congr 1
    rw [Bool.eq_iff_iff, used_iff, used_iff, h.nat hv]
    constructor
    · rintro ⟨i, hi, hx⟩
      obtain ⟨t, ht, e⟩ := (hmem _).1 (tri_mem hi)
      rw [e, h.verts] at hx
      obtain ⟨j, hj, rfl⟩ := tri_idx ht
      exact ⟨j, hj, hx⟩
    · rintro ⟨i, hi, hx⟩
      obtain ⟨j, hj, e⟩ := tri_idx ((hmem _).2 ⟨_, tri_mem hi, rfl⟩)
      exact ⟨j, hj, by rw [e, h.verts]; exact hx⟩
  refine first_many ?_ (fun _ h => picks_kind h) (fun _ h => picks_kind h) fun _ => ⟨rfl, rfl⟩
  rw [picks_count, picks_count]
  refine reidx h.perm fun v hv => ?_
  have e1 := pinched_conn hoku (ρ v).toNat
  have e2 := pinched_conn hok v
  rw [h.nat hv, h.conn hp] at e1
  cases e : pinchedB T T.length v with
  | false => exact e1.2 (e2.1 e)
  | true =>
    cases e' : pinchedB U U.length (ρ v).toNat with
    | true => rfl
    | false =>
      have := e2.2 (e1.1 e')
      rw [e] at this
      cases this

/-! ### A list of numbers renames -/
def renB (L : List Int) (m : Nat) (v : Int) : Int := if 0 ≤ v ∧ v < m then L.getD v.toNat 0 else v
theorem ren_list {m : Nat} {L : List Int} (hp : L.Perm ((List.range m).map fun i : Nat => (i : Int))) : Renames m (renB L m) := by
  have hl : L.length = m := by rw [hp.length_eq]; simp
  have hm : ∀ x, x ∈ L ↔ 0 ≤ x ∧ x < m := fun x => by
    rw [hp.mem_iff, List.mem_map]
    constructor
    · rintro ⟨i, hi, rfl⟩
      have := List.mem_range.1 hi
      omega
    · exact fun h => ⟨x.toNat, List.mem_range.2 (by omega), by omega⟩
  have hnd : L.Nodup := hp.nodup_iff.2 ((List.pairwise_map).2 (List.nodup_range.imp fun h e => h (by omega)))
  have hin : ∀ v : Nat, v < m → L.getD v 0 ∈ L := fun v hv => by
    rw [List.getD_eq_getElem?_getD, List.getElem?_eq_getElem (by omega)]
    exact List.getElem_mem _
  refine ⟨fun x y e => ?_, fun v => ?_, ?_⟩
  · unfold renB at e
    by_cases hx : 0 ≤ x ∧ x < m
    · have h1 := (hm _).1 (hin x.toNat (by omega))
      by_cases hy : 0 ≤ y ∧ y < m
      · rw [if_pos hx, if_pos hy, List.getD_eq_getElem?_getD, List.getD_eq_getElem?_getD, List.getElem?_eq_getElem (by omega), List.getElem?_eq_getElem (by omega)] at e
        have e : L[x.toNat]'(by omega) = L[y.toNat]'(by omega) := e
        have hd := List.pairwise_iff_getElem.1 hnd
        rcases Nat.lt_trichotomy x.toNat y.toNat with h' | h' | h'
        · exact absurd e (hd _ _ _ _ h')
        · omega
        · exact absurd e.symm (hd _ _ _ _ h')
      · rw [if_pos hx, if_neg hy] at e
        rw [e] at h1
        exact absurd h1 hy
    · by_cases hy : 0 ≤ y ∧ y < m
      · have h1 := (hm _).1 (hin y.toNat (by omega))
        rw [if_neg hx, if_pos hy] at e
        rw [← e] at h1
        exact absurd h1 hx
      · rwa [if_neg hx, if_neg hy] at e
  · unfold renB
    split
    · rename_i hv
      have h1 := (hm _).1 (hin v.toNat (by omega))
      have e1 : badV (m : Int) (L.getD v.toNat 0) = false := by
        generalize L.getD v.toNat 0 = z at h1 ⊢
        unfold badV
        simp
        omega
      have e2 : badV (m : Int) v = false := by unfold badV; simp; omega
      rw [e1, e2]
    · rfl
  · have e : ((List.range m).map fun v : Nat => (renB L m v).toNat) = L.map Int.toNat := by
      refine List.ext_getElem (by simp [hl]) fun i h1 h2 => ?_
      simp only [List.length_map, List.length_range] at h1
      rw [List.getElem_map, List.getElem_map, List.getElem_range]
      unfold renB
      rw [if_pos (by omega), List.getD_eq_getElem?_getD, Int.toNat_natCast, List.getElem?_eq_getElem (by omega)]
      rfl
    rw [e]
    have := hp.map Int.toNat
    rw [List.map_map] at this
    have e' : (Int.toNat ∘ fun i : Nat => (i : Int)) = id := by funext i; rfl
    rw [e', List.map_id] at this
    exact this
end Go.Proofs.Ytcahbcminonfbaa
