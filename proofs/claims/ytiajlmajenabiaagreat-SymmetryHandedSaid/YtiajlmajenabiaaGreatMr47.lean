/- A closed surface without one triangle is a surface; with one turned round three witnesses tell of it: the plain law. -/
import Derived.Test.YtiajlmajenabiaaGreatPlB
import Derived.Test.YtiajlmajenabiaaGreatFm47
import Derived.Test.YtiajlmajenabiaaGreatCert1
import Derived.Laws.MakeOwn
import Derived.Test.YtiajlmajenabiaaGreatKd47
import Derived.Test.YtiajlmajenabiaaGreatWz47
set_option maxRecDepth 100000
set_option maxHeartbeats 16000000
set_option linter.all false
namespace Go.Proofs.YtiajlmajenabiaaGreat
open Go.RowKit
theorem twice_symm (t u : Tri) : twiceB t u = twiceB u t := by
 rw [Bool.eq_iff_iff, twice_edges, twice_edges]
 exact ⟨fun ⟨a, b, h, h'⟩ => ⟨a, b, h', h⟩, fun ⟨a, b, h, h'⟩ => ⟨a, b, h', h⟩⟩
theorem mirr_symm {m : Nat} {t u : Tri} (ht : TriOk m t) (hu : TriOk m u) : mirrB t u = mirrB u t := by
 rw [Bool.eq_iff_iff, mirrB_iff ht hu, mirrB_iff hu ht]
 exact ⟨fun ⟨x, h, h'⟩ => ⟨x, h', h⟩, fun ⟨x, h, h'⟩ => ⟨x, h', h⟩⟩
end Go.Proofs.YtiajlmajenabiaaGreat
namespace Go.Proofs.YtiajlmajenabiaaGreat
open Go.RowKit
theorem tri_range : ∀ T : List Tri, (List.range T.length).map (tri T) = T := fun T => by
 refine List.ext_getElem (by simp) fun i h1 h2 => ?_
 rw [List.getElem_map, List.getElem_range]
 exact tri_of (List.getElem?_eq_getElem h2)
theorem count_tri (T : List Tri) (p : Tri → Bool) : ((List.range T.length).filter fun i => p (tri T i)).length = T.countP p := by
 rw [← List.countP_eq_length_filter]
 conv => rhs; rw [← tri_range T, List.countP_map]
 rfl
def pairC (test : Tri → Tri → Bool) : List Tri → Nat
 | [] => 0
 | t :: l => l.countP (test t) + pairC test l
theorem pairC_snoc (test : Tri → Tri → Bool) (t : Tri) : ∀ T : List Tri, pairC test (T ++ [t]) = pairC test T + T.countP fun a => test a t
 | [] => rfl
 | x :: T => by
  show (T ++ [t]).countP (test x) + pairC test (T ++ [t]) = _
  rw [pairC_snoc test t T, List.countP_append, List.countP_cons, List.countP_cons]
  show _ = (T.countP (test x) + pairC test T) + _
  simp only [List.countP_nil]
  omega
theorem refD_count (test : Tri → Tri → Bool) (T : List Tri) : ∀ n, n ≤ T.length → (refD test T n).length = pairC test (T.take n)
 | 0, _ => rfl
 | n + 1, h => by
  have ht : T[n]? = some (tri T n) := tri_at (by omega)
  have e : T.take (n + 1) = T.take n ++ [tri T n] := by rw [List.take_add_one, ht]; rfl
  have e1 : (refD test T (n + 1)).length = (refD test T n).length + ((List.range n).filter fun a => test (tri T a) (tri T n)).length := by
   unfold refD
   rw [List.range_succ, List.flatMap_append, List.length_append]
   simp
  rw [e, pairC_snoc, e1, refD_count test T n (by omega)]
  congr 1
  have hl : (T.take n).length = n := by rw [List.length_take]; omega
  rw [← count_tri, hl]
  congr 1
  refine List.filter_congr fun i hi => ?_
  have hi := List.mem_range.1 hi
  have : tri (T.take n) i = tri T i := tri_of (by rw [List.getElem?_take_of_lt hi]; exact tri_at (by omega))
  rw [this]
theorem pairC_perm {test : Tri → Tri → Bool} {T U : List Tri} (h : T.Perm U) : (∀ t u, t ∈ T → u ∈ T → test t u = test u t) → pairC test T = pairC test U := by
 induction h with
 | nil => exact fun _ => rfl
 | cons x h ih =>
  intro hs
  show _ + _ = _ + _
  rw [h.countP_eq, ih fun t u ht hu => hs t u (List.mem_cons_of_mem _ ht) (List.mem_cons_of_mem _ hu)]
 | swap x y l =>
  intro hs
  show (x :: l).countP (test y) + (l.countP (test x) + pairC test l) = (y :: l).countP (test x) + (l.countP (test y) + pairC test l)
  rw [List.countP_cons, List.countP_cons, hs y x (by simp) (by simp)]
  omega
 | trans h1 _ ih1 ih2 =>
  intro hs
  rw [ih1 hs, ih2 fun t u ht hu => hs t u (h1.mem_iff.2 ht) (h1.mem_iff.2 hu)]
theorem pairC_map (test : Tri → Tri → Bool) (f : Tri → Tri) : ∀ T : List Tri, pairC test (T.map f) = pairC (fun t u => test (f t) (f u)) T
 | [] => rfl
 | t :: l => by
  show (l.map f).countP (test (f t)) + pairC test (l.map f) = _
  rw [List.countP_map, pairC_map test f l]
  rfl
theorem reidx {m : Nat} {σ : Nat → Nat} (hp : ((List.range m).map σ).Perm (List.range m)) {p q : Nat → Bool} (h : ∀ v, v < m → q (σ v) = p v) : (List.range m).countP p = (List.range m).countP q := by
 rw [← hp.countP_eq q, List.countP_map]
 refine (List.countP_congr fun v hv => ?_).symm
 rw [Function.comp, h v (List.mem_range.1 hv)]
def mapT (ρ : Int → Int) (t : Tri) : Tri := ⟨ρ t.a, ρ t.b, ρ t.c⟩
structure Renames (m : Nat) (ρ : Int → Int) : Prop where
 inj : ∀ x y, ρ x = ρ y → x = y
 bad : ∀ v, badV (m : Int) (ρ v) = badV (m : Int) v
 perm : ((List.range m).map fun v : Nat => (ρ v).toNat).Perm (List.range m)
section
variable {m : Nat} {ρ : Int → Int} (h : Renames m ρ)
include h
theorem Renames.nat {v : Nat} (hv : v < m) : ((ρ v).toNat : Int) = ρ v := by
 have := h.bad (v : Int)
 have hb : badV (m : Int) (v : Int) = false := by unfold badV; simp; omega
 rw [hb] at this
 have := badV_no (by rw [this]; decide)
 omega
theorem Renames.eq (x y : Int) : (ρ x == ρ y) = (x == y) := by
 by_cases e : x = y
 · subst e; simp
 · rw [beq_eq_false_iff_ne.2 e, beq_eq_false_iff_ne.2 fun e' => e (h.inj _ _ e')]
theorem Renames.edge (t : Tri) (a b : Int) : edgeB (mapT ρ t) (ρ a) (ρ b) = edgeB t a b := by
 unfold edgeB mapT
 simp only [h.eq]
theorem Renames.twice (t u : Tri) : twiceB (mapT ρ t) (mapT ρ u) = twiceB t u := by
 show (edgeB (mapT ρ u) (ρ t.a) (ρ t.b) || edgeB (mapT ρ u) (ρ t.b) (ρ t.c) || edgeB (mapT ρ u) (ρ t.c) (ρ t.a)) = _
 rw [h.edge, h.edge, h.edge]
 rfl
theorem Renames.has (t : Tri) (v : Int) : hasB (mapT ρ t) (ρ v) = hasB t v := by
 unfold hasB mapT
 simp only [h.eq]
theorem Renames.mirr (t u : Tri) : mirrB (mapT ρ t) (mapT ρ u) = mirrB t u := by
 show (hasB (mapT ρ u) (ρ t.a) && hasB (mapT ρ u) (ρ t.b) && hasB (mapT ρ u) (ρ t.c)) = _
 rw [h.has, h.has, h.has]
 rfl
theorem Renames.loop (t : Tri) : loopT (mapT ρ t) = loopT t := by
 unfold loopT mapT
 simp only [h.eq]
theorem Renames.map_inj {t u : Tri} (e : mapT ρ t = mapT ρ u) : t = u := by
 obtain ⟨a, b, c⟩ := t
 obtain ⟨a', b', c'⟩ := u
 simp only [mapT, Tri.mk.injEq] at e
 rw [h.inj _ _ e.1, h.inj _ _ e.2.1, h.inj _ _ e.2.2]
omit h in
theorem map_verts (t : Tri) (x : Int) : x ∈ verts (mapT ρ t) ↔ ∃ y, y ∈ verts t ∧ x = ρ y := by
 constructor
 · intro hx
   rcases verts_mem.1 hx with e | e | e
   · exact ⟨_, verts_mem.2 (.inl rfl), e⟩
   · exact ⟨_, verts_mem.2 (.inr (.inl rfl)), e⟩
   · exact ⟨_, verts_mem.2 (.inr (.inr rfl)), e⟩
 · rintro ⟨y, hy, rfl⟩
   rcases verts_mem.1 hy with e | e | e
   · exact verts_mem.2 (.inl (by rw [e]; rfl))
   · exact verts_mem.2 (.inr (.inl (by rw [e]; rfl)))
   · exact verts_mem.2 (.inr (.inr (by rw [e]; rfl)))
theorem Renames.verts (t : Tri) (v : Int) : ρ v ∈ verts (mapT ρ t) ↔ v ∈ verts t := by
 rw [map_verts]
 constructor
 · rintro ⟨y, hy, e⟩
   rwa [h.inj _ _ e]
 · exact fun hv => ⟨v, hv, rfl⟩
theorem Renames.ok {t : Tri} (ht : TriOk m t) : TriOk m (mapT ρ t) := by
 have key : ∀ v : Int, 0 ≤ v → v < m → 0 ≤ ρ v ∧ ρ v < m := fun v h0 h1 => by
  have := h.bad v
  have hb : badV (m : Int) v = false := by unfold badV; simp; omega
  rw [hb] at this
  exact badV_no (by rw [this]; decide)
 obtain ⟨a0, a1, b0, b1, c0, c1, e1, e2, e3⟩ := ht
 exact ⟨(key _ a0 a1).1, (key _ a0 a1).2, (key _ b0 b1).1, (key _ b0 b1).2, (key _ c0 c1).1, (key _ c0 c1).2, fun e => e1 (h.inj _ _ e), fun e => e2 (h.inj _ _ e), fun e => e3 (h.inj _ _ e)⟩
theorem Renames.conn {T U : List Tri} (hp : U.Perm (T.map (mapT ρ))) (v : Int) : ConnE U (ρ v) ↔ ConnE T v := by
 have hm : ∀ u, u ∈ U ↔ ∃ t ∈ T, u = mapT ρ t := fun u => by
  rw [hp.mem_iff, List.mem_map]
  exact ⟨fun ⟨t, ht, e⟩ => ⟨t, ht, e.symm⟩, fun ⟨t, ht, e⟩ => ⟨t, ht, e.symm⟩⟩
 constructor
 · intro hc t u ht hv hu hv'
   have hr := hc _ _ ((hm _).2 ⟨t, ht, rfl⟩) ((h.verts t v).2 hv) ((hm _).2 ⟨u, hu, rfl⟩) ((h.verts u v).2 hv')
   refine hr (fun x => ∀ t', mapT ρ t' = x → ReachE (NbrE T v) t t') (fun t' e => by rw [h.map_inj e]; exact ReachE.refl _ _) (fun x y hx hn t' e => ?_) u rfl
   obtain ⟨⟨h1, h2⟩, ⟨h3, h4⟩, w, h5, h6, h7⟩ := hn
   obtain ⟨tx, htx, rfl⟩ := (hm x).1 h1
   obtain ⟨ty, hty, rfl⟩ := (hm y).1 h3
   obtain rfl := h.map_inj e
   obtain ⟨w', hw', rfl⟩ := (map_verts tx w).1 h6
   exact (hx tx rfl).step ⟨⟨htx, (h.verts _ _).1 h2⟩, ⟨hty, (h.verts _ _).1 h4⟩, w', fun e => h5 (by rw [e]), hw', (h.verts _ _).1 h7⟩
 · intro hc t u ht hv hu hv'
   obtain ⟨t, ht', rfl⟩ := (hm t).1 ht
   obtain ⟨u, hu', rfl⟩ := (hm u).1 hu
   refine ReachE.map (mapT ρ) (fun x y hn => ?_) (hc t u ht' ((h.verts _ _).1 hv) hu' ((h.verts _ _).1 hv'))
   obtain ⟨⟨h1, h2⟩, ⟨h3, h4⟩, w, h5, h6, h7⟩ := hn
   exact ⟨⟨(hm _).2 ⟨_, h1, rfl⟩, (h.verts _ _).2 h2⟩, ⟨(hm _).2 ⟨_, h3, rfl⟩, (h.verts _ _).2 h4⟩, ρ w, fun e => h5 (h.inj _ _ e), (h.verts _ _).2 h6, (h.verts _ _).2 h7⟩
end
def AsMany (x y : List (Int × Int × Int)) : Prop := x.length = y.length ∧ (x.headD (0, 0, 0)).1 = (y.headD (0, 0, 0)).1
theorem AsMany.of {k : Int} {x y : List (Int × Int × Int)} (h : x.length = y.length) (hx : ∀ w ∈ x, w.1 = k) (hy : ∀ w ∈ y, w.1 = k) : AsMany x y := by
 refine ⟨h, ?_⟩
 cases x with
 | nil =>
  obtain rfl := List.eq_nil_of_length_eq_zero (l := y) (by rw [← h]; rfl)
  rfl
 | cons a l =>
  cases y with
  | nil => cases h
  | cons b l' => exact (hx a (by simp)).trans (hy b (by simp)).symm
theorem first_many {k : Int} {x y : List (Int × Int × Int)} {l l' : List (List (Int × Int × Int))} (h : x.length = y.length) (hx : ∀ w ∈ x, w.1 = k) (hy : ∀ w ∈ y, w.1 = k) (h2 : x = [] → AsMany (firstL l) (firstL l')) : AsMany (firstL (x :: l)) (firstL (y :: l')) := by
 by_cases e : x = []
 · have e' : y = [] := List.eq_nil_of_length_eq_zero (by rw [← h, e]; rfl)
   rw [firstL_no e, firstL_no e']
   exact h2 e
 · have e' : y ≠ [] := fun e' => e (List.eq_nil_of_length_eq_zero (by rw [h, e']; rfl))
   rw [firstL_yes e, firstL_yes e']
   exact AsMany.of h hx hy
theorem picks_count (kind : Int) (p : Nat → Bool) (k : Nat) : (picks kind p k).length = (List.range k).countP p := by
 unfold picks
 rw [List.length_map, ← List.countP_eq_length_filter]
theorem index_kind (N : Int) (n : Nat) (T : List Tri) : ∀ w ∈ indexL N n T, w.1 = 1 := fun w hw => by
 rw [indexL_wit] at hw
 obtain ⟨i, _, rfl⟩ := List.mem_map.1 hw
 rfl
theorem numbered_law {m : Nat} {ρ : Int → Int} (h : Renames m ρ) {T U : List Tri} (hp : U.Perm (T.map (mapT ρ))) : AsMany (refAll (m : Int) T) (refAll (m : Int) U) := by
 have hlen : U.length = T.length := by rw [hp.length_eq, List.length_map]
 have hmem : ∀ u, u ∈ U ↔ ∃ t ∈ T, u = mapT ρ t := fun u => by
  rw [hp.mem_iff, List.mem_map]
  exact ⟨fun ⟨t, ht, e⟩ => ⟨t, ht, e.symm⟩, fun ⟨t, ht, e⟩ => ⟨t, ht, e.symm⟩⟩
 have hcount : ∀ p : Tri → Bool, (∀ t, p (mapT ρ t) = p t) → T.countP p = U.countP p := fun p hpp => by
  rw [hp.countP_eq, List.countP_map]
  exact List.countP_congr fun t _ => by rw [Function.comp, hpp]
 unfold refAll
 refine first_many ?_ (index_kind _ _ _) (index_kind _ _ _) fun h1 => ?_
 · unfold indexL
   rw [hlen]
   split
   · rfl
   · rw [picks_count, picks_count]
     have e : ∀ T : List Tri, (List.range T.length).countP (indexB (m : Int) T) = T.countP fun t => (verts t).any (badV m) := fun T => by
      rw [← count_tri, ← List.countP_eq_length_filter]
      refine List.countP_congr fun i hi => ?_
      rw [indexB_tri (List.mem_range.1 hi), List.any_eq_true]
     rw [e, ← hlen, e]
     exact hcount _ fun t => by simp [verts, mapT, h.bad]
 rw [indexL_wit] at h1
 have h1 : indexD (m : Int) T.length T = [] := List.map_eq_nil_iff.1 h1
 obtain ⟨q1, q2, q3⟩ := indexD_nil rfl h1
 refine first_many ?_ (fun _ h => picks_kind h) (fun _ h => picks_kind h) fun h2 => ?_
 · rw [picks_count, picks_count]
   have e : ∀ T : List Tri, (List.range T.length).countP (loopB T) = T.countP loopT := fun T => by
    rw [← count_tri, ← List.countP_eq_length_filter]
    refine List.countP_congr fun i hi => ?_
    rw [loopB_tri (List.mem_range.1 hi)]
   rw [e, e]
   exact hcount _ h.loop
 have hl := picks_nil h2
 have hok : ∀ t ∈ T, TriOk m t := fun t ht => by
  obtain ⟨⟨a0, a1⟩, ⟨b0, b1⟩, c0, c1⟩ := q3 t ht
  obtain ⟨i, hi, rfl⟩ := tri_idx ht
  have hb := hl i hi
  rw [loopB_tri hi] at hb
  unfold loopT at hb
  simp only [Bool.or_eq_false_iff, beq_eq_false_iff_ne] at hb
  exact ⟨a0, a1, b0, b1, c0, c1, hb.1.1, hb.1.2, hb.2⟩
 have hoku : ∀ u ∈ U, TriOk m u := fun u hu => by
  obtain ⟨t, ht, rfl⟩ := (hmem u).1 hu
  exact h.ok (hok t ht)
 have hpair : ∀ (kind : Int) (test : Tri → Tri → Bool), (∀ t u, TriOk m t → TriOk m u → test t u = test u t) → (∀ t u, test (mapT ρ t) (mapT ρ u) = test t u) → (refW kind test T T.length).length = (refW kind test U U.length).length := fun kind test hs hm => by
  unfold refW
  rw [List.length_map, List.length_map, refD_count _ _ _ (Nat.le_refl _), refD_count _ _ _ (Nat.le_refl _), List.take_length, List.take_length, pairC_perm hp fun t u ht hu => hs t u (hoku t ht) (hoku u hu), pairC_map]
  simp only [hm]
 refine first_many (hpair 3 _ (fun t u _ _ => twice_symm t u) h.twice) (fun _ h => refW_kind h) (fun _ h => refW_kind h) fun h3 => ?_
 refine first_many (hpair 4 _ (fun t u ht hu => mirr_symm ht hu) h.mirr) (fun _ h => refW_kind h) (fun _ h => refW_kind h) fun h4 => ?_
 rw [Int.toNat_natCast]
 refine first_many ?_ (fun _ h => picks_kind h) (fun _ h => picks_kind h) fun h5 => ?_
 · rw [picks_count, picks_count]
   refine reidx h.perm fun v hv => ?_
   congr 1
   rw [Bool.eq_iff_iff, used_iff, used_iff, h.nat hv]
   constructor
   · rintro ⟨i, hi, hx⟩
     obtain ⟨t, ht, e⟩ := (hmem _).1 (tri_mem hi)
     rw [e, h.verts] at hx
     obtain ⟨j, hj, rfl⟩ := tri_idx ht
     exact ⟨j, hj, hx⟩
   · rintro ⟨i, hi, hx⟩
     obtain ⟨j, hj, e⟩ := tri_idx ((hmem _).2 ⟨_, tri_mem hi, rfl⟩)
     exact ⟨j, hj, by rw [e, h.verts]; exact hx⟩
 refine first_many ?_ (fun _ h => picks_kind h) (fun _ h => picks_kind h) fun _ => ⟨rfl, rfl⟩
 rw [picks_count, picks_count]
 refine reidx h.perm fun v hv => ?_
 have e1 := pinched_conn hoku (ρ v).toNat
 have e2 := pinched_conn hok v
 rw [h.nat hv, h.conn hp] at e1
 cases e : pinchedB T T.length v with
 | false => exact e1.2 (e2.1 e)
 | true =>
  cases e' : pinchedB U U.length (ρ v).toNat with
  | true => rfl
  | false =>
   have := e2.2 (e1.1 e')
   rw [e] at this
   cases this
def renB (L : List Int) (m : Nat) (v : Int) : Int := if 0 ≤ v ∧ v < m then L.getD v.toNat 0 else v
theorem ren_list {m : Nat} {L : List Int} (hp : L.Perm ((List.range m).map fun i : Nat => (i : Int))) : Renames m (renB L m) := by
 have hl : L.length = m := by rw [hp.length_eq]; simp
 have hm : ∀ x, x ∈ L ↔ 0 ≤ x ∧ x < m := fun x => by
  rw [hp.mem_iff, List.mem_map]
  constructor
  · rintro ⟨i, hi, rfl⟩
    have := List.mem_range.1 hi
    omega
  · exact fun h => ⟨x.toNat, List.mem_range.2 (by omega), by omega⟩
 have hnd : L.Nodup := hp.nodup_iff.2 ((List.pairwise_map).2 (List.nodup_range.imp fun h e => h (by omega)))
 have hin : ∀ v : Nat, v < m → L.getD v 0 ∈ L := fun v hv => by
  rw [List.getD_eq_getElem?_getD, List.getElem?_eq_getElem (by omega)]
  exact List.getElem_mem _
 refine ⟨fun x y e => ?_, fun v => ?_, ?_⟩
 · unfold renB at e
   by_cases hx : 0 ≤ x ∧ x < m
   · have h1 := (hm _).1 (hin x.toNat (by omega))
     by_cases hy : 0 ≤ y ∧ y < m
     · rw [if_pos hx, if_pos hy, List.getD_eq_getElem?_getD, List.getD_eq_getElem?_getD, List.getElem?_eq_getElem (by omega), List.getElem?_eq_getElem (by omega)] at e
       have e : L[x.toNat]'(by omega) = L[y.toNat]'(by omega) := e
       have hd := List.pairwise_iff_getElem.1 hnd
       rcases Nat.lt_trichotomy x.toNat y.toNat with h' | h' | h'
       · exact absurd e (hd _ _ _ _ h')
       · omega
       · exact absurd e.symm (hd _ _ _ _ h')
     · rw [if_pos hx, if_neg hy] at e
       rw [e] at h1
       exact absurd h1 hy
   · by_cases hy : 0 ≤ y ∧ y < m
     · have h1 := (hm _).1 (hin y.toNat (by omega))
       rw [if_neg hx, if_pos hy] at e
       rw [← e] at h1
       exact absurd h1 hx
     · rwa [if_neg hx, if_neg hy] at e
 · unfold renB
   split
   · rename_i hv
     have h1 := (hm _).1 (hin v.toNat (by omega))
     have e1 : badV (m : Int) (L.getD v.toNat 0) = false := by
      generalize L.getD v.toNat 0 = z at h1 ⊢
      unfold badV
      simp
      omega
     have e2 : badV (m : Int) v = false := by unfold badV; simp; omega
     rw [e1, e2]
   · rfl
 · have e : ((List.range m).map fun v : Nat => (renB L m v).toNat) = L.map Int.toNat := by
    refine List.ext_getElem (by simp [hl]) fun i h1 h2 => ?_
    simp only [List.length_map, List.length_range] at h1
    rw [List.getElem_map, List.getElem_map, List.getElem_range]
    unfold renB
    rw [if_pos (by omega), List.getD_eq_getElem?_getD, Int.toNat_natCast, List.getElem?_eq_getElem (by omega)]
    rfl
   rw [e]
   have := hp.map Int.toNat
   rw [List.map_map] at this
   have e' : (Int.toNat ∘ fun i : Nat => (i : Int)) = id := by funext i; rfl
   rw [e', List.map_id] at this
   exact this
end Go.Proofs.YtiajlmajenabiaaGreat
namespace Go.Proofs.YtiajlmajenabiaaGreat
open Go.RowKit
def swapE (e : Int × Int) : Int × Int := (e.2, e.1)
section
variable {m m' : Nat} {T U : List Tri}
theorem facing_moves (hT : SurfE m T) (hU : SurfE m' U) {f : Nat → Nat} {g : Int × Int → Int × Int}
  (hf : ∀ c, c < 3 * T.length → f c < 3 * U.length ∧ ce U (f c) = g (ce T c)) (hs : ∀ d, d < 3 * U.length → ∃ c, c < 3 * T.length ∧ f c = d)
  {e : Int × Int} (hg : ∀ c, c < 3 * T.length → g (ce T c) = g e → ce T c = e) : facingF U (g e) = (facingF T e).map f := by
 cases h : facingF T e with
 | some c =>
  obtain ⟨hc, hce⟩ := facing_some h
  obtain ⟨h1, h2⟩ := hf c hc
  exact facing_is hU h1 (by rw [h2, hce])
 | none =>
  cases h' : facingF U (g e) with
  | none => rfl
  | some d =>
   obtain ⟨hd, hde⟩ := facing_some h'
   obtain ⟨c, hc, rfl⟩ := hs d hd
   obtain ⟨h1, h2⟩ := hf c hc
   rw [h2] at hde
   rw [facing_is hT hc (hg c hc hde)] at h
   cases h
theorem opp_moves (hT : SurfE m T) (hU : SurfE m' U) {f : Nat → Nat} {g : Int × Int → Int × Int}
  (hf : ∀ c, c < 3 * T.length → f c < 3 * U.length ∧ ce U (f c) = g (ce T c)) (hs : ∀ d, d < 3 * U.length → ∃ c, c < 3 * T.length ∧ f c = d)
  (hw : ∀ e, g (swapE e) = swapE (g e)) (hg : ∀ c d, c < 3 * T.length → d < 3 * T.length → g (ce T c) = g (swapE (ce T d)) → ce T c = swapE (ce T d)) {c : Nat} (hc : c < 3 * T.length) :
  oppF U (f c) = (oppF T c).map f := by
 unfold oppF
 rw [(hf c hc).2]
 have h := facing_moves hT hU hf hs (e := swapE (ce T c)) fun d hd => hg d c hd hc
 rw [hw] at h
 exact h
end
-- in the mirror
def mirC (c : Nat) : Nat := c - c % 3 + (3 - c % 3) % 3
theorem mirC_lt {c n : Nat} (h : c < 3 * n) : mirC c < 3 * n := by unfold mirC; omega
theorem mirC_mirC (c : Nat) : mirC (mirC c) = c := by unfold mirC; omega
theorem mirC_div (c : Nat) : mirC c / 3 = c / 3 := by unfold mirC; omega
theorem mirC_mod (c : Nat) : mirC c % 3 = (3 - c % 3) % 3 := by unfold mirC; omega
theorem tri_map (T : List Tri) (f : Tri → Tri) {i : Nat} (h : i < T.length) : tri (T.map f) i = f (tri T i) := tri_of (by rw [List.getElem?_map, tri_at h]; rfl)
theorem corner_mir (t : Tri) {r : Nat} (h : r < 3) : cornerT (mirT t) ((3 - r) % 3) = cornerT t r := by
 rcases (by omega : r = 0 ∨ r = 1 ∨ r = 2) with rfl | rfl | rfl <;> rfl
theorem cv_mir {T : List Tri} {c : Nat} (h : c < 3 * T.length) : cv (T.map mirT) (mirC c) = cv T c := by
 rw [cv_ct, cv_ct, mirC_div, mirC_mod, tri_map T mirT (by omega)]
 exact corner_mir _ (Nat.mod_lt c (by omega))
theorem surf_mir {m : Nat} {T : List Tri} (h : SurfE m T) : SurfE m (T.map mirT) := by
 have h0 : refAll (m : Int) T = [] := is_surf.2 ⟨m, rfl, h⟩
 have h1 := alike_all (mirs_alike (T := T) (U := T.map mirT) (by simp) fun i hi => tri_map T mirT hi) (m : Int)
 obtain ⟨k, hk, hs⟩ := is_surf.1 (h1.trans h0)
 obtain rfl : m = k := by omega
 exact hs
-- renamed
theorem cv_ren {T : List Tri} (f : Int → Int) {c : Nat} (h : c < 3 * T.length) : cv (T.map (mapT f)) c = f (cv T c) := by
 rw [cv_ct, cv_ct, tri_map T _ (by omega)]
 have := Nat.mod_lt c (show 0 < 3 by omega)
 generalize c % 3 = r at *
 rcases (by omega : r = 0 ∨ r = 1 ∨ r = 2) with rfl | rfl | rfl <;> rfl
theorem many_surf {m : Nat} {T U : List Tri} (h : SurfE m T) (ha : AsMany (refAll (m : Int) T) (refAll (m : Int) U)) : SurfE m U := by
 have h0 : refAll (m : Int) T = [] := is_surf.2 ⟨m, rfl, h⟩
 have h1 : (refAll (m : Int) U).length = 0 := by rw [← ha.1, h0]; rfl
 obtain ⟨k, hk, hs⟩ := is_surf.1 (List.eq_nil_of_length_eq_zero h1)
 obtain rfl : m = k := by omega
 exact hs
theorem surf_ren {m : Nat} {ρ : Int → Int} (hr : Renames m ρ) {T : List Tri} (h : SurfE m T) : SurfE m (T.map (mapT ρ)) := many_surf h (numbered_law hr (List.Perm.refl _))
-- picked in another order, each from another corner on
theorem id_renames (m : Nat) : Renames m id where
 inj := fun _ _ h => h
 bad := fun _ => rfl
 perm := by simp
theorem perm_range {n : Nat} {l : List Nat} (hl : l.length = n) (hn : l.Nodup) (hx : ∀ x ∈ l, x < n) : l.Perm (List.range n) := by
 refine (List.perm_ext_iff_of_nodup hn List.nodup_range).2 fun x => ⟨fun h => List.mem_range.2 (hx x h), fun h => ?_⟩
 refine Classical.byContradiction fun hc => ?_
 have h1 := nodup_le (x :: l) (List.range n) (List.nodup_cons.2 ⟨hc, hn⟩) fun y hy => by
  rcases List.mem_cons.1 hy with rfl | hy
  · exact h
  · exact List.mem_range.2 (hx y hy)
 rw [List.length_range, List.length_cons] at h1
 omega
def wasC (l : List Nat) (d : Nat) : Nat := 3 * (l.getD (d / 3) 0 / 3) + (l.getD (d / 3) 0 + d % 3) % 3
theorem ct_turn (t : Tri) {k r : Nat} (hk : k < 3) (hr : r < 3) : ct (turnT k t) r = ct t ((k + r) % 3) := by
 rcases (by omega : r = 0 ∨ r = 1 ∨ r = 2) with rfl | rfl | rfl <;> rcases (by omega : k = 0 ∨ k = 1 ∨ k = 2) with rfl | rfl | rfl <;> rfl
theorem corner_turn (t : Tri) {k r : Nat} (hk : k < 3) (hr : r < 3) : cornerT (turnT k t) r = cornerT t ((k + r) % 3) := by
 rcases (by omega : r = 0 ∨ r = 1 ∨ r = 2) with rfl | rfl | rfl <;> rcases (by omega : k = 0 ∨ k = 1 ∨ k = 2) with rfl | rfl | rfl <;> rfl
theorem was_div (l : List Nat) (d : Nat) : wasC l d / 3 = l.getD (d / 3) 0 / 3 := by unfold wasC; omega
theorem was_mod (l : List Nat) (d : Nat) : wasC l d % 3 = (l.getD (d / 3) 0 % 3 + d % 3) % 3 := by unfold wasC; omega
structure Firsts (n : Nat) (l : List Nat) : Prop where
 len : l.length = n
 lt : ∀ x ∈ l, x < 3 * n
 nd : (l.map (· / 3)).Nodup
def pickN (T : List Tri) (l : List Nat) : List Tri := l.map fun x => turnT (x % 3) (tri T (x / 3))
section
variable {m : Nat} {T : List Tri} {l : List Nat} (h : Firsts T.length l)
include h
theorem Firsts.get {i : Nat} (hi : i < T.length) : l[i]? = some (l.getD i 0) ∧ l.getD i 0 < 3 * T.length := by
 have hl : i < l.length := by rw [h.len]; exact hi
 have e : l[i]? = some (l.getD i 0) := by rw [List.getD_eq_getElem?_getD, List.getElem?_eq_getElem hl]; rfl
 exact ⟨e, h.lt _ (List.mem_of_getElem? e)⟩
theorem Firsts.tri {i : Nat} (hi : i < T.length) : Go.Proofs.YtiajlmajenabiaaGreat.tri (pickN T l) i = turnT (l.getD i 0 % 3) (Go.Proofs.YtiajlmajenabiaaGreat.tri T (l.getD i 0 / 3)) :=
 tri_of (by unfold pickN; rw [List.getElem?_map, (h.get hi).1]; rfl)
theorem Firsts.plen : (pickN T l).length = T.length := by unfold pickN; rw [List.length_map, h.len]
theorem Firsts.was_lt {d : Nat} (hd : d < 3 * T.length) : wasC l d < 3 * T.length := by
 have := (h.get (i := d / 3) (by omega)).2
 unfold wasC
 omega
theorem Firsts.ce {d : Nat} (hd : d < 3 * T.length) : Go.Proofs.YtiajlmajenabiaaGreat.ce T (wasC l d) = Go.Proofs.YtiajlmajenabiaaGreat.ce (pickN T l) d := by
 rw [ce_ct, ce_ct, h.tri (i := d / 3) (by omega), ct_turn _ (Nat.mod_lt _ (by omega)) (Nat.mod_lt _ (by omega)), was_div, was_mod]
theorem Firsts.cv {d : Nat} (hd : d < 3 * T.length) : Go.Proofs.YtiajlmajenabiaaGreat.cv T (wasC l d) = Go.Proofs.YtiajlmajenabiaaGreat.cv (pickN T l) d := by
 rw [cv_ct, cv_ct, h.tri (i := d / 3) (by omega), corner_turn _ (Nat.mod_lt _ (by omega)) (Nat.mod_lt _ (by omega)), was_div, was_mod]
theorem Firsts.perm : (l.map (· / 3)).Perm (List.range T.length) := perm_range (by rw [List.length_map, h.len]) h.nd fun x hx => by
 obtain ⟨y, hy, rfl⟩ := List.mem_map.1 hx
 have := h.lt y hy
 show y / 3 < T.length
 omega
theorem Firsts.at_ {i : Nat} (hi : i < T.length) : ∃ j, j < T.length ∧ l.getD j 0 / 3 = i := by
 have := h.perm.mem_iff.2 (List.mem_range.2 hi)
 obtain ⟨y, hy, e⟩ := List.mem_map.1 this
 obtain ⟨j, hj⟩ := List.mem_iff_getElem?.1 hy
 have hjl : j < l.length := (List.getElem?_eq_some_iff.1 hj).1
 refine ⟨j, by rw [← h.len]; exact hjl, ?_⟩
 rw [List.getD_eq_getElem?_getD, hj]
 exact e
theorem Firsts.all {c : Nat} (hc : c < 3 * T.length) : ∃ d, d < 3 * T.length ∧ wasC l d = c := by
 obtain ⟨j, hj, e⟩ := h.at_ (i := c / 3) (by omega)
 refine ⟨3 * j + (c + 3 - l.getD j 0 % 3) % 3, by omega, ?_⟩
 unfold wasC
 rw [show (3 * j + (c + 3 - l.getD j 0 % 3) % 3) / 3 = j by omega]
 omega
theorem Firsts.surf (hs : SurfE m T) : SurfE m (pickN T l) := by
 have h1 : SurfE m (l.map fun x => Go.Proofs.YtiajlmajenabiaaGreat.tri T (x / 3)) := many_surf hs (numbered_law (id_renames m) (by
  have h2 : (l.map fun x => Go.Proofs.YtiajlmajenabiaaGreat.tri T (x / 3)) = (l.map (· / 3)).map (Go.Proofs.YtiajlmajenabiaaGreat.tri T) := by rw [List.map_map]; rfl
  rw [h2]
  refine (h.perm.map _).trans ?_
  rw [tri_range]
  exact List.Perm.of_eq (by
   conv => lhs; rw [← List.map_id T]
   rfl)))
 have h0 : refAll (m : Int) (l.map fun x => Go.Proofs.YtiajlmajenabiaaGreat.tri T (x / 3)) = [] := is_surf.2 ⟨m, rfl, h1⟩
 have h3 := alike_all (rots_alike (T := l.map fun x => Go.Proofs.YtiajlmajenabiaaGreat.tri T (x / 3)) (U := pickN T l) (by unfold pickN; simp) (fun i => l.getD i 0 % 3) fun i hi => by
  rw [List.length_map, h.len] at hi
  rw [h.tri hi, tri_of (T := l.map fun x => Go.Proofs.YtiajlmajenabiaaGreat.tri T (x / 3)) (by rw [List.getElem?_map, (h.get hi).1]; rfl)]
  rfl) (m : Int)
 obtain ⟨k, hk, hs⟩ := is_surf.1 (h3.trans h0)
 obtain rfl : m = k := by omega
 exact hs
theorem Firsts.opp (hs : SurfE m T) {d : Nat} (hd : d < 3 * T.length) : oppF T (wasC l d) = (oppF (pickN T l) d).map (wasC l) :=
 opp_moves (h.surf hs) hs (f := wasC l) (g := id) (fun c hc => by rw [h.plen] at hc; exact ⟨h.was_lt hc, h.ce hc⟩) (fun d hd => by rw [h.plen]; exact h.all hd) (fun _ => rfl) (fun _ _ _ _ e => e) (by rw [h.plen]; exact hd)
end
end Go.Proofs.YtiajlmajenabiaaGreat
namespace Go.Proofs.YtiajlmajenabiaaGreat
open Go.RowKit
attribute [local irreducible] Blk LRow IRow World.alloc World.setCell KeepO World.cell? World.frozen?
def toL (l : List Int) (x : Int) : Int := l.getD x.toNat 0
def renU (l : List Int) (t : Tri) : Tri := ⟨toL l t.a, toL l t.b, toL l t.c⟩
def inL (m : Nat) (t : Tri) : Prop := (0 ≤ t.a ∧ t.a < m) ∧ (0 ≤ t.b ∧ t.b < m) ∧ 0 ≤ t.c ∧ t.c < m
theorem to_cells {w : World} {B m : Nat} {Al : Option Addr} {l : List Int} (h : Reads w B 1 Al m (ZL l)) (hm : 0 < m) : ∃ adl, Al = some adl ∧ adl.block < B ∧ ∀ i : Nat, i < m → w.cell? (adl.add i) = some (.int .i64 (toL l i)) := by
 obtain ⟨adl, e, hb, hc⟩ := h.2 hm
 refine ⟨adl, e, hb, fun i hi => hc i _ ?_⟩
 have hl : l.length = m := by have := h.1; simpa [ZL] using this
 unfold ZL toL
 rw [List.getElem?_map, List.getElem?_eq_getElem (by omega)]
 simp [List.getD_eq_getElem?_getD, List.getElem?_eq_getElem (show i < l.length by omega)]
end Go.Proofs.YtiajlmajenabiaaGreat
namespace Go.Proofs.YtiajlmajenabiaaGreat
open Go.RowKit
def permP (N : Int) (l : List Int) : Prop := (l.length : Int) = N ∧ l.Nodup ∧ ∀ x ∈ l, 0 ≤ x ∧ x < N
instance (N : Int) (l : List Int) : Decidable (permP N l) := by unfold permP; exact inferInstance
def upto (n : Nat) : List Int := (List.range n).map fun i : Nat => (i : Int)
theorem mem_upto {n : Nat} {x : Int} : x ∈ upto n ↔ 0 ≤ x ∧ x < n := by
 unfold upto
 rw [List.mem_map]
 constructor
 · rintro ⟨i, hi, rfl⟩
   have := List.mem_range.1 hi
   omega
 · rintro ⟨h1, h2⟩
   exact ⟨x.toNat, List.mem_range.2 (by omega), by omega⟩
theorem upto_len (n : Nat) : (upto n).length = n := by simp [upto]
theorem sub_len : ∀ (R l : List Int), R.Nodup → (∀ x ∈ R, x ∈ l) → R.length ≤ l.length
 | [], l, _, _ => Nat.zero_le _
 | a :: R, l, hn, hs => by
  have ha := hs a (List.mem_cons_self ..)
  have h1 := sub_len R (l.erase a) (List.nodup_cons.1 hn).2 (fun x hx => by
   have hne : x ≠ a := fun e => (List.nodup_cons.1 hn).1 (e ▸ hx)
   exact (List.mem_erase_of_ne hne).2 (hs x (List.mem_cons_of_mem _ hx)))
  have h2 := List.length_erase_of_mem ha
  have h3 : 0 < l.length := List.length_pos_of_mem ha
  rw [List.length_cons]
  omega
theorem perm_mem {n : Nat} {l : List Int} (h : permP n l) {x : Int} (h0 : 0 ≤ x) (h1 : x < n) : x ∈ l := by
 by_cases hx : x ∈ l
 · exact hx
 · have h2 := sub_len l ((upto n).erase x) h.2.1 (fun y hy => (List.mem_erase_of_ne (fun e : y = x => hx (e ▸ hy))).2 (mem_upto.2 (h.2.2 y hy)))
   have hm : x ∈ upto n := mem_upto.2 ⟨h0, h1⟩
   have h3 := List.length_erase_of_mem hm
   have h4 := upto_len n
   have h5 : 0 < (upto n).length := List.length_pos_of_mem hm
   have h6 := h.1
   omega
theorem take_snoc_I (l : List Int) (k : Nat) {x : Int} (h : l[k]? = some x) : l.take (k + 1) = l.take k ++ [x] := by
 rw [List.take_add_one, h]
 rfl
end Go.Proofs.YtiajlmajenabiaaGreat
namespace Go.Proofs.YtiajlmajenabiaaGreat
open Go.RowKit
attribute [local irreducible] Blk LRow IRow World.alloc World.setCell World.cell? World.frozen?
theorem rename1_any (t : Tri) (gl : Nat) (Al : Option Addr) (m cl : Nat) (l : List Int) (B : Nat) (w : World) (hg : Blk w gl 25 #[.slice Al m cl]) (hl : Reads w B 1 Al m (ZL l)) (hB : B ≤ w.heap.size) (hi : inL m t) :
  Calls Tryz.prog 44 #[.agg #[.int .i64 t.a, .int .i64 t.b, .int .i64 t.c], .pointer (some ⟨gl, 0, none⟩)] w fun e w' => e = .returned (.agg #[.int .i64 (renU l t).a, .int .i64 (renU l t).b, .int .i64 (renU l t).c]) ∧ Below w.heap.size w w' := by
 obtain ⟨⟨a0, a1⟩, ⟨b0, b1⟩, c0, c1⟩ := hi
 obtain ⟨ta, tb, tc⟩ := t
 simp only at a0 a1 b0 b1 c0 c1
 obtain ⟨an, rfl⟩ := Int.eq_ofNat_of_zero_le a0
 obtain ⟨bn, rfl⟩ := Int.eq_ofNat_of_zero_le b0
 obtain ⟨cn, rfl⟩ := Int.eq_ofNat_of_zero_le c0
 obtain ⟨adl, eAl, hadl, htc⟩ := to_cells (hl.more hB) (by omega)
 subst eAl
 have q0 := htc an (by omega)
 have q1 := htc bn (by omega)
 have q2 := htc cn (by omega)
 clear htc
 unfold renU
 simp only
 generalize toL l an = xa at *
 generalize toL l bn = xb at *
 generalize toL l cn = xc at *
 have HG0 := Lib.hid hg
 clear hg hl
 go_enter Tryz.func44, Tryz.ntmps44
 go_upto_region 1 with (fail)
 obtain ⟨V, hV⟩ : ∃ V, V = (w.alloc (.cells #[.int .i64 an, .int .i64 bn, .int .i64 cn] 56)).alloc (.cells #[.int .i64 0, .int .i64 0, .int .i64 0] 56) := ⟨_, rfl⟩
 have HX : Hid (Blk V w.heap.size 56 #[.int .i64 an, .int .i64 bn, .int .i64 cn]) := by subst hV; exact Lib.hid ((Blk.new _ _ _).alloc _)
 have HR : Hid (Blk V (w.heap.size + 1) 56 #[.int .i64 0, .int .i64 0, .int .i64 0]) := by subst hV; exact Lib.hid (blk_new1 _ _ _ _)
 have HB : Hid (Below w.heap.size w V) := by subst hV; exact Lib.hid (bw_alloc (bw_alloc (Below.refl _ _) _) _)
 rw [← hV]
 clear hV
 have HG := Lib.hid (blk_call HG0.out HB.out)
 have k0 : V.drew.cell? ⟨gl, 0, none⟩ = some (.slice (some adl) m cl) := HG.out.drew.cell 0
 obtain ⟨y0, y1, y2⟩ := tri_cells HR.out
 have z0 := HR.out.frozen 0
 have z1 := HR.out.frozen 1
 have z2 := HR.out.frozen 2
 have HS : Hid (V.drew.cell? ⟨gl, 0, none⟩ = some (.slice (some adl) m cl) ∧ V.drew.cell? ⟨w.heap.size, 0, none⟩ = some (.int .i64 an) ∧ V.drew.cell? ⟨w.heap.size, 1, none⟩ = some (.int .i64 bn) ∧ V.drew.cell? ⟨w.heap.size, 2, none⟩ = some (.int .i64 cn) ∧ V.drew.cell? (adl.add an) = some (.int .i64 xa) ∧ V.drew.cell? (adl.add bn) = some (.int .i64 xb) ∧ V.drew.cell? (adl.add cn) = some (.int .i64 xc) ∧ V.drew.frozen? ⟨w.heap.size + 1, 0, none⟩ = false ∧ V.drew.frozen? ⟨w.heap.size + 1, 1, none⟩ = false ∧ V.drew.frozen? ⟨w.heap.size + 1, 2, none⟩ = false) := Lib.hid ⟨k0, (tri_cells HX.out.drew).1, (tri_cells HX.out.drew).2.1, (tri_cells HX.out.drew).2.2, ((bw_drew HB.out).cell (by rw [block_of_add]; exact hadl)).trans q0, ((bw_drew HB.out).cell (by rw [block_of_add]; exact hadl)).trans q1, ((bw_drew HB.out).cell (by rw [block_of_add]; exact hadl)).trans q2, HR.out.drew.frozen 0, HR.out.drew.frozen 1, HR.out.drew.frozen 2⟩
 clear k0 q0 q1 q2 HG0
 refine wp_region_till (S := fun w' => w'.cell? ⟨gl, 0, none⟩ = some (.slice (some adl) m cl) ∧ w'.cell? ⟨w.heap.size, 0, none⟩ = some (.int .i64 an) ∧ w'.cell? ⟨w.heap.size, 1, none⟩ = some (.int .i64 bn) ∧ w'.cell? ⟨w.heap.size, 2, none⟩ = some (.int .i64 cn) ∧ w'.cell? (adl.add an) = some (.int .i64 xa) ∧ w'.cell? (adl.add bn) = some (.int .i64 xb) ∧ w'.cell? (adl.add cn) = some (.int .i64 xc) ∧ w'.frozen? ⟨w.heap.size + 1, 0, none⟩ = false ∧ w'.frozen? ⟨w.heap.size + 1, 1, none⟩ = false ∧ w'.frozen? ⟨w.heap.size + 1, 2, none⟩ = false) 16 (by kernel_rfl) HS.out (fun hHeld => ?_)
 refine tKk 0 ?_; (try simp only [zQ])
 refine tKk 1 ?_; (try simp only [zQ])
 refine tKk 2 ?_; (try simp only [zQ])
 refine tKk 3 ?_; (try simp only [zQ])
 refine tKk 4 ?_; (try simp only [zQ])
 refine tKk 5 ?_; (try simp only [zQ])
 refine tKk 6 ?_; (try simp only [zQ])
 refine tKk 7 ?_; (try simp only [zQ])
 refine tKk 8 ?_; (try simp only [zQ])
 refine tKk 9 ?_; (try simp only [zQ])
 refine tKk 10 ?_; (try simp only [zQ])
 refine tKk 11 ?_; (try simp only [zQ])
 refine tKk 12 ?_; (try simp only [zQ])
 refine tKk 13 ?_; (try simp only [zQ])
 refine tKk 14 ?_; (try simp only [zQ])
 refine tKk 15 ?_; (try simp only [zQ])
 refine Till.ready (rs := [16]) (by kernel_rfl) (by simp) ?_
 refine TillEach.last rfl (fun K hK => ?_)
 · go_simp
   refine hK.out _ _ ?_
   clear hK K
   (try simp only [zQ])
   refine Till.done (by kernel_rfl) ?_ _
   go_wp2_with fail
   have HR2 := Lib.hid ((((HR.out.set_ 0 (.int .i64 xa)).set_ 1 (.int .i64 xb)).set_ 2 (.int .i64 xc)).drew)
   have HB2 := Lib.hid (bw_drew (bw_set (bw_set (bw_set HB.out (p := ⟨w.heap.size + 1, 0, none⟩) (Nat.le_succ _) (.int .i64 xa)) (p := ⟨w.heap.size + 1, 1, none⟩) (Nat.le_succ _) (.int .i64 xb)) (p := ⟨w.heap.size + 1, 2, none⟩) (Nat.le_succ _) (.int .i64 xc)))
   have f0 := HR2.out.cell 0
   have f1 := HR2.out.cell 1
   have f2 := HR2.out.cell 2
   simp at f0 f1 f2
   refine bodyPost_ret (v := .agg #[.int .i64 xa, .int .i64 xb, .int .i64 xc]) ?_ rfl ⟨rfl, HB2.out⟩
   simp [results, Tryz.results44, go_sem, f0, f1, f2]
def renL (N : Int) (T : List Tri) (l : List Int) : Int × List Tri × Int := if fitL N T = false then (0, [], 1) else if permP N l then (N, T.map (renU l), 0) else (0, [], 3)
structure RS (W0 w : World) (gs gl gr : Nat) (N : Int) (A : Option Addr) (n c : Nat) (Al : Option Addr) (m cl : Nat) : Prop where
 s : Blk w gs 24 #[.int .i64 N, .slice A n c]
 l : Blk w gl 25 #[.slice Al m cl]
 r : Blk w gr 24 #[.int .i64 0, .slice none 0 0]
 b : Below W0.heap.size W0 w
 hr : W0.heap.size ≤ gr
section
variable {W0 w w' : World} {gs gl gr : Nat} {N : Int} {A Al : Option Addr} {n c m cl : Nat}
theorem RS.on (h : RS W0 w gs gl gr N A n c Al m cl) (hb : Below w.heap.size w w') : RS W0 w' gs gl gr N A n c Al m cl := ⟨blk_call h.s hb, blk_call h.l hb, blk_call h.r hb, bw_call h.b hb, h.hr⟩
theorem RS.alloc (h : RS W0 w gs gl gr N A n c Al m cl) (o : Obj) : RS W0 (w.alloc o) gs gl gr N A n c Al m cl := ⟨h.s.alloc o, h.l.alloc o, h.r.alloc o, bw_alloc h.b o, h.hr⟩
theorem RS.far (h : RS W0 w gs gl gr N A n c Al m cl) {p : Addr} (h1 : gs ≠ p.block) (h2 : gl ≠ p.block) (h3 : gr ≠ p.block) (h4 : W0.heap.size ≤ p.block) (u : Value) : RS W0 (w.setCell p u) gs gl gr N A n c Al m cl := ⟨h.s.far h1 u, h.l.far h2 u, h.r.far h3 u, bw_set h.b h4 u, h.hr⟩
theorem RS.cells (h : RS W0 w gs gl gr N A n c Al m cl) : w.cell? ⟨gs, 0, none⟩ = some (.int .i64 N) ∧ w.cell? ⟨gs, 1, none⟩ = some (.slice A n c) ∧ w.cell? ⟨gl, 0, none⟩ = some (.slice Al m cl) ∧ w.cell? ⟨gr, 0, none⟩ = some (.int .i64 0) ∧ w.cell? ⟨gr, 1, none⟩ = some (.slice none 0 0) ∧ w.frozen? ⟨gr, 0, none⟩ = false ∧ w.frozen? ⟨gr, 1, none⟩ = false := ⟨h.s.cell 0, h.s.cell 1, h.l.cell 0, h.r.cell 0, h.r.cell 1, h.r.frozen 0, h.r.frozen 1⟩
end
def seenTo (l : List Int) (k v : Nat) : Bool := decide ((v : Int) ∈ l.take k)
theorem seen_snoc {l : List Int} {k x : Nat} (h : l[k]? = some (x : Int)) : (fun u => seenTo l k u || u == x) = seenTo l (k + 1) := by
 funext u
 unfold seenTo
 rw [take_snoc_I l k h, Bool.eq_iff_iff]
 simp only [Bool.or_eq_true, decide_eq_true_eq, beq_iff_eq, List.mem_append, List.mem_singleton, Int.natCast_inj]
theorem take_nodup {l : List Int} {k : Nat} {x : Int} (h : l[k]? = some x) (hn : (l.take k).Nodup) (hx : x ∉ l.take k) : (l.take (k + 1)).Nodup := by
 rw [take_snoc_I l k h, List.nodup_append]
 refine ⟨hn, by simp, fun a ha b hb => ?_⟩
 obtain rfl := List.mem_singleton.1 hb
 rintro rfl
 exact hx ha
theorem not_nodup {l : List Int} {k : Nat} {x : Int} (h : l[k]? = some x) (hx : x ∈ l.take k) : ¬ l.Nodup := fun hn => by
 have h1 : (l.take (k + 1)).Nodup := hn.sublist (List.take_sublist _ _)
 rw [take_snoc_I l k h, List.nodup_append] at h1
 exact h1.2.2 x hx x (by simp) rfl
theorem renL_form {N : Int} {T : List Tri} {l : List Int} (hf : fitL N T = true) (h : ¬ permP N l) : renL N T l = (0, [], 3) := by
 unfold renL
 rw [if_neg (by rw [hf]; simp), if_neg h]
theorem renL_ok {N : Int} {T : List Tri} {l : List Int} (hf : fitL N T = true) (h : permP N l) : renL N T l = (N, T.map (renU l), 0) := by
 unfold renL
 rw [if_neg (by rw [hf]; simp), if_pos h]
theorem rename_any (N : Int) (A : Option Addr) (n c : Nat) (T : List Tri) (Al : Option Addr) (m cl : Nat) (l : List Int) (w : World) (hn : n ≤ 8192) (hm : m ≤ 9223372036854775807) (ht : TrisAt w w.heap.size A n T) (hl : Reads w w.heap.size 1 Al m (ZL l)) :
  Calls Tryz.prog 20 #[.agg #[.int .i64 N, .slice A n c], .slice Al m cl] w (PickPost w (renL N T l)) := by
 obtain rfl : n = T.length := ht.len.symm
 obtain rfl : m = l.length := by have := hl.1; simp [ZL] at this; exact this.symm
 have HT := Lib.hid ht
 have HL := Lib.hid hl
 clear ht hl
 go_enter Tryz.func20, Tryz.ntmps20
 go_upto_region 1 with (fail)
 obtain ⟨V, hV⟩ : ∃ V, V = ((w.alloc (.cells #[.int .i64 N, .slice A T.length c] 24)).alloc (.cells #[.slice Al l.length cl] 25)).alloc (.cells #[.int .i64 0, .slice none 0 0] 24) := ⟨_, rfl⟩
 have HP : Hid (RS w V w.heap.size (w.heap.size + 1) (w.heap.size + 2) N A T.length c Al l.length cl) := by subst hV; exact Lib.hid ⟨((Blk.new _ _ _).alloc _).alloc _, (blk_new1 _ _ _ _).alloc _, Blk.new_ (by simp) _ _, bw_alloc (bw_alloc (bw_alloc (Below.refl _ _) _) _) _, by omega⟩
 rw [← hV]
 clear hV
 obtain ⟨gs, hgs⟩ : ∃ gs, gs = w.heap.size := ⟨_, rfl⟩
 obtain ⟨gl, hgl⟩ : ∃ gl, gl = w.heap.size + 1 := ⟨_, rfl⟩
 obtain ⟨gr, hgr⟩ : ∃ gr, gr = w.heap.size + 2 := ⟨_, rfl⟩
 rw [← hgr, ← hgl] at HP ⊢
 have HP : Hid (RS w V gs gl gr N A T.length c Al l.length cl) := by rw [hgs]; exact HP
 simp only [← hgs]
 clear hgs hgl hgr
 obtain ⟨s0, s1, l0, r0, r1, r2, r3⟩ := HP.out.cells
 go_wp2_with fail
 refine (fits_any N A T.length c T V (by omega) ((HT.out.below HP.out.b).more HP.out.b.size)).mono ?_
 rintro e w1 ⟨rfl, hb⟩
 have HP1 := Lib.hid (HP.out.on hb)
 clear hb HP s0 s1 l0 r0 r1 r2 r3
 obtain ⟨s0, s1, l0, r0, r1, r2, r3⟩ := HP1.out.cells
 cases hf : fitL N T with
 | false =>
  have HQ : Hid (renL N T l = (0, [], 1)) := Lib.hid (by unfold renL; rw [if_pos hf])
  go_wp2_with fail
  obtain ⟨f0, f1, _, _, _⟩ := soup_facts (soup_set HP1.out.r (.int .i64 0) (.slice none 0 0))
  refine bodyPost_ret (v := .tuple #[.agg #[.int .i64 0, .slice none 0 0], .int .i64 1]) ?_ rfl (pick_post HQ.out (LRow.nil _ _) (bw_set (bw_set HP1.out.b HP1.out.hr _) HP1.out.hr _))
  simp [results, Tryz.results20, go_sem, f0, f1]
 | true =>
  have hfn := fit_N hf
  have HFI : Hid (permP N l → ∀ t ∈ T, inL l.length t) := Lib.hid (fun hp t ht => by
   obtain ⟨i, hi, e⟩ := List.mem_iff_getElem.1 ht
   have h := (fitT_iff.1 (fit_tri hf hi)).1
   rw [tri_of (List.getElem?_eq_getElem hi), e] at h
   have := hp.1
   unfold inL
   omega)
  have HQF := Lib.hid (@renL_form N T l hf)
  have HQO := Lib.hid (@renL_ok N T l hf)
  clear hf
  obtain ⟨Nn, rfl⟩ := Int.eq_ofNat_of_zero_le hfn.1
  obtain ⟨i1, hi1, hy0, hy1, hy2⟩ := info_parts bool_info
  have hmk := fun W => run_make_rowN (P := Tryz.prog) 72 4 i1 (.bool false) Tryz.underlying72 hi1 hy0 .i64 .i64 Nn Nn (Nat.le_refl _) (by rw [hy2]; omega) (by omega) W
  rw [hy1, Nat.mul_one, madeBools] at hmk
  obtain ⟨w2, hw2⟩ : ∃ w2, w2 = w1.alloc (.cells (bools Nn fun _ => false) 4) := ⟨_, rfl⟩
  have HP2 : Hid (RS w w2 gs gl gr Nn A T.length c Al l.length cl) := by subst hw2; exact Lib.hid (HP1.out.alloc _)
  have HK2 : Hid (Blk w2 w1.heap.size 4 (bools Nn fun _ => false)) := by subst hw2; exact Lib.hid (Blk.new _ _ _)
  have F2 := HP2.out.cells
  rw [hw2] at F2
  obtain ⟨p0, p1, pl, _, _, _, _⟩ := F2
  have HGB : Hid (gs ≠ w1.heap.size ∧ gl ≠ w1.heap.size ∧ gr ≠ w1.heap.size ∧ w.heap.size ≤ w1.heap.size) := Lib.hid ⟨Nat.ne_of_lt HP1.out.s.lt, Nat.ne_of_lt HP1.out.l.lt, Nat.ne_of_lt HP1.out.r.lt, HP1.out.b.size⟩
  go_wp2_with fail
  rw [← hw2]
  generalize w1.heap.size = gb at *
  clear hw2 HP1 s0 s1 l0 r0 r1 r2 r3 p0 p1 pl hmk
  go_loopw [18] (fun iv wr => ∃ k : Nat, k ≤ l.length ∧ iv = .int .i64 k ∧ Hid ((l.take k).Nodup ∧ ∀ x ∈ l.take k, 0 ≤ x ∧ x < (Nn : Int)) ∧ Hid (Blk wr gb 4 (bools Nn (seenTo l k))) ∧ Hid (RS w wr gs gl gr Nn A T.length c Al l.length cl)) (fun iv _ => l.length - (intOf iv).toNat)
  case atStart => exact ⟨0, by omega, rfl, Lib.hid ⟨by simp, by simp⟩, (show seenTo l 0 = fun _ => false by funext v; simp [seenTo]) ▸ HK2, HP2⟩
  case round =>
   obtain ⟨k, hk, rfl, HN, HKK, HPK⟩ := hrel
   obtain ⟨w3, hw3⟩ : ∃ w3 : World, w3 = wr := ⟨_, rfl⟩
   rw [← hw3] at HKK HPK ⊢
   clear hw3 HP2 HK2
   obtain ⟨s0, s1, l0, r0, r1, r2, r3⟩ := HPK.out.cells
   by_cases hlt : k < l.length
   · obtain ⟨ad, u, eA, had, hu, hc⟩ := (HL.out.below HPK.out.b).at_ hlt
     obtain ⟨x, hx, rfl⟩ := zl_at hu
     have HX := Lib.hid hx
     have hk0 : (0 : Int) ≤ (k : Int) := by omega
     have hk1 : (k : Int) < (l.length : Int) := by omega
     subst eA
     clear hu hx had
     by_cases hx0 : x < 0
     · have HQ := Lib.hid (HQF.out fun h => by have := (h.2.2 x (List.mem_of_getElem? HX.out)).1; omega)
       go_wp2_with fail
       obtain ⟨f0, f1, _, _, _⟩ := soup_facts (soup_set HPK.out.r (.int .i64 0) (.slice none 0 0))
       refine bodyPost_ret (v := .tuple #[.agg #[.int .i64 0, .slice none 0 0], .int .i64 3]) ?_ rfl (pick_post HQ.out (LRow.nil _ _) (bw_set (bw_set HPK.out.b HPK.out.hr _) HPK.out.hr _))
       simp [results, Tryz.results20, go_sem, f0, f1]
     by_cases hx1 : (Nn : Int) ≤ x
     · have HQ := Lib.hid (HQF.out fun h => by have := (h.2.2 x (List.mem_of_getElem? HX.out)).2; omega)
       go_wp2_with fail
       obtain ⟨f0, f1, _, _, _⟩ := soup_facts (soup_set HPK.out.r (.int .i64 0) (.slice none 0 0))
       refine bodyPost_ret (v := .tuple #[.agg #[.int .i64 0, .slice none 0 0], .int .i64 3]) ?_ rfl (pick_post HQ.out (LRow.nil _ _) (bw_set (bw_set HPK.out.b HPK.out.hr _) HPK.out.hr _))
       simp [results, Tryz.results20, go_sem, f0, f1]
     obtain ⟨xn, rfl⟩ := Int.eq_ofNat_of_zero_le (show 0 ≤ x by omega)
     have hxn : xn < Nn := by omega
     have b0 := HKK.out.cell xn
     have b1 := HKK.out.frozen xn
     rw [bools_at _ hxn] at b0
     by_cases hsn : (xn : Int) ∈ l.take k
     · have HQ := Lib.hid (HQF.out fun h => not_nodup HX.out hsn h.2.1)
       have hse : seenTo l k xn = true := by unfold seenTo; exact decide_eq_true hsn
       rw [hse] at b0
       go_wp2_with fail
       obtain ⟨f0, f1, _, _, _⟩ := soup_facts (soup_set HPK.out.r (.int .i64 0) (.slice none 0 0))
       refine bodyPost_ret (v := .tuple #[.agg #[.int .i64 0, .slice none 0 0], .int .i64 3]) ?_ rfl (pick_post HQ.out (LRow.nil _ _) (bw_set (bw_set HPK.out.b HPK.out.hr _) HPK.out.hr _))
       simp [results, Tryz.results20, go_sem, f0, f1]
     · have hse : seenTo l k xn = false := by unfold seenTo; exact decide_eq_false hsn
       have HN2 := Lib.hid (take_nodup HX.out HN.out.1 hsn)
       have HI2 : Hid (∀ x ∈ l.take (k + 1), 0 ≤ x ∧ x < (Nn : Int)) := Lib.hid (by
        rw [take_snoc_I l k HX.out]
        intro y hy
        rcases List.mem_append.1 hy with hy | hy
        · exact HN.out.2 y hy
        · obtain rfl := List.mem_singleton.1 hy
          omega)
       rw [hse] at b0
       clear hsn hse
       go_wp2_with fail
       refine ⟨⟨k + 1, by omega, by go_num, Lib.hid ⟨HN2.out, HI2.out⟩, Lib.hid ?_, Lib.hid (HPK.out.far HGB.out.1 HGB.out.2.1 HGB.out.2.2.1 HGB.out.2.2.2 _)⟩, by simp [intOf]; omega⟩
       have h1 := HKK.out.set_ xn (.bool true)
       rw [bools_set, seen_snoc HX.out] at h1
       exact h1
   · obtain rfl : k = l.length := by omega
     rw [List.take_length] at HN
     by_cases hlN : (l.length : Int) = (Nn : Int)
     · have HPM : Hid (permP (Nn : Int) l) := Lib.hid ⟨hlN, HN.out.1, HN.out.2⟩
       have HQ := Lib.hid (HQO.out HPM.out)
       have HTI := Lib.hid (HFI.out HPM.out)
       go_wp2_with fail
       refine (eachR_any (renU l) gl Nn A T.length c T w3 (by omega) ((HT.out.below HPK.out.b).more HPK.out.b.size) (fun t ht W hW => rename1_any t gl Al l.length cl l W.heap.size W (blk_call HPK.out.l hW) ((HL.out.below (bw_call HPK.out.b hW)).more (bw_size (bw_call HPK.out.b hW))) (Nat.le_refl _) (HTI.out t ht))).mono ?_
       rintro e w4 ⟨A1, c1, rfl, hr, hb⟩
       have HP4 := Lib.hid (HPK.out.on hb)
       have HR4 := Lib.hid (LRow.base hr HPK.out.b.size)
       clear hb hr HPK s0 s1 l0 r0 r1 r2 r3
       obtain ⟨s0, s1, l0, r0, r1, r2, r3⟩ := HP4.out.cells
       go_wp2_with fail
       obtain ⟨f0, f1, _, _, _⟩ := soup_facts (soup_set HP4.out.r (.int .i64 Nn) (.slice A1 (T.map (renU l)).length c1))
       rw [List.length_map] at f0 f1
       refine bodyPost_ret (v := .tuple #[.agg #[.int .i64 Nn, .slice A1 (T.map (renU l)).length c1], .int .i64 0]) ?_ rfl (pick_post HQ.out (HR4.out.soup_set HP4.out.r _ _) (bw_set (bw_set HP4.out.b HP4.out.hr _) HP4.out.hr _))
       simp [results, Tryz.results20, go_sem, f0, f1]
     · have HQ := Lib.hid (HQF.out fun h => hlN h.1)
       go_wp2_with fail
       obtain ⟨f0, f1, _, _, _⟩ := soup_facts (soup_set HPK.out.r (.int .i64 0) (.slice none 0 0))
       refine bodyPost_ret (v := .tuple #[.agg #[.int .i64 0, .slice none 0 0], .int .i64 3]) ?_ rfl (pick_post HQ.out (LRow.nil _ _) (bw_set (bw_set HPK.out.b HPK.out.hr _) HPK.out.hr _))
       simp [results, Tryz.results20, go_sem, f0, f1]
end Go.Proofs.YtiajlmajenabiaaGreat
namespace Go.Proofs.YtiajlmajenabiaaGreat
open Go.RowKit
structure CellAt (w : World) (p : Addr) (u : Value) : Prop where
 c : w.cell? p = some u
 lt : p.block < w.heap.size
section
variable {w w' : World} {p : Addr} {u : Value}
theorem CellAt.below (h : CellAt w p u) (hb : Below w.heap.size w w') : CellAt w' p u := ⟨(hb.cell h.lt).trans h.c, Nat.lt_of_lt_of_le h.lt hb.size⟩
theorem CellAt.drew (h : CellAt w p u) : CellAt w.drew p u := ⟨h.c, h.lt⟩
theorem CellAt.alloc (h : CellAt w p u) (o : Obj) : CellAt (w.alloc o) p u := h.below (bw_alloc (Below.refl _ _) o)
end
theorem perm_list {m : Nat} {l : List Int} (hp : permP (m : Int) l) : l.Perm ((List.range m).map fun i : Nat => (i : Int)) := by
 refine (List.perm_ext_iff_of_nodup hp.2.1 ((List.pairwise_map).2 (List.nodup_range.imp fun h e => h (by omega)))).2 fun x => ⟨fun hx => ?_, fun hx => ?_⟩
 · obtain ⟨h0, h1⟩ := hp.2.2 x hx
   exact List.mem_map.2 ⟨x.toNat, List.mem_range.2 (by omega), by omega⟩
 · obtain ⟨i, hi, rfl⟩ := List.mem_map.1 hx
   have := List.mem_range.1 hi
   exact perm_mem hp (by omega) (by omega)
theorem to_ren {m : Nat} {l : List Int} {x : Int} (h0 : 0 ≤ x) (h1 : x < m) : toL l x = renB l m x := by
 unfold renB toL
 rw [if_pos ⟨h0, h1⟩]
theorem ren_same {m : Nat} {l : List Int} {T : List Tri} (hok : ∀ t ∈ T, TriOk m t) : T.map (renU l) = T.map (mapT (renB l m)) := by
 refine List.map_congr_left fun t ht => ?_
 have h := hok t ht
 unfold renU mapT
 rw [to_ren h.a0 h.a1, to_ren h.b0 h.b1, to_ren h.c0 h.c1]
theorem fit_surf {m : Nat} {T : List Tri} (h : SurfE m T) : fitL (m : Int) T = true := by
 unfold fitL
 have h1 := h.m1
 simp only [Bool.and_eq_true, decide_eq_true_eq, List.all_eq_true]
 refine ⟨⟨by omega, by omega⟩, fun t ht => ?_⟩
 have h := h.ok t ht
 exact fitT_iff.2 ⟨⟨h.a0, h.a1, h.b0, h.b1, h.c0, h.c1⟩, h.ab, h.bc, h.ca⟩
end Go.Proofs.YtiajlmajenabiaaGreat
namespace Go.Proofs.YtiajlmajenabiaaGreat
open Go.RowKit
section
variable {m n : Nat} {T U : List Tri} {rn a b : List Int}
theorem nxc_mirC (c : Nat) : nxc (mirC c) = mirC (pvc c) := by unfold nxc mirC pvc; omega
theorem pvc_mirC (c : Nat) : pvc (mirC c) = mirC (nxc c) := by unfold nxc mirC pvc; omega
theorem mir_mir (T : List Tri) : (T.map mirT).map mirT = T := by
 rw [List.map_map]
 conv => rhs; rw [← List.map_id T]
 rfl
theorem mir_iso (h : IsoL m T U rn) : IsoL m (T.map mirT) (U.map mirT) rn := by
 refine ⟨h.len, h.nd, h.bd, fun x hx => ?_⟩
 rw [List.length_map] at hx
 obtain ⟨y, hy, h1, h2, h3⟩ := h.tri (mirC x) (mirC_lt hx)
 have key : ∀ {c : Nat}, c < 3 * T.length → cv (T.map mirT) c = cv T (mirC c) := fun {c} hc => by
  have := cv_mir (T := T) (mirC_lt hc)
  rwa [mirC_mirC] at this
 refine ⟨mirC y, by rw [List.length_map]; exact mirC_lt hy, ?_, ?_, ?_⟩
 · rw [cv_mir hy, h1, key hx]
 · rw [nxc_mirC, cv_mir (pvc_lt hy), h3, key (nxc_lt hx), ← pvc_mirC]
 · rw [pvc_mirC, cv_mir (nxc_lt hy), h2, key (pvc_lt hx), ← nxc_mirC]
end
end Go.Proofs.YtiajlmajenabiaaGreat
namespace Go.Proofs.YtiajlmajenabiaaGreat
open Go.RowKit
section
variable {m : Nat} {T U : List Tri} {l rn : List Int}
theorem ren_surf47 (hs : SurfE m T) (hp : permP (m : Int) l) : SurfE m (T.map (renU l)) := by
 rw [ren_same hs.ok]
 exact surf_ren (ren_list (perm_list hp)) hs
theorem cv_renU (hs : SurfE m T) {c : Nat} (hc : c < 3 * T.length) : cv (T.map (renU l)) c = gS l (cv T c) := by
 have hb := cv_bd hs hc
 rw [ren_same hs.ok, cv_ren _ hc]
 unfold renB gS
 rw [if_pos hb]
theorem ren_iso (hs : SurfE m T) (hp : permP (m : Int) l) : IsoL m T (T.map (renU l)) l :=
 ⟨by have := hp.1; omega, hp.2.1, hp.2.2, fun x hx => ⟨x, by rw [List.length_map]; exact hx, cv_renU hs hx, cv_renU hs (nxc_lt hx), cv_renU hs (pvc_lt hx)⟩⟩
def Mir (m : Nat) (T : List Tri) : Prop := ∃ rn, IsoL m T (T.map mirT) rn
theorem mir_back : Mir m T → Mir m (T.map mirT) := fun ⟨rn, h⟩ => ⟨rn, mir_iso h⟩
theorem mir_iff : Mir m (T.map mirT) ↔ Mir m T := by
 refine ⟨fun h => ?_, mir_back⟩
 have := mir_back h
 rwa [mir_mir] at this
theorem mir_go (h : IsoL m T U rn) (hs : SurfE m T) (hu : SurfE m U) (hl : T.length = U.length) : Mir m T → Mir m U := fun ⟨a, ha⟩ =>
 ⟨_, comp_iso (h.inv hs hu hl) (comp_iso ha (mir_iso h) hs) hu⟩
theorem mir_ren (hs : SurfE m T) (hp : permP (m : Int) l) : Mir m (T.map (renU l)) ↔ Mir m T := by
 have h := ren_iso hs hp
 have hu := ren_surf47 hs hp
 have hl : T.length = (T.map (renU l)).length := by rw [List.length_map]
 exact ⟨mir_go (h.inv hs hu hl) hu hs hl.symm, mir_go h hs hu hl⟩
theorem onto_mir (hs : SurfE m T) : ((extR T (T.map mirT) m m []).take 1).length = 0 ∨ ((extR T (T.map mirT) m m []).take 1).length = 1 := by
 rw [List.length_take]
 omega
theorem onto_mir_iff (hs : SurfE m T) : ((extR T (T.map mirT) m m []).take 1).length = 1 ↔ Mir m T := by
 have hl : T.length = (T.map mirT).length := by rw [List.length_map]
 rw [List.length_take]
 constructor
 · intro h
   have hpos : 0 < (extR T (T.map mirT) m m []).length := by omega
   exact ⟨_, (ext_iff hs (surf_mir hs) hl _).1 (List.getElem_mem hpos)⟩
 · rintro ⟨rn, h⟩
   have := List.length_pos_of_mem ((ext_iff hs (surf_mir hs) hl rn).2 h)
   omega
end
end Go.Proofs.YtiajlmajenabiaaGreat
