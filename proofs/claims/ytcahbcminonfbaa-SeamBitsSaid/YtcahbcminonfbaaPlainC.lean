/- A closed surface without one triangle is a surface; with one turned round three witnesses tell of it: the plain law. -/
import Derived.Test.YtcahbcminonfbaaPlainB
namespace Go.Proofs.Ytcahbcminonfbaa
open Go.RowKit

/-- Each directed edge has the other way round beside it. -/
def ClosedT (T : List Tri) : Prop := ∀ t ∈ T, ∀ a b, edgeB t a b = true → ∃ u ∈ T, edgeB u b a = true
theorem edge_iff {t : Tri} {a b : Int} : edgeB t a b = true ↔ (t.a = a ∧ t.b = b) ∨ (t.b = a ∧ t.c = b) ∨ (t.c = a ∧ t.a = b) := by
  unfold edgeB
  simp only [Bool.or_eq_true, Bool.and_eq_true, beq_iff_eq, or_assoc]
theorem twice_symm (t u : Tri) : twiceB t u = twiceB u t := by
  rw [Bool.eq_iff_iff, twice_edges, twice_edges]
  exact ⟨fun ⟨a, b, h, h'⟩ => ⟨a, b, h', h⟩, fun ⟨a, b, h, h'⟩ => ⟨a, b, h', h⟩⟩
theorem mirr_symm {m : Nat} {t u : Tri} (ht : TriOk m t) (hu : TriOk m u) : mirrB t u = mirrB u t := by
  rw [Bool.eq_iff_iff, mirrB_iff ht hu, mirrB_iff hu ht]
  exact ⟨fun ⟨x, h, h'⟩ => ⟨x, h', h⟩, fun ⟨x, h, h'⟩ => ⟨x, h', h⟩⟩
theorem pair_both {test : Tri → Tri → Bool} {T : List Tri} (hs : ∀ t u, t ∈ T → u ∈ T → test t u = test u t) (h : T.Pairwise fun t u => test t u = false) {i j : Nat} (hi : i < T.length) (hj : j < T.length) (hij : i ≠ j) : test (tri T i) (tri T j) = false := by
  have h' := pair_iff.2 h
  rcases (by omega : i < j ∨ j < i) with hlt | hlt
  · exact refD_no h' hlt hj
  · rw [hs _ _ (tri_mem hi) (tri_mem hj)]
    exact refD_no h' hlt hi
theorem edge_one {m : Nat} {T : List Tri} (h : SurfE m T) {i j : Nat} (hi : i < T.length) (hj : j < T.length) {a b : Int} (h1 : edgeB (tri T i) a b = true) (h2 : edgeB (tri T j) a b = true) : i = j := by
  refine Classical.byContradiction fun hij => ?_
  have h3 := pair_both (fun t u _ _ => twice_symm t u) h.tw hi hj hij
  rw [(twice_edges _ _).2 ⟨a, b, h1, h2⟩] at h3
  cases h3
theorem edge_tri {m : Nat} {T : List Tri} (h : SurfE m T) {t u : Tri} (ht : t ∈ T) (hu : u ∈ T) {a b : Int} (h1 : edgeB t a b = true) (h2 : edgeB u a b = true) : t = u := by
  obtain ⟨i, hi, rfl⟩ := tri_idx ht
  obtain ⟨j, hj, rfl⟩ := tri_idx hu
  rw [edge_one h hi hj h1 h2]
theorem surf_nodup {m : Nat} {T : List Tri} (h : SurfE m T) : T.Nodup := h.tw.imp fun {t u} h e => by
  subst e
  rw [twice_self] at h
  cases h
theorem out_edge {t : Tri} {v : Int} (hv : v ∈ verts t) : ∃ w, edgeB t v w = true := by
  rcases verts_mem.1 hv with rfl | rfl | rfl
  · exact ⟨t.b, by simp [edgeB]⟩
  · exact ⟨t.c, by simp [edgeB]⟩
  · exact ⟨t.a, by simp [edgeB]⟩
theorem in_edge {t : Tri} {v : Int} (hv : v ∈ verts t) : ∃ w, edgeB t w v = true := by
  rcases verts_mem.1 hv with rfl | rfl | rfl
  · exact ⟨t.c, by simp [edgeB]⟩
  · exact ⟨t.a, by simp [edgeB]⟩
  · exact ⟨t.b, by simp [edgeB]⟩
theorem out_one {m : Nat} {t : Tri} (h : TriOk m t) {v w w' : Int} (h1 : edgeB t v w = true) (h2 : edgeB t v w' = true) : w = w' := by
  obtain ⟨_, _, _, _, _, _, q1, q2, q3⟩ := h
  rw [edge_iff] at h1 h2
  omega
theorem in_one {m : Nat} {t : Tri} (h : TriOk m t) {v w w' : Int} (h1 : edgeB t w v = true) (h2 : edgeB t w' v = true) : w = w' := by
  obtain ⟨_, _, _, _, _, _, q1, q2, q3⟩ := h
  rw [edge_iff] at h1 h2
  omega
theorem edge_ne {m : Nat} {t : Tri} (h : TriOk m t) {v w : Int} (h1 : edgeB t v w = true) : v ≠ w := by
  obtain ⟨_, _, _, _, _, _, q1, q2, q3⟩ := h
  rw [edge_iff] at h1
  omega
theorem edge_back {m : Nat} {t : Tri} (h : TriOk m t) {v w : Int} (h1 : edgeB t v w = true) : edgeB t w v = false := by
  cases hb : edgeB t w v with
  | false => rfl
  | true =>
    obtain ⟨_, _, _, _, _, _, q1, q2, q3⟩ := h
    rw [edge_iff] at h1 hb
    omega
theorem edge_any_way {t : Tri} {v w : Int} (hv : v ∈ verts t) (hw : w ∈ verts t) (hne : v ≠ w) : edgeB t v w = true ∨ edgeB t w v = true := by
  rw [verts_mem] at hv hw
  rw [edge_iff, edge_iff]
  omega

/-! ### One less -/
theorem less_mem {P Q : List Tri} {t0 : Tri} (hn : (P ++ t0 :: Q).Nodup) (u : Tri) : u ∈ P ++ Q ↔ u ∈ P ++ t0 :: Q ∧ u ≠ t0 := by
  obtain ⟨h1, h2, h3⟩ := List.nodup_append.1 hn
  have h4 := (List.nodup_cons.1 h2).1
  simp only [List.mem_append, List.mem_cons]
  constructor
  · rintro (h | h)
    · exact ⟨.inl h, fun e => h3 u h t0 (by simp) e⟩
    · exact ⟨.inr (.inr h), fun e => h4 (by rw [← e]; exact h)⟩
  · rintro ⟨h | h | h, hne⟩
    · exact .inl h
    · exact absurd h hne
    · exact .inr h
theorem ring_open {m : Nat} {T T' : List Tri} {t0 : Tri} (h : SurfE m T) (hc : ClosedT T) (h0 : t0 ∈ T) (hmem : ∀ u, u ∈ T' ↔ u ∈ T ∧ u ≠ t0) {v : Nat} (hv : v < m) : ConnE T' (v : Int) := by
  have hstep : ∀ x y, NbrE T v x y → x ≠ t0 → y ≠ t0 → NbrE T' v x y := fun x y ⟨⟨h1, h2⟩, ⟨h3, h4⟩, h5⟩ hx hy => ⟨⟨(hmem x).2 ⟨h1, hx⟩, h2⟩, ⟨(hmem y).2 ⟨h3, hy⟩, h4⟩, h5⟩
  by_cases hv0 : (v : Int) ∈ verts t0
  · -- the one behind it
    have hnx : ∀ x, x ∈ T → (v : Int) ∈ verts x → ∃ y, y ∈ T ∧ (v : Int) ∈ verts y ∧ ∃ w, edgeB x v w = true ∧ edgeB y w v = true := fun x hx hxv => by
      obtain ⟨w, hw⟩ := out_edge hxv
      obtain ⟨y, hy, hyw⟩ := hc x hx _ _ hw
      exact ⟨y, hy, (edge_verts hyw).2, w, hw, hyw⟩
    have hnb : ∀ {x y : Tri} {w : Int}, x ∈ T → y ∈ T → edgeB x v w = true → edgeB y w v = true → NbrE T v x y := fun {x y w} hx hy h1 h2 => ⟨⟨hx, (edge_verts h1).1⟩, ⟨hy, (edge_verts h2).2⟩, w, fun e => edge_ne (h.ok x hx) h1 e.symm, (edge_verts h1).2, (edge_verts h2).1⟩
    obtain ⟨s, hsT, hsv, w0, hw0, hsw0⟩ := hnx t0 h0 hv0
    have hs0 : s ≠ t0 := fun e => by
      subst e
      have := edge_back (h.ok s hsT) hw0
      rw [hsw0] at this
      cases this
    have hZ : ∀ x, ReachE (NbrE T' v) s x → (x ∈ T ∧ (v : Int) ∈ verts x) ∧ x ≠ t0 := fun x hx => hx (fun x => (x ∈ T ∧ (v : Int) ∈ verts x) ∧ x ≠ t0) ⟨⟨hsT, hsv⟩, hs0⟩ fun x y _ ⟨_, ⟨h1, h2⟩, _⟩ => ⟨⟨((hmem y).1 h1).1, h2⟩, ((hmem y).1 h1).2⟩
    -- the one ahead of it is reached
    have hprev : ∀ p, p ∈ T → ∀ w, edgeB p v w = true → edgeB t0 w v = true → ReachE (NbrE T' v) s p := by
      intro p hp w hpw h0w
      refine Classical.byContradiction fun hno => ?_
      let f : Tri → Tri := fun x => @dite _ (x ∈ T ∧ (v : Int) ∈ verts x) (Classical.propDecidable _) (fun hx => Classical.choose (hnx x hx.1 hx.2)) fun _ => x
      have hf : ∀ x, x ∈ T → (v : Int) ∈ verts x → f x ∈ T ∧ (v : Int) ∈ verts (f x) ∧ ∃ w, edgeB x v w = true ∧ edgeB (f x) w v = true := fun x h1 h2 => by
        have e : f x = Classical.choose (hnx x h1 h2) := dif_pos ⟨h1, h2⟩
        rw [e]
        exact Classical.choose_spec (hnx x h1 h2)
      haveI : DecidablePred fun x => ReachE (NbrE T' v) s x := fun x => Classical.propDecidable _
      let L := T.filter fun x => decide (ReachE (NbrE T' v) s x)
      have hL : ∀ x, x ∈ L ↔ ReachE (NbrE T' v) s x := fun x => by
        rw [List.mem_filter, decide_eq_true_eq]
        exact ⟨fun h => h.2, fun h => ⟨(hZ x h).1.1, h⟩⟩
      have hLn : L.Nodup := (surf_nodup h).sublist List.filter_sublist
      have hLf : ∀ x ∈ L, f x ∈ L := fun x hx => by
        have hr := (hL x).1 hx
        obtain ⟨⟨hxT, hxv⟩, hx0⟩ := hZ x hr
        obtain ⟨h1, h2, w1, h3, h4⟩ := hf x hxT hxv
        refine (hL _).2 (hr.step (hstep _ _ (hnb hxT h1 h3 h4) hx0 fun e => hno ?_))
        rw [e] at h4
        have : w1 = w := in_one (h.ok t0 h0) h4 h0w
        subst this
        rw [← edge_tri h hxT hp h3 hpw]
        exact hr
      have hinj : ∀ x ∈ L, ∀ y ∈ L, f x = f y → x = y := fun x hx y hy e => by
        obtain ⟨⟨hxT, hxv⟩, _⟩ := hZ x ((hL x).1 hx)
        obtain ⟨⟨hyT, hyv⟩, _⟩ := hZ y ((hL y).1 hy)
        obtain ⟨h1, h2, w1, h3, h4⟩ := hf x hxT hxv
        obtain ⟨h1', h2', w2, h3', h4'⟩ := hf y hyT hyv
        rw [← e] at h4'
        have : w1 = w2 := in_one (h.ok _ h1) h4 h4'
        subst this
        exact edge_tri h hxT hyT h3 h3'
      have hmn : (L.map f).Nodup := by
        unfold List.Nodup
        rw [List.pairwise_map]
        exact List.Pairwise.imp_of_mem (fun {a b} ha hb hne e => hne (hinj a ha b hb e)) hLn
      have hsL : s ∈ L := (hL s).2 (ReachE.refl _ _)
      have hsm : s ∉ L.map f := fun hm => by
        obtain ⟨x, hx, e⟩ := List.mem_map.1 hm
        obtain ⟨⟨hxT, hxv⟩, hx0⟩ := hZ x ((hL x).1 hx)
        obtain ⟨h1, h2, w1, h3, h4⟩ := hf x hxT hxv
        rw [e] at h4
        have : w1 = w0 := in_one (h.ok s hsT) h4 hsw0
        subst this
        exact hx0 (edge_tri h hxT h0 h3 hw0)
      have := nodup_le (s :: L.map f) L (List.nodup_cons.2 ⟨hsm, hmn⟩) fun y hy => by
        rcases List.mem_cons.1 hy with rfl | hy
        · exact hsL
        · obtain ⟨x, hx, rfl⟩ := List.mem_map.1 hy
          exact hLf x hx
      simp at this
      omega
    have hall : ∀ x, x ∈ T' → (v : Int) ∈ verts x → ReachE (NbrE T' v) s x := fun x hx hxv => by
      have hxT := (hmem x).1 hx
      have := h.con v hv s x hsT hsv hxT.1 hxv (fun y => y = t0 ∨ ReachE (NbrE T' v) s y) (.inr (ReachE.refl _ _)) fun y z hy hyz => by
        by_cases hz0 : z = t0
        · exact .inl hz0
        · right
          rcases hy with rfl | hy
          · obtain ⟨⟨hy1, hy2⟩, ⟨hz1, hz2⟩, w, q1, q2, q3⟩ := hyz
            rcases edge_any_way hy2 q2 (fun e => q1 e.symm) with h1 | h1
            · rcases edge_any_way hz2 q3 (fun e => q1 e.symm) with h2 | h2
              · exact absurd (edge_tri h hz1 hy1 h2 h1) hz0
              · have e1 := out_one (h.ok _ hy1) h1 hw0
                subst e1
                rw [edge_tri h hz1 hsT h2 hsw0]
                exact ReachE.refl _ _
            · rcases edge_any_way hz2 q3 (fun e => q1 e.symm) with h2 | h2
              · exact hprev z hz1 w h2 h1
              · exact absurd (edge_tri h hz1 hy1 h2 h1) hz0
          · exact hy.step (hstep _ _ hyz (hZ y hy).2 hz0)
      rcases this with rfl | this
      · exact absurd rfl hxT.2
      · exact this
    exact fun t u ht htv hu huv => ReachE.trans (ReachE.symm NbrE.symm (hall t ht htv)) (hall u hu huv)
  · intro t u ht htv hu huv
    exact ReachE.map (R := NbrE T v) id (fun x y hxy => hstep x y hxy (fun e => hv0 (by rw [← e]; exact hxy.1.2)) fun e => hv0 (by rw [← e]; exact hxy.2.1.2)) (h.con v hv t u ((hmem t).1 ht).1 htv ((hmem u).1 hu).1 huv)
theorem less_law {m : Nat} {P Q : List Tri} {t0 : Tri} (h : SurfE m (P ++ t0 :: Q)) (hc : ClosedT (P ++ t0 :: Q)) : SurfE m (P ++ Q) := by
  have hmem := less_mem (surf_nodup h)
  have hsub : (P ++ Q).Sublist (P ++ t0 :: Q) := List.Sublist.append (List.Sublist.refl _) (List.sublist_cons_self _ _)
  have h0 : t0 ∈ P ++ t0 :: Q := by simp
  refine ⟨h.m1, Nat.le_trans hsub.length_le h.t1, fun t ht => h.ok t ((hmem t).1 ht).1, h.tw.sublist hsub, h.mi.sublist hsub, fun v hv => ?_, fun v hv => ring_open h hc h0 hmem hv⟩
  obtain ⟨t, ht, htv⟩ := h.used v hv
  by_cases e : t = t0
  · subst e
    obtain ⟨w, hw⟩ := out_edge htv
    obtain ⟨u, hu, huw⟩ := hc t ht _ _ hw
    refine ⟨u, (hmem u).2 ⟨hu, fun e => ?_⟩, (edge_verts huw).2⟩
    subst e
    have := edge_back (h.ok u hu) hw
    rw [huw] at this
    cases this
  · exact ⟨t, (hmem t).2 ⟨ht, e⟩, htv⟩

/-! ### One turned round -/
theorem tri_set {T : List Tri} {k : Nat} (hk : k < T.length) (x : Tri) (i : Nat) : tri (T.set k x) i = if i = k then x else tri T i := by
  unfold tri
  rw [List.getD_eq_getElem?_getD, List.getD_eq_getElem?_getD, List.getElem?_set]
  by_cases h : k = i
  · subst h
    rw [if_pos rfl, if_pos hk, if_pos rfl]
    rfl
  · rw [if_neg h, if_neg (fun e => h e.symm)]
/-- A pair of two numbers, the lower one first. -/
def lowHigh (k j : Nat) : Int × Int := if j < k then ((j : Int), (k : Int)) else ((k : Int), (j : Int))
theorem lowHigh_inj {k i j : Nat} (h : lowHigh k i = lowHigh k j) : i = j := by
  unfold lowHigh at h
  split at h <;> split at h <;> (simp only [Prod.mk.injEq] at h; omega)
theorem turned_law {m k : Nat} {T : List Tri} (h : SurfE m T) (hc : ClosedT T) (hk : k < T.length) :
    (refAll (m : Int) (T.set k (mir (tri T k)))).length = 3 ∧ ∀ x ∈ refAll (m : Int) (T.set k (mir (tri T k))), x.1 = 3 ∧ (x.2.1 = (k : Int) ∨ x.2.2 = (k : Int)) := by
  have hU : ∀ i, tri (T.set k (mir (tri T k))) i = if i = k then mir (tri T k) else tri T i := tri_set hk _
  have hlen : (T.set k (mir (tri T k))).length = T.length := List.length_set
  generalize hS : T.set k (mir (tri T k)) = U at *
  have h0 := h.ok _ (tri_mem hk)
  have hokU : ∀ t ∈ U, TriOk m t := fun t ht => by
    obtain ⟨i, hi, rfl⟩ := tri_idx ht
    rw [hU]
    split
    · exact mir_ok h0
    · exact h.ok _ (tri_mem (by omega))
  -- who is beside it
  have hside : ∀ {a b : Int}, edgeB (tri T k) a b = true → ∃ j, j < T.length ∧ j ≠ k ∧ edgeB (tri T j) b a = true := fun {a b} he => by
    obtain ⟨u, hu, hub⟩ := hc _ (tri_mem hk) _ _ he
    obtain ⟨j, hj, rfl⟩ := tri_idx hu
    refine ⟨j, hj, fun e => ?_, hub⟩
    subst e
    have := edge_back h0 he
    rw [hub] at this
    cases this
  obtain ⟨j1, hj1, hn1, he1⟩ := hside (a := (tri T k).a) (b := (tri T k).b) (by simp [edgeB])
  obtain ⟨j2, hj2, hn2, he2⟩ := hside (a := (tri T k).b) (b := (tri T k).c) (by simp [edgeB])
  obtain ⟨j3, hj3, hn3, he3⟩ := hside (a := (tri T k).c) (b := (tri T k).a) (by simp [edgeB])
  have hnm : ∀ j, j < T.length → j ≠ k → ¬ ((tri T k).a ∈ verts (tri T j) ∧ (tri T k).b ∈ verts (tri T j) ∧ (tri T k).c ∈ verts (tri T j)) := fun j hj hjk ⟨h1, h2, h3⟩ => by
    have := pair_both (fun t u ht hu => mirr_symm (h.ok t ht) (h.ok u hu)) h.mi hk hj (fun e => hjk e.symm)
    rw [mirrB_iff'.2 fun v hv => by rcases verts_mem.1 hv with rfl | rfl | rfl <;> assumption] at this
    cases this
  have d12 : j1 ≠ j2 := fun e => by
    subst e
    exact hnm j1 hj1 hn1 ⟨(edge_verts he1).2, (edge_verts he1).1, (edge_verts he2).1⟩
  have d13 : j1 ≠ j3 := fun e => by
    subst e
    exact hnm j1 hj1 hn1 ⟨(edge_verts he1).2, (edge_verts he1).1, (edge_verts he3).2⟩
  have d23 : j2 ≠ j3 := fun e => by
    subst e
    exact hnm j2 hj2 hn2 ⟨(edge_verts he3).1, (edge_verts he2).2, (edge_verts he2).1⟩
  have hbes : ∀ j, j < T.length → j ≠ k → (twiceB (mir (tri T k)) (tri T j) = true ↔ j = j1 ∨ j = j2 ∨ j = j3) := fun j hj hjk => by
    rw [twice_edges]
    constructor
    · rintro ⟨a, b, h1, h2⟩
      rw [mir_edge, edge_iff] at h1
      rcases h1 with ⟨rfl, rfl⟩ | ⟨rfl, rfl⟩ | ⟨rfl, rfl⟩
      · exact .inl (edge_one h hj hj1 h2 he1)
      · exact .inr (.inl (edge_one h hj hj2 h2 he2))
      · exact .inr (.inr (edge_one h hj hj3 h2 he3))
    · rintro (rfl | rfl | rfl)
      · exact ⟨_, _, by rw [mir_edge, edge_iff]; exact .inl ⟨rfl, rfl⟩, he1⟩
      · exact ⟨_, _, by rw [mir_edge, edge_iff]; exact .inr (.inl ⟨rfl, rfl⟩), he2⟩
      · exact ⟨_, _, by rw [mir_edge, edge_iff]; exact .inr (.inr ⟨rfl, rfl⟩), he3⟩
  have hm3 : ∀ x, x ∈ refD twiceB U U.length ↔ x ∈ [lowHigh k j1, lowHigh k j2, lowHigh k j3] := fun x => by
    rw [refD_mem, hlen]
    simp only [List.mem_cons, List.not_mem_nil, or_false]
    constructor
    · rintro ⟨a, b, rfl, hab, hb, ht⟩
      rw [hU, hU] at ht
      by_cases ha : a = k
      · subst ha
        rw [if_pos rfl, if_neg (by omega)] at ht
        have e : lowHigh a b = ((a : Int), (b : Int)) := if_neg (by omega)
        rw [← e]
        rcases (hbes b hb (by omega)).1 ht with rfl | rfl | rfl
        · exact .inl rfl
        · exact .inr (.inl rfl)
        · exact .inr (.inr rfl)
      · by_cases hbk : b = k
        · subst hbk
          rw [if_neg ha, if_pos rfl, twice_symm] at ht
          have e : lowHigh b a = ((a : Int), (b : Int)) := if_pos (by omega)
          rw [← e]
          rcases (hbes a (by omega) ha).1 ht with rfl | rfl | rfl
          · exact .inl rfl
          · exact .inr (.inl rfl)
          · exact .inr (.inr rfl)
        · rw [if_neg ha, if_neg hbk, pair_both (fun t u _ _ => twice_symm t u) h.tw (by omega) hb (by omega)] at ht
          cases ht
    · have key : ∀ j, j < T.length → j ≠ k → (j = j1 ∨ j = j2 ∨ j = j3) → ∃ a b : Nat, lowHigh k j = ((a : Int), (b : Int)) ∧ a < b ∧ b < T.length ∧ twiceB (tri U a) (tri U b) = true := fun j hj hjk hj3 => by
        by_cases hlt : j < k
        · refine ⟨j, k, if_pos hlt, hlt, hk, ?_⟩
          rw [hU, hU, if_neg hjk, if_pos rfl, twice_symm]
          exact (hbes j hj hjk).2 hj3
        · refine ⟨k, j, if_neg hlt, by omega, hj, ?_⟩
          rw [hU, hU, if_neg hjk, if_pos rfl]
          exact (hbes j hj hjk).2 hj3
      rintro (rfl | rfl | rfl)
      · exact key j1 hj1 hn1 (.inl rfl)
      · exact key j2 hj2 hn2 (.inr (.inl rfl))
      · exact key j3 hj3 hn3 (.inr (.inr rfl))
  have hperm : (refD twiceB U U.length).Perm [lowHigh k j1, lowHigh k j2, lowHigh k j3] := (List.perm_ext_iff_of_nodup (ltW_nodup (refD_sorted _ _ _)) (by
    simp only [List.nodup_cons, List.mem_cons, List.not_mem_nil, or_false, not_or, not_false_eq_true, List.nodup_nil, and_true]
    exact ⟨⟨fun e => d12 (lowHigh_inj e), fun e => d13 (lowHigh_inj e)⟩, fun e => d23 (lowHigh_inj e)⟩)).2 hm3
  have hl3 := hperm.length_eq
  have hne : refW 3 twiceB U U.length ≠ [] := fun e => by
    unfold refW at e
    rw [List.map_eq_nil_iff.1 e] at hl3
    cases hl3
  rw [ok_first h.m1 (by rw [hlen]; exact h.t1) hokU, firstL_yes hne]
  refine ⟨by unfold refW; rw [List.length_map, hl3]; rfl, fun x hx => ?_⟩
  unfold refW at hx
  obtain ⟨y, hy, rfl⟩ := List.mem_map.1 hx
  refine ⟨rfl, ?_⟩
  have hlh : ∀ j, (lowHigh k j).1 = (k : Int) ∨ (lowHigh k j).2 = (k : Int) := fun j => by
    unfold lowHigh
    split
    · exact .inr rfl
    · exact .inl rfl
  have hy := (hm3 y).1 hy
  simp only [List.mem_cons, List.not_mem_nil, or_false] at hy
  rcases hy with rfl | rfl | rfl <;> exact hlh _
end Go.Proofs.Ytcahbcminonfbaa
