/- What a surface is, triangle by triangle, without numbers of triangles: the plain law; two side by side. -/
import Derived.Test.YtdpgbccgngdapaaPlainA
namespace Go.Proofs.Ytdpgbccgngdapaa
open Go.RowKit

/-- What is reached by steps. -/
def ReachE {α : Type} (R : α → α → Prop) (a b : α) : Prop := ∀ S : α → Prop, S a → (∀ x y, S x → R x y → S y) → S b
theorem ReachE.refl {α : Type} (R : α → α → Prop) (a : α) : ReachE R a a := fun _ h _ => h
theorem ReachE.step {α : Type} {R : α → α → Prop} {a b c : α} (h : ReachE R a b) (hr : R b c) : ReachE R a c := fun S ha hs => hs b c (h S ha hs) hr
theorem ReachE.trans {α : Type} {R : α → α → Prop} {a b c : α} (h : ReachE R a b) (h' : ReachE R b c) : ReachE R a c := fun S ha hs => h' S (h S ha hs) hs
theorem ReachE.symm {α : Type} {R : α → α → Prop} (hs : ∀ x y, R x y → R y x) {a b : α} (h : ReachE R a b) : ReachE R b a :=
  h (fun x => ReachE R x a) (ReachE.refl _ _) fun x y hx hr => ReachE.trans (ReachE.step (ReachE.refl _ _) (hs x y hr)) hx
theorem ReachE.map {α β : Type} {R : α → α → Prop} {R' : β → β → Prop} (f : α → β) (hf : ∀ x y, R x y → R' (f x) (f y)) {a b : α} (h : ReachE R a b) : ReachE R' (f a) (f b) :=
  h (fun x => ReachE R' (f a) (f x)) (ReachE.refl _ _) fun x y hx hr => ReachE.step hx (hf x y hr)
theorem reach_e {R : Nat → Nat → Prop} {a b : Nat} : Reach R a b ↔ ReachE R a b := Iff.rfl

/-- Two triangles at a vertex that have another one in common. -/
def NbrE (T : List Tri) (v : Int) (t u : Tri) : Prop := (t ∈ T ∧ v ∈ verts t) ∧ (u ∈ T ∧ v ∈ verts u) ∧ ∃ w, w ≠ v ∧ w ∈ verts t ∧ w ∈ verts u
theorem NbrE.symm {T : List Tri} {v : Int} (t u : Tri) (h : NbrE T v t u) : NbrE T v u t := by
  obtain ⟨h1, h2, w, h3, h4, h5⟩ := h
  exact ⟨h2, h1, w, h3, h5, h4⟩
/-- The triangles of a vertex are one ring, or fan. -/
def ConnE (T : List Tri) (v : Int) : Prop := ∀ t u, t ∈ T → v ∈ verts t → u ∈ T → v ∈ verts u → ReachE (NbrE T v) t u
theorem ok_other {m : Nat} {t : Tri} (h : TriOk m t) (v : Int) : ∃ w, w ≠ v ∧ w ∈ verts t := by
  by_cases e : t.a = v
  · exact ⟨t.b, fun e' => h.ab (e.trans e'.symm), by simp [verts]⟩
  · exact ⟨t.a, e, by simp [verts]⟩
theorem pinched_conn {m : Nat} {T : List Tri} (hok : ∀ t ∈ T, TriOk m t) (v : Nat) : pinchedB T T.length v = false ↔ ConnE T (v : Int) := by
  have hS : ∀ i, i ∈ atL T T.length (v : Int) ↔ i < T.length ∧ (v : Int) ∈ verts (tri T i) := fun i => by
    unfold atL
    rw [List.mem_filter, List.mem_range, decide_eq_true_eq]
  unfold pinchedB
  by_cases h0 : atL T T.length (v : Int) = []
  · rw [h0]
    refine ⟨fun _ t u ht hv _ _ => ?_, fun _ => rfl⟩
    obtain ⟨i, hi, rfl⟩ := tri_idx ht
    have := (hS i).2 ⟨hi, hv⟩
    rw [h0] at this
    cases this
  · have e0 : (!(atL T T.length (v : Int)).isEmpty) = true := by
      cases h : atL T T.length (v : Int) with
      | nil => exact absurd h h0
      | cons a l => rfl
    rw [e0, Bool.true_and, pinchB_conn (atL_nodup _ _ _) h0, Bool.not_eq_false', connB_iff]
    generalize hSS : atL T T.length (v : Int) = S at *
    have hh : S.headD 0 ∈ S := by
      cases S with
      | nil => exact absurd rfl h0
      | cons a l => simp
    constructor
    · intro hc
      have key : ∀ t, t ∈ T → (v : Int) ∈ verts t → ReachE (NbrE T v) (tri T (S.headD 0)) t := fun t ht hv => by
        obtain ⟨i, hi, rfl⟩ := tri_idx ht
        exact ReachE.map (R := fun a b => a ∈ S ∧ b ∈ S ∧ Nbr T v a b) (tri T) (fun x y ⟨hx, hy, w, h1, h2, h3⟩ => ⟨⟨tri_mem ((hS x).1 hx).1, ((hS x).1 hx).2⟩, ⟨tri_mem ((hS y).1 hy).1, ((hS y).1 hy).2⟩, w, h1, h2, h3⟩) (hc i ((hS i).2 ⟨hi, hv⟩))
      exact fun t u ht hv hu hv' => ReachE.trans (ReachE.symm NbrE.symm (key t ht hv)) (key u hu hv')
    · intro hc k hk
      obtain ⟨hk1, hk2⟩ := (hS k).1 hk
      obtain ⟨hh1, hh2⟩ := (hS _).1 hh
      have hr := hc _ _ (tri_mem hh1) hh2 (tri_mem hk1) hk2
      have := hr (fun t => ∀ i, i ∈ S → tri T i = t → Reach (fun a b => a ∈ S ∧ b ∈ S ∧ Nbr T v a b) (S.headD 0) i) (fun i hi e => by
        obtain ⟨w, h1, h2⟩ := ok_other (hok _ (tri_mem hh1)) (v : Int)
        exact (Reach.refl _ _).step ⟨hh, hi, w, h1, h2, by rw [e]; exact h2⟩) (fun x y hx ⟨⟨hxT, hxv⟩, _, w, h1, h2, h3⟩ i hi e => by
        obtain ⟨j, hj, rfl⟩ := tri_idx hxT
        exact (hx j ((hS j).2 ⟨hj, hxv⟩) rfl).step ⟨(hS j).2 ⟨hj, hxv⟩, hi, w, h1, h2, by rw [e]; exact h3⟩)
      exact this k hk rfl
theorem pair_iff {test : Tri → Tri → Bool} {T : List Tri} : refD test T T.length = [] ↔ T.Pairwise fun t u => test t u = false := by
  rw [List.pairwise_iff_getElem]
  constructor
  · intro h i j hi hj hij
    have := refD_no h hij hj
    rw [tri_of (List.getElem?_eq_getElem hi), tri_of (List.getElem?_eq_getElem hj)] at this
    exact this
  · intro h
    refine refD_none fun a b hab hb => ?_
    rw [tri_of (List.getElem?_eq_getElem (Nat.lt_trans hab hb)), tri_of (List.getElem?_eq_getElem hb)]
    exact h a b _ _ hab
/-- What a surface is. -/
structure SurfE (m : Nat) (T : List Tri) : Prop where
  m1 : m ≤ 4096
  t1 : T.length ≤ 8192
  ok : ∀ t ∈ T, TriOk m t
  tw : T.Pairwise fun t u => twiceB t u = false
  mi : T.Pairwise fun t u => mirrB t u = false
  used : ∀ v, v < m → ∃ t ∈ T, (v : Int) ∈ verts t
  con : ∀ v, v < m → ConnE T (v : Int)
theorem surf_e {N : Int} {T : List Tri} {m : Nat} : Surf N T m ↔ N = (m : Int) ∧ SurfE m T := by
  constructor
  · rintro ⟨h0, h1, h2, hok, h3, h4, h5, h6⟩
    refine ⟨h0, h1, h2, hok, pair_iff.1 h3, pair_iff.1 h4, fun v hv => ?_, fun v hv => (pinched_conn hok v).1 (h6 v hv)⟩
    obtain ⟨i, hi, hv⟩ := used_iff.1 (h5 v hv)
    exact ⟨_, tri_mem hi, hv⟩
  · rintro ⟨h0, h1, h2, hok, h3, h4, h5, h6⟩
    refine ⟨h0, h1, h2, hok, pair_iff.2 h3, pair_iff.2 h4, fun v hv => used_iff.2 ?_, fun v hv => (pinched_conn hok v).2 (h6 v hv)⟩
    obtain ⟨t, ht, hv⟩ := h5 v hv
    obtain ⟨i, hi, rfl⟩ := tri_idx ht
    exact ⟨i, hi, hv⟩
theorem is_surf {N : Int} {T : List Tri} : refAll N T = [] ↔ ∃ m : Nat, N = (m : Int) ∧ SurfE m T :=
  ⟨fun h => (surf_of h).imp fun _ => surf_e.1, fun ⟨_, h⟩ => surf_all (surf_e.2 h)⟩

/-! ### Side by side -/
def shiftT (N : Int) (t : Tri) : Tri := ⟨t.a + N, t.b + N, t.c + N⟩
theorem shift_verts (N : Int) (t : Tri) (v : Int) : v ∈ verts (shiftT N t) ↔ v - N ∈ verts t := by
  rw [verts_mem, verts_mem]
  simp only [shiftT]
  constructor
  · rintro (h | h | h)
    · exact .inl (by omega)
    · exact .inr (.inl (by omega))
    · exact .inr (.inr (by omega))
  · rintro (h | h | h)
    · exact .inl (by omega)
    · exact .inr (.inl (by omega))
    · exact .inr (.inr (by omega))
theorem shift_edge (N : Int) (t : Tri) (a b : Int) : edgeB (shiftT N t) a b = edgeB t (a - N) (b - N) := by
  unfold edgeB shiftT
  rw [Bool.eq_iff_iff]
  simp only [Bool.or_eq_true, Bool.and_eq_true, beq_iff_eq]
  omega
theorem edge_verts {t : Tri} {a b : Int} (h : edgeB t a b = true) : a ∈ verts t ∧ b ∈ verts t := by
  unfold edgeB at h
  simp only [Bool.or_eq_true, Bool.and_eq_true, beq_iff_eq] at h
  rw [verts_mem, verts_mem]
  omega
theorem ok_verts {m : Nat} {t : Tri} (h : TriOk m t) {v : Int} (hv : v ∈ verts t) : 0 ≤ v ∧ v < m := by
  obtain ⟨a0, a1, b0, b1, c0, c1, _, _, _⟩ := h
  rcases verts_mem.1 hv with rfl | rfl | rfl <;> exact ⟨by assumption, by assumption⟩
theorem shift_twice (N : Int) (t u : Tri) : twiceB (shiftT N t) (shiftT N u) = twiceB t u := by
  rw [Bool.eq_iff_iff, twice_edges, twice_edges]
  simp only [shift_edge]
  constructor
  · rintro ⟨a, b, h⟩
    exact ⟨_, _, h⟩
  · rintro ⟨a, b, h⟩
    refine ⟨a + N, b + N, ?_⟩
    rw [show a + N - N = a by omega, show b + N - N = b by omega]
    exact h
theorem shift_mirr (N : Int) (t u : Tri) : mirrB (shiftT N t) (shiftT N u) = mirrB t u := by
  rw [Bool.eq_iff_iff, mirrB_iff', mirrB_iff']
  simp only [shift_verts]
  constructor
  · intro h v hv
    have := h (v + N) (by rw [show v + N - N = v by omega]; exact hv)
    rw [show v + N - N = v by omega] at this
    exact this
  · intro h v hv
    exact h _ hv
theorem joined_law {m k : Nat} {T U : List Tri} (hs : SurfE m T) (ht : SurfE k U) (hm : m + k ≤ 4096) (hl : T.length + U.length ≤ 8192) : SurfE (m + k) (T ++ U.map (shiftT m)) := by
  have hbT : ∀ t ∈ T, ∀ v ∈ verts t, 0 ≤ v ∧ v < m := fun t h v hv => ok_verts (hs.ok t h) hv
  have hbU : ∀ u ∈ U.map (shiftT m), ∀ v ∈ verts u, (m : Int) ≤ v := fun u h v hv => by
    obtain ⟨x, hx, rfl⟩ := List.mem_map.1 h
    have := ok_verts (ht.ok x hx) ((shift_verts _ _ _).1 hv)
    omega
  refine ⟨hm, by simpa using hl, fun t h => ?_, ?_, ?_, fun v hv => ?_, fun v hv => ?_⟩
  · rcases List.mem_append.1 h with h | h
    · obtain ⟨a0, a1, b0, b1, c0, c1, q1, q2, q3⟩ := hs.ok t h
      exact ⟨a0, by omega, b0, by omega, c0, by omega, q1, q2, q3⟩
    · obtain ⟨x, hx, rfl⟩ := List.mem_map.1 h
      obtain ⟨a0, a1, b0, b1, c0, c1, q1, q2, q3⟩ := ht.ok x hx
      unfold shiftT
      exact ⟨by simp only; omega, by simp only; omega, by simp only; omega, by simp only; omega, by simp only; omega, by simp only; omega, by simp only; omega, by simp only; omega, by simp only; omega⟩
  · rw [List.pairwise_append, List.pairwise_map]
    refine ⟨hs.tw, ht.tw.imp fun {t u} h => by rw [shift_twice]; exact h, fun t h u h' => ?_⟩
    cases hb : twiceB t u with
    | false => rfl
    | true =>
      obtain ⟨a, b, h1, h2⟩ := (twice_edges _ _).1 hb
      have := hbT t h a (edge_verts h1).1
      have := hbU u h' a (edge_verts h2).1
      omega
  · rw [List.pairwise_append, List.pairwise_map]
    refine ⟨hs.mi, ht.mi.imp fun {t u} h => by rw [shift_mirr]; exact h, fun t h u h' => ?_⟩
    cases hb : mirrB t u with
    | false => rfl
    | true =>
      have h1 : t.a ∈ verts t := by simp [verts]
      have := hbT t h t.a h1
      have := hbU u h' t.a (mirrB_iff'.1 hb _ h1)
      omega
  · rcases (by omega : v < m ∨ m ≤ v) with h | h
    · obtain ⟨t, h1, h2⟩ := hs.used v h
      exact ⟨t, List.mem_append_left _ h1, h2⟩
    · obtain ⟨t, h1, h2⟩ := ht.used (v - m) (by omega)
      refine ⟨_, List.mem_append_right _ (List.mem_map_of_mem h1), (shift_verts _ _ _).2 ?_⟩
      rw [show (v : Int) - (m : Int) = ((v - m : Nat) : Int) by omega]
      exact h2
  · intro t u h1 h2 h3 h4
    rcases (by omega : v < m ∨ m ≤ v) with h | h
    · have hT : ∀ x ∈ T ++ U.map (shiftT m), (v : Int) ∈ verts x → x ∈ T := fun x hx hv => by
        rcases List.mem_append.1 hx with hx | hx
        · exact hx
        · have := hbU x hx _ hv
          omega
      exact ReachE.map (R := NbrE T v) id (fun x y ⟨⟨q1, q2⟩, ⟨q3, q4⟩, q5⟩ => ⟨⟨List.mem_append_left _ q1, q2⟩, ⟨List.mem_append_left _ q3, q4⟩, q5⟩) (hs.con v h t u (hT t h1 h2) h2 (hT u h3 h4) h4)
    · have hU : ∀ x ∈ T ++ U.map (shiftT m), (v : Int) ∈ verts x → ∃ y ∈ U, x = shiftT m y ∧ ((v - m : Nat) : Int) ∈ verts y := fun x hx hv => by
        rcases List.mem_append.1 hx with hx | hx
        · have := hbT x hx _ hv
          omega
        · obtain ⟨y, hy, rfl⟩ := List.mem_map.1 hx
          refine ⟨y, hy, rfl, ?_⟩
          rw [shift_verts, show (v : Int) - (m : Int) = ((v - m : Nat) : Int) by omega] at hv
          exact hv
      obtain ⟨x, hx, rfl, hxv⟩ := hU t h1 h2
      obtain ⟨y, hy, rfl, hyv⟩ := hU u h3 h4
      refine ReachE.map (R := NbrE U ((v - m : Nat) : Int)) (shiftT m) (fun p q ⟨⟨q1, q2⟩, ⟨q3, q4⟩, w, q5, q6, q7⟩ => ⟨⟨List.mem_append_right _ (List.mem_map_of_mem q1), (shift_verts _ _ _).2 ?_⟩, ⟨List.mem_append_right _ (List.mem_map_of_mem q3), (shift_verts _ _ _).2 ?_⟩, w + m, by omega, (shift_verts _ _ _).2 ?_, (shift_verts _ _ _).2 ?_⟩) (ht.con (v - m) (by omega) x y hx hxv hy hyv)
      · rw [show (v : Int) - (m : Int) = ((v - m : Nat) : Int) by omega]; exact q2
      · rw [show (v : Int) - (m : Int) = ((v - m : Nat) : Int) by omega]; exact q4
      · rw [show w + (m : Int) - (m : Int) = w by omega]; exact q6
      · rw [show w + (m : Int) - (m : Int) = w by omega]; exact q7
end Go.Proofs.Ytdpgbccgngdapaa
