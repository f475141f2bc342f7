/- A part of a surface, renamed, is a surface: plain. No condition. -/
import Derived.Test.YtiajlmajenabiaaGreatPrtA
import Derived.Test.YtiajlmajenabiaaGreatIsoP
namespace Go.Proofs.YtiajlmajenabiaaGreat
open Go.RowKit

set_option linter.unusedSimpArgs false
set_option linter.unusedVariables false
/-- Triangles of a surface that are closed over edges, and their vertices. -/
structure SubOk (m : Nat) (T : List Tri) (l : List Nat) (V : List Int) : Prop where
  s : SurfE m T
  up : l.Pairwise (· < ·)
  lt : ∀ x ∈ l, x < T.length
  cl : ∀ x y, x ∈ l → Adj T x y → y ∈ l
  nd : V.Nodup
  mem : ∀ z, z ∈ V ↔ z ∈ vtx T l
def subT (T : List Tri) (V : List Int) (l : List Nat) : List Tri := l.map fun x => renT V (tri T x)
def fS (l : List Nat) (c : Nat) : Nat := 3 * l.getD (c / 3) 0 + c % 3
def gS (V : List Int) (v : Int) : Int := V.getD v.toNat 0
theorem subT_len (T : List Tri) (V : List Int) (l : List Nat) : (subT T V l).length = l.length := List.length_map _
theorem verts_corner {t : Tri} {v : Int} : v ∈ verts t ↔ ∃ r, r < 3 ∧ cornerT t r = v := by
  rw [verts_mem]
  constructor
  · rintro (h | h | h)
    · exact ⟨0, by omega, h.symm⟩
    · exact ⟨1, by omega, h.symm⟩
    · exact ⟨2, by omega, h.symm⟩
  · rintro ⟨r, hr, h⟩
    rcases (by omega : r = 0 ∨ r = 1 ∨ r = 2) with rfl | rfl | rfl
    · exact .inl h.symm
    · exact .inr (.inl h.symm)
    · exact .inr (.inr h.symm)
theorem ren_corner (V : List Int) (t : Tri) {r : Nat} (hr : r < 3) : cornerT (renT V t) r = (V.idxOf (cornerT t r) : Int) := by
  rcases (by omega : r = 0 ∨ r = 1 ∨ r = 2) with rfl | rfl | rfl <;> rfl
theorem gS_idx {V : List Int} {v : Int} (h : v ∈ V) : gS V (V.idxOf v : Int) = v := by
  unfold gS
  have hl := List.idxOf_lt_length_iff.2 h
  rw [Int.toNat_natCast, List.getD_eq_getElem?_getD, List.getElem?_eq_getElem hl, Option.getD_some]
  exact List.getElem_idxOf hl
section
variable {m : Nat} {T : List Tri} {l : List Nat} {V : List Int}
theorem vtx_iff {z : Int} : z ∈ vtx T l ↔ ∃ x ∈ l, z ∈ verts (tri T x) := by
  unfold vtx verts
  rw [List.mem_flatMap]
theorem SubOk.at_ (h : SubOk m T l V) {i : Nat} (hi : i < l.length) : l.getD i 0 ∈ l ∧ l.getD i 0 < T.length ∧ tri (subT T V l) i = renT V (tri T (l.getD i 0)) := by
  have hm := getD_mem hi
  refine ⟨hm, h.lt _ hm, tri_of ?_⟩
  unfold subT
  rw [List.getElem?_map, List.getElem?_eq_getElem hi, List.getD_eq_getElem?_getD, List.getElem?_eq_getElem hi]
  rfl
theorem SubOk.inV (h : SubOk m T l V) {x : Nat} (hx : x ∈ l) {z : Int} (hz : z ∈ verts (tri T x)) : z ∈ V := (h.mem z).2 (vtx_iff.2 ⟨x, hx, hz⟩)
theorem SubOk.idx (h : SubOk m T l V) {x y : Nat} {a b : Int} (hx : x ∈ l) (hy : y ∈ l) (ha : a ∈ verts (tri T x)) (hb : b ∈ verts (tri T y)) : (V.idxOf a : Int) = (V.idxOf b : Int) ↔ a = b := by
  constructor
  · intro e
    rw [← gS_idx (h.inV hx ha), ← gS_idx (h.inV hy hb), e]
  · rintro rfl; rfl
theorem ren_verts {t : Tri} {v : Int} : v ∈ verts (renT V t) ↔ ∃ z ∈ verts t, v = (V.idxOf z : Int) := by
  simp only [verts_mem, renT]
  constructor
  · rintro (h | h | h)
    · exact ⟨_, .inl rfl, h⟩
    · exact ⟨_, .inr (.inl rfl), h⟩
    · exact ⟨_, .inr (.inr rfl), h⟩
  · rintro ⟨z, rfl | rfl | rfl, h⟩
    · exact .inl h
    · exact .inr (.inl h)
    · exact .inr (.inr h)
theorem SubOk.edge (h : SubOk m T l V) {x y : Nat} (hx : x ∈ l) (hy : y ∈ l) {a b : Int} (ha : a ∈ verts (tri T y)) (hb : b ∈ verts (tri T y)) : edgeB (renT V (tri T x)) (V.idxOf a : Int) (V.idxOf b : Int) = edgeB (tri T x) a b := by
  have key : ∀ z ∈ verts (tri T x), ∀ c ∈ verts (tri T y), (((V.idxOf z : Int) == (V.idxOf c : Int)) = (z == c)) := fun z hz c hc => by
    rw [Bool.eq_iff_iff, beq_iff_eq, beq_iff_eq]
    exact h.idx hx hy hz hc
  have v0 : (tri T x).a ∈ verts (tri T x) := by simp [verts]
  have v1 : (tri T x).b ∈ verts (tri T x) := by simp [verts]
  have v2 : (tri T x).c ∈ verts (tri T x) := by simp [verts]
  simp only [edgeB, renT, key _ v0 _ ha, key _ v1 _ ha, key _ v2 _ ha, key _ v0 _ hb, key _ v1 _ hb, key _ v2 _ hb]
theorem SubOk.has (h : SubOk m T l V) {x y : Nat} (hx : x ∈ l) (hy : y ∈ l) {a : Int} (ha : a ∈ verts (tri T y)) : (V.idxOf a : Int) ∈ verts (renT V (tri T x)) ↔ a ∈ verts (tri T x) := by
  rw [ren_verts]
  constructor
  · rintro ⟨z, hz, e⟩
    rw [(h.idx hy hx ha hz).1 e]
    exact hz
  · exact fun hz => ⟨a, hz, rfl⟩
theorem SubOk.twice (h : SubOk m T l V) {x y : Nat} (hx : x ∈ l) (hy : y ∈ l) : twiceB (renT V (tri T x)) (renT V (tri T y)) = twiceB (tri T x) (tri T y) := by
  have v0 : (tri T x).a ∈ verts (tri T x) := by simp [verts]
  have v1 : (tri T x).b ∈ verts (tri T x) := by simp [verts]
  have v2 : (tri T x).c ∈ verts (tri T x) := by simp [verts]
  unfold twiceB
  have e : renT V (tri T x) = ⟨(V.idxOf (tri T x).a : Int), (V.idxOf (tri T x).b : Int), (V.idxOf (tri T x).c : Int)⟩ := rfl
  rw [e]
  simp only [h.edge hy hx v0 v1, h.edge hy hx v1 v2, h.edge hy hx v2 v0]
theorem SubOk.mirr (h : SubOk m T l V) {x y : Nat} (hx : x ∈ l) (hy : y ∈ l) : mirrB (renT V (tri T x)) (renT V (tri T y)) = mirrB (tri T x) (tri T y) := by
  rw [Bool.eq_iff_iff, mirrB_iff', mirrB_iff']
  constructor
  · intro h1 v hv
    exact (h.has hy hx hv).1 (h1 _ (ren_verts.2 ⟨v, hv, rfl⟩))
  · intro h1 v hv
    obtain ⟨z, hz, rfl⟩ := ren_verts.1 hv
    exact ren_verts.2 ⟨z, h1 z hz, rfl⟩
/-- Two triangles with two vertices in common have an edge in common. -/
theorem nbr_adj (hs : SurfE m T) {x y : Nat} (hx : x < T.length) (hy : y < T.length) (hxy : x ≠ y) {v w : Int} (hvw : w ≠ v) (h1 : v ∈ verts (tri T x)) (h2 : w ∈ verts (tri T x)) (h3 : v ∈ verts (tri T y)) (h4 : w ∈ verts (tri T y)) : Adj T x y := by
  have key : ∀ t : Tri, ∀ a b : Int, a ∈ verts t → b ∈ verts t → a ≠ b → edgeB t a b = true ∨ edgeB t b a = true := by
    intro t a b ha hb hab
    rw [verts_mem] at ha hb
    simp only [edgeB, Bool.or_eq_true, Bool.and_eq_true, beq_iff_eq]
    omega
  have no : ∀ a b, edgeB (tri T x) a b = true → edgeB (tri T y) a b = true → False := fun a b e1 e2 => by
    rcases Nat.lt_or_gt_of_ne hxy with h | h
    · have := pair_no hs.tw h hy
      rw [(twice_edges _ _).2 ⟨_, _, e1, e2⟩] at this
      cases this
    · have := pair_no hs.tw h hx
      rw [(twice_edges _ _).2 ⟨_, _, e2, e1⟩] at this
      cases this
  have yes : ∀ a b, edgeB (tri T x) a b = true → edgeB (tri T y) b a = true → Adj T x y := fun a b e1 e2 => by
    obtain ⟨r, hr, er⟩ := edge_ct e1
    obtain ⟨q, hq, eq⟩ := edge_ct e2
    have c1 : ce T (3 * x + r) = (a, b) := by rw [ce_ct, show (3 * x + r) / 3 = x by omega, show (3 * x + r) % 3 = r by omega, er]
    have c2 : ce T (3 * y + q) = (b, a) := by rw [ce_ct, show (3 * y + q) / 3 = y by omega, show (3 * y + q) % 3 = q by omega, eq]
    refine ⟨3 * x + r, 3 * y + q, by omega, by omega, ?_, by omega⟩
    unfold oppF
    rw [c1]
    exact facing_is hs (by omega) c2
  rcases key _ v w h1 h2 (Ne.symm hvw) with e1 | e1 <;> rcases key _ v w h3 h4 (Ne.symm hvw) with e2 | e2
  · exact (no _ _ e1 e2).elim
  · exact yes _ _ e1 e2
  · exact yes _ _ e1 e2
  · exact (no _ _ e1 e2).elim
theorem SubOk.len (h : SubOk m T l V) : l.length ≤ T.length := nodup_leN _ (h.up.imp fun {a b} hab => Nat.ne_of_lt hab) h.lt
theorem SubOk.vbound (h : SubOk m T l V) : ∀ v ∈ V, 0 ≤ v ∧ v < m := fun v hv => by
  obtain ⟨x, hx, hz⟩ := vtx_iff.1 ((h.mem v).1 hv)
  exact ok_verts (tri_ok h.s (h.lt x hx)) hz
theorem SubOk.vlen (h : SubOk m T l V) : V.length ≤ m := by
  have h1 : (V.map Int.toNat).Nodup := by
    unfold List.Nodup
    rw [List.pairwise_map]
    refine (List.Pairwise.and_mem.1 h.nd).imp ?_
    rintro a b ⟨ha, hb, hab⟩ e
    have := h.vbound a ha
    have := h.vbound b hb
    exact hab (by omega)
  have := nodup_leN m h1 fun x hx => by
    obtain ⟨v, hv, rfl⟩ := List.mem_map.1 hx
    have := h.vbound v hv
    omega
  rw [List.length_map] at this
  exact this
/-- The part is a surface. -/
theorem SubOk.surf (h : SubOk m T l V) : SurfE V.length (subT T V l) := by
  have hmem : ∀ t, t ∈ subT T V l ↔ ∃ x ∈ l, renT V (tri T x) = t := fun t => by unfold subT; rw [List.mem_map]
  have hup : l.Pairwise fun x y => x < y ∧ x ∈ l ∧ y ∈ l := (List.Pairwise.and_mem.1 h.up).imp fun {a b} hab => ⟨hab.2.2, hab.1, hab.2.1⟩
  refine ⟨Nat.le_trans h.vlen h.s.m1, by rw [subT_len]; exact Nat.le_trans h.len h.s.t1, fun t ht => ?_, ?_, ?_, fun v hv => ?_, fun v hv t u ht h1 hu h2 => ?_⟩
  · obtain ⟨x, hx, rfl⟩ := (hmem t).1 ht
    have ok := tri_ok h.s (h.lt x hx)
    have v0 : (tri T x).a ∈ verts (tri T x) := by simp [verts]
    have v1 : (tri T x).b ∈ verts (tri T x) := by simp [verts]
    have v2 : (tri T x).c ∈ verts (tri T x) := by simp [verts]
    have l0 := List.idxOf_lt_length_iff.2 (h.inV hx v0)
    have l1 := List.idxOf_lt_length_iff.2 (h.inV hx v1)
    have l2 := List.idxOf_lt_length_iff.2 (h.inV hx v2)
    unfold renT
    exact ⟨by simp only; omega, by simp only; omega, by simp only; omega, by simp only; omega, by simp only; omega, by simp only; omega, fun e => ok.ab ((h.idx hx hx v0 v1).1 e), fun e => ok.bc ((h.idx hx hx v1 v2).1 e), fun e => ok.ca ((h.idx hx hx v2 v0).1 e)⟩
  · unfold subT
    rw [List.pairwise_map]
    refine hup.imp ?_
    rintro x y ⟨hxy, hx, hy⟩
    rw [h.twice hx hy]
    exact pair_no h.s.tw hxy (h.lt y hy)
  · unfold subT
    rw [List.pairwise_map]
    refine hup.imp ?_
    rintro x y ⟨hxy, hx, hy⟩
    rw [h.mirr hx hy]
    exact pair_no h.s.mi hxy (h.lt y hy)
  · obtain ⟨x, hx, hz⟩ := vtx_iff.1 ((h.mem V[v]).1 (List.getElem_mem hv))
    refine ⟨_, (hmem _).2 ⟨x, hx, rfl⟩, ren_verts.2 ⟨_, hz, ?_⟩⟩
    rw [h.nd.idxOf_getElem v hv]
  · obtain ⟨x, hx, rfl⟩ := (hmem t).1 ht
    obtain ⟨y, hy, rfl⟩ := (hmem u).1 hu
    obtain ⟨z, hz, e⟩ := ren_verts.1 h1
    have hvz : (v : Int) = (V.idxOf z : Int) := e
    rw [hvz] at h2
    have hzy := (h.has hy hx hz).1 h2
    have hzb := ok_verts (tri_ok h.s (h.lt x hx)) hz
    have hc := h.s.con z.toNat (by omega) (tri T x) (tri T y) (tri_mem (h.lt x hx)) (by rw [Int.toNat_of_nonneg hzb.1]; exact hz) (tri_mem (h.lt y hy)) (by rw [Int.toNat_of_nonneg hzb.1]; exact hzy)
    rw [Int.toNat_of_nonneg hzb.1] at hc
    rw [hvz]
    obtain ⟨k, hk, hkt, hkr⟩ := hc (fun t => ∃ k ∈ l, tri T k = t ∧ ReachE (NbrE (subT T V l) (V.idxOf z : Int)) (renT V (tri T x)) (renT V t)) ⟨x, hx, rfl, ReachE.refl _ _⟩ (by
      rintro t u ⟨k, hk, rfl, hr⟩ ⟨⟨_, hz1⟩, ⟨hu, hz2⟩, w, hw, hw1, hw2⟩
      obtain ⟨j, hj, rfl⟩ := tri_idx hu
      have hjl : j ∈ l := by
        by_cases e : k = j
        · exact e ▸ hk
        · exact h.cl k j hk (nbr_adj h.s (h.lt k hk) hj e hw hz1 hw1 hz2 hw2)
      refine ⟨j, hjl, rfl, hr.step ⟨⟨(hmem _).2 ⟨k, hk, rfl⟩, ren_verts.2 ⟨z, hz1, rfl⟩⟩, ⟨(hmem _).2 ⟨j, hjl, rfl⟩, ren_verts.2 ⟨z, hz2, rfl⟩⟩, (V.idxOf w : Int), fun e => hw ((h.idx hk hk hw1 hz1).1 e), ren_verts.2 ⟨w, hw1, rfl⟩, ren_verts.2 ⟨w, hw2, rfl⟩⟩⟩)
    exact hkr
theorem SubOk.cv (h : SubOk m T l V) {c : Nat} (hc : c < 3 * l.length) : cv (subT T V l) c = (V.idxOf (Go.Proofs.YtiajlmajenabiaaGreat.cv T (fS l c)) : Int) ∧ Go.Proofs.YtiajlmajenabiaaGreat.cv T (fS l c) ∈ V ∧ fS l c < 3 * T.length := by
  obtain ⟨h1, h2, h3⟩ := h.at_ (i := c / 3) (by omega)
  have e1 : fS l c / 3 = l.getD (c / 3) 0 := by unfold fS; omega
  have e2 : fS l c % 3 = c % 3 := by unfold fS; omega
  have hr := Nat.mod_lt c (show 3 > 0 by decide)
  refine ⟨?_, ?_, by unfold fS; omega⟩
  · rw [cv_ct, cv_ct, h3, e1, e2, ren_corner V _ hr]
  · rw [cv_ct, e1, e2]
    exact h.inV h1 (verts_corner.2 ⟨_, hr, rfl⟩)
theorem fS_nxc (l : List Nat) (c : Nat) : fS l (nxc c) = nxc (fS l c) := by
  have e : nxc c / 3 = c / 3 := nxc_div c
  unfold fS
  rw [e]
  unfold nxc
  omega
theorem fS_pvc (l : List Nat) (c : Nat) : fS l (pvc c) = pvc (fS l c) := by
  have e : pvc c / 3 = c / 3 := pvc_div c
  unfold fS
  rw [e]
  unfold pvc
  omega
theorem SubOk.inj (h : SubOk m T l V) {c d : Nat} (hc : c < 3 * l.length) (hd : d < 3 * l.length) (e : fS l c = fS l d) : c = d := by
  unfold fS at e
  have e1 : l.getD (c / 3) 0 = l.getD (d / 3) 0 := by omega
  rw [List.getD_eq_getElem?_getD, List.getD_eq_getElem?_getD, List.getElem?_eq_getElem (show c / 3 < l.length by omega), List.getElem?_eq_getElem (show d / 3 < l.length by omega)] at e1
  simp only [Option.getD_some] at e1
  have hp := List.pairwise_iff_getElem.1 h.up
  rcases Nat.lt_trichotomy (c / 3) (d / 3) with h1 | h1 | h1
  · have := hp _ _ (by omega) (by omega) h1; omega
  · omega
  · have := hp _ _ (by omega) (by omega) h1; omega
theorem SubOk.ce (h : SubOk m T l V) {c d : Nat} (hc : c < 3 * l.length) (hd : d < 3 * l.length) : ce (subT T V l) d = ((ce (subT T V l) c).2, (ce (subT T V l) c).1) ↔ Go.Proofs.YtiajlmajenabiaaGreat.ce T (fS l d) = ((Go.Proofs.YtiajlmajenabiaaGreat.ce T (fS l c)).2, (Go.Proofs.YtiajlmajenabiaaGreat.ce T (fS l c)).1) := by
  unfold Go.Proofs.YtiajlmajenabiaaGreat.ce
  rw [(h.cv (nxc_lt hc)).1, (h.cv (pvc_lt hc)).1, (h.cv (nxc_lt hd)).1, (h.cv (pvc_lt hd)).1, ← fS_nxc, ← fS_pvc, ← fS_nxc, ← fS_pvc]
  have a1 := (h.cv (nxc_lt hc)).2.1
  have a2 := (h.cv (pvc_lt hc)).2.1
  have a3 := (h.cv (nxc_lt hd)).2.1
  have a4 := (h.cv (pvc_lt hd)).2.1
  have key : ∀ a b, a ∈ V → b ∈ V → ((V.idxOf a : Int) = (V.idxOf b : Int) ↔ a = b) := fun a b ha hb =>
    ⟨fun e => by rw [← gS_idx ha, ← gS_idx hb, e], fun e => by rw [e]⟩
  simp only [Prod.mk.injEq, key _ _ a3 a2, key _ _ a4 a1]
/-- The part lies in the surface. -/
theorem SubOk.emb (h : SubOk m T l V) : Emb (subT T V l) T (fS l) (gS V) := by
  have hl := subT_len T V l
  have hs := h.surf
  refine ⟨by rw [hl]; exact h.len, fun c hc => ?_, fun c _ => fS_nxc l c, fun c hc => ?_, fun c d hc hd e => ?_, fun c hc => ?_, fun c d hc hd e => ?_⟩
  · rw [hl] at hc
    exact (h.cv hc).2.2
  · rw [hl] at hc
    cases ho : oppF (subT T V l) c with
    | some o =>
      have h1 := (facing_some ho).1
      rw [hl] at h1
      have h2 := (h.ce hc h1).1 (facing_some ho).2
      show facingF T _ = some (fS l o)
      exact facing_is h.s (h.cv h1).2.2 h2
    | none =>
      cases hT : oppF T (fS l c) with
      | none => rfl
      | some o =>
        exfalso
        have h1 := facing_some hT
        have hm := (h.at_ (i := c / 3) (by omega)).1
        have hol : o / 3 ∈ l := h.cl _ _ hm ⟨fS l c, o, (h.cv hc).2.2, by unfold fS; omega, hT, rfl⟩
        obtain ⟨i, hi, e⟩ := List.getElem_of_mem hol
        have e' : fS l (3 * i + o % 3) = o := by
          unfold fS
          rw [show (3 * i + o % 3) / 3 = i by omega, List.getD_eq_getElem?_getD, List.getElem?_eq_getElem hi, Option.getD_some, e]
          omega
        have hd : 3 * i + o % 3 < 3 * l.length := by omega
        have h2 := (h.ce hc hd).2 (by rw [e']; exact h1.2)
        have h3 := facing_is hs (by rw [hl]; exact hd) h2
        unfold oppF at ho
        rw [h3] at ho
        cases ho
  · rw [hl] at hc hd
    exact h.inj hc hd e
  · rw [hl] at hc
    rw [(h.cv hc).1, gS_idx (h.cv hc).2.1]
  · rw [hl] at hc hd
    rw [(h.cv hc).1, (h.cv hd).1, gS_idx (h.cv hc).2.1, gS_idx (h.cv hd).2.1] at e
    rw [(h.cv hc).1, (h.cv hd).1, e]
end
end Go.Proofs.YtiajlmajenabiaaGreat
