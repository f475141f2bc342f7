/- The document's renumberings (gypsumref47.find): plain. No condition. -/
import Derived.Test.YtiajlmajenabiaaGreatWithP
namespace Go.Proofs.YtiajlmajenabiaaGreat
open Go.RowKit

set_option linter.unusedSimpArgs false
set_option linter.unusedVariables false
/-- May the vertex u, told before, stand as it stands, if v becomes w? -/
def pairFit (T U : List Tri) (to' : List Int) (v : Nat) (w : Int) (u : Nat) : Bool :=
  !(decide (to'.getD u 0 = w)) && (hasW T u v == hasW U (to'.getD u 0) w) && (hasW T v u == hasW U w (to'.getD u 0))
/-- What a vertex of a triangle becomes. -/
def goX (to' : List Int) (v : Nat) (w z : Int) : Int := if z < (v : Int) then to'.getD z.toNat 0 else w
/-- Is a triangle passed over? -/
def triOff (v : Nat) (t : Tri) : Bool := decide ((v : Int) < t.a ∨ (v : Int) < t.b ∨ (v : Int) < t.c ∨ (t.a ≠ (v : Int) ∧ t.b ≠ (v : Int) ∧ t.c ≠ (v : Int)))
def triFit (U : List Tri) (to' : List Int) (v : Nat) (w : Int) (t : Tri) : Bool :=
  triOff v t || isT U (goX to' v w t.a) (goX to' v w t.b) (goX to' v w t.c)
def fitsR (T U : List Tri) (to' : List Int) (w : Int) : Bool :=
  (List.range to'.length).all (pairFit T U to' to'.length w) && T.all (triFit U to' to'.length w)
/-- The renumberings that begin with some numbers, d more to tell. -/
def extR (T U : List Tri) (m : Nat) : Nat → List Int → List (List Int)
  | 0, to' => [to']
  | d + 1, to' => (List.range m).flatMap fun (w : Nat) => if fitsR T U to' (w : Int) then extR T U m d (to' ++ [(w : Int)]) else []
section
variable {m n : Nat} {T U : List Tri}
theorem ext_mem : ∀ {d : Nat} {to' rn : List Int}, rn ∈ extR T U m d to' ↔ (rn.length = to'.length + d ∧ rn.take to'.length = to' ∧ ∀ k, to'.length ≤ k → k < to'.length + d → ∃ w : Nat, w < m ∧ rn.getD k 0 = (w : Int) ∧ fitsR T U (rn.take k) (w : Int) = true)
  | 0, to', rn => by
    rw [extR, List.mem_singleton]
    constructor
    · rintro rfl
      exact ⟨rfl, List.take_length, fun k h1 h2 => by omega⟩
    · rintro ⟨h1, h2, _⟩
      rw [← h2]
      exact (List.take_of_length_le (by omega)).symm
  | d + 1, to', rn => by
    rw [extR, List.mem_flatMap]
    constructor
    · rintro ⟨w, hw, h⟩
      rw [List.mem_range] at hw
      split at h
      · rename_i hf
        obtain ⟨h1, h2, h3⟩ := ext_mem.1 h
        rw [List.length_append, List.length_singleton] at h1 h2 h3
        have h4 : rn.take to'.length = to' := by
          have := congrArg (List.take to'.length) h2
          rw [List.take_take, Nat.min_eq_left (by omega), List.take_append_of_le_length (Nat.le_refl _), List.take_length] at this
          exact this
        refine ⟨by omega, h4, fun k hk1 hk2 => ?_⟩
        by_cases e : k = to'.length
        · subst e
          refine ⟨w, hw, ?_, by rw [h4]; exact hf⟩
          have h5 : (rn.take (to'.length + 1)).getD to'.length 0 = (w : Int) := by rw [h2]; simp
          rw [List.getD_eq_getElem?_getD, List.getElem?_take_of_lt (by omega)] at h5
          exact h5
        · exact h3 k (by omega) (by omega)
      · cases h
    · rintro ⟨h1, h2, h3⟩
      obtain ⟨w, hw, hr, hf⟩ := h3 to'.length (Nat.le_refl _) (by omega)
      refine ⟨w, List.mem_range.2 hw, ?_⟩
      rw [h2] at hf
      rw [if_pos hf, ext_mem]
      refine ⟨by simp; omega, ?_, fun k hk1 hk2 => ?_⟩
      · rw [List.length_append, List.length_singleton, List.take_add_one, h2]
        have hl : to'.length < rn.length := by omega
        rw [List.getElem?_eq_getElem hl]
        rw [List.getD_eq_getElem?_getD, List.getElem?_eq_getElem hl, Option.getD_some] at hr
        rw [hr]
        rfl
      · rw [List.length_append, List.length_singleton] at hk1 hk2
        exact h3 k (by omega) (by omega)
theorem ltL_pre : ∀ (p : List Int) {a b : List Int}, ltL (p ++ a) (p ++ b) ↔ ltL a b
  | [], _, _ => Iff.rfl
  | x :: p, a, b => by
    rw [List.cons_append, List.cons_append, ltL_cc, ltL_pre p]
    simp
theorem take_split {rn p : List Int} (h : rn.take p.length = p) : rn = p ++ rn.drop p.length := by
  conv => lhs; rw [← List.take_append_drop p.length rn, h]
theorem ext_sorted : ∀ (d : Nat) (to' : List Int), (extR T U m d to').Pairwise ltL
  | 0, to' => by rw [extR]; exact List.pairwise_singleton _ _
  | d + 1, to' => by
    rw [extR, List.pairwise_flatMap]
    refine ⟨fun w _ => ?_, ?_⟩
    · split
      · exact ext_sorted d _
      · exact List.Pairwise.nil
    · refine List.Pairwise.imp ?_ (List.pairwise_lt_range (n := m))
      intro w w' hww x hx y hy
      split at hx
      · split at hy
        · obtain ⟨_, h2, _⟩ := ext_mem.1 hx
          obtain ⟨_, h4, _⟩ := ext_mem.1 hy
          rw [take_split h2, take_split h4, List.append_assoc, List.append_assoc, ltL_pre]
          rw [List.singleton_append, List.singleton_append, ltL_cc]
          left
          omega
        · cases hy
      · cases hx
theorem ext_nd (d : Nat) (to' : List Int) : (extR T U m d to').Nodup := by
  unfold List.Nodup
  exact (ext_sorted d to').imp fun {a b} (h : ltL a b) (e : a = b) => ltL_irr a (by rw [← e] at h; exact h)
theorem take_getD {l : List Int} {u v : Nat} (h : u < v) : (l.take v).getD u 0 = l.getD u 0 := by
  rw [List.getD_eq_getElem?_getD, List.getElem?_take_of_lt h, List.getD_eq_getElem?_getD]
theorem goX_take {rn : List Int} {v : Nat} {z : Int} (h0 : 0 ≤ z) (h1 : z ≤ (v : Int)) : goX (rn.take v) v (rn.getD v 0) z = gS rn z := by
  unfold goX gS
  split
  · exact take_getD (by omega)
  · rw [show z.toNat = v by omega]
theorem has_go {rn : List Int} (h : IsoL m T U rn) (hs : SurfE m T) (hu : SurfE m U) (hl : T.length = U.length) {u v : Nat} (hu' : u < m) (hv : v < m) : hasW T u v = hasW U (rn.getD u 0) (rn.getD v 0) := by
  obtain ⟨f, hf, hg, ho⟩ := h.emb hs hu hl
  have e1 : ∀ {k : Nat}, rn.getD k 0 = gS rn (k : Int) := fun {k} => by unfold gS; rw [Int.toNat_natCast]
  rw [e1, e1, Bool.eq_iff_iff, hasW_iff hs, hasW_iff hu]
  constructor
  · rintro ⟨c, hc, e⟩
    refine ⟨f c, (hf.2 c hc), ?_⟩
    rw [goes_ce (hg c hc), e]
  · rintro ⟨y, hy, e⟩
    obtain ⟨c, hc, rfl⟩ := ho y hy
    refine ⟨c, hc, ?_⟩
    rw [goes_ce (hg c hc)] at e
    injection e with e2 e3
    exact Prod.ext (h.inj (cv_bd hs (nxc_lt hc)) ⟨by omega, by omega⟩ e2) (h.inj (cv_bd hs (pvc_lt hc)) ⟨by omega, by omega⟩ e3)
/-- A triangle goes to a triangle just if it is one there. -/
theorem tri_goes (hu : SurfE n U) {g : Int → Int} {i : Nat} : isT U (g (tri T i).a) (g (tri T i).b) (g (tri T i).c) = true ↔ ∃ y, y < 3 * U.length ∧ GoesC T U g (3 * i) y := by
  rw [isT_iff hu]
  have a0 : cv T (3 * i) = (tri T i).a := by rw [cv_ct, show 3 * i / 3 = i by omega, show 3 * i % 3 = 0 by omega]; rfl
  have a1 : cv T (nxc (3 * i)) = (tri T i).b := by rw [cv_ct, show nxc (3 * i) / 3 = i by unfold nxc; omega, show nxc (3 * i) % 3 = 1 by unfold nxc; omega]; rfl
  have a2 : cv T (pvc (3 * i)) = (tri T i).c := by rw [cv_ct, show pvc (3 * i) / 3 = i by unfold pvc; omega, show pvc (3 * i) % 3 = 2 by unfold pvc; omega]; rfl
  unfold GoesC
  rw [a0, a1, a2]
/-- The document's renumberings are just the renumberings. -/
theorem ext_iff (hs : SurfE m T) (hu : SurfE m U) (hl : T.length = U.length) (rn : List Int) : rn ∈ extR T U m m [] ↔ IsoL m T U rn := by
  rw [ext_mem]
  simp only [List.length_nil, Nat.zero_add, List.take_zero, Nat.zero_le, true_and, forall_const]
  constructor
  · rintro ⟨hlen, hk⟩
    refine ⟨hlen, ?_, ?_, ?_⟩
    · refine List.pairwise_iff_getElem.2 fun i j hi hj hij e => ?_
      obtain ⟨w, hw, hr, hf⟩ := hk j (by omega)
      unfold fitsR at hf
      rw [Bool.and_eq_true, List.all_eq_true] at hf
      have h1 := hf.1 i (List.mem_range.2 (by rw [List.length_take]; omega))
      unfold pairFit at h1
      rw [take_getD (by rw [List.length_take] at *; omega)] at h1
      simp only [Bool.and_eq_true, Bool.not_eq_true', decide_eq_false_iff_not] at h1
      refine h1.1.1 ?_
      rw [← hr, List.getD_eq_getElem?_getD, List.getD_eq_getElem?_getD, List.getElem?_eq_getElem hi, List.getElem?_eq_getElem hj, e]
    · intro v hv
      obtain ⟨i, hi, rfl⟩ := List.getElem_of_mem hv
      obtain ⟨w, hw, hr, _⟩ := hk i (by omega)
      rw [List.getD_eq_getElem?_getD, List.getElem?_eq_getElem hi, Option.getD_some] at hr
      rw [hr]
      omega
    · intro x hx
      have ht := tri_ok hs (show x / 3 < T.length by omega)
      obtain ⟨v, hv⟩ : ∃ v : Nat, (v : Int) = max (max (tri T (x / 3)).a (tri T (x / 3)).b) (tri T (x / 3)).c := ⟨(max (max (tri T (x / 3)).a (tri T (x / 3)).b) (tri T (x / 3)).c).toNat, by have := ht.a0; omega⟩
      have hvm : v < m := by have := ht.a1; have := ht.b1; have := ht.c1; omega
      obtain ⟨w, hw, hr, hf⟩ := hk v hvm
      unfold fitsR at hf
      rw [Bool.and_eq_true, List.all_eq_true, List.all_eq_true, List.length_take, Nat.min_eq_left (by omega)] at hf
      have h1 := hf.2 (tri T (x / 3)) (tri_mem (by omega))
      unfold triFit triOff at h1
      rw [← hr, goX_take ht.a0 (by omega), goX_take ht.b0 (by omega), goX_take ht.c0 (by omega), decide_eq_false (by omega), Bool.false_or, tri_goes hu] at h1
      obtain ⟨y, hy, hg⟩ := h1
      have hg1 := goes_nx hg
      have hg2 := goes_nx hg1
      rcases (by omega : x % 3 = 0 ∨ x % 3 = 1 ∨ x % 3 = 2) with h | h | h
      · refine ⟨y, hy, ?_⟩
        rw [show 3 * (x / 3) = x by omega] at hg
        exact hg
      · refine ⟨nxc y, nxc_lt hy, ?_⟩
        rw [show nxc (3 * (x / 3)) = x by unfold nxc; omega] at hg1
        exact hg1
      · refine ⟨nxc (nxc y), nxc_lt (nxc_lt hy), ?_⟩
        rw [show nxc (nxc (3 * (x / 3))) = x by unfold nxc; omega] at hg2
        exact hg2
  · intro h
    refine ⟨h.len, fun k hk => ?_⟩
    have hkl : k < rn.length := by rw [h.len]; exact hk
    have hb := h.bd rn[k] (List.getElem_mem hkl)
    have hr : rn.getD k 0 = rn[k] := by rw [List.getD_eq_getElem?_getD, List.getElem?_eq_getElem hkl, Option.getD_some]
    have hw : ((rn[k].toNat : Nat) : Int) = rn.getD k 0 := by rw [hr]; omega
    refine ⟨rn[k].toNat, by omega, hw.symm, ?_⟩
    rw [hw]
    unfold fitsR
    rw [Bool.and_eq_true, List.all_eq_true, List.all_eq_true, List.length_take, Nat.min_eq_left (by omega)]
    refine ⟨fun u hu' => ?_, fun t ht => ?_⟩
    · rw [List.mem_range] at hu'
      unfold pairFit
      rw [take_getD hu', ← has_go h hs hu hl (by omega) hk, ← has_go h hs hu hl hk (by omega)]
      simp only [beq_self_eq_true, Bool.and_true, Bool.not_eq_true', decide_eq_false_iff_not]
      intro e
      have hul : u < rn.length := by omega
      rw [hr, List.getD_eq_getElem?_getD, List.getElem?_eq_getElem hul, Option.getD_some] at e
      exact absurd (nodup_at h.nd hul hkl e) (by omega)
    · obtain ⟨i, hi, rfl⟩ := tri_idx ht
      have hok := tri_ok hs hi
      unfold triFit
      by_cases ho : triOff k (tri T i) = true
      · rw [ho]; rfl
      · have ho' := ho
        unfold triOff at ho'
        rw [decide_eq_true_iff] at ho'
        rw [goX_take hok.a0 (by omega), goX_take hok.b0 (by omega), goX_take hok.c0 (by omega), Bool.or_eq_true]
        right
        rw [tri_goes hu]
        exact h.tri (3 * i) (by omega)
/-- The document's list is the one that All tells. -/
theorem ext_all (hs : SurfE m T) {ws : List (List Int)} (hp : ws.Perm (allR m T)) (ho : ws.Pairwise fun x y => ¬ ltL y x) : extR T T m m [] = ws := by
  have hnd : ws.Nodup := hp.nodup_iff.2 (allR_nd hs)
  have hpp : (extR T T m m []).Perm ws := (List.perm_ext_iff_of_nodup (ext_nd m []) hnd).2 fun rn => by
    rw [ext_iff hs hs rfl, hp.mem_iff, allR_iff hs]
  refine List.Perm.eq_of_pairwise (le := fun x y => ¬ ltL y x) (fun a b _ _ h1 h2 => ?_) ((ext_sorted m []).imp fun {a b} h h' => ltL_irr a (ltL_trans h h')) ho hpp
  rcases ltL_tri a b with h | h | h
  · exact absurd h h2
  · exact h
  · exact absurd h h1
theorem ext_len (hs : SurfE m T) : (extR T T m m []).length = (allR m T).length := by
  refine List.Perm.length_eq ((List.perm_ext_iff_of_nodup (ext_nd m []) (allR_nd hs)).2 fun rn => ?_)
  rw [ext_iff hs hs rfl, allR_iff hs]
end
end Go.Proofs.YtiajlmajenabiaaGreat
