/- Each renumbering is a row, and none comes twice: plain. No condition. -/
import Derived.Test.YtiajlmajenabiaaGreatWayJ
namespace Go.Proofs.YtiajlmajenabiaaGreat
open Go.RowKit

set_option linter.unusedSimpArgs false
set_option linter.unusedVariables false
section
variable {m : Nat} {T : List Tri}
theorem path_mk {ks : List KindV} : ∀ {d i : Nat} {used : Nat → Bool} {p : List Choice}, p.length = d → (∀ n, n < d → (p.getD n (0, [])).1 < ks.length ∧ used (p.getD n (0, [])).1 = false ∧ alikeK (kAt ks (p.getD n (0, [])).1) (kAt ks (i + n)) = true ∧ (p.getD n (0, [])).2 ∈ (kAt ks (p.getD n (0, [])).1).ws) →
    (∀ n n', n < n' → n' < d → (p.getD n (0, [])).1 ≠ (p.getD n' (0, [])).1) → p ∈ pathsL ks d i used
  | 0, i, used, p, hl, _, _ => by
    have : p = [] := List.eq_nil_of_length_eq_zero hl
    rw [this, pathsL]
    exact List.mem_singleton_self _
  | d + 1, i, used, [], hl, _, _ => by simp at hl
  | d + 1, i, used, (j, w) :: p, hl, h, hne => by
    obtain ⟨h1, h2, h3, h4⟩ := h 0 (by omega)
    refine mem_paths.2 ⟨h1, h2, h3, h4, path_mk (by simpa using hl) (fun n hn => ?_) fun n n' h1 h2 => hne (n + 1) (n' + 1) (by omega) (by omega)⟩
    obtain ⟨g1, g2, g3, g4⟩ := h (n + 1) (by omega)
    have hn0 := hne 0 (n + 1) (by omega) (by omega)
    refine ⟨g1, ?_, by rw [show i + 1 + n = i + (n + 1) by omega]; exact g3, g4⟩
    have hn1 : (p.getD n (0, [])).1 ≠ j := fun e => hn0 e.symm
    rw [updF_ne _ _ hn1]
    exact g2
/-- Each renumbering is a row. -/
theorem iso_row (hs : SurfE m T) {rn : List Int} (h : IsoL m T T rn) : ∃ p ∈ pathsL (kindsL T (kN T)) (kN T) 0 (fun _ => false), applyP (kindsL T (kN T)) 0 p (List.replicate m 0) = rn := by
  obtain ⟨f, hf, hg, honto⟩ := h.emb hs hs rfl
  have hl := kindsL_len T (kN T)
  obtain ⟨a, ha⟩ : ∃ a : Nat → Nat, ∀ i, i < kN T → Good T i (a i) ∧ plW (kindsL T (kN T)) i = rootO T (a i) := by
    refine ⟨fun i => if hi : i < kN T then Classical.choose (plW_is hs hi) else 0, fun i hi => ?_⟩
    dsimp only
    rw [dif_pos hi]
    exact Classical.choose_spec (plW_is hs hi)
  obtain ⟨p, hp⟩ : ∃ p : List Choice, p = (List.range (kN T)).map fun i => (ofN T (f (a i) / 3), rootO T (f (a i))) := ⟨_, rfl⟩
  have hpn : ∀ n, n < kN T → p.getD n (0, []) = (ofN T (f (a n) / 3), rootO T (f (a n))) := fun n hn => by
    rw [hp, List.getD_eq_getElem?_getD, List.getElem?_map, List.getElem?_range hn]
    rfl
  have hpl : p.length = kN T := by rw [hp]; simp
  have hmem : p ∈ pathsL (kindsL T (kN T)) (kN T) 0 (fun _ => false) := by
    refine path_mk hpl (fun n hn => ?_) fun n n' h1 h2 => ?_
    · obtain ⟨b1, b2⟩ := ha n hn
      have hfa := hf.lt _ b1.1
      have hk : ofN T (f (a n) / 3) < kN T := ofN_lt (by omega)
      rw [hpn n hn, hl, Nat.zero_add]
      refine ⟨hk, rfl, ?_, ?_⟩
      · dsimp only
        rw [kAt_kinds hk, kAt_kinds hn, alike_eq, (kind_form hs hk).1, (kind_form hs hk).2, (kind_form hs hn).1, (kind_form hs hn).2]
        have e := emb_form hf hs hs honto b1.1
        rw [b1.2.1] at e
        obtain ⟨e1, e2⟩ := rowC_eq.1 e
        exact ⟨by omega, e2.symm⟩
      · dsimp only
        rw [kAt_kinds hk]
        exact (mem_ways hs hk).2 ⟨_, emb_good hf hs hs honto b1, rfl⟩
    · rw [hpn n (by omega), hpn n' h2]
      intro e
      obtain ⟨b1, _⟩ := ha n (by omega)
      obtain ⟨b2, _⟩ := ha n' h2
      have l1 := hf.lt _ b1.1
      have l2 := hf.lt _ b2.1
      have hr := (hf.re b1.1 b2.1).1 ((ofN_re hs (by omega) (by omega)).1 e)
      have := (ofN_re hs (by have := b1.1; omega) (by have := b2.1; omega)).2 hr
      rw [b1.2.1, b2.2.1] at this
      omega
  refine ⟨p, hmem, ?_⟩
  apply List.ext_getElem (by rw [apply_len, h.len]; simp)
  intro q h1 h2
  have hqm : q < m := by rw [h.len] at h2; exact h2
  obtain ⟨x, hx, ex⟩ := vertex_at hs (v := (q : Int)) ⟨by omega, by omega⟩
  have hi : ofN T (x / 3) < kN T := ofN_lt (by omega)
  obtain ⟨b1, b2⟩ := ha _ hi
  have hre : Re T (a (ofN T (x / 3)) / 3) (x / 3) := (ofN_re hs (by have := b1.1; omega) (by omega)).1 b1.2.1
  have hv : (q : Int) ∈ rootO T (a (ofN T (x / 3))) := (rootO_iff hs b1.1 _).2 ⟨x, hx, hre, ex⟩
  have hk := List.idxOf_lt_length_iff.2 hv
  have := apply_at (apart_kinds hs) (i' := ofN T (x / 3)) (k := (rootO T (a (ofN T (x / 3)))).idxOf (q : Int)) p 0 (List.replicate m 0) (by simp) (by omega) (Nat.zero_le _) (by omega) (by rw [b2]; exact hk)
  rw [b2, getD_idxOf hv, Nat.sub_zero, hpn _ hi, Int.toNat_natCast] at this
  dsimp only at this
  rw [hf.rootO b1.1, List.getD_eq_getElem?_getD, List.getElem?_eq_getElem h1, Option.getD_some] at this
  rw [this, List.getD_eq_getElem?_getD, List.getElem?_map, List.getElem?_eq_getElem hk]
  simp only [Option.map_some, Option.getD_some]
  rw [List.getElem_idxOf]
  unfold gS
  rw [Int.toNat_natCast, List.getD_eq_getElem?_getD, List.getElem?_eq_getElem h2, Option.getD_some]
/-- Unlike paths are unlike rows. -/
theorem row_inj (hs : SurfE m T) {p q : List Choice} (hp : p ∈ pathsL (kindsL T (kN T)) (kN T) 0 (fun _ => false)) (hq : q ∈ pathsL (kindsL T (kN T)) (kN T) 0 (fun _ => false)) (e : applyP (kindsL T (kN T)) 0 p (List.replicate m 0) = applyP (kindsL T (kN T)) 0 q (List.replicate m 0)) : p = q := by
  have l1 := paths_len hp
  have l2 := paths_len hq
  apply List.ext_getElem (by omega)
  intro i h1 h2
  have hi : i < kN T := by omega
  obtain ⟨a, d, ga, gd, ed, ea, hrow, hv⟩ := row_shell hs hp hi
  obtain ⟨a', d', ga', gd', ed', ea', hrow', hv'⟩ := row_shell hs hq hi
  have haa : a = a' := rootO_inj hs ga.1 ga'.1 (by rw [← ea, ← ea'])
  subst haa
  have g1 : p.getD i (0, []) = p[i] := by rw [List.getD_eq_getElem?_getD, List.getElem?_eq_getElem h1, Option.getD_some]
  have g2 : q.getD i (0, []) = q[i] := by rw [List.getD_eq_getElem?_getD, List.getElem?_eq_getElem h2, Option.getD_some]
  have hdd : rootO T d = rootO T d' := by
    have n1 := (rowC_eq.1 hrow).1
    have n2 := (rowC_eq.1 hrow').1
    apply List.ext_getElem (by omega)
    intro n k1 k2
    have hn : n < (rootO T a).length := by omega
    have hm := List.getElem_mem hn
    have w1 := hv _ hm
    have w2 := hv' _ hm
    rw [e] at w1
    rw [w1] at w2
    unfold goesTo at w2
    have hix : (rootO T a).idxOf (rootO T a)[n] = n := (oldC_nd _).idxOf_getElem n hn
    rw [hix, List.getD_eq_getElem?_getD, List.getD_eq_getElem?_getD, List.getElem?_eq_getElem k1, List.getElem?_eq_getElem k2] at w2
    exact w2
  have hdd' := rootO_inj hs gd.1 gd'.1 hdd
  rw [← g1, ← g2]
  exact Prod.ext (by rw [← gd.2.1, ← gd'.2.1, hdd']) (by rw [ed, ed', hdd])
/-- The rows are just the renumberings, each once. -/
theorem allR_iff (hs : SurfE m T) (rn : List Int) : rn ∈ allR m T ↔ IsoL m T T rn := by
  have hl := kindsL_len T (kN T)
  obtain ⟨ts, e, _⟩ := goR_paths (ks := kindsL T (kN T)) (kN T) 0 (fun _ => false) (by omega) [] (List.replicate m 0)
  unfold allR
  rw [e]
  simp only [List.nil_append, List.mem_map]
  constructor
  · rintro ⟨p, hp, rfl⟩
    exact row_iso hs hp
  · intro h
    obtain ⟨p, hp, e⟩ := iso_row hs h
    exact ⟨p, hp, e⟩
theorem allR_nd (hs : SurfE m T) : (allR m T).Nodup := by
  have hl := kindsL_len T (kN T)
  obtain ⟨ts, e, _⟩ := goR_paths (ks := kindsL T (kN T)) (kN T) 0 (fun _ => false) (by omega) [] (List.replicate m 0)
  unfold allR
  rw [e]
  simp only [List.nil_append]
  refine nodup_mapI (fun p hp q hq h => row_inj hs hp hq h) (paths_nodup (fun j hj => ?_) _ _ _)
  rw [kAt_kinds (by omega)]
  exact ways_nd hs (by omega)
end
end Go.Proofs.YtiajlmajenabiaaGreat
