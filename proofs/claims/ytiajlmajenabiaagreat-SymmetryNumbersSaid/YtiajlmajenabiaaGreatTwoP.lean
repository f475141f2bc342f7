/- Two alike, side by side: twice the square of the symmetries of one. Plain. Conditions: connected, sizes. -/
import Derived.Test.YtiajlmajenabiaaGreatWz47
set_option maxRecDepth 100000
set_option maxHeartbeats 16000000
set_option linter.all false
namespace Go.Proofs.YtiajlmajenabiaaGreat
open Go.RowKit
section
variable {m : Nat} {T : List Tri}
def twoT (m : Nat) (T : List Tri) : List Tri := T ++ T.map (shiftT (m : Int))
theorem twoT_len (m : Nat) (T : List Tri) : (twoT m T).length = T.length + T.length := by unfold twoT; rw [List.length_append, List.length_map]
theorem two_surf (hs : SurfE m T) (hm : m + m ≤ 4096) (hl : T.length + T.length ≤ 8192) : SurfE (m + m) (twoT m T) := joined_law hs hs hm hl
theorem two_tri0 {i : Nat} (h : i < T.length) : tri (twoT m T) i = tri T i := by
 unfold tri twoT
 rw [List.getD_eq_getElem?_getD, List.getElem?_append_left h, ← List.getD_eq_getElem?_getD]
theorem two_tri1 {i : Nat} (h : i < T.length) : tri (twoT m T) (i + T.length) = shiftT (m : Int) (tri T i) := by
 unfold tri twoT
 rw [List.getD_eq_getElem?_getD, List.getElem?_append_right (by omega), Nat.add_sub_cancel, List.getElem?_map, List.getElem?_eq_getElem h, List.getD_eq_getElem?_getD, List.getElem?_eq_getElem h]
 rfl
theorem two_cv0 {c : Nat} (h : c < 3 * T.length) : cv (twoT m T) c = cv T c := by
 rw [cv_ct, cv_ct, two_tri0 (by omega)]
theorem two_cv1 {c : Nat} (h : c < 3 * T.length) : cv (twoT m T) (c + 3 * T.length) = cv T c + m := by
 rw [cv_ct, cv_ct, show (c + 3 * T.length) / 3 = c / 3 + T.length by omega, show (c + 3 * T.length) % 3 = c % 3 by omega, two_tri1 (by omega)]
 unfold shiftT cornerT
 split
 · rfl
 · split <;> rfl
theorem nxc_add (c t : Nat) : nxc (c + 3 * t) = nxc c + 3 * t := by unfold nxc; omega
theorem pvc_add (c t : Nat) : pvc (c + 3 * t) = pvc c + 3 * t := by unfold pvc; omega
theorem two_ce0 {c : Nat} (h : c < 3 * T.length) : ce (twoT m T) c = ce T c := by
 unfold ce
 rw [two_cv0 (nxc_lt h), two_cv0 (pvc_lt h)]
theorem two_ce1 {c : Nat} (h : c < 3 * T.length) : ce (twoT m T) (c + 3 * T.length) = ((ce T c).1 + m, (ce T c).2 + m) := by
 unfold ce
 rw [nxc_add, pvc_add, two_cv1 (nxc_lt h), two_cv1 (pvc_lt h)]
theorem two_emb0 (hs : SurfE m T) (hu : SurfE (m + m) (twoT m T)) : Emb T (twoT m T) id id := by
 have hl := twoT_len m T
 refine ⟨by omega, fun c hc => by show c < _; omega, fun c hc => rfl, fun c hc => ?_, fun c d _ _ e => e, fun c hc => two_cv0 hc, fun c d _ _ e => e⟩
 cases ho : oppF T c with
 | some o =>
  obtain ⟨h1, h2⟩ := facing_some ho
  show facingF _ _ = some o
  refine facing_is hu (by omega) ?_
  rw [two_ce0 h1, show (id c) = c from rfl, two_ce0 hc, h2]
 | none =>
  show facingF _ _ = none
  show facingF (twoT m T) ((ce (twoT m T) c).2, (ce (twoT m T) c).1) = none
  cases hf : facingF (twoT m T) ((ce (twoT m T) c).2, (ce (twoT m T) c).1) with
  | none => rfl
  | some o =>
   exfalso
   obtain ⟨h1, h2⟩ := facing_some hf
   rw [two_ce0 hc] at h2
   by_cases h : o < 3 * T.length
   · rw [two_ce0 h] at h2
     have := facing_is hs h h2
     unfold oppF at ho
     rw [this] at ho
     cases ho
   · obtain ⟨o', rfl⟩ : ∃ o', o = o' + 3 * T.length := ⟨o - 3 * T.length, by omega⟩
     have ho' : o' < 3 * T.length := by omega
     rw [two_ce1 ho'] at h2
     injection h2 with e1 e2
     have b1 := (cv_bd hs (nxc_lt ho')).1
     have b2 := (cv_bd hs (pvc_lt hc)).2
     have e3 : (ce T o').1 = cv T (nxc o') := rfl
     have e4 : (ce T c).2 = cv T (pvc c) := rfl
     omega
theorem two_emb1 (hs : SurfE m T) (hu : SurfE (m + m) (twoT m T)) : Emb T (twoT m T) (· + 3 * T.length) (· + (m : Int)) := by
 have hl := twoT_len m T
 refine ⟨by omega, fun c hc => by (try dsimp only); omega, fun c hc => (nxc_add c T.length).symm, fun c hc => ?_, fun c d _ _ e => by (try dsimp only at e); omega, fun c hc => two_cv1 hc, fun c d _ _ e => by (try dsimp only at e); omega⟩
 cases ho : oppF T c with
 | some o =>
  obtain ⟨h1, h2⟩ := facing_some ho
  show facingF _ _ = some (o + 3 * T.length)
  refine facing_is hu (by omega) ?_
  rw [two_ce1 h1, two_ce1 hc, h2]
 | none =>
  show facingF _ _ = none
  cases hf : facingF (twoT m T) ((ce (twoT m T) (c + 3 * T.length)).2, (ce (twoT m T) (c + 3 * T.length)).1) with
  | none => rfl
  | some o =>
   exfalso
   obtain ⟨h1, h2⟩ := facing_some hf
   rw [two_ce1 hc] at h2
   by_cases h : o < 3 * T.length
   · rw [two_ce0 h] at h2
     injection h2 with e1 e2
     have b1 := (cv_bd hs (nxc_lt h)).2
     have b2 := (cv_bd hs (pvc_lt hc)).1
     have e3 : (ce T o).1 = cv T (nxc o) := rfl
     have e4 : (ce T c).2 = cv T (pvc c) := rfl
     try dsimp only at e1
     omega
   · obtain ⟨o', rfl⟩ : ∃ o', o = o' + 3 * T.length := ⟨o - 3 * T.length, by omega⟩
     have ho' : o' < 3 * T.length := by omega
     rw [two_ce1 ho'] at h2
     injection h2 with e1 e2
     try dsimp only at e1 e2
     have := facing_is hs ho' (show ce T o' = ((ce T c).2, (ce T c).1) from Prod.ext (by (try dsimp only); omega) (by (try dsimp only); omega))
     unfold oppF at ho
     rw [this] at ho
     cases ho
theorem half_re {U : List Tri} {n : Nat} {f : Nat → Nat} {g : Int → Int} (hs : SurfE m T) (h1 : kN T = 1) (hu : SurfE n U) (h : Emb T U f g) {c y : Nat} (hc : c < 3 * T.length) : Re U (f c / 3) y ↔ ∃ x, x < 3 * T.length ∧ y = f x / 3 := by
 rw [← rootC_re hu (h.lt c hc), h.rootC hc]
 constructor
 · intro hm
   obtain ⟨z, hz, rfl⟩ := List.mem_map.1 hm
   obtain ⟨x, hx, rfl⟩ := List.mem_map.1 hz
   exact ⟨x, (rootC_fi hc).lt x hx, rfl⟩
 · rintro ⟨x, hx, rfl⟩
   obtain ⟨z, hz, e⟩ := List.mem_map.1 ((rootC_re hs hc (x / 3)).2 (conn_re hs h1 (by omega) (by omega)))
   refine List.mem_map.2 ⟨f z, List.mem_map_of_mem hz, ?_⟩
   exact (h.tri ((rootC_fi hc).lt z hz) hx).2 e
theorem half_ways {U : List Tri} {n : Nat} {f : Nat → Nat} {g : Int → Int} (hs : SurfE m T) (h1 : kN T = 1) (hu : SurfE n U) (h : Emb T U f g) {c k : Nat} (hc : c < 3 * T.length) (hk : k < kN U) (hck : ofN U (f c / 3) = k) :
  (kindV (partOf U k)).ws.length = (allR m T).length ∧ ∃ b, b < 3 * T.length ∧ rowC U (bestN U k) = rowC T b ∧ ∀ x, x < 3 * T.length → ¬ ltL (rowC T x) (rowC T b) := by
 have hin : ∀ y, y < U.length → (ofN U y = k ↔ ∃ x, x < 3 * T.length ∧ y = f x / 3) := fun y hy => by
  have hfl := h.lt c hc
  rw [← hck, ← half_re hs h1 hu h hc]
  constructor
  · intro e
    exact (ofN_re hu (by omega) hy).1 e.symm
  · intro e
    exact ((ofN_re hu (by omega) hy).2 e).symm
 have hcor : ∀ d, d < 3 * U.length → ofN U (d / 3) = k → ∃ x, x < 3 * T.length ∧ f x = d := fun d hd e => by
  obtain ⟨x, hx, ex⟩ := (hin (d / 3) (by omega)).1 e
  rcases same_tri.1 (show f x / 3 = d / 3 from ex.symm) with q | q | q
  · exact ⟨x, hx, q.symm⟩
  · exact ⟨nxc x, nxc_lt hx, by rw [h.nx x hx, q]⟩
  · exact ⟨pvc x, pvc_lt hx, by rw [h.pv x hx, q]⟩
 have hb := (bestN_is hk).2
 obtain ⟨b, hbl, hbe⟩ := hcor _ hb.lt hb.of
 have hrow : rowC U (bestN U k) = rowC T b := by rw [← hbe, h.rowC hbl]
 have hofx : ∀ x, x < 3 * T.length → ofN U (f x / 3) = k := fun x hx => (hin _ (by have := h.lt x hx; omega)).2 ⟨x, hx, rfl⟩
 have hleast : ∀ x, x < 3 * T.length → ¬ ltL (rowC T x) (rowC T b) := fun x hx => by
  have := hb.le (f x) (h.lt x hx) (hofx x hx)
  rwa [h.rowC hx, hrow] at this
 refine ⟨?_, b, hbl, hrow, hleast⟩
 rw [← class_len hs h1 hbl]
 have hnd : (((List.range (3 * T.length)).filter fun c => decide (rowC T c = rowC T b)).map fun x => rootO U (f x)).Nodup := by
  refine nodup_mapI (fun x hx y hy e => ?_) (List.nodup_range.filter _)
  have hx' := List.mem_range.1 (List.mem_filter.1 hx).1
  have hy' := List.mem_range.1 (List.mem_filter.1 hy).1
  exact h.inj x y hx' hy' (rootO_inj hu (h.lt x hx') (h.lt y hy') e)
 have hp : (kindV (partOf U k)).ws.Perm (((List.range (3 * T.length)).filter fun c => decide (rowC T c = rowC T b)).map fun x => rootO U (f x)) := (List.perm_ext_iff_of_nodup (ways_nd hu hk) hnd).2 fun w => by
  rw [mem_ways hu hk, List.mem_map]
  constructor
  · rintro ⟨d, ⟨hd1, hd2, hd3⟩, rfl⟩
    obtain ⟨x, hx, rfl⟩ := hcor d hd1 hd2
    refine ⟨x, List.mem_filter.2 ⟨List.mem_range.2 hx, ?_⟩, rfl⟩
    rw [decide_eq_true_iff, ← h.rowC hx, hd3, hrow]
  · rintro ⟨x, hx, rfl⟩
    obtain ⟨hx1, hx2⟩ := List.mem_filter.1 hx
    have hx' := List.mem_range.1 hx1
    rw [decide_eq_true_iff] at hx2
    exact ⟨f x, ⟨h.lt x hx', hofx x hx', by rw [h.rowC hx', hx2, hrow]⟩, rfl⟩
 have := hp.length_eq
 rwa [List.length_map] at this
theorem two_order (hs : SurfE m T) (h1 : kN T = 1) (hm : m + m ≤ 4096) (hl : T.length ≤ 14) : orderN (kindsL (twoT m T) (kN (twoT m T))) (kN (twoT m T)) = some (2 * (allR m T).length * (allR m T).length) := by
 have hu := two_surf hs hm (by omega)
 have e0 := two_emb0 hs hu
 have e1 := two_emb1 hs hu
 have hlen := twoT_len m T
 have htp : 0 < T.length := by
  have hb := (bestN_is (T := T) (k := 0) (by omega)).2.lt
  omega
 have hc0 : (0 : Nat) < 3 * T.length := by omega
 have hne : ofN (twoT m T) (0 / 3) ≠ ofN (twoT m T) ((0 + 3 * T.length) / 3) := fun e => by
  have hr := (ofN_re hu (by omega) (by omega)).1 e
  obtain ⟨x, hx, ex⟩ := (half_re hs h1 hu e0 (c := 0) hc0).1 hr
  have : id x = x := rfl
  omega
 have ha := ofN_lt (T := twoT m T) (x := 0 / 3) (by omega)
 have hb := ofN_lt (T := twoT m T) (x := (0 + 3 * T.length) / 3) (by omega)
 have hall : ∀ k, k < kN (twoT m T) → k = ofN (twoT m T) (0 / 3) ∨ k = ofN (twoT m T) ((0 + 3 * T.length) / 3) := fun k hk => by
  have hbk := (bestN_is hk).2
  have hlt := hbk.lt
  rw [← hbk.of]
  by_cases h : bestN (twoT m T) k < 3 * T.length
  · left
    exact (ofN_re hu (by omega) (by omega)).2 (((half_re hs h1 hu e0 (c := 0) hc0).2 ⟨_, h, rfl⟩).symm hu)
  · right
    refine (ofN_re hu (by omega) (by omega)).2 (((half_re hs h1 hu e1 (c := 0) hc0).2 ⟨bestN (twoT m T) k - 3 * T.length, by omega, ?_⟩).symm hu)
    try dsimp only
    omega
 have hkn : kN (twoT m T) = 2 := by
  have h3 : ∀ j, j < 3 → ¬ (j < kN (twoT m T) ∧ j ≠ ofN (twoT m T) (0 / 3) ∧ j ≠ ofN (twoT m T) ((0 + 3 * T.length) / 3)) := fun j _ h => by
   rcases hall j h.1 with e | e
   · exact h.2.1 e
   · exact h.2.2 e
  have a0 := h3 0 (by omega)
  have a1 := h3 1 (by omega)
  have a2 := h3 2 (by omega)
  omega
 have key : ∀ k, k < 2 → (kindV (partOf (twoT m T) k)).ws.length = (allR m T).length ∧ ∃ b, b < 3 * T.length ∧ rowC (twoT m T) (bestN (twoT m T) k) = rowC T b ∧ ∀ x, x < 3 * T.length → ¬ ltL (rowC T x) (rowC T b) := fun k hk => by
  rcases hall k (by omega) with e | e
  · exact half_ways hs h1 hu e0 hc0 (by omega) (by rw [e]; rfl)
  · exact half_ways hs h1 hu e1 hc0 (by omega) (by rw [e])
 obtain ⟨w0, x0, x0l, r0, l0⟩ := key 0 (by omega)
 obtain ⟨w1, x1, x1l, r1, l1⟩ := key 1 (by omega)
 have hrr : rowC (twoT m T) (bestN (twoT m T) 0) = rowC (twoT m T) (bestN (twoT m T) 1) := by
  rw [r0, r1]
  rcases ltL_tri (rowC T x0) (rowC T x1) with h | h | h
  · exact absurd h (l1 x0 x0l)
  · exact h
  · exact absurd h (l0 x1 x1l)
 have hal : alikeK (kindV (partOf (twoT m T) 0)) (kindV (partOf (twoT m T) 1)) = true := by
  obtain ⟨m0, t0⟩ := kind_form hu (k := 0) (by omega)
  obtain ⟨m1, t1⟩ := kind_form hu (k := 1) (by omega)
  obtain ⟨q1, q2⟩ := rowC_eq.1 hrr
  rw [alike_eq, m0, m1, t0, t1, q1, q2]
  exact ⟨rfl, rfl⟩
 have hn42 : (allR m T).length ≤ 42 := by
  have := Nat.le_of_dvd (by omega) (conn_div hs h1)
  omega
 have hks : kindsL (twoT m T) 2 = [kindV (partOf (twoT m T) 0), kindV (partOf (twoT m T) 1)] := rfl
 rw [hkn, hks]
 generalize kindV (partOf (twoT m T) 0) = k0 at *
 generalize kindV (partOf (twoT m T) 1) = k1 at *
 have hmul := Nat.mul_le_mul hn42 hn42
 have s1 : orderN [k0, k1] 1 = some ((allR m T).length) := by
  rw [orderN_succ (n := 1) rfl (k := k0) rfl, w0, timesN_yes (by omega), Option.bind_some, likeN_zero, timesN_yes (by omega)]
  simp
 have hlk : likeN [k0, k1] k1 1 = 2 := by
  have := likeN_yes (ks := [k0, k1]) (o := k0) (k := k1) (j := 0) rfl hal
  rw [this, likeN_zero]
 rw [orderN_succ s1 (k := k1) rfl, w1, timesN_yes (by omega), Option.bind_some, hlk, timesN_yes (by omega)]
 congr 1
 rw [Nat.mul_comm (_ * _) 2, Nat.mul_assoc]
end
end Go.Proofs.YtiajlmajenabiaaGreat
