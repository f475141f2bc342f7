/- Corners of surfaces that are mirrored, renamed, picked in another order: plain laws. No condition. -/
import Derived.Test.YtcahbcminonfbaaCorP
import Derived.Test.YtcahbcminonfbaaPlainD
namespace Go.Proofs.Ytcahbcminonfbaa
open Go.RowKit

def swapE (e : Int × Int) : Int × Int := (e.2, e.1)
section
variable {m m' : Nat} {T U : List Tri}
theorem facing_moves (hT : SurfE m T) (hU : SurfE m' U) {f : Nat → Nat} {g : Int × Int → Int × Int}
    (hf : ∀ c, c < 3 * T.length → f c < 3 * U.length ∧ ce U (f c) = g (ce T c)) (hs : ∀ d, d < 3 * U.length → ∃ c, c < 3 * T.length ∧ f c = d)
    {e : Int × Int} (hg : ∀ c, c < 3 * T.length → g (ce T c) = g e → ce T c = e) : facingF U (g e) = (facingF T e).map f := by
  cases h : facingF T e with
  | some c =>
    obtain ⟨hc, hce⟩ := facing_some h
    obtain ⟨h1, h2⟩ := hf c hc
    exact facing_is hU h1 (by rw [h2, hce])
  | none =>
    cases h' : facingF U (g e) with
    | none => rfl
    | some d =>
      obtain ⟨hd, hde⟩ := facing_some h'
      obtain ⟨c, hc, rfl⟩ := hs d hd
      obtain ⟨h1, h2⟩ := hf c hc
      rw [h2] at hde
      rw [facing_is hT hc (hg c hc hde)] at h
      cases h
theorem opp_moves (hT : SurfE m T) (hU : SurfE m' U) {f : Nat → Nat} {g : Int × Int → Int × Int}
    (hf : ∀ c, c < 3 * T.length → f c < 3 * U.length ∧ ce U (f c) = g (ce T c)) (hs : ∀ d, d < 3 * U.length → ∃ c, c < 3 * T.length ∧ f c = d)
    (hw : ∀ e, g (swapE e) = swapE (g e)) (hg : ∀ c d, c < 3 * T.length → d < 3 * T.length → g (ce T c) = g (swapE (ce T d)) → ce T c = swapE (ce T d)) {c : Nat} (hc : c < 3 * T.length) :
    oppF U (f c) = (oppF T c).map f := by
  unfold oppF
  rw [(hf c hc).2]
  have h := facing_moves hT hU hf hs (e := swapE (ce T c)) fun d hd => hg d c hd hc
  rw [hw] at h
  exact h
end
-- in the mirror
def mirC (c : Nat) : Nat := c - c % 3 + (3 - c % 3) % 3
theorem mirC_lt {c n : Nat} (h : c < 3 * n) : mirC c < 3 * n := by unfold mirC; omega
theorem mirC_mirC (c : Nat) : mirC (mirC c) = c := by unfold mirC; omega
theorem mirC_div (c : Nat) : mirC c / 3 = c / 3 := by unfold mirC; omega
theorem mirC_mod (c : Nat) : mirC c % 3 = (3 - c % 3) % 3 := by unfold mirC; omega
theorem tri_map (T : List Tri) (f : Tri → Tri) {i : Nat} (h : i < T.length) : tri (T.map f) i = f (tri T i) := tri_of (by rw [List.getElem?_map, tri_at h]; rfl)
theorem ct_mir (t : Tri) {r : Nat} (h : r < 3) : ct (mirT t) ((3 - r) % 3) = swapE (ct t r) := by
  rcases (by omega : r = 0 ∨ r = 1 ∨ r = 2) with rfl | rfl | rfl <;> rfl
theorem corner_mir (t : Tri) {r : Nat} (h : r < 3) : cornerT (mirT t) ((3 - r) % 3) = cornerT t r := by
  rcases (by omega : r = 0 ∨ r = 1 ∨ r = 2) with rfl | rfl | rfl <;> rfl
theorem ce_mir {T : List Tri} {c : Nat} (h : c < 3 * T.length) : ce (T.map mirT) (mirC c) = swapE (ce T c) := by
  rw [ce_ct, ce_ct, mirC_div, mirC_mod, tri_map T mirT (by omega)]
  exact ct_mir _ (Nat.mod_lt c (by omega))
theorem cv_mir {T : List Tri} {c : Nat} (h : c < 3 * T.length) : cv (T.map mirT) (mirC c) = cv T c := by
  rw [cv_ct, cv_ct, mirC_div, mirC_mod, tri_map T mirT (by omega)]
  exact corner_mir _ (Nat.mod_lt c (by omega))
theorem surf_mir {m : Nat} {T : List Tri} (h : SurfE m T) : SurfE m (T.map mirT) := by
  have h0 : refAll (m : Int) T = [] := is_surf.2 ⟨m, rfl, h⟩
  have h1 := alike_all (mirs_alike (T := T) (U := T.map mirT) (by simp) fun i hi => tri_map T mirT hi) (m : Int)
  obtain ⟨k, hk, hs⟩ := is_surf.1 (h1.trans h0)
  obtain rfl : m = k := by omega
  exact hs
theorem opp_mir {m : Nat} {T : List Tri} (h : SurfE m T) {c : Nat} (hc : c < 3 * T.length) : oppF (T.map mirT) (mirC c) = (oppF T c).map mirC :=
  opp_moves h (surf_mir h) (f := mirC) (g := swapE) (fun c hc => ⟨by rw [List.length_map]; exact mirC_lt hc, ce_mir hc⟩) (fun d hd => ⟨mirC d, mirC_lt (by rw [List.length_map] at hd; exact hd), mirC_mirC d⟩)
    (fun _ => rfl) (fun c d _ _ e => by
      have := congrArg swapE e
      exact this) hc
theorem facing_mir {m : Nat} {T : List Tri} (h : SurfE m T) {c : Nat} (hc : c < 3 * T.length) : facingF (T.map mirT) ((ce T c).2, (ce T c).1) = some (mirC c) :=
  facing_is (surf_mir h) (by rw [List.length_map]; exact mirC_lt hc) (ce_mir hc)
-- renamed
theorem ce_ren {T : List Tri} (f : Int → Int) {c : Nat} (h : c < 3 * T.length) : ce (T.map (mapT f)) c = (f (ce T c).1, f (ce T c).2) := by
  rw [ce_ct, ce_ct, tri_map T _ (by omega)]
  have := Nat.mod_lt c (show 0 < 3 by omega)
  generalize c % 3 = r at *
  rcases (by omega : r = 0 ∨ r = 1 ∨ r = 2) with rfl | rfl | rfl <;> rfl
theorem cv_ren {T : List Tri} (f : Int → Int) {c : Nat} (h : c < 3 * T.length) : cv (T.map (mapT f)) c = f (cv T c) := by
  rw [cv_ct, cv_ct, tri_map T _ (by omega)]
  have := Nat.mod_lt c (show 0 < 3 by omega)
  generalize c % 3 = r at *
  rcases (by omega : r = 0 ∨ r = 1 ∨ r = 2) with rfl | rfl | rfl <;> rfl
theorem many_surf {m : Nat} {T U : List Tri} (h : SurfE m T) (ha : AsMany (refAll (m : Int) T) (refAll (m : Int) U)) : SurfE m U := by
  have h0 : refAll (m : Int) T = [] := is_surf.2 ⟨m, rfl, h⟩
  have h1 : (refAll (m : Int) U).length = 0 := by rw [← ha.1, h0]; rfl
  obtain ⟨k, hk, hs⟩ := is_surf.1 (List.eq_nil_of_length_eq_zero h1)
  obtain rfl : m = k := by omega
  exact hs
theorem surf_ren {m : Nat} {ρ : Int → Int} (hr : Renames m ρ) {T : List Tri} (h : SurfE m T) : SurfE m (T.map (mapT ρ)) := many_surf h (numbered_law hr (List.Perm.refl _))
theorem opp_ren {m : Nat} {ρ : Int → Int} (hr : Renames m ρ) {T : List Tri} (h : SurfE m T) {c : Nat} (hc : c < 3 * T.length) : oppF (T.map (mapT ρ)) c = oppF T c := by
  have h1 := opp_moves h (surf_ren hr h) (f := id) (g := fun e => (ρ e.1, ρ e.2)) (fun c hc => ⟨by rw [List.length_map]; exact hc, ce_ren ρ hc⟩) (fun d hd => ⟨d, by rw [List.length_map] at hd; exact hd, rfl⟩)
    (fun _ => rfl) (fun c d _ _ e => by
      injection e with e1 e2
      exact Prod.ext (hr.inj _ _ e1) (hr.inj _ _ e2)) hc
  rw [show id c = c from rfl] at h1
  rw [h1]
  cases oppF T c <;> rfl
-- picked in another order, each from another corner on
theorem id_renames (m : Nat) : Renames m id where
  inj := fun _ _ h => h
  bad := fun _ => rfl
  perm := by simp
theorem perm_range {n : Nat} {l : List Nat} (hl : l.length = n) (hn : l.Nodup) (hx : ∀ x ∈ l, x < n) : l.Perm (List.range n) := by
  refine (List.perm_ext_iff_of_nodup hn List.nodup_range).2 fun x => ⟨fun h => List.mem_range.2 (hx x h), fun h => ?_⟩
  refine Classical.byContradiction fun hc => ?_
  have h1 := nodup_le (x :: l) (List.range n) (List.nodup_cons.2 ⟨hc, hn⟩) fun y hy => by
    rcases List.mem_cons.1 hy with rfl | hy
    · exact h
    · exact List.mem_range.2 (hx y hy)
  rw [List.length_range, List.length_cons] at h1
  omega
/-- Which corner a corner of what is picked was. -/
def wasC (l : List Nat) (d : Nat) : Nat := 3 * (l.getD (d / 3) 0 / 3) + (l.getD (d / 3) 0 + d % 3) % 3
theorem ct_turn (t : Tri) {k r : Nat} (hk : k < 3) (hr : r < 3) : ct (turnT k t) r = ct t ((k + r) % 3) := by
  rcases (by omega : r = 0 ∨ r = 1 ∨ r = 2) with rfl | rfl | rfl <;> rcases (by omega : k = 0 ∨ k = 1 ∨ k = 2) with rfl | rfl | rfl <;> rfl
theorem corner_turn (t : Tri) {k r : Nat} (hk : k < 3) (hr : r < 3) : cornerT (turnT k t) r = cornerT t ((k + r) % 3) := by
  rcases (by omega : r = 0 ∨ r = 1 ∨ r = 2) with rfl | rfl | rfl <;> rcases (by omega : k = 0 ∨ k = 1 ∨ k = 2) with rfl | rfl | rfl <;> rfl
theorem was_div (l : List Nat) (d : Nat) : wasC l d / 3 = l.getD (d / 3) 0 / 3 := by unfold wasC; omega
theorem was_mod (l : List Nat) (d : Nat) : wasC l d % 3 = (l.getD (d / 3) 0 % 3 + d % 3) % 3 := by unfold wasC; omega
/-- All triangles are picked, each once. -/
structure Firsts (n : Nat) (l : List Nat) : Prop where
  len : l.length = n
  lt : ∀ x ∈ l, x < 3 * n
  nd : (l.map (· / 3)).Nodup
def pickN (T : List Tri) (l : List Nat) : List Tri := l.map fun x => turnT (x % 3) (tri T (x / 3))
section
variable {m : Nat} {T : List Tri} {l : List Nat} (h : Firsts T.length l)
include h
theorem Firsts.get {i : Nat} (hi : i < T.length) : l[i]? = some (l.getD i 0) ∧ l.getD i 0 < 3 * T.length := by
  have hl : i < l.length := by rw [h.len]; exact hi
  have e : l[i]? = some (l.getD i 0) := by rw [List.getD_eq_getElem?_getD, List.getElem?_eq_getElem hl]; rfl
  exact ⟨e, h.lt _ (List.mem_of_getElem? e)⟩
theorem Firsts.tri {i : Nat} (hi : i < T.length) : Go.Proofs.Ytcahbcminonfbaa.tri (pickN T l) i = turnT (l.getD i 0 % 3) (Go.Proofs.Ytcahbcminonfbaa.tri T (l.getD i 0 / 3)) :=
  tri_of (by unfold pickN; rw [List.getElem?_map, (h.get hi).1]; rfl)
theorem Firsts.plen : (pickN T l).length = T.length := by unfold pickN; rw [List.length_map, h.len]
theorem Firsts.was_lt {d : Nat} (hd : d < 3 * T.length) : wasC l d < 3 * T.length := by
  have := (h.get (i := d / 3) (by omega)).2
  unfold wasC
  omega
theorem Firsts.ce {d : Nat} (hd : d < 3 * T.length) : Go.Proofs.Ytcahbcminonfbaa.ce T (wasC l d) = Go.Proofs.Ytcahbcminonfbaa.ce (pickN T l) d := by
  rw [ce_ct, ce_ct, h.tri (i := d / 3) (by omega), ct_turn _ (Nat.mod_lt _ (by omega)) (Nat.mod_lt _ (by omega)), was_div, was_mod]
theorem Firsts.cv {d : Nat} (hd : d < 3 * T.length) : Go.Proofs.Ytcahbcminonfbaa.cv T (wasC l d) = Go.Proofs.Ytcahbcminonfbaa.cv (pickN T l) d := by
  rw [cv_ct, cv_ct, h.tri (i := d / 3) (by omega), corner_turn _ (Nat.mod_lt _ (by omega)) (Nat.mod_lt _ (by omega)), was_div, was_mod]
theorem Firsts.perm : (l.map (· / 3)).Perm (List.range T.length) := perm_range (by rw [List.length_map, h.len]) h.nd fun x hx => by
  obtain ⟨y, hy, rfl⟩ := List.mem_map.1 hx
  have := h.lt y hy
  show y / 3 < T.length
  omega
theorem Firsts.at_ {i : Nat} (hi : i < T.length) : ∃ j, j < T.length ∧ l.getD j 0 / 3 = i := by
  have := h.perm.mem_iff.2 (List.mem_range.2 hi)
  obtain ⟨y, hy, e⟩ := List.mem_map.1 this
  obtain ⟨j, hj⟩ := List.mem_iff_getElem?.1 hy
  have hjl : j < l.length := (List.getElem?_eq_some_iff.1 hj).1
  refine ⟨j, by rw [← h.len]; exact hjl, ?_⟩
  rw [List.getD_eq_getElem?_getD, hj]
  exact e
theorem Firsts.all {c : Nat} (hc : c < 3 * T.length) : ∃ d, d < 3 * T.length ∧ wasC l d = c := by
  obtain ⟨j, hj, e⟩ := h.at_ (i := c / 3) (by omega)
  refine ⟨3 * j + (c + 3 - l.getD j 0 % 3) % 3, by omega, ?_⟩
  unfold wasC
  rw [show (3 * j + (c + 3 - l.getD j 0 % 3) % 3) / 3 = j by omega]
  omega
theorem Firsts.surf (hs : SurfE m T) : SurfE m (pickN T l) := by
  have h1 : SurfE m (l.map fun x => Go.Proofs.Ytcahbcminonfbaa.tri T (x / 3)) := many_surf hs (numbered_law (id_renames m) (by
    have h2 : (l.map fun x => Go.Proofs.Ytcahbcminonfbaa.tri T (x / 3)) = (l.map (· / 3)).map (Go.Proofs.Ytcahbcminonfbaa.tri T) := by rw [List.map_map]; rfl
    rw [h2]
    refine (h.perm.map _).trans ?_
    rw [tri_range]
    exact List.Perm.of_eq (by
      conv => lhs; rw [← List.map_id T]
      rfl)))
  have h0 : refAll (m : Int) (l.map fun x => Go.Proofs.Ytcahbcminonfbaa.tri T (x / 3)) = [] := is_surf.2 ⟨m, rfl, h1⟩
  have h3 := alike_all (rots_alike (T := l.map fun x => Go.Proofs.Ytcahbcminonfbaa.tri T (x / 3)) (U := pickN T l) (by unfold pickN; simp) (fun i => l.getD i 0 % 3) fun i hi => by
    rw [List.length_map, h.len] at hi
    rw [h.tri hi, tri_of (T := l.map fun x => Go.Proofs.Ytcahbcminonfbaa.tri T (x / 3)) (by rw [List.getElem?_map, (h.get hi).1]; rfl)]
    rfl) (m : Int)
  obtain ⟨k, hk, hs⟩ := is_surf.1 (h3.trans h0)
  obtain rfl : m = k := by omega
  exact hs
theorem Firsts.opp (hs : SurfE m T) {d : Nat} (hd : d < 3 * T.length) : oppF T (wasC l d) = (oppF (pickN T l) d).map (wasC l) :=
  opp_moves (h.surf hs) hs (f := wasC l) (g := id) (fun c hc => by rw [h.plen] at hc; exact ⟨h.was_lt hc, h.ce hc⟩) (fun d hd => by rw [h.plen]; exact h.all hd) (fun _ => rfl) (fun _ _ _ _ e => e) (by rw [h.plen]; exact hd)
end
end Go.Proofs.Ytcahbcminonfbaa
