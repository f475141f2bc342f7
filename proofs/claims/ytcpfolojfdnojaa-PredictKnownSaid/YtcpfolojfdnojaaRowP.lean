/- Rows of points: read, written, cut. No condition. -/
import Derived.Test.YtcpfolojfdnojaaPtO
import Derived.Test.YtcpfolojfdnojaaApp
namespace Go.Proofs.Ytcpfolojfdnojaa
open Go.RowKit

set_option linter.unusedSimpArgs false
set_option linter.unusedVariables false
def PBlk (w : World) (g : Nat) (L : List Tri) : Prop := ∃ cs, Blk w g 36 cs ∧ ∀ i t, L[i]? = some t → cs[i * 3]? = some (.int .i64 t.a) ∧ cs[i * 3 + 1]? = some (.int .i64 t.b) ∧ cs[i * 3 + 2]? = some (.int .i64 t.c)
section
variable {w w' : World} {g : Nat} {L : List Tri}
theorem PBlk.lt (h : PBlk w g L) : g < w.heap.size := by
  obtain ⟨_, h, _⟩ := h
  exact h.lt
theorem PBlk.below {B : Nat} (h : PBlk w g L) (hb : Below B w w') (hg : g < B) : PBlk w' g L := by
  obtain ⟨cs, h, h'⟩ := h
  exact ⟨cs, h.below hb hg, h'⟩
theorem PBlk.alloc (h : PBlk w g L) (o : Obj) : PBlk (w.alloc o) g L := by
  obtain ⟨cs, h, h'⟩ := h
  exact ⟨cs, h.alloc o, h'⟩
theorem PBlk.far (h : PBlk w g L) {p : Addr} (hp : g ≠ p.block) (u : Value) : PBlk (w.setCell p u) g L := by
  obtain ⟨cs, h, h'⟩ := h
  exact ⟨cs, h.far hp u, h'⟩
theorem PBlk.frozen (h : PBlk w g L) (i : Nat) : w.frozen? ⟨g, i, none⟩ = false := by
  obtain ⟨cs, h, h'⟩ := h
  exact h.frozen i
theorem PBlk.cells (h : PBlk w g L) {i : Nat} {t : Tri} (ht : L[i]? = some t) :
    w.cell? ⟨g, i * 3, none⟩ = some (.int .i64 t.a) ∧ w.cell? ⟨g, i * 3 + 1, none⟩ = some (.int .i64 t.b) ∧ w.cell? ⟨g, i * 3 + 2, none⟩ = some (.int .i64 t.c) := by
  obtain ⟨cs, h, h'⟩ := h
  rw [h.cell, h.cell, h.cell]
  exact h' i t ht
theorem pt_at3 {L : List Tri} {j : Nat} {u : Value} (h : (L.flatMap Tri.cells)[j]? = some u) : ∃ t, L[j / 3]? = some t ∧ t.cells[j % 3]? = some u := by
  have hl := flatMap_len 3 Tri.cells (fun _ => rfl) L
  have hj : j < L.length * 3 := by rw [← hl]; exact (List.getElem?_eq_some_iff.1 h).1
  have hq : L[j / 3]? = some L[j / 3] := List.getElem?_eq_getElem (by omega)
  refine ⟨_, hq, ?_⟩
  rw [← flatMap_at 3 Tri.cells (fun _ => rfl) L (j / 3) (j % 3) _ hq (by omega), show j / 3 * 3 + j % 3 = j by omega]
  exact h
theorem PBlk.reads (h : PBlk w g L) {B : Nat} (hB : g < B) : Reads w B 3 (some ⟨g, 0, none⟩) L.length (L.flatMap Tri.cells) := by
  refine ⟨by rw [flatMap_len 3 _ (fun _ => rfl)], fun _ => ⟨_, rfl, hB, fun j u hj => ?_⟩⟩
  have e : (⟨g, 0, none⟩ : Addr).add j = ⟨g, j, none⟩ := by unfold Addr.add; split <;> simp_all
  rw [e]
  obtain ⟨t, ht, hu⟩ := pt_at3 hj
  obtain ⟨h0, h1, h2⟩ := h.cells ht
  have hr : j % 3 < 3 := Nat.mod_lt _ (by omega)
  have hjj : j = j / 3 * 3 + j % 3 := by omega
  generalize j / 3 = q at *
  generalize j % 3 = r at *
  subst hjj
  rcases (by omega : r = 0 ∨ r = 1 ∨ r = 2) with rfl | rfl | rfl
  · simpa [Tri.cells, hu] using h0.trans (by simpa [Tri.cells] using hu)
  · exact h1.trans (by simpa [Tri.cells] using hu)
  · exact h2.trans (by simpa [Tri.cells] using hu)
theorem PBlk.tris (h : PBlk w g L) : TrisAt w w.heap.size (some ⟨g, 0, none⟩) L.length L := TrisAt.mk_ (h.reads h.lt)
theorem PBlk.set (h : PBlk w g L) (i : Nat) (t : Tri) :
    PBlk (((w.setCell ⟨g, i * 3, none⟩ (.int .i64 t.a)).setCell ⟨g, i * 3 + 1, none⟩ (.int .i64 t.b)).setCell ⟨g, i * 3 + 2, none⟩ (.int .i64 t.c)) g (L.set i t) := by
  obtain ⟨cs, h, h'⟩ := h
  refine ⟨_, ((h.set_ _ _).set_ _ _).set_ _ _, fun k u hk => ?_⟩
  rw [List.getElem?_set] at hk
  by_cases e : i = k
  · subst e
    rw [if_pos rfl] at hk
    split at hk
    · rename_i hi
      injection hk with hk
      subst hk
      obtain ⟨h0, h1, h2⟩ := h' i _ (List.getElem?_eq_getElem hi)
      have h0 := (Array.getElem?_eq_some_iff.1 h0).1
      have h1 := (Array.getElem?_eq_some_iff.1 h1).1
      have h2 := (Array.getElem?_eq_some_iff.1 h2).1
      simp [h0, h1, h2]
    · cases hk
  · rw [if_neg e] at hk
    obtain ⟨h0, h1, h2⟩ := h' k u hk
    have n0 : ¬ i * 3 = k * 3 := by omega
    have n1 : ¬ i * 3 = k * 3 + 1 := by omega
    have n2 : ¬ i * 3 = k * 3 + 2 := by omega
    have n3 : ¬ i * 3 + 1 = k * 3 := by omega
    have n4 : ¬ i * 3 + 1 = k * 3 + 1 := by omega
    have n5 : ¬ i * 3 + 1 = k * 3 + 2 := by omega
    have n6 : ¬ i * 3 + 2 = k * 3 := by omega
    have n7 : ¬ i * 3 + 2 = k * 3 + 1 := by omega
    have n8 : ¬ i * 3 + 2 = k * 3 + 2 := by omega
    simp only [Array.getElem?_setIfInBounds, n0, n1, n2, n3, n4, n5, n6, n7, n8, if_false]
    exact ⟨h0, h1, h2⟩
end
/-- A row of points of the call's own, above this block. -/
def PRow (w : World) (B : Nat) (A : Option Addr) (L : List Tri) : Prop := L ≠ [] → ∃ g, A = some ⟨g, 0, none⟩ ∧ B ≤ g ∧ PBlk w g L
theorem prow_of {w : World} {B n c : Nat} {A : Option Addr} {L : List Tri} (h : w.ownsRow B 36 3 (.slice A n c) n (L.flatMap Tri.cells)) (hn : n = L.length) : PRow w B A L := fun hne => by
  subst hn
  rcases h.2 with ⟨_, hc⟩ | ⟨g, cap, cur, hv, hb, hh, _, _, _, hcs⟩
  · exact absurd (List.eq_nil_of_length_eq_zero hc) hne
  · injection hv with hA _ _
    subst hA
    refine ⟨g, rfl, hb, cur, hh, fun i t ht => ?_⟩
    have hl : i < L.length := (List.getElem?_eq_some_iff.1 ht).1
    have key : ∀ r, r < 3 → cur[i * 3 + r]? = (Tri.cells t)[r]? := fun r hr => by
      rw [← flatMap_at 3 Tri.cells (fun _ => rfl) L i r t ht hr, ← hcs, List.getElem?_take_of_lt (by omega)]
      simp
    exact ⟨key 0 (by omega), key 1 (by omega), key 2 (by omega)⟩
section
variable {w w' : World} {B : Nat} {A : Option Addr} {L : List Tri}
theorem PRow.below (h : PRow w B A L) (hb : Below w.heap.size w w') : PRow w' B A L := fun hn => by
  obtain ⟨g, e, hB, hg⟩ := h hn
  exact ⟨g, e, hB, hg.below hb hg.lt⟩
theorem PRow.drew (h : PRow w B A L) : PRow w.drew B A L := h
theorem PRow.alloc (h : PRow w B A L) (o : Obj) : PRow (w.alloc o) B A L := h.below (bw_alloc (Below.refl _ _) o)
theorem PRow.tris (h : PRow w B A L) : TrisAt w w.heap.size A L.length L := by
  by_cases hn : L = []
  · subst hn
    exact TrisAt.mk_ ⟨rfl, fun h => absurd h (by simp)⟩
  · obtain ⟨g, rfl, _, hg⟩ := h hn
    exact hg.tris
end
theorem flat_take (T : List Tri) (k : Nat) : (T.flatMap Tri.cells).take (k * 3) = (T.take k).flatMap Tri.cells := by
  induction T generalizing k with
  | nil => simp
  | cons t T ih =>
    cases k with
    | zero => simp
    | succ k =>
      rw [List.take_succ_cons, List.flatMap_cons, List.flatMap_cons, ← ih, List.take_append, show (Tri.cells t).length = 3 from rfl, List.take_of_length_le (by show 3 ≤ _; omega), show (k + 1) * 3 - 3 = k * 3 by omega]
theorem TrisAt.take {w : World} {B n k : Nat} {A : Option Addr} {T : List Tri} (h : TrisAt w B A n T) (hk : k ≤ n) : TrisAt w B A k (T.take k) := by
  refine TrisAt.mk_ ?_
  have := h.row.take hk
  rwa [flat_take] at this
/-! ### What comes later is not known -/
theorem hasP_le {n k : Nat} {f : Int} (h : f < (k : Int)) : hasP (min k n) f ↔ hasP n f := by
  unfold hasP
  omega
theorem rule_use (kd : Int) (x : Ar) (n : Nat) : (ruleOf kd x n = .double → hasP n x.a ∧ hasP n x.b ∧ hasP n x.c ∧ hasP n x.d) ∧ (ruleOf kd x n = .across → hasP n x.a ∧ hasP n x.b ∧ hasP n x.c) ∧ (ruleOf kd x n = .middle → hasP n x.a ∧ hasP n x.b) ∧ (ruleOf kd x n = .last → hasP n x.l) := by
  unfold ruleOf
  split
  · rename_i h; exact ⟨fun _ => h.2, fun e => (by cases e), fun e => (by cases e), fun e => (by cases e)⟩
  · split
    · rename_i h; exact ⟨fun e => (by cases e), fun _ => h.2, fun e => (by cases e), fun e => (by cases e)⟩
    · split
      · rename_i h; exact ⟨fun e => (by cases e), fun e => (by cases e), fun _ => h.2, fun e => (by cases e)⟩
      · split
        · rename_i h; exact ⟨fun e => (by cases e), fun e => (by cases e), fun e => (by cases e), fun _ => h.2⟩
        · exact ⟨fun e => (by cases e), fun e => (by cases e), fun e => (by cases e), fun e => (by cases e)⟩
theorem point_agree {kd : Int} {x : Ar} {P P' : List Tri} {k : Nat} (hl : x.l < k) (ha : x.a < k) (hb : x.b < k) (hc : x.c < k) (hd : x.d < k)
    (hn : ∀ f : Int, f < k → (hasP P'.length f ↔ hasP P.length f)) (ht : ∀ j, j < k → j < P.length → P'[j]? = P[j]?) (i : Nat) : pointL kd x P' i = pointL kd x P i := by
  have hr : ruleOf kd x P'.length = ruleOf kd x P.length := by
    unfold ruleOf
    simp only [hn _ hl, hn _ ha, hn _ hb, hn _ hc, hn _ hd]
  have hp : ∀ f : Int, f < k → hasP P.length f → pc P' f i = pc P f i := fun f h1 h2 => by
    have h3 := h2.1
    have h4 := h2.2
    unfold pc
    have e : tri P' f.toNat = tri P f.toNat := by
      have h5 := ht f.toNat (by omega) (by omega)
      rw [List.getElem?_eq_getElem (show f.toNat < P.length by omega)] at h5
      rw [tri_of h5, tri_of (List.getElem?_eq_getElem (show f.toNat < P.length by omega))]
    rw [e]
  unfold pointL
  rw [hr]
  obtain ⟨u1, u2, u3, u4⟩ := rule_use kd x P.length
  cases hrr : ruleOf kd x P.length with
  | none => rfl
  | last =>
    have hu := u4 hrr
    exact hp _ hl hu
  | middle =>
    have hu := u3 hrr
    unfold tell
    simp only
    rw [hp _ ha hu.1, hp _ hb hu.2]
  | across =>
    have hu := u2 hrr
    unfold tell
    simp only
    rw [hp _ ha hu.1, hp _ hb hu.2.1, hp _ hc hu.2.2]
  | double =>
    have hu := u1 hrr
    unfold tell
    simp only
    rw [hp _ ha hu.1, hp _ hb hu.2.1, hp _ hc hu.2.2.1, hp _ hd hu.2.2.2]
theorem point_take {kd : Int} {x : Ar} {P : List Tri} {k : Nat} (hl : x.l < k) (ha : x.a < k) (hb : x.b < k) (hc : x.c < k) (hd : x.d < k) (i : Nat) : pointL kd x (P.take (min k P.length)) i = pointL kd x P i := by
  refine point_agree hl ha hb hc hd (fun f hf => ?_) (fun j hj hjl => ?_) i
  · rw [List.length_take, show min (min k P.length) P.length = min k P.length by omega]
    exact hasP_le hf
  · rw [List.getElem?_take_of_lt (by omega)]
end Go.Proofs.Ytcpfolojfdnojaa
