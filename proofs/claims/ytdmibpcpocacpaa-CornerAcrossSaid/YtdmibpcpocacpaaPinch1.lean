/- Of each vertex the triangles that have it: the plain list, and rows in a row. No condition. -/
import Derived.Test.YtdmibpcpocacpaaTog
namespace Go.Proofs.Ytdmibpcpocacpaa
open Go.RowKit

/-- Which of the first k triangles have a vertex. -/
def atL (T : List Tri) (k : Nat) (v : Int) : List Nat := (List.range k).filter fun i => decide (v ∈ verts (tri T i))
theorem triE_eq {T : List Tri} {i m : Nat} {t : Tri} (ht : T[i]? = some t) (h : TriOk m t) (E : Int → List Nat) (v : Int) : triE T (-1) E i v = if v ∈ verts (tri T i) then E v ++ [i] else E v := by
  unfold triE
  rw [tri_of ht]
  obtain ⟨a0, _, b0, _, c0, _, h1, h2, h3⟩ := h
  obtain ⟨a, b, c⟩ := t
  simp only at a0 b0 c0 h1 h2 h3
  have e1 : ¬ a = -1 := by omega
  have e2 : ¬ b = -1 := by omega
  have e3 : ¬ c = -1 := by omega
  simp only [verts, List.foldl_cons, List.foldl_nil, addE, if_neg e1, if_neg e2, if_neg e3, List.mem_cons, List.not_mem_nil, or_false]
  have h1' : ¬ b = a := fun e => h1 e.symm
  have h2' : ¬ c = b := fun e => h2 e.symm
  have h3' : ¬ a = c := fun e => h3 e.symm
  by_cases hc : v = c
  · subst hc
    simp [h2', h3]
  · by_cases hb : v = b
    · subst hb
      simp [h2, h1']
    · by_cases ha : v = a
      · subst ha
        simp [h1, h3']
      · simp [ha, hb, hc]
theorem atL_succ {T : List Tri} {k m : Nat} {t : Tri} (ht : T[k]? = some t) (h : TriOk m t) : atL T (k + 1) = (verts t).foldl (addE (-1) k) (atL T k) := by
  funext v
  have h1 := triE_eq ht h (atL T k) v
  unfold triE at h1
  rw [tri_of ht] at h1
  rw [h1]
  unfold atL
  rw [List.range_succ, List.filter_append]
  by_cases hv : v ∈ verts (tri T k)
  · have hv' : v ∈ verts t := by rw [← tri_of ht]; exact hv
    rw [if_pos hv']
    simp [hv]
  · have hv' : v ∉ verts t := by rw [← tri_of ht]; exact hv
    rw [if_neg hv']
    simp [hv]
theorem atL_nodup (T : List Tri) (k : Nat) (v : Int) : (atL T k v).Nodup := List.Nodup.sublist List.filter_sublist List.nodup_range
theorem atL_lt {T : List Tri} {k : Nat} {v : Int} : ∀ i ∈ atL T k v, i < k := fun i hi => by
  unfold atL at hi
  exact List.mem_range.1 (List.mem_filter.1 hi).1
theorem atL_len (T : List Tri) (k : Nat) (v : Int) : (atL T k v).length ≤ k := by
  unfold atL
  exact Nat.le_trans (List.length_filter_le _ _) (by simp)
theorem fold_len {i : Nat} (v : Int) (l : List Int) (E : Int → List Nat) (y : Int) : (l.foldl (addE v i) E y).length ≤ (E y).length + l.length := by
  induction l generalizing E with
  | nil => exact Nat.le_refl _
  | cons x l ih =>
    rw [List.foldl_cons, List.length_cons]
    refine Nat.le_trans (ih _) ?_
    have : (addE v i E x y).length ≤ (E y).length + 1 := by
      unfold addE
      split
      · omega
      · simp only
        split
        · rename_i h; subst h; simp
        · omega
    omega

/-- Rows of numbers in a row of the call's own. -/
structure RowsAt (w : World) (base g m : Nat) (E : Int → List Nat) (cells : Array Value) (fe : Value → Option Value) : Prop where
  blk : Blk w g 52 cells
  size : cells.size = m
  at_ : ∀ v, v < m → cells[v]? = some ((fe (ik (v : Int))).getD (.slice none 0 0))
  had : HadAt w base ik fe E
section
variable {w w' : World} {base g m : Nat} {E : Int → List Nat} {cells : Array Value} {fe : Value → Option Value}
theorem RowsAt.below (h : RowsAt w base g m E cells fe) (hb : Below w.heap.size w w') : RowsAt w' base g m E cells fe := ⟨h.blk.below hb h.blk.lt, h.size, h.at_, h.had.below hb⟩
theorem RowsAt.row (h : RowsAt w base g m E cells fe) {v : Nat} (hv : v < m) : ∃ Ak ck, w.cell? ⟨g, v, none⟩ = some (.slice Ak (E v).length ck) ∧ (fe (ik (v : Int))).getD (.slice none 0 0) = .slice Ak (E v).length ck ∧ NatRow w base Ak ck (E v) := by
  obtain ⟨Ak, ck, e1, e2, _⟩ := h.had.look (v : Int)
  exact ⟨Ak, ck, by rw [h.blk.cell, h.at_ v hv, e1], e1, e2⟩
/-- 'at[v] = append(at[v], i)'. -/
theorem RowsAt.app (h : RowsAt w base g m E cells fe) {v : Nat} (hv : v < m) (i : Nat) {Ak : Option Addr} {ck : Nat} (hfe : (fe (ik (v : Int))).getD (.slice none 0 0) = .slice Ak (E v).length ck) {wx w1 : World} (hx : Below w.heap.size w wx)
    {A1 : Option Addr} {c1 : Nat} (ho : w1.ownsRow base 3 1 (.slice A1 ((E v).length + 1) c1) ((E v).length + 1) (nats (E v) ++ [.int .i64 (i : Int)])) (hg : wx.grownBy w1 (Value.slice Ak (E v).length ck).ownBlock)
    (hat : (Value.slice A1 ((E v).length + 1) c1).ownBlock = (Value.slice Ak (E v).length ck).ownBlock ∨ (Value.slice A1 ((E v).length + 1) c1).ownBlock = some wx.heap.size) :
    w1.cell? ⟨g, v, none⟩ = some (.slice Ak (E v).length ck) ∧ w1.frozen? ⟨g, v, none⟩ = false ∧ ∃ cells' fe', RowsAt (w1.setCell ⟨g, v, none⟩ (.slice A1 ((E v).length + 1) c1)) base g m (fun y => if y = (v : Int) then E v ++ [i] else E y) cells' fe' := by
  have hX := h.below hx
  have hrow := hX.had.row_of hfe
  have hgne : ∀ {t cs}, Blk wx g t cs → t ≠ 3 → some g ≠ (Value.slice Ak (E v).length ck).ownBlock := fun hb ht e => by
    obtain ⟨cs', hb'⟩ := own_blk hrow e.symm
    exact hb.ne_ hb' ht rfl
  have hb1 := hX.blk.grown hg (hgne hX.blk (by decide))
  refine ⟨by rw [hb1.cell, h.at_ v hv, hfe], hb1.frozen _, cells.setIfInBounds v (.slice A1 ((E v).length + 1) c1), putV fe (ik (v : Int)) (.slice A1 ((E v).length + 1) c1), hb1.set_ v _, by simpa using h.size, fun u hu => ?_, ?_⟩
  · rw [Array.getElem?_setIfInBounds]
    by_cases e : v = u
    · subst e
      rw [if_pos rfl, if_pos (by rw [h.size]; exact hv), putV_same]
      rfl
    · rw [if_neg e, putV_ne _ _ (fun e' => e (by have := ik_inj _ _ e'; omega)), h.at_ u hu]
  · have hl : (E v ++ [i]).length = (E v).length + 1 := by simp
    obtain ⟨_, _, e1, _, e3⟩ := hX.had.look (v : Int)
    rw [hfe] at e1
    injection e1 with q1 _ q2
    subst q1 q2
    have hput := hX.had.put (w' := w1) ik_inj (k := (v : Int)) (v := .slice Ak (E v).length ck) e3 (A' := A1) (c' := c1) (l := E v ++ [i]) (by simp) (by unfold NatRow; rw [hl]; simpa [nats] using ho) hg
      (by rw [hl]; rcases hat with h | h; exact .inl h; exact .inr ⟨_, h, Nat.le_refl _⟩) (H' := fun y => if y = (v : Int) then E v ++ [i] else E y) (by simp) (fun y hy => by simp [hy])
    rw [hl] at hput
    exact hput.keep fun j cs hb => Below.heap_setCell _ _ _ _ (hb.ne_ hb1 (by decide))
end
end Go.Proofs.Ytdmibpcpocacpaa
