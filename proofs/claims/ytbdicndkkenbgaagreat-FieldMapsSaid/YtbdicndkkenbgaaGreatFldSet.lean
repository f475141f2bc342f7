/- (*field.Field[int]).Set, walked. No condition but sizes. -/
import Derived.Test.YtbdicndkkenbgaaGreatFldSI
import Derived.Laws.OwnMore
namespace Go.Proofs.YtbdicndkkenbgaaGreat
open Go.RowKit

set_option linter.unusedSimpArgs false
set_option linter.unusedVariables false
def updN (V : Nat → Int) (j : Nat) (a : Int) (i : Nat) : Int := if i = j then a else V i
theorem flat_set (V : Nat → Int) (n j : Nat) (a : Int) : ((List.range n).flatMap fun i => cellsI (V i)).set j (.int .i64 a) = (List.range n).flatMap fun i => cellsI (updN V j a i) := by
  rw [show ((List.range n).flatMap fun i => cellsI (V i)) = (List.range n).map (fun i => Value.int .i64 (V i)) from flat1 _ _,
    show ((List.range n).flatMap fun i => cellsI (updN V j a i)) = (List.range n).map (fun i => Value.int .i64 (updN V j a i)) from flat1 _ _]
  refine List.ext_getElem (by simp) fun i h1 h2 => ?_
  rw [List.getElem_set]
  simp only [List.getElem_map, List.getElem_range, updN]
  by_cases h : j = i
  · subst h; simp
  · rw [if_neg h, if_neg fun e => h e.symm]
theorem map_set (V : Nat → Int) (n j : Nat) (a : Int) : (((List.range n).map V).flatMap cellsI).set j (.int .i64 a) = ((List.range n).map (updN V j a)).flatMap cellsI := by
  rw [List.flatMap_map, List.flatMap_map]
  exact flat_set V n j a
theorem own_pt {w : World} {base : Nat} {e : TypeId} {n c k : Nat} {A : Option Addr} {xs : List Value} (h : w.ownsRow base e 1 (.slice A n c) n xs) (hk : k < n) :
    ∃ gr, A = some ⟨gr, 0, none⟩ ∧ base ≤ gr ∧ gr < w.heap.size ∧ (∃ u, w.cell? ⟨gr, k, none⟩ = some u) ∧ w.frozen? ⟨gr, k, none⟩ = false := by
  obtain ⟨g, cap, hv, hb, hlt⟩ := h.form (by omega)
  injection hv with hA _ hc
  subst hA hc
  refine ⟨g, rfl, hb, hlt, ?_, h.frozenAt k⟩
  have h1 := h.cellAt k (by omega)
  have hl : k < xs.length := by have := h.1; omega
  exact ⟨xs[k], h1.trans (List.getElem?_eq_getElem hl)⟩
theorem FAt.set_ {w : World} {B gf g gr c n : Nat} {V : Nat → Int} (h : FAt w 91 3 1 B gf g (some ⟨gr, 0, none⟩) c n ((List.range n).flatMap fun i => cellsI (V i))) (hne : gf ≠ gr) (k : Nat) (a : Int) :
    FAt (w.setCell ⟨gr, k, none⟩ (.int .i64 a)) 91 3 1 B gf g (some ⟨gr, 0, none⟩) c n ((List.range n).flatMap fun i => cellsI (updN V k a i)) :=
  ⟨h.b.far (p := ⟨gr, k, none⟩) hne _, flat_set V n k a ▸ (h.r.stored k (.int .i64 a)).1, h.g0⟩
attribute [local irreducible] Blk LRow World.alloc World.setCell World.cell? World.frozen? MapV
set_option maxHeartbeats 4000000 in
theorem setI_out (gf g n B : Nat) (A : Option Addr) (c : Nat) (xs : List Value) (k a : Int) (w : World) (hn : n ≤ 1000000) (hk : k < 0 ∨ (n : Int) ≤ k) (hF : FAt w 91 3 1 B gf g A c n xs) :
    Calls Tryz.prog 31 #[.pointer (some ⟨gf, 0, none⟩), .int .i64 k, .int .i64 a] w (IsPost w (.int .i64 2)) := by
  have f1 := hF.f1
  by_cases h0 : k < 0
  · go_enter Tryz.func31, Tryz.ntmps31
    go_wp2_with fail
    go_ret
    exact ⟨rfl, rfl⟩
  · have h1 := hk.resolve_left h0
    go_enter Tryz.func31, Tryz.ntmps31
    go_wp2_with fail
    go_ret
    exact ⟨rfl, rfl⟩
set_option maxHeartbeats 4000000 in
theorem setI_in (gf g n B gr : Nat) (c : Nat) (xs : List Value) (j : Nat) (a : Int) (w : World) (hn : n ≤ 1000000) (hj : j < n) (hF : FAt w 91 3 1 B gf g (some ⟨gr, 0, none⟩) c n xs) :
    Calls Tryz.prog 31 #[.pointer (some ⟨gf, 0, none⟩), .int .i64 (j : Int), .int .i64 a] w fun e w' => e = .returned (.int .i64 0) ∧ w' = w.setCell ⟨gr, j, none⟩ (.int .i64 a) := by
  have f1 := hF.f1
  obtain ⟨gr', hg, _, _, ⟨u, hu⟩, hz⟩ := own_pt hF.r hj
  cases hg
  have hji : (j : Int) < (n : Int) := by omega
  have h0 : ¬ (j : Int) < 0 := by omega
  clear hF
  go_enter Tryz.func31, Tryz.ntmps31
  go_wp2_with fail
  go_ret
  exact ⟨rfl, rfl⟩
end Go.Proofs.YtbdicndkkenbgaaGreat
