/- A list of numbers renames a surface: plain laws; a cell that stays. No condition. -/
import Derived.Test.YtcahbcminonfbaaCorP2
import Derived.Test.YtcahbcminonfbaaRename8
namespace Go.Proofs.Ytcahbcminonfbaa
open Go.RowKit

/-- A cell of a block that is there. -/
structure CellAt (w : World) (p : Addr) (u : Value) : Prop where
  c : w.cell? p = some u
  lt : p.block < w.heap.size
section
variable {w w' : World} {p : Addr} {u : Value}
theorem CellAt.below (h : CellAt w p u) (hb : Below w.heap.size w w') : CellAt w' p u := ⟨(hb.cell h.lt).trans h.c, Nat.lt_of_lt_of_le h.lt hb.size⟩
theorem CellAt.drew (h : CellAt w p u) : CellAt w.drew p u := ⟨h.c, h.lt⟩
theorem CellAt.alloc (h : CellAt w p u) (o : Obj) : CellAt (w.alloc o) p u := h.below (bw_alloc (Below.refl _ _) o)
end
theorem perm_list {m : Nat} {l : List Int} (hp : permP (m : Int) l) : l.Perm ((List.range m).map fun i : Nat => (i : Int)) := by
  refine (List.perm_ext_iff_of_nodup hp.2.1 ((List.pairwise_map).2 (List.nodup_range.imp fun h e => h (by omega)))).2 fun x => ⟨fun hx => ?_, fun hx => ?_⟩
  · obtain ⟨h0, h1⟩ := hp.2.2 x hx
    exact List.mem_map.2 ⟨x.toNat, List.mem_range.2 (by omega), by omega⟩
  · obtain ⟨i, hi, rfl⟩ := List.mem_map.1 hx
    have := List.mem_range.1 hi
    exact perm_mem hp (by omega) (by omega)
theorem to_ren {m : Nat} {l : List Int} {x : Int} (h0 : 0 ≤ x) (h1 : x < m) : toL l x = renB l m x := by
  unfold renB toL
  rw [if_pos ⟨h0, h1⟩]
theorem ren_same {m : Nat} {l : List Int} {T : List Tri} (hok : ∀ t ∈ T, TriOk m t) : T.map (renT l) = T.map (mapT (renB l m)) := by
  refine List.map_congr_left fun t ht => ?_
  have h := hok t ht
  unfold renT mapT
  rw [to_ren h.a0 h.a1, to_ren h.b0 h.b1, to_ren h.c0 h.c1]
theorem fit_surf {m : Nat} {T : List Tri} (h : SurfE m T) : fitL (m : Int) T = true := by
  unfold fitL
  have h1 := h.m1
  simp only [Bool.and_eq_true, decide_eq_true_eq, List.all_eq_true]
  refine ⟨⟨by omega, by omega⟩, fun t ht => ?_⟩
  have h := h.ok t ht
  exact fitT_iff.2 ⟨⟨h.a0, h.a1, h.b0, h.b1, h.c0, h.c1⟩, h.ab, h.bc, h.ca⟩
end Go.Proofs.Ytcahbcminonfbaa
