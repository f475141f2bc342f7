/- Rows of numbers of the calls own; what a soup told is. No condition. -/
import Derived.Test.YtcahbcminonfbaaGreatSoup8
import Derived.Test.YtcahbcminonfbaaGreatZl
import Derived.Test.YtcahbcminonfbaaGreatFits8
import Derived.Test.YtcahbcminonfbaaGreatCornerB
namespace Go.Proofs.YtcahbcminonfbaaGreat
open Go.RowKit

/-- A row of numbers of the call's own. -/
def IRow (w : World) (B : Nat) (A : Option Addr) (c : Nat) (L : List Int) : Prop := w.ownsRow B 3 1 (.slice A L.length c) L.length (ZL L)
section
variable {w w' : World} {B : Nat} {A : Option Addr} {c : Nat} {L : List Int}
theorem IRow.nil (w : World) (B : Nat) : IRow w B none 0 [] := World.ownsRow_nil _ _ _ _
theorem IRow.below (h : IRow w B A c L) (hb : Below w.heap.size w w') : IRow w' B A c L := own_same h fun k hk => hb.block k (h.lt k hk).2
theorem IRow.alloc (h : IRow w B A c L) (o : Obj) : IRow (w.alloc o) B A c L := h.below ((Below.refl _ _).alloc (Nat.le_refl _) _)
theorem IRow.drew (h : IRow w B A c L) : IRow w.drew B A c L := h
theorem IRow.lt_ (h : IRow w B A c L) : ∀ k, (Value.slice A L.length c).ownBlock = some k → B ≤ k ∧ k < w.heap.size := h.lt
theorem IRow.reads (h : IRow w B A c L) : Reads w w.heap.size 1 A L.length (ZL L) := Reads.of_own h
theorem IRow.base {B' : Nat} (h : IRow w B A c L) (hB : B' ≤ B) : IRow w B' A c L := by
  obtain ⟨h1, h2⟩ := h
  refine ⟨h1, ?_⟩
  rcases h2 with h2 | ⟨g, cap, cur, hv, hb, hr⟩
  · exact .inl h2
  · exact .inr ⟨g, cap, cur, hv, Nat.le_trans hB hb, hr⟩
theorem IRow.grown {row : Option Nat} (h : IRow w B A c L) (hg : w.grownBy w' row) (hne : ∀ k, (Value.slice A L.length c).ownBlock = some k → some k ≠ row) : IRow w' B A c L :=
  own_same h fun k hk => hg.block k (h.lt k hk).2 (hne k hk)
theorem IRow.ne_blk {g : Nat} {t : TypeId} {cs : Array Value} (h : IRow w B A c L) (hb : Blk w g t cs) (ht : 3 ≠ t) : ∀ k, (Value.slice A L.length c).ownBlock = some k → k ≠ g := fun k hk => by
  obtain ⟨ds, hd⟩ := own_blk h hk
  exact hd.ne_ hb ht
theorem IRow.ne_row {B' : Nat} {A' : Option Addr} {c' : Nat} {T : List Tri} (h : IRow w B A c L) (h' : LRow w B' A' c' T) : ∀ k, (Value.slice A L.length c).ownBlock = some k → some k ≠ (Value.slice A' T.length c').ownBlock := fun k hk e => by
  obtain ⟨ds, hd⟩ := own_blk h hk
  obtain ⟨es, he⟩ := own_blk h' e.symm
  exact hd.ne_ he (by decide) rfl
theorem IRow.setCell {g i : Nat} {t : TypeId} {cs : Array Value} (h : IRow w B A c L) (hb : Blk w g t cs) (ht : 3 ≠ t) (u : Value) : IRow (w.setCell ⟨g, i, none⟩ u) B A c L :=
  own_same h fun k hk => Below.heap_setCell _ _ _ _ (h.ne_blk hb ht k hk)
end
theorem irow_of {w : World} {B : Nat} {A : Option Addr} {c : Nat} {L : List Int} (h : w.ownsRow B 3 1 (.slice A L.length c) L.length (ZL L)) : IRow w B A c L := h
def SPost (w : World) (N : Int) (T : List Tri) (e : Ending) (w' : World) : Prop := ∃ A c, e = .returned (.agg #[.int .i64 N, .slice A T.length c]) ∧ LRow w' w.heap.size A c T ∧ Below w.heap.size w w'
/-- Two boxes that stay while the call works. -/
structure PS8 (W0 w : World) (gs gr : Nat) (N : Int) (A : Option Addr) (n c : Nat) : Prop where
  s : Blk w gs 24 #[.int .i64 N, .slice A n c]
  r : Blk w gr 24 #[.int .i64 0, .slice none 0 0]
  b : Below W0.heap.size W0 w
  hs : W0.heap.size ≤ gs
  hr : W0.heap.size ≤ gr
  ne : gr ≠ gs
section
variable {W0 w w' : World} {gs gr : Nat} {N : Int} {A : Option Addr} {n c : Nat}
theorem PS8.on (h : PS8 W0 w gs gr N A n c) (hb : Below w.heap.size w w') : PS8 W0 w' gs gr N A n c := ⟨blk_call h.s hb, blk_call h.r hb, bw_call h.b hb, h.hs, h.hr, h.ne⟩
theorem PS8.alloc (h : PS8 W0 w gs gr N A n c) (o : Obj) : PS8 W0 (w.alloc o) gs gr N A n c := h.on (bw_alloc (Below.refl _ _) o)
theorem PS8.drew (h : PS8 W0 w gs gr N A n c) : PS8 W0 w.drew gs gr N A n c := h.on (bw_drew (Below.refl _ _))
theorem PS8.drewN (h : PS8 W0 w gs gr N A n c) (m : Nat) : PS8 W0 (w.drewN m) gs gr N A n c := h.on (below_drewN (Below.refl _ _) m)
theorem PS8.far (h : PS8 W0 w gs gr N A n c) {go : Nat} (h1 : gs ≠ go) (h2 : gr ≠ go) (h3 : W0.heap.size ≤ go) (i : Nat) (u : Value) : PS8 W0 (w.setCell ⟨go, i, none⟩ u) gs gr N A n c := ⟨h.s.far h1 _, h.r.far h2 _, bw_set h.b h3 _, h.hs, h.hr, h.ne⟩
theorem PS8.grown (h : PS8 W0 w gs gr N A n c) {B : Nat} {A' : Option Addr} {c' : Nat} {T : List Tri} (h' : LRow w B A' c' T) (hB : W0.heap.size ≤ B) (hg : w.grownBy w' (Value.slice A' T.length c').ownBlock) : PS8 W0 w' gs gr N A n c :=
  ⟨h.s.grown hg fun e => soup_tri_ne h' h.s gs e.symm rfl, h.r.grown hg fun e => soup_tri_ne h' h.r gr e.symm rfl, bw_grow h.b hg fun k hk => Nat.le_trans hB (h'.owns.lt k hk).1, h.hs, h.hr, h.ne⟩
theorem PS8.cells (h : PS8 W0 w gs gr N A n c) : w.cell? ⟨gs, 0, none⟩ = some (.int .i64 N) ∧ w.cell? ⟨gs, 1, none⟩ = some (.slice A n c) ∧ w.cell? ⟨gr, 0, none⟩ = some (.int .i64 0) ∧ w.cell? ⟨gr, 1, none⟩ = some (.slice none 0 0) ∧ w.frozen? ⟨gr, 0, none⟩ = false ∧ w.frozen? ⟨gr, 1, none⟩ = false :=
  have h1 := soup_facts h.s
  have h2 := soup_facts h.r
  ⟨h1.1, h1.2.1, h2.1, h2.2.1, h2.2.2.1, h2.2.2.2.1⟩
theorem PS8.grownI (h : PS8 W0 w gs gr N A n c) {B : Nat} {A' : Option Addr} {c' : Nat} {L : List Int} (h' : IRow w B A' c' L) (hB : W0.heap.size ≤ B) (hg : w.grownBy w' (Value.slice A' L.length c').ownBlock) : PS8 W0 w' gs gr N A n c :=
  ⟨h.s.grown hg fun e => h'.ne_blk h.s (by decide) gs e.symm rfl, h.r.grown hg fun e => h'.ne_blk h.r (by decide) gr e.symm rfl, bw_grow h.b hg fun k hk => Nat.le_trans hB (h'.lt_ k hk).1, h.hs, h.hr, h.ne⟩
end
theorem IRow.owns_ {w : World} {B : Nat} {A : Option Addr} {c : Nat} {L : List Int} (h : IRow w B A c L) : w.ownsRow B 3 1 (.slice A L.length c) L.length (ZL L) := h
theorem tri_cells {w : World} {g : Nat} {x y z : Value} (h : Blk w g 62 #[x, y, z]) : w.cell? ⟨g, 0, none⟩ = some x ∧ w.cell? ⟨g, 1, none⟩ = some y ∧ w.cell? ⟨g, 2, none⟩ = some z := ⟨h.cell 0, h.cell 1, h.cell 2⟩
theorem tri_frozen {w : World} {g : Nat} {x y z : Value} (h : Blk w g 62 #[x, y, z]) : w.frozen? ⟨g, 0, none⟩ = false ∧ w.frozen? ⟨g, 1, none⟩ = false ∧ w.frozen? ⟨g, 2, none⟩ = false := ⟨h.frozen 0, h.frozen 1, h.frozen 2⟩
theorem tri_set3 {w : World} {g : Nat} {x y z : Value} (h : Blk w g 62 #[x, y, z]) (a b c : Int) : Blk (((w.setCell ⟨g, 0, none⟩ (.int .i64 a)).setCell ⟨g, 1, none⟩ (.int .i64 b)).setCell ⟨g, 2, none⟩ (.int .i64 c)) g 62 #[.int .i64 a, .int .i64 b, .int .i64 c] := by
  simpa using ((h.set_ 0 (.int .i64 a)).set_ 1 (.int .i64 b)).set_ 2 (.int .i64 c)
/-- A soup of the call's own, and an error's number. -/
def PickPost (w : World) (r : Int × List Tri × Int) (e : Ending) (w' : World) : Prop := ∃ A c, e = .returned (.tuple #[.agg #[.int .i64 r.1, .slice A r.2.1.length c], .int .i64 r.2.2]) ∧ LRow w' w.heap.size A c r.2.1 ∧ Below w.heap.size w w'
theorem pick_post {w w' : World} {r : Int × List Tri × Int} {A : Option Addr} {c : Nat} {N e : Int} {L : List Tri} (h : r = (N, L, e)) (hr : LRow w' w.heap.size A c L) (hb : Below w.heap.size w w') : PickPost w r (.returned (.tuple #[.agg #[.int .i64 N, .slice A L.length c], .int .i64 e])) w' := by
  subst h
  exact ⟨A, c, rfl, hr, hb⟩
theorem fit_tri {N : Int} {T : List Tri} (hf : fitL N T = true) {i : Nat} (hi : i < T.length) : fitT N (tri T i) = true := by
  unfold fitL at hf
  simp only [Bool.and_eq_true] at hf
  exact (List.all_eq_true.1 hf.2) _ (List.mem_of_getElem? (tri_at hi))
theorem fit_N {N : Int} {T : List Tri} (hf : fitL N T = true) : 0 ≤ N ∧ N ≤ 4096 := by
  unfold fitL at hf
  simp only [Bool.and_eq_true, decide_eq_true_eq] at hf
  exact hf.1
/-- Do all numbers of a list name a triangle? -/
theorem in_all {m : Nat} {l : List Int} (h : l.any (outOf m) = false) {x : Int} (hx : x ∈ l) : 0 ≤ x ∧ x < (m : Int) := by
  have : outOf m x = false := by
    cases e : outOf m x with
    | false => rfl
    | true =>
      rw [List.any_eq_true.2 ⟨x, hx, e⟩] at h
      cases h
  simp [outOf] at this
  omega
theorem irow_snoc {w : World} {B : Nat} {A : Option Addr} {c : Nat} {L : List Int} {x : Int} (h : w.ownsRow B 3 1 (.slice A (L.length + 1) c) (L.length + 1) (ZL L ++ [.int .i64 x])) : IRow w B A c (L ++ [x]) := by
  unfold IRow
  have e : ZL (L ++ [x]) = ZL L ++ [.int .i64 x] := by unfold ZL; rw [List.map_append]; rfl
  rw [e, List.length_append]
  exact h
theorem zl_at {l : List Int} {k : Nat} {u : Value} (h : (ZL l)[k]? = some u) : ∃ x, l[k]? = some x ∧ u = .int .i64 x := by
  unfold ZL at h
  rw [List.getElem?_map] at h
  cases e : l[k]? with
  | none => rw [e] at h; cases h
  | some x =>
    rw [e] at h
    injection h with h
    exact ⟨x, rfl, h.symm⟩
theorem take_snoc_Z (l : List Int) (k : Nat) {x : Int} (h : l[k]? = some x) : l.take (k + 1) = l.take k ++ [x] := by
  rw [List.take_add_one, h]
  rfl
theorem soup_ok {w : World} {g : Nat} {x y : Value} (h : Blk w g 24 #[.int .i64 0, .slice none 0 0]) (hx : x = .int .i64 0) (hy : y = .slice none 0 0) : Blk ((w.setCell ⟨g, 0, none⟩ x).setCell ⟨g, 1, none⟩ y) g 24 #[.int .i64 0, .slice none 0 0] := by
  subst hx hy
  exact soup_set h _ _
end Go.Proofs.YtcahbcminonfbaaGreat
