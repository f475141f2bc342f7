/- Rows of numbers of the call's own; cells that stay. No condition. -/
import Derived.Test.YtdpgbccgngdapaaZl
namespace Go.Proofs.Ytdpgbccgngdapaa
open Go.RowKit

/-- A row of numbers of the call's own. -/
def IR (w : World) (B : Nat) (A : Option Addr) (c : Nat) (L : List Int) : Prop := w.ownsRow B 3 1 (.slice A L.length c) L.length (ZL L)
section
variable {w w' : World} {B : Nat} {A : Option Addr} {c : Nat} {L : List Int}
theorem IR.nil (w : World) (B : Nat) : IR w B none 0 [] := World.ownsRow_nil _ _ _ _
theorem IR.below (h : IR w B A c L) (hb : Below w.heap.size w w') : IR w' B A c L := own_same h fun k hk => hb.block k (h.lt k hk).2
theorem IR.alloc (h : IR w B A c L) (o : Obj) : IR (w.alloc o) B A c L := h.below ((Below.refl _ _).alloc (Nat.le_refl _) _)
theorem IR.drew (h : IR w B A c L) : IR w.drew B A c L := h
theorem IR.reads (h : IR w B A c L) : Reads w w.heap.size 1 A L.length (ZL L) := Reads.of_own h
theorem ir_of {n : Nat} {xs : List Value} (h : w.ownsRow B 3 1 (.slice A n c) n xs) (hn : n = L.length) (hx : xs = ZL L) : IR w B A c L := by
  subst hn hx
  exact h
theorem IR.far (h : IR w B A c L) {g i : Nat} {cs : Array Value} {t : TypeId} (hb : Blk w g t cs) (ht : t ≠ 3) (u : Value) : IR (w.setCell ⟨g, i, none⟩ u) B A c L := by
  refine own_same h fun k hk => ?_
  obtain ⟨ds, hd⟩ := own_blk h hk
  exact Below.heap_setCell _ _ _ _ (hd.ne_ hb (Ne.symm ht))
end
/-- A cell of a block that is there. -/
structure CellQ (w : World) (p : Addr) (u : Value) : Prop where
  c : w.cell? p = some u
  lt : p.block < w.heap.size
/-- A triangle's cells. -/
structure TriQ (w : World) (q : Addr) (t : Tri) : Prop where
  c : Cells3 w q (.int .i64 t.a) (.int .i64 t.b) (.int .i64 t.c)
  lt : q.block < w.heap.size
section
variable {w w' : World} {p : Addr} {u : Value} {t : Tri}
theorem CellQ.below (h : CellQ w p u) (hb : Below w.heap.size w w') : CellQ w' p u := ⟨(hb.cell h.lt).trans h.c, Nat.lt_of_lt_of_le h.lt hb.size⟩
theorem CellQ.drew (h : CellQ w p u) : CellQ w.drew p u := ⟨h.c, h.lt⟩
theorem TriQ.below (h : TriQ w p t) (hb : Below w.heap.size w w') : TriQ w' p t := ⟨h.c.below hb h.lt, Nat.lt_of_lt_of_le h.lt hb.size⟩
theorem TriQ.drew (h : TriQ w p t) : TriQ w.drew p t := ⟨h.c.keep fun _ _ => rfl, h.lt⟩
theorem TrisAt.triQ {B n : Nat} {A : Option Addr} {T : List Tri} (h : TrisAt w B A n T) (hB : B ≤ w.heap.size) {k : Nat} (hk : k < n) : ∃ ad, A = some ad ∧ TriQ w (ad.add (k * 3)) (tri T k) := by
  obtain ⟨ad, t, e, htt, _, hb, hc⟩ := h.at_ hk
  exact ⟨ad, e, by rw [tri_of htt]; exact hc, by rw [block_of_add]; omega⟩
theorem IR.cellQ {B : Nat} {A : Option Addr} {c : Nat} {L : List Int} (h : IR w B A c L) {k : Nat} {x : Int} (hx : L[k]? = some x) : ∃ ad, A = some ad ∧ CellQ w (ad.add k) (.int .i64 x) := by
  have hk : k < L.length := (List.getElem?_eq_some_iff.1 hx).1
  obtain ⟨ad, y, e, hb, hy, hc⟩ := zl_read h.reads hk
  rw [hx] at hy
  injection hy with hy
  subst hy
  exact ⟨ad, e, hc, by rw [block_of_add]; exact hb⟩
end
end Go.Proofs.Ytdpgbccgngdapaa
