/- Own rows of triangles beside each other: what stays. No condition. -/
import Derived.Test.YtnnbcflpbpafeaaTrueW
namespace Go.Proofs.Ytnnbcflpbpafeaa
open Go.RowKit

theorem LRow.grown {w w' : World} {B : Nat} {A : Option Addr} {c : Nat} {L : List Tri} {row : Option Nat} (h : LRow w B A c L) (hg : w.grownBy w' row) (hne : ∀ k, (Value.slice A L.length c).ownBlock = some k → some k ≠ row) : LRow w' B A c L :=
  own_same h fun k hk => hg.block k (h.lt k hk).2 (hne k hk)
theorem LRow.below {w w' : World} {B : Nat} {A : Option Addr} {c : Nat} {L : List Tri} (h : LRow w B A c L) (hb : Below w.heap.size w w') : LRow w' B A c L :=
  own_same h fun k hk => hb.block k (h.lt k hk).2
theorem LRow.setSoup {w : World} {B : Nat} {A : Option Addr} {c g i : Nat} {L : List Tri} {cs : Array Value} (h : LRow w B A c L) (hb : Blk w g 24 cs) (u : Value) : LRow (w.setCell ⟨g, i, none⟩ u) B A c L := by
  refine own_same h fun k hk => ?_
  obtain ⟨ds, hd⟩ := own_blk h hk
  exact Below.heap_setCell _ _ _ _ (hd.ne_ hb (by decide))
theorem LRow.tris {w : World} {B : Nat} {A : Option Addr} {c : Nat} {L : List Tri} (h : LRow w B A c L) : TrisAt w w.heap.size A L.length L := TrisAt.mk_ (Reads.of_own h)
theorem LRow.alloc {w : World} {B : Nat} {A : Option Addr} {c : Nat} {L : List Tri} (h : LRow w B A c L) (o : Obj) : LRow (w.alloc o) B A c L := h.below ((Below.refl _ _).alloc (Nat.le_refl _) _)
theorem soup_tri_ne {w : World} {B : Nat} {A : Option Addr} {c g : Nat} {L : List Tri} {cs : Array Value} (h : LRow w B A c L) (hb : Blk w g 24 cs) : ∀ k, (Value.slice A L.length c).ownBlock = some k → k ≠ g := fun k hk => by
  obtain ⟨ds, hd⟩ := own_blk h hk
  exact hd.ne_ hb (by decide)
end Go.Proofs.Ytnnbcflpbpafeaa
