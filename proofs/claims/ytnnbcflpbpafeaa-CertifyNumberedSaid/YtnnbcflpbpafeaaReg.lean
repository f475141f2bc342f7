/- Steps inside a region that draws its order: what lies below stays. No condition. -/
import Derived.Test.YtnnbcflpbpafeaaOwnV
namespace Go.Proofs.Ytnnbcflpbpafeaa
open Go.RowKit

theorem bw_drew {a w : World} (h : Below a.heap.size a w) : Below a.heap.size a w.drew := below_drew h
theorem bw_alloc {a w : World} (h : Below a.heap.size a w) (o : Obj) : Below a.heap.size a (w.alloc o) := h.alloc h.size o
theorem bw_set {a w : World} (h : Below a.heap.size a w) {p : Addr} (hp : a.heap.size ≤ p.block) (u : Value) : Below a.heap.size a (w.setCell p u) := h.setCell hp u
theorem bw_call {a w w' : World} (h : Below a.heap.size a w) (hb : Below w.heap.size w w') : Below a.heap.size a w' := h.trans (hb.mono h.size)
theorem bw_grow {a w w' : World} {row : Option Nat} (h : Below a.heap.size a w) (hg : w.grownBy w' row) (hr : ∀ k, row = some k → a.heap.size ≤ k) : Below a.heap.size a w' := h.grown hg h.size hr
theorem bw_size {a w : World} (h : Below a.heap.size a w) : a.heap.size ≤ w.heap.size := h.size
theorem tris_on {a w : World} {q : Option Addr} {n : Nat} {T : List Tri} (h : Below a.heap.size a w) (ht : TrisAt a a.heap.size q n T) : TrisAt w w.heap.size q n T := (ht.below h).more h.size
/-- What was laid ahead of a call is there behind it. -/
theorem new_on {W w' : World} {cs : Array Value} {t : TypeId} (hb : Below (W.alloc (.cells cs t)).heap.size (W.alloc (.cells cs t)) w') : Blk w' W.heap.size t cs := (Blk.new W t cs).below hb (by simp)
theorem new_on2 {W w' : World} {cs ds : Array Value} {t u : TypeId} (hb : Below ((W.alloc (.cells cs t)).alloc (.cells ds u)).heap.size ((W.alloc (.cells cs t)).alloc (.cells ds u)) w') : Blk w' W.heap.size t cs ∧ Blk w' (W.heap.size + 1) u ds :=
  ⟨((Blk.new W t cs).alloc _).below hb (by simp; omega), (Blk.new_ (by simp) u ds).below hb (by simp)⟩
theorem own_at {w : World} {base g : Nat} {t : TypeId} {size : Nat} (h : Blk w g t #[]) (hb : base ≤ g) : w.ownsRow base t size (.slice (some ⟨g, 0, none⟩) 0 0) 0 [] :=
  ⟨by simp, .inr ⟨g, 0, #[], rfl, hb, h, Nat.le_refl _, Nat.zero_le _, by simp, by simp⟩⟩
/-- A soup's two cells, written anew. -/
theorem soup_set {w : World} {g : Nat} {x y : Value} (h : Blk w g 24 #[x, y]) (u v : Value) : Blk ((w.setCell ⟨g, 0, none⟩ u).setCell ⟨g, 1, none⟩ v) g 24 #[u, v] := by
  simpa using (h.set_ 0 u).set_ 1 v
theorem soup_set1 {w : World} {g : Nat} {x y : Value} (h : Blk w g 24 #[x, y]) (v : Value) : Blk (w.setCell ⟨g, 1, none⟩ v) g 24 #[x, v] := by
  simpa using h.set_ 1 v
theorem LRow.soup_set {w : World} {B : Nat} {A : Option Addr} {c g : Nat} {L : List Tri} {x y : Value} (h : LRow w B A c L) (hb : Blk w g 24 #[x, y]) (u v : Value) : LRow ((w.setCell ⟨g, 0, none⟩ u).setCell ⟨g, 1, none⟩ v) B A c L :=
  (h.setSoup hb u).setSoup (hb.set_ 0 u) v
theorem lrow_of {w : World} {B : Nat} {A : Option Addr} {c n : Nat} {L : List Tri} {cs : List Value} (h : w.ownsRow B 30 3 (.slice A n c) n cs) (hn : n = L.length) (hc : cs = L.flatMap Tri.cells) : LRow w B A c L := by
  subst hn hc
  exact h
end Go.Proofs.Ytnnbcflpbpafeaa
