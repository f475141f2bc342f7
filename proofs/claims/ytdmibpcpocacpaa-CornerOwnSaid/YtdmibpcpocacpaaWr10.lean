/- Rows of triangles that may be written over; a table stays while blocks below it are written. No condition. -/
import Derived.Test.YtdmibpcpocacpaaCorner
namespace Go.Proofs.Ytdmibpcpocacpaa
open Go.RowKit

set_option linter.unusedSimpArgs false
set_option linter.unusedVariables false
/-- A row of one's own, whatever it holds: so many elements, above this block. -/
def Wr (t : TypeId) (size : Nat) (w : World) (B : Nat) (A : Option Addr) (n : Nat) : Prop := 0 < n → ∃ g cs, A = some ⟨g, 0, none⟩ ∧ B ≤ g ∧ Blk w g t cs ∧ n * size ≤ cs.size
section
variable {t : TypeId} {size : Nat} {w w' : World} {B n : Nat} {A : Option Addr}
theorem Wr.below (h : Wr t size w B A n) (hb : Below w.heap.size w w') : Wr t size w' B A n := fun hn => by
  obtain ⟨g, cs, e, hB, hg, hs⟩ := h hn
  exact ⟨g, cs, e, hB, blk_call hg hb, hs⟩
theorem Wr.alloc (h : Wr t size w B A n) (o : Obj) : Wr t size (w.alloc o) B A n := h.below (bw_alloc (Below.refl _ _) o)
theorem Wr.base {B' : Nat} (h : Wr t size w B A n) (hB : B' ≤ B) : Wr t size w B' A n := fun hn => by
  obtain ⟨g, cs, e, hB2, hg, hs⟩ := h hn
  exact ⟨g, cs, e, by omega, hg, hs⟩
theorem Wr.set (h : Wr t size w B A n) (b i : Nat) (u : Value) : Wr t size (w.setCell ⟨b, i, none⟩ u) B A n := fun hn => by
  obtain ⟨g, cs, e, hB, hg, hs⟩ := h hn
  by_cases hgb : g = b
  · subst hgb
    exact ⟨g, _, e, hB, hg.set_ i u, by simpa using hs⟩
  · exact ⟨g, cs, e, hB, hg.far hgb u, hs⟩
theorem Wr.of_row {c : Nat} {xs : List Value} (h : w.ownsRow B t size (.slice A n c) n xs) : Wr t size w B A n := fun hn => by
  rcases h.2 with ⟨_, h0⟩ | ⟨g, cap, cur, hv, hb, hh, hnc, _, hsz, _⟩
  · omega
  · injection hv with hA _ hc
    exact ⟨g, cur, hA, hb, hh, by rw [hsz]; exact Nat.mul_le_mul_right _ hnc⟩
theorem Wr.at_ (h : Wr t size w B A n) {i : Nat} (hi : i < n) : ∃ g, A = some ⟨g, 0, none⟩ ∧ B ≤ g ∧ (∃ cs, Blk w g t cs) ∧ (∀ j, j < size → ∃ u, w.cell? ⟨g, i * size + j, none⟩ = some u) ∧ ∀ j, w.frozen? ⟨g, j, none⟩ = false := by
  obtain ⟨g, cs, e, hB, hg, hs⟩ := h (by omega)
  refine ⟨g, e, hB, ⟨cs, hg⟩, fun j hj => ?_, fun j => hg.frozen j⟩
  have h1 : (i + 1) * size ≤ n * size := Nat.mul_le_mul_right _ (by omega)
  rw [Nat.add_mul, Nat.one_mul] at h1
  exact ⟨cs[i * size + j]'(by omega), by rw [hg.cell]; exact Array.getElem?_eq_getElem (by omega)⟩
theorem Wr.zero (t : TypeId) (size : Nat) (w : World) (B : Nat) (A : Option Addr) : Wr t size w B A 0 := fun h => absurd h (by omega)
end
theorem wr_tri {w : World} {B : Nat} {A : Option Addr} {c : Nat} {L : List Tri} (h : LRow w B A c L) : Wr 50 3 w B A L.length := Wr.of_row h
theorem own0 {w : World} {B : Nat} {g : Nat} (h : Blk w g 50 #[]) (hb : B ≤ g) : w.ownsRow B 50 3 (.slice (some ⟨g, 0, none⟩) 0 0) 0 [] := own_at h hb
theorem LRow.setLow {w : World} {B : Nat} {A : Option Addr} {c b i : Nat} {L : List Tri} (h : LRow w B A c L) (hb : b < B) (u : Value) : LRow (w.setCell ⟨b, i, none⟩ u) B A c L :=
  own_same h fun k hk => Below.heap_setCell _ _ _ _ (Nat.ne_of_gt (Nat.lt_of_lt_of_le hb (World.ownsRow.lt h k hk).1))
theorem LRow.top {w : World} {B b c : Nat} {L : List Tri} (h : LRow w B (some ⟨b, 0, none⟩) c L) : b < w.heap.size := (World.ownsRow.lt h b (by simp [Value.ownBlock])).2
theorem TabAt.setLow {w : World} {B g : Nat} {N : Int} {T : List Tri} (h : TabAt w B g N T) {b i : Nat} {u0 : Value} (hp : w.cell? ⟨b, i, none⟩ = some u0) (hb : b < B) (u : Value) : TabAt (w.setCell ⟨b, i, none⟩ u) B g N T := by
  obtain ⟨A, c, b', n, gf, m, L, h1, h2, h3, h4, h5, h6, h7, h8, h9, h10⟩ := h.at_
  exact ⟨A, c, b', n, gf, m, L, h1.far (Nat.ne_of_gt (Nat.lt_of_lt_of_le hb h2)) _, h2, h3, h4, h5.setLow hb u, MapV.setCell h6 hp u, h7.far (Nat.ne_of_gt (Nat.lt_of_lt_of_le hb h4)) _, h8, h9, h10⟩
theorem TabAt.setLow3 {w : World} {B g : Nat} {N : Int} {T : List Tri} (h : TabAt w B g N T) {b i : Nat} {cs : Array Value} {t : TypeId} (hg : Blk w b t cs) (hi : i + 2 < cs.size) (hb : b < B) (u v x : Value) :
    TabAt (((w.setCell ⟨b, i, none⟩ u).setCell ⟨b, i + 1, none⟩ v).setCell ⟨b, i + 2, none⟩ x) B g N T := by
  have h1 := hg.set_ i u
  have h2 := h1.set_ (i + 1) v
  exact ((h.setLow (u0 := cs[i]'(by omega)) (by rw [hg.cell]; exact Array.getElem?_eq_getElem (by omega)) hb u).setLow (u0 := (cs.setIfInBounds i u)[i + 1]'(by simp; omega)) (by rw [h1.cell]; exact Array.getElem?_eq_getElem (by simp; omega)) hb v).setLow
    (u0 := ((cs.setIfInBounds i u).setIfInBounds (i + 1) v)[i + 2]'(by simp; omega)) (by rw [h2.cell]; exact Array.getElem?_eq_getElem (by simp; omega)) hb x
end Go.Proofs.Ytdmibpcpocacpaa
