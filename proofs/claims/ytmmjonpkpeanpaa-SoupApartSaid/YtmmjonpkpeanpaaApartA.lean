/- Rows that may be written over. No condition. -/
import Derived.Test.YtmmjonpkpeanpaaPartsW
import Derived.Test.YtmmjonpkpeanpaaEdgesW
import Derived.Test.YtmmjonpkpeanpaaRename8
import Derived.Test.YtmmjonpkpeanpaaHeldL
namespace Go.Proofs.Ytmmjonpkpeanpaa
open Go.RowKit

set_option linter.unusedSimpArgs false
set_option linter.unusedVariables false
/-- A row of one's own, whatever it holds: so many elements, above this block. -/
def Wr (t : TypeId) (size : Nat) (w : World) (B : Nat) (A : Option Addr) (n : Nat) : Prop := 0 < n → ∃ g cs, A = some ⟨g, 0, none⟩ ∧ B ≤ g ∧ Blk w g t cs ∧ n * size ≤ cs.size
section
variable {t : TypeId} {size : Nat} {w w' : World} {B n : Nat} {A : Option Addr}
theorem Wr.below (h : Wr t size w B A n) (hb : Below w.heap.size w w') : Wr t size w' B A n := fun hn => by
  obtain ⟨g, cs, e, hB, hg, hs⟩ := h hn
  exact ⟨g, cs, e, hB, blk_call hg hb, hs⟩
theorem Wr.alloc (h : Wr t size w B A n) (o : Obj) : Wr t size (w.alloc o) B A n := h.below (bw_alloc (Below.refl _ _) o)
theorem Wr.base {B' : Nat} (h : Wr t size w B A n) (hB : B' ≤ B) : Wr t size w B' A n := fun hn => by
  obtain ⟨g, cs, e, hB2, hg, hs⟩ := h hn
  exact ⟨g, cs, e, by omega, hg, hs⟩
theorem Wr.set (h : Wr t size w B A n) (b i : Nat) (u : Value) : Wr t size (w.setCell ⟨b, i, none⟩ u) B A n := fun hn => by
  obtain ⟨g, cs, e, hB, hg, hs⟩ := h hn
  by_cases hgb : g = b
  · subst hgb
    exact ⟨g, _, e, hB, hg.set_ i u, by simpa using hs⟩
  · exact ⟨g, cs, e, hB, hg.far hgb u, hs⟩
theorem Wr.of_row {c : Nat} {xs : List Value} (h : w.ownsRow B t size (.slice A n c) n xs) : Wr t size w B A n := fun hn => by
  rcases h.2 with ⟨_, h0⟩ | ⟨g, cap, cur, hv, hb, hh, hnc, _, hsz, _⟩
  · omega
  · injection hv with hA _ hc
    exact ⟨g, cur, hA, hb, hh, by rw [hsz]; exact Nat.mul_le_mul_right _ hnc⟩
theorem Wr.at_ (h : Wr t size w B A n) {i : Nat} (hi : i < n) : ∃ g, A = some ⟨g, 0, none⟩ ∧ B ≤ g ∧ (∃ cs, Blk w g t cs) ∧ (∀ j, j < size → ∃ u, w.cell? ⟨g, i * size + j, none⟩ = some u) ∧ ∀ j, w.frozen? ⟨g, j, none⟩ = false := by
  obtain ⟨g, cs, e, hB, hg, hs⟩ := h (by omega)
  refine ⟨g, e, hB, ⟨cs, hg⟩, fun j hj => ?_, fun j => hg.frozen j⟩
  have h1 : (i + 1) * size ≤ n * size := Nat.mul_le_mul_right _ (by omega)
  rw [Nat.add_mul, Nat.one_mul] at h1
  exact ⟨cs[i * size + j]'(by omega), by rw [hg.cell]; exact Array.getElem?_eq_getElem (by omega)⟩
theorem Wr.zero (t : TypeId) (size : Nat) (w : World) (B : Nat) (A : Option Addr) : Wr t size w B A 0 := fun h => absurd h (by omega)
end
theorem wr_tri {w : World} {B : Nat} {A : Option Addr} {c : Nat} {L : List Tri} (h : LRow w B A c L) : Wr 51 3 w B A L.length := Wr.of_row h
theorem wr_int {w : World} {B : Nat} {A : Option Addr} {c : Nat} {L : List Int} (h : IRow w B A c L) : Wr 3 1 w B A L.length := Wr.of_row h
theorem wr_edge {w : World} {B : Nat} {A : Option Addr} {c : Nat} {L : List (Int × Int)} (h : ERow w B A c L) : Wr 54 2 w B A L.length := Wr.of_row h
/-- How many there are. -/
theorem renL_le (N : Int) (T : List Tri) (l : List Int) : (renL N T l).2.1.length ≤ T.length := by
  unfold renL
  split
  · simp
  · split <;> simp
theorem pickL_le (N : Int) (T : List Tri) (l : List Int) : (pickL N T l).2.1.length ≤ l.length := by
  unfold pickL
  split
  · simp
  · split <;> simp
theorem partL_le (N : Int) (T : List Tri) (l : List Int) : (partL N T l).1.2.length ≤ l.length ∧ (partL N T l).2.1.length ≤ N.toNat := by
  have h0 := List.length_filter_le (fun v : Int => l.any fun i => hasV (tri T i.toNat) v) ((List.range N.toNat).map fun i : Nat => (i : Int))
  have h1 : (oldL N T l).length ≤ N.toNat := by
    unfold oldL
    simpa using h0
  unfold partL
  split
  · simp
  · split
    · simp
    · split
      · simp
      · simpa using h1
theorem joinL_le (s : Sp) : (joinL [s]).2.1.length ≤ s.T.length := by
  unfold joinL
  split
  · simp
  · split
    · simp
    · simp [joinS, joinStep]
theorem own0 {w : World} {B : Nat} {g : Nat} (h : Blk w g 51 #[]) (hb : B ≤ g) : w.ownsRow B 51 3 (.slice (some ⟨g, 0, none⟩) 0 0) 0 [] := own_at h hb
theorem soups_one {V : World} {g : Nat} {a : Sp} (hV : Blk V g 24 #[.int .i64 a.N, .slice a.A a.T.length a.c]) (ha : TrisAt V V.heap.size a.A a.T.length a.T) : SoupsAt V V.heap.size (some ⟨g, 0, none⟩) 1 [a] :=
  ⟨⟨rfl, fun _ => ⟨⟨g, 0, none⟩, rfl, hV.lt, fun j u hj => by
    rw [show (⟨g, 0, none⟩ : Addr).add j = ⟨g, j, none⟩ by simp only [Addr.add]; split <;> simp_all, hV.cell]
    simpa [Sp.cells] using hj⟩⟩, fun s hs => by
    obtain rfl := List.mem_singleton.1 hs
    exact ha⟩
theorem alike_true {E : List (Int × Int)} (hE : E.length ≤ 1000000) {W : World} {A1 A2 : Option Addr} {c1 c2 : Nat} (h1 : ERow W 0 A1 c1 E) (h2 : ERow W 0 A2 c2 E) : Calls Try.prog 19 #[.slice A1 E.length c1, .slice A2 E.length c2] W (BoolPost W true) := refAlike_any _ _ _ _ _ _ _ hE h1.reads h2.reads
end Go.Proofs.Ytmmjonpkpeanpaa
