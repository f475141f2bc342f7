/- Rows of rows put in order, and looked up. No condition but sizes. -/
import Derived.Test.YtiajlmajenabiaaGreatFm47
import Derived.Test.YtiajlmajenabiaaGreatShelfRow
import Derived.Test.YtiajlmajenabiaaGreatB1
import Derived.Deep.Slices
import Derived.RangeFuncNested
import Derived.RangeFuncBound
import Derived.RangeFuncCalls
import Derived.RangeFuncLeaves
import Derived.Shelf.Abstract
import Derived.Shelf.RegionOpen
import Derived.OwnWalkIn
import Derived.TacticsInMore
import Derived.LoopNIn
import Derived.LoopIn
import Derived.Maps.AppendAt
import Derived.Test.YtiajlmajenabiaaGreatSh47
import Derived.Deep.QuietTactic
set_option maxRecDepth 100000
set_option maxHeartbeats 16000000
set_option linter.all false
namespace Go.Proofs.YtiajlmajenabiaaGreat
open Go.RowKit Go.Sort Go.Shelf
section
variable {α : Type} [Inhabited α]
end
def wayAt (L : List Way) (i : Nat) : Way := L.getD i ((none, 0), [])
theorem wayAt_mem {L : List Way} {i : Nat} (h : i < L.length) : wayAt L i ∈ L := by
 unfold wayAt
 rw [List.getD, List.getElem?_eq_getElem h]
 exact List.getElem_mem h
end Go.Proofs.YtiajlmajenabiaaGreat
namespace Go.Proofs.YtiajlmajenabiaaGreat
open Go.ChangeShapes Go.WideShapes Go.ChangeAt Go.RowKit
structure RowsIn (w : World) (B : Nat) (A : Option Addr) (n : Nat) (L : List Way) : Prop where
 row : Reads w B 1 A n (L.map wayC)
 each : ∀ x ∈ L, Reads w B 1 x.1.1 x.2.length (ZL x.2) ∧ x.2.length ≤ x.1.2 ∧ x.2.length ≤ maxLen
theorem RowsIn.len {w : World} {B n : Nat} {A : Option Addr} {L : List Way} (h : RowsIn w B A n L) : L.length = n := by
 have := h.row.1
 rw [List.length_map] at this
 omega
theorem RowsIn.below {w w' : World} {B n : Nat} {A : Option Addr} {L : List Way} (h : RowsIn w B A n L) (hb : Below B w w') : RowsIn w' B A n L := ⟨h.row.below hb, fun x hx => ⟨(h.each x hx).1.below hb, (h.each x hx).2⟩⟩
theorem RowsIn.more {w : World} {B B' n : Nat} {A : Option Addr} {L : List Way} (h : RowsIn w B A n L) (hb : B ≤ B') : RowsIn w B' A n L := ⟨h.row.more hb, fun x hx => ⟨(h.each x hx).1.more hb, (h.each x hx).2⟩⟩
theorem RowsIn.at_ {w : World} {B n : Nat} {A : Option Addr} {L : List Way} (h : RowsIn w B A n L) {k : Nat} (hk : k < n) : ∃ ad, A = some ad ∧ L[k]? = some (wayAt L k) ∧ wayAt L k ∈ L ∧ w.cell? (ad.add k) = some (wayC (wayAt L k)) ∧ ad.block < B := by
 obtain ⟨ad, u, e, hb, hu, hc⟩ := h.row.at_ hk
 have hl : k < L.length := by rw [h.len]; exact hk
 have hw : wayAt L k = L[k] := by simp [wayAt, List.getD, List.getElem?_eq_getElem hl]
 rw [List.getElem?_map, List.getElem?_eq_getElem hl] at hu
 injection hu with hu
 exact ⟨ad, e, by rw [hw]; exact List.getElem?_eq_getElem hl, wayAt_mem hl, by rw [hw, hc, ← hu], hb⟩
end Go.Proofs.YtiajlmajenabiaaGreat
namespace Go.Proofs.YtiajlmajenabiaaGreat
open Go.RowKit Go.Maps Go.Shelf
attribute [local go_sem] Oper.semAt_some
structure VAt (w : World) (n₀ b1 : Nat) (A : Option Addr) (c : Nat) (L : List Way) : Prop where
 at_ : ∃ w₀ : World, w₀.heap.size = n₀ ∧ Reads w₀ n₀ 1 A L.length (L.map wayC) ∧ Below n₀ w₀ w
 c1 : w.cell? ⟨b1, 0, none⟩ = some (.slice A L.length c)
 l1 : b1 < w.heap.size
section
variable {w w' : World} {n₀ b1 c : Nat} {A : Option Addr} {L : List Way}
theorem VAt.only {F : Nat → Prop} (h : VAt w n₀ b1 A c L) (ho : Only F w w') (hF : ∀ k, F k → n₀ ≤ k) (h1 : ¬ F b1) : VAt w' n₀ b1 A c L := by
 obtain ⟨w₀, rfl, a1, a2⟩ := h.at_
 exact ⟨⟨w₀, rfl, a1, a2.trans (ho.below a2.size fun k hk hf => by have := hF k hf; omega)⟩, (ho.cell h.l1 h1).trans h.c1, Nat.lt_of_lt_of_le h.l1 ho.size⟩
theorem VAt.below (h : VAt w n₀ b1 A c L) (hb : Below w.heap.size w w') : VAt w' n₀ b1 A c L :=
 h.only (F := fun _ => False) (Only.of_below hb _) (fun _ h => h.elim) (fun h => h)
theorem VAt.row (h : VAt w n₀ b1 A c L) {k : Nat} (hk : k < L.length) : ∃ ad, A = some ad ∧ w.cell? (ad.add k) = some (wayC (wayAt L k)) := by
 obtain ⟨w₀, rfl, a1, a2⟩ := h.at_
 obtain ⟨ad, u, e, hb, hu, hc⟩ := (a1.below a2).at_ hk
 refine ⟨ad, e, ?_⟩
 rw [List.getElem?_map, List.getElem?_eq_getElem hk] at hu
 injection hu with hu
 rw [hc, ← hu]
 simp [wayAt, List.getD, List.getElem?_eq_getElem hk]
end
end Go.Proofs.YtiajlmajenabiaaGreat
namespace Go.Proofs.YtiajlmajenabiaaGreat
open Go.RowKit Go.Maps Go.Shelf
attribute [local go_sem] Oper.semAt_some
def RAx (B0 : Nat) (sv : Value) (x : Way) (a' : Act) (W : World) : Prop :=
 a' = { tmps := #[.slice none 0 0, sv, .pointer (some ⟨B0, 0, none⟩), undef, .slice none 0 0, wayC x, sv, wayC x, undef, undef, undef, undef, undef], defers := [] }
theorem RAx.own (B0 : Nat) (sv : Value) (x : Way) (a' : Act) (B : Nat) : OwnFrom B (fun (_ : Unit) W => RAx B0 sv x a' W) := fun _ X Y row h hg hr => h
end Go.Proofs.YtiajlmajenabiaaGreat
namespace Go.Proofs.YtiajlmajenabiaaGreat
open Go.RowKit
def boolA (N : Nat) (p : Nat → Bool) : Array Value := ((List.range N).map fun i => Value.bool (p i)).toArray
attribute [local irreducible] Blk World.alloc World.setCell World.cell? World.frozen? MapV MapI
end Go.Proofs.YtiajlmajenabiaaGreat
namespace Go.Proofs.YtiajlmajenabiaaGreat
open Go.RowKit
attribute [local irreducible] Blk World.alloc World.setCell World.cell? World.frozen? MapV MapI
end Go.Proofs.YtiajlmajenabiaaGreat
namespace Go.Proofs.YtiajlmajenabiaaGreat
open Go.RowKit
end Go.Proofs.YtiajlmajenabiaaGreat
