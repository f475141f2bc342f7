/- Fields of corners in memory. No condition. -/
import Derived.Test.YtdpgbccgngdapaaRingW
import Derived.Test.YtdpgbccgngdapaaIr
import Derived.Deep.CutBlock
namespace Go.Proofs.Ytdpgbccgngdapaa
open Go.RowKit

set_option linter.unusedSimpArgs false
set_option linter.unusedVariables false
/-- A field: its table, and a row of values. -/
structure FAt (w : World) (tF tE : TypeId) (sz B gf g : Nat) (A : Option Addr) (c n : Nat) (xs : List Value) : Prop where
  b : Blk w gf tF #[.pointer (some ⟨g, 0, none⟩), .slice A n c]
  r : w.ownsRow B tE sz (.slice A n c) n xs
  g0 : B ≤ gf
section
variable {w w' : World} {tF tE : TypeId} {sz B gf g : Nat} {A : Option Addr} {c n : Nat} {xs : List Value}
theorem FAt.only {F : Nat → Prop} (h : FAt w tF tE sz B gf g A c n xs) (ho : Only F w w') (hF : ∀ k, F k → k < B) : FAt w' tF tE sz B gf g A c n xs :=
  ⟨h.b.only ho (fun hf => by have := hF _ hf; have := h.g0; omega), own_same h.r fun k hk => ho.block k (h.r.lt k hk).2 fun hf => by have := hF _ hf; have := (h.r.lt k hk).1; omega, h.g0⟩
theorem FAt.below (h : FAt w tF tE sz B gf g A c n xs) (hb : Below w.heap.size w w') : FAt w' tF tE sz B gf g A c n xs :=
  ⟨blk_call h.b hb, own_same h.r fun k hk => hb.block k (h.r.lt k hk).2, h.g0⟩
theorem FAt.alloc (h : FAt w tF tE sz B gf g A c n xs) (o : Obj) : FAt (w.alloc o) tF tE sz B gf g A c n xs := h.below (bw_alloc (Below.refl _ _) o)
theorem FAt.drew (h : FAt w tF tE sz B gf g A c n xs) : FAt w.drew tF tE sz B gf g A c n xs := ⟨h.b.drew, h.r.drew, h.g0⟩
theorem FAt.base {B' : Nat} (h : FAt w tF tE sz B gf g A c n xs) (hB : B' ≤ B) : FAt w tF tE sz B' gf g A c n xs := ⟨h.b, own_mono h.r hB, by have := h.g0; omega⟩
theorem FAt.f0 (h : FAt w tF tE sz B gf g A c n xs) : w.cell? ⟨gf, 0, none⟩ = some (.pointer (some ⟨g, 0, none⟩)) := h.b.cell 0
theorem FAt.f1 (h : FAt w tF tE sz B gf g A c n xs) : w.cell? ⟨gf, 1, none⟩ = some (.slice A n c) := h.b.cell 1
theorem FAt.fz (h : FAt w tF tE sz B gf g A c n xs) : w.frozen? ⟨gf, 1, none⟩ = false := h.b.frozen 1
theorem FAt.reads (h : FAt w tF tE sz B gf g A c n xs) : Reads w w.heap.size sz A n xs := Reads.of_own h.r
/-- One more value, its row stored. -/
theorem FAt.put {w' : World} {A' : Option Addr} {c' n' : Nat} {xs' : List Value} (h : FAt w tF tE sz B gf g A c n xs) (hne : tE ≠ tF) (hg : w.grownBy w' (Value.slice A n c).ownBlock) (hr : w'.ownsRow B tE sz (.slice A' n' c') n' xs') : FAt (w'.setCell ⟨gf, 1, none⟩ (.slice A' n' c')) tF tE sz B gf g A' c' n' xs' := by
  have hb := h.b.grown hg (fun e => own_blk_ne h.r h.b hne e.symm)
  refine ⟨by simpa using hb.set_ 1 (.slice A' n' c'), own_same hr fun k hk => ?_, h.g0⟩
  obtain ⟨ds, hd⟩ := own_blk hr hk
  exact Below.heap_setCell _ _ _ _ (hd.ne_ hb hne)
theorem FAt.grownc {row : Option Nat} (h : FAt w tF tE sz B gf g A c n xs) (hg : w.grownBy w' row) (hne : row ≠ some gf) : w'.cell? ⟨gf, 0, none⟩ = some (.pointer (some ⟨g, 0, none⟩)) ∧ w'.cell? ⟨gf, 1, none⟩ = some (.slice A n c) ∧ w'.frozen? ⟨gf, 1, none⟩ = false := by
  have hb := h.b.grown hg (fun e => hne e.symm)
  exact ⟨hb.cell 0, hb.cell 1, hb.frozen 1⟩
theorem FAt.rowne (h : FAt w tF tE sz B gf g A c n xs) (hne : tE ≠ tF) : (Value.slice A n c).ownBlock ≠ some gf := own_blk_ne h.r h.b hne
end
/-- A closure's call: its answer, and what it turns. -/
def OfC (kf : Nat) (lb : Array Value) (F : Nat → Prop) (J : Nat → World → Prop) (w : World) (N : Nat) (V : Nat → Value) : Prop :=
  ∀ c W, c < N → J c W → Only F w W → Calls Try.prog kf (#[.int .i64 (c : Int)] ++ lb) W fun e W' => e = .returned (V c) ∧ J (c + 1) W' ∧ Only F W W'
theorem flat_succ {β : Type} (f : Nat → List β) (k : Nat) : (List.range (k + 1)).flatMap f = (List.range k).flatMap f ++ f k := by
  rw [List.range_succ, List.flatMap_append]
  simp
theorem Only.then_ {F : Nat → Prop} {w w2 w' : World} (h : Only F w w2) (hb : Below w.heap.size w2 w') : Only F w w' :=
  ⟨hb.os.trans h.os, hb.tape.trans h.tape, hb.output.trans h.output, Nat.le_trans h.size hb.size, fun k hk hn => (hb.block k hk).trans (h.block k hk hn)⟩
/-- A new field. -/
def NewP (tF tE : TypeId) (sz g n : Nat) (xs : List Value) (J : Nat → World → Prop) (F : Nat → Prop) (w : World) (e : Ending) (w' : World) : Prop :=
  ∃ (gf : Nat) (A : Option Addr) (c : Nat), e = .returned (.pointer (some ⟨gf, 0, none⟩)) ∧ FAt w' tF tE sz w.heap.size gf g A c n xs ∧ J n w' ∧ Only F w w'
end Go.Proofs.Ytdpgbccgngdapaa
