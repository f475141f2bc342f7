/- What is told of a vertex: plain words; the small functions walked. No condition. -/
import Derived.Test.YtcpfolojfdnojaaSoup8
import Derived.IntWalk
namespace Go.Proofs.Ytcpfolojfdnojaa
open Go.RowKit

set_option linter.unusedSimpArgs false
set_option linter.unusedVariables false
/-- A coordinate, cut. -/
def cutI (x : Int) : Int := if 1048576 < x then 1048576 else if x < -1048576 then -1048576 else x
theorem cut_le (x : Int) : -1048576 ≤ cutI x ∧ cutI x ≤ 1048576 := by
  unfold cutI
  split
  · omega
  · split <;> omega
theorem cut_in {x : Int} (h0 : -1048576 ≤ x) (h1 : x ≤ 1048576) : cutI x = x := by
  unfold cutI
  rw [if_neg (by omega), if_neg (by omega)]
theorem cut_cut (x : Int) : cutI (cutI x) = cutI x := cut_in (cut_le x).1 (cut_le x).2
theorem cut_minmax (x : Int) : max (min x 1048576) (-1048576) = cutI x := by
  unfold cutI
  split
  · omega
  · split <;> omega
/-- Is it a number of a point? -/
def hasP (n : Nat) (v : Int) : Prop := 0 ≤ v ∧ v < (n : Int)
instance (n : Nat) (v : Int) : Decidable (hasP n v) := inferInstanceAs (Decidable (_ ∧ _))
/-- A point's coordinate, cut. -/
def pc (P : List Tri) (v : Int) (i : Nat) : Int := cutI (cornerT (tri P v.toNat) i)
/-- What is around a vertex. -/
structure Ar where
  l : Int
  a : Int
  b : Int
  c : Int
  d : Int
def Ar.v (x : Ar) : Value := .agg #[.int .i64 x.l, .int .i64 x.a, .int .i64 x.b, .int .i64 x.c, .int .i64 x.d]
/-- Which rule serves. -/
inductive Rule | none | last | middle | across | double
deriving DecidableEq
def ruleOf (k : Int) (x : Ar) (n : Nat) : Rule :=
  if k = 3 ∧ hasP n x.a ∧ hasP n x.b ∧ hasP n x.c ∧ hasP n x.d then .double
  else if (k = 3 ∨ k = 2) ∧ hasP n x.a ∧ hasP n x.b ∧ hasP n x.c then .across
  else if (k = 3 ∨ k = 2 ∨ k = 1) ∧ hasP n x.a ∧ hasP n x.b then .middle
  else if (k = 3 ∨ k = 2 ∨ k = 1 ∨ k = 0) ∧ hasP n x.l then .last
  else .none
def tell (r : Rule) (x : Ar) (P : List Tri) (i : Nat) : Int :=
  match r with
  | .none => 0
  | .last => pc P x.l i
  | .middle => cutI (Int.tdiv (pc P x.a i + pc P x.b i) 2)
  | .across => cutI (pc P x.a i + pc P x.b i - pc P x.c i)
  | .double => cutI (Int.tdiv (2 * pc P x.a i + 2 * pc P x.b i - pc P x.c i - pc P x.d i) 2)
def pointL (k : Int) (x : Ar) (P : List Tri) (i : Nat) : Int := tell (ruleOf k x P.length) x P i
theorem pc_le (P : List Tri) (v : Int) (i : Nat) : -1048576 ≤ pc P v i ∧ pc P v i ≤ 1048576 := cut_le _
theorem tdiv_pos (x b : Int) (h : 0 ≤ x) : Int.tdiv x b = x / b := Int.tdiv_eq_ediv_of_nonneg h
theorem tdiv_neg (x b : Int) (h : x ≤ 0) : Int.tdiv x b = -((-x) / b) := by
  have h1 := Int.neg_tdiv (a := -x) (b := b)
  rw [Int.neg_neg] at h1
  rw [h1, tdiv_pos _ _ (by omega)]
theorem half_le {x : Int} {b : Int} (h0 : -2 * b ≤ x) (h1 : x ≤ 2 * b) : -b ≤ Int.tdiv x 2 ∧ Int.tdiv x 2 ≤ b := by
  by_cases h : 0 ≤ x
  · rw [tdiv_pos _ _ h]; omega
  · rw [tdiv_neg _ _ (by omega)]; omega
end Go.Proofs.Ytcpfolojfdnojaa
