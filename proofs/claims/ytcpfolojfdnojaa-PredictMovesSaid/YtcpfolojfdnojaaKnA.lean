/- What is around each vertex: plain words; rows of them. No condition. -/
import Derived.Test.YtcpfolojfdnojaaPtA
import Derived.Test.YtcpfolojfdnojaaCornerB
namespace Go.Proofs.Ytcpfolojfdnojaa
open Go.RowKit

set_option linter.unusedSimpArgs false
set_option linter.unusedVariables false
def fld (x : Ar) (j : Nat) : Int := if j = 0 then x.l else if j = 1 then x.a else if j = 2 then x.b else if j = 3 then x.c else x.d
def setfld (x : Ar) (j : Nat) (u : Int) : Ar := if j = 0 then { x with l := u } else if j = 1 then { x with a := u } else if j = 2 then { x with b := u } else if j = 3 then { x with c := u } else { x with d := u }
theorem fld_set {x : Ar} {j i : Nat} {u : Int} (hj : j < 5) (hi : i < 5) : fld (setfld x j u) i = if i = j then u else fld x i := by
  rcases (by omega : j = 0 ∨ j = 1 ∨ j = 2 ∨ j = 3 ∨ j = 4) with rfl | rfl | rfl | rfl | rfl <;> rcases (by omega : i = 0 ∨ i = 1 ∨ i = 2 ∨ i = 3 ∨ i = 4) with rfl | rfl | rfl | rfl | rfl <;> rfl
def updF (f : Nat → Ar) (v : Nat) (x : Ar) : Nat → Ar := fun k => if k = v then x else f k
/-- A row of them. -/
def arr (m : Nat) (f : Nat → Ar) : Array Value := ((List.range (5 * m)).map fun i => Value.int .i64 (fld (f (i / 5)) (i % 5))).toArray
theorem arr_size (m : Nat) (f : Nat → Ar) : (arr m f).size = 5 * m := by simp [arr]
theorem arr_get {m i : Nat} (f : Nat → Ar) (h : i < 5 * m) : (arr m f)[i]? = some (.int .i64 (fld (f (i / 5)) (i % 5))) := by simp [arr, h]
theorem arr_at {m v j : Nat} (f : Nat → Ar) (hv : v < m) (hj : j < 5) : (arr m f)[v * 5 + j]? = some (.int .i64 (fld (f v) j)) := by
  rw [arr_get f (by omega), show (v * 5 + j) / 5 = v by omega, show (v * 5 + j) % 5 = j by omega]
theorem arr_set {m v j : Nat} (f : Nat → Ar) (u : Int) (hv : v < m) (hj : j < 5) : (arr m f).setIfInBounds (v * 5 + j) (.int .i64 u) = arr m (updF f v (setfld (f v) j u)) := by
  apply Array.ext'
  refine List.ext_getElem? fun i => ?_
  rw [Array.getElem?_toList, Array.getElem?_toList]
  by_cases hi : i < 5 * m
  · rw [Array.getElem?_setIfInBounds, arr_get _ hi, arr_get _ hi, arr_size]
    by_cases e : v * 5 + j = i
    · subst e
      rw [if_pos rfl, if_pos (by omega), show (v * 5 + j) / 5 = v by omega, show (v * 5 + j) % 5 = j by omega]
      unfold updF
      rw [if_pos rfl, fld_set hj hj, if_pos rfl]
    · rw [if_neg e]
      unfold updF
      by_cases e2 : i / 5 = v
      · rw [if_pos e2, fld_set hj (Nat.mod_lt _ (by omega)), if_neg (by omega), e2]
      · rw [if_neg e2]
  · rw [Array.getElem?_eq_none (by rw [Array.size_setIfInBounds, arr_size]; omega), Array.getElem?_eq_none (by rw [arr_size]; omega)]
theorem arr_congr {m : Nat} {f f' : Nat → Ar} (h : ∀ v, v < m → f v = f' v) : arr m f = arr m f' := by
  unfold arr
  congr 1
  refine List.map_congr_left fun i hi => ?_
  rw [h (i / 5) (by have := List.mem_range.1 hi; omega)]
theorem madeAr (m : Nat) : madeCells (Value.agg #[.int .i64 0, .int .i64 0, .int .i64 0, .int .i64 0, .int .i64 0]).cells (m * 5) = arr m fun _ => ⟨0, 0, 0, 0, 0⟩ := by
  apply Array.ext'
  refine List.ext_getElem? fun i => ?_
  by_cases hi : i < 5 * m
  · have h2 : i < m * 5 := by omega
    rcases (by omega : i % 5 = 0 ∨ i % 5 = 1 ∨ i % 5 = 2 ∨ i % 5 = 3 ∨ i % 5 = 4) with e | e | e | e | e <;> simp [madeCells, arr, hi, h2, Value.cells, e, fld]
  · have h2 : ¬ i < m * 5 := by omega
    simp [madeCells, arr, hi, h2, Value.cells]
/-- The third vertex of the triangle with a directed edge, if it is below another one. -/
def overI (T : List Tri) (a b below : Int) : Int := if facingI T (a, b) < 0 ∨ below ≤ vertexI T (facingI T (a, b)) then -1 else vertexI T (facingI T (a, b))
def topB (T : List Tri) (v : Int) (c : Nat) : Bool := decide (cv T c = v ∧ cv T (nxc c) < v ∧ cv T (pvc c) < v)
/-- What is around a vertex, if a corner tells it. -/
def arOf (T : List Tri) (v : Int) (c : Nat) : Ar :=
  let a := cv T (nxc c); let b := cv T (pvc c); let x := overI T b a v
  ⟨v - 1, a, b, x, if x < 0 then -1 else if overI T b x v < 0 then overI T x a v else overI T b x v⟩
def ar0 (v : Int) : Ar := ⟨v - 1, -1, -1, -1, -1⟩
def knK (T : List Tri) (k : Nat) (v : Nat) : Ar := match leastF (topB T (v : Int)) 0 k with | none => ar0 v | some c => arOf T v c
def known (T : List Tri) (v : Nat) : Ar := knK T (3 * T.length) v
theorem leastF_snoc (p : Nat → Bool) (k : Nat) : leastF p 0 (k + 1) = match leastF p 0 k with | some c => some c | none => if p k then some k else none := by
  cases h : leastF p 0 k with
  | some c =>
    obtain ⟨h1, h2, h3, h4⟩ := leastF_some h
    exact leastF_is h1 (by omega) h3 h4
  | none =>
    have h1 := leastF_none h
    by_cases hp : p k = true
    · rw [if_pos hp]
      exact leastF_is (Nat.zero_le _) (by omega) hp fun i hi h2 => h1 i hi (by omega)
    · rw [if_neg hp]
      refine leastF_no fun i hi h2 => ?_
      by_cases e : i = k
      · subst e; simpa using hp
      · exact h1 i hi (by omega)
theorem knK_zero (T : List Tri) : knK T 0 = fun v : Nat => ar0 (v : Int) := rfl
theorem knK_other {T : List Tri} {k v : Nat} (h : topB T (v : Int) k = false) : knK T (k + 1) v = knK T k v := by
  unfold knK
  rw [leastF_snoc]
  cases leastF (topB T (v : Int)) 0 k with
  | some c => rfl
  | none => simp [h]
theorem knK_had {T : List Tri} {k v c : Nat} (h : leastF (topB T (v : Int)) 0 k = some c) : knK T (k + 1) v = knK T k v := by
  unfold knK
  rw [leastF_snoc, h]
theorem knK_new {T : List Tri} {k v : Nat} (h : leastF (topB T (v : Int)) 0 k = none) (ht : topB T (v : Int) k = true) : knK T k v = ar0 v ∧ knK T (k + 1) v = arOf T v k := by
  constructor
  · unfold knK
    rw [h]
  · unfold knK
    rw [leastF_snoc, h]
    simp [ht]
theorem knK_step {T : List Tri} {k v : Nat} (hv : cv T k = (v : Int)) : knK T (k + 1) = updF (knK T k) v (knK T (k + 1) v) := by
  funext u
  unfold updF
  by_cases e : u = v
  · subst e; rw [if_pos rfl]
  · rw [if_neg e]
    refine knK_other ?_
    unfold topB
    simp only [decide_eq_false_iff_not]
    rintro ⟨h, _⟩
    omega
theorem updF_same (f : Nat → Ar) (v : Nat) : updF f v (f v) = f := by
  funext u
  unfold updF
  by_cases e : u = v
  · subst e; rw [if_pos rfl]
  · rw [if_neg e]
theorem updF_upd (f : Nat → Ar) (v : Nat) (x y : Ar) : updF (updF f v x) v y = updF f v y := by
  funext u
  unfold updF
  by_cases e : u = v
  · rw [if_pos e, if_pos e]
  · rw [if_neg e, if_neg e, if_neg e]
theorem updF_at (f : Nat → Ar) (v : Nat) (x : Ar) : updF f v x v = x := by unfold updF; rw [if_pos rfl]
end Go.Proofs.Ytcpfolojfdnojaa
