/- Corners of triangles, in plain words; a table of them in memory. No condition. -/
import Derived.Test.YtdmibpcpocacpaaMapE8
import Derived.Test.YtdmibpcpocacpaaLonelyLaw
namespace Go.Proofs.Ytdmibpcpocacpaa
open Go.RowKit

set_option linter.unusedSimpArgs false
set_option linter.unusedVariables false
/-- The least number, from k on, of so many, of which this is true. -/
def leastF (p : Nat → Bool) : Nat → Nat → Option Nat
  | _, 0 => none
  | k, m + 1 => if p k then some k else leastF p (k + 1) m
theorem leastF_some {p : Nat → Bool} : ∀ {m k c : Nat}, leastF p k m = some c → k ≤ c ∧ c < k + m ∧ p c = true ∧ ∀ i, k ≤ i → i < c → p i = false
  | 0, k, c, h => by cases h
  | m + 1, k, c, h => by
    unfold leastF at h
    split at h
    · injection h with h
      subst h
      exact ⟨by omega, by omega, by assumption, fun i h1 h2 => by omega⟩
    · obtain ⟨h1, h2, h3, h4⟩ := leastF_some h
      refine ⟨by omega, by omega, h3, fun i h5 h6 => ?_⟩
      by_cases hi : i = k
      · subst hi
        simpa using ‹¬ p i = true›
      · exact h4 i (by omega) h6
theorem leastF_none {p : Nat → Bool} : ∀ {m k : Nat}, leastF p k m = none → ∀ i, k ≤ i → i < k + m → p i = false
  | 0, k, h, i, h1, h2 => by omega
  | m + 1, k, h, i, h1, h2 => by
    unfold leastF at h
    split at h
    · cases h
    · by_cases hi : i = k
      · subst hi
        simpa using ‹¬ p i = true›
      · exact leastF_none h i (by omega) (by omega)
theorem leastF_is {p : Nat → Bool} {m k c : Nat} (h1 : k ≤ c) (h2 : c < k + m) (h3 : p c = true) (h4 : ∀ i, k ≤ i → i < c → p i = false) : leastF p k m = some c := by
  cases h : leastF p k m with
  | none =>
    have := leastF_none h c h1 h2
    rw [h3] at this
    cases this
  | some d =>
    obtain ⟨g1, g2, g3, g4⟩ := leastF_some h
    rcases Nat.lt_trichotomy c d with h5 | h5 | h5
    · rw [g4 c h1 h5] at h3
      cases h3
    · rw [h5]
    · rw [h4 d g1 h5] at g3
      cases g3
theorem leastF_no {p : Nat → Bool} {m k : Nat} (h : ∀ i, k ≤ i → i < k + m → p i = false) : leastF p k m = none := by
  cases e : leastF p k m with
  | none => rfl
  | some d =>
    obtain ⟨g1, g2, g3, _⟩ := leastF_some e
    rw [h d g1 g2] at g3
    cases g3
theorem leastF_step {p : Nat → Bool} {k n : Nat} (h : k < n) : leastF p k (n - k) = if p k then some k else leastF p (k + 1) (n - (k + 1)) := by
  obtain ⟨m, hm⟩ : ∃ m, n - k = m + 1 := ⟨n - k - 1, by omega⟩
  rw [hm, show n - (k + 1) = m by omega]
  rfl
def optI : Option Nat → Int
  | none => -1
  | some c => (c : Int)
/-- The vertex at a corner; the next corner, the one ahead; the edge that it faces. -/
def cv (T : List Tri) (c : Nat) : Int := cornerT (tri T (c / 3)) (c % 3)
def nxc (c : Nat) : Nat := c - c % 3 + (c + 1) % 3
def pvc (c : Nat) : Nat := c - c % 3 + (c + 2) % 3
def ce (T : List Tri) (c : Nat) : Int × Int := (cv T (nxc c), cv T (pvc c))
theorem nxc_lt {c n : Nat} (h : c < 3 * n) : nxc c < 3 * n := by unfold nxc; omega
theorem pvc_lt {c n : Nat} (h : c < 3 * n) : pvc c < 3 * n := by unfold pvc; omega
def facingF (T : List Tri) (e : Int × Int) : Option Nat := leastF (fun c => decide (ce T c = e)) 0 (3 * T.length)
def cornerF (T : List Tri) (v : Int) : Option Nat := leastF (fun c => decide (cv T c = v)) 0 (3 * T.length)
/-- What is told of any number as a corner. -/
def isC (n : Nat) (c : Int) : Prop := 0 ≤ c ∧ c < 3 * (n : Int)
instance (n : Nat) (c : Int) : Decidable (isC n c) := inferInstanceAs (Decidable (_ ∧ _))
def vertexI (T : List Tri) (c : Int) : Int := if isC T.length c then cv T c.toNat else -1
def nextI (n : Nat) (c : Int) : Int := if isC n c then (nxc c.toNat : Int) else -1
def prevI (n : Nat) (c : Int) : Int := if isC n c then (pvc c.toNat : Int) else -1
def edgeI (T : List Tri) (c : Int) : Int × Int := (vertexI T (nextI T.length c), vertexI T (prevI T.length c))
def facingI (T : List Tri) (e : Int × Int) : Int := optI (facingF T e)
def oppI (T : List Tri) (c : Int) : Int := facingI T ((edgeI T c).2, (edgeI T c).1)
def cornerI (T : List Tri) (m : Nat) (v : Int) : Int := if 0 ≤ v ∧ v < (m : Int) then optI (cornerF T v) else -1
theorem vertexI_nat {T : List Tri} {c : Nat} (h : c < 3 * T.length) : vertexI T (c : Int) = cv T c := by
  unfold vertexI
  rw [if_pos ⟨by omega, by omega⟩]
  rfl
theorem nextI_nat {n c : Nat} (h : c < 3 * n) : nextI n (c : Int) = (nxc c : Int) := by
  unfold nextI
  rw [if_pos ⟨by omega, by omega⟩]
  rfl
theorem prevI_nat {n c : Nat} (h : c < 3 * n) : prevI n (c : Int) = (pvc c : Int) := by
  unfold prevI
  rw [if_pos ⟨by omega, by omega⟩]
  rfl
theorem edgeI_nat {T : List Tri} {c : Nat} (h : c < 3 * T.length) : edgeI T (c : Int) = ce T c := by
  unfold edgeI ce
  rw [nextI_nat h, prevI_nat h, vertexI_nat (nxc_lt h), vertexI_nat (pvc_lt h)]
theorem not_c {n : Nat} : ¬ isC n (-1) := by rintro ⟨h, _⟩; omega
theorem edgeI_not {T : List Tri} {c : Int} (h : ¬ isC T.length c) : edgeI T c = (-1, -1) := by
  unfold edgeI nextI prevI
  rw [if_neg h, if_neg h]
  unfold vertexI
  rw [if_neg not_c]
open Classical in
/-- What stands at a key, when the corners from k on are entered. -/
noncomputable def facesV (T : List Tri) (k : Nat) (x : Value) : Option Value := (leastF (fun c => decide (encE (ce T c) = x)) k (3 * T.length - k)).map fun c : Nat => .int .i64 (c : Int)
open Classical in
theorem facesV_end (T : List Tri) : facesV T (3 * T.length) = fun _ => none := by
  funext x
  unfold facesV
  rw [Nat.sub_self]
  rfl
open Classical in
theorem facesV_step {T : List Tri} {k : Nat} (h : k < 3 * T.length) : putV (facesV T (k + 1)) (encE (ce T k)) (.int .i64 (k : Int)) = facesV T k := by
  funext x
  by_cases hx : x = encE (ce T k)
  · subst hx
    rw [putV_same]
    unfold facesV
    rw [leastF_step h, if_pos (by simp)]
    rfl
  · rw [putV_ne _ _ hx]
    unfold facesV
    rw [leastF_step h, if_neg (by simpa using fun e => hx e.symm)]
open Classical in
theorem facesV_zero (T : List Tri) (e : Int × Int) : facesV T 0 (encE e) = (facingF T e).map fun c : Nat => .int .i64 (c : Int) := by
  have hp : (fun c => decide (encE (ce T c) = encE e)) = fun c => decide (ce T c = e) := by
    funext c
    by_cases h : ce T c = e
    · simp [h]
    · have : ¬ encE (ce T c) = encE e := fun h2 => h (encE_inj h2)
      simp [h, this]
  unfold facesV facingF
  rw [hp, Nat.sub_zero]
/-- Cells of numbers. -/
def ints (L : List Int) : Array Value := (L.map (Value.int .i64)).toArray
theorem ints_at {L : List Int} {k : Nat} {x : Int} (h : L[k]? = some x) : (ints L)[k]? = some (.int .i64 x) := by simp [ints, h]
theorem ints_set (L : List Int) (k : Nat) (x : Int) : (ints L).setIfInBounds k (.int .i64 x) = ints (L.set k x) := by simp [ints, List.map_set]
theorem madeInts (m : Nat) : madeCells (Value.int .i64 0).cells m = ints (List.replicate m 0) := by
  apply Array.ext'
  refine List.ext_getElem? fun i => ?_
  by_cases hi : i < m
  · simp [madeCells, ints, hi, Value.cells, Nat.mod_one]
  · simp [madeCells, ints, hi, Value.cells]
/-- A table at block g, all of it above block B. -/
structure TabAt (w : World) (B g : Nat) (N : Int) (T : List Tri) : Prop where
  at_ : ∃ (A : Option Addr) (c b n gf m : Nat) (L : List Int), Blk w g 61 #[.int .i64 N, .slice A T.length c, .map (some b), .slice (some ⟨gf, 0, none⟩) m m] ∧ B ≤ g ∧ B ≤ b ∧ B ≤ gf ∧
    LRow w B A c T ∧ MapV Try.prog 31 w b n (facesV T 0) ∧ Blk w gf 3 (ints L) ∧ N = (m : Int) ∧ L.length = m ∧ ∀ v, v < m → L[v]? = some (optI (cornerF T (v : Int)))
theorem TabAt.below {w w' : World} {B g : Nat} {N : Int} {T : List Tri} (h : TabAt w B g N T) (hb : Below w.heap.size w w') : TabAt w' B g N T := by
  obtain ⟨A, c, b, n, gf, m, L, h1, h2, h3, h4, h5, h6, h7, h8, h9, h10⟩ := h.at_
  exact ⟨A, c, b, n, gf, m, L, blk_call h1 hb, h2, h3, h4, h5.below hb, h6.below hb h6.lt, blk_call h7 hb, h8, h9, h10⟩
theorem TabAt.alloc {w : World} {B g : Nat} {N : Int} {T : List Tri} (h : TabAt w B g N T) (o : Obj) : TabAt (w.alloc o) B g N T := h.below (bw_alloc (Below.refl _ _) o)
theorem TabAt.drew {w : World} {B g : Nat} {N : Int} {T : List Tri} (h : TabAt w B g N T) : TabAt w.drew B g N T := by
  obtain ⟨A, c, b, n, gf, m, L, h1, h2, h3, h4, h5, h6, h7, h8, h9, h10⟩ := h.at_
  exact ⟨A, c, b, n, gf, m, L, h1.drew, h2, h3, h4, h5.drew, h6.drew, h7.drew, h8, h9, h10⟩
theorem TabAt.base {w : World} {B B' g : Nat} {N : Int} {T : List Tri} (h : TabAt w B g N T) (hB : B' ≤ B) : TabAt w B' g N T := by
  obtain ⟨A, c, b, n, gf, m, L, h1, h2, h3, h4, h5, h6, h7, h8, h9, h10⟩ := h.at_
  exact ⟨A, c, b, n, gf, m, L, h1, by omega, by omega, by omega, h5.base hB, h6, h7, h8, h9, h10⟩
theorem TabAt.lt {w : World} {B g : Nat} {N : Int} {T : List Tri} (h : TabAt w B g N T) : g < w.heap.size := by
  obtain ⟨A, c, b, n, gf, m, L, h1, _⟩ := h.at_
  exact h1.lt
/-- The surface in a table, whatever else stands there. -/
structure TabS (w : World) (B g : Nat) (N : Int) (T : List Tri) : Prop where
  at_ : ∃ (A : Option Addr) (c : Nat) (x2 x3 : Value), Blk w g 61 #[.int .i64 N, .slice A T.length c, x2, x3] ∧ LRow w B A c T
theorem TabS.below {w w' : World} {B g : Nat} {N : Int} {T : List Tri} (h : TabS w B g N T) (hb : Below w.heap.size w w') : TabS w' B g N T := by
  obtain ⟨A, c, x2, x3, h1, h2⟩ := h.at_
  exact ⟨A, c, x2, x3, blk_call h1 hb, h2.below hb⟩
theorem TabS.alloc {w : World} {B g : Nat} {N : Int} {T : List Tri} (h : TabS w B g N T) (o : Obj) : TabS (w.alloc o) B g N T := h.below (bw_alloc (Below.refl _ _) o)
theorem TabS.drew {w : World} {B g : Nat} {N : Int} {T : List Tri} (h : TabS w B g N T) : TabS w.drew B g N T := by
  obtain ⟨A, c, x2, x3, h1, h2⟩ := h.at_
  exact ⟨A, c, x2, x3, h1.drew, h2.drew⟩
theorem TabAt.s {w : World} {B g : Nat} {N : Int} {T : List Tri} (h : TabAt w B g N T) : TabS w B g N T := by
  obtain ⟨A, c, b, n, gf, m, L, h1, h2, h3, h4, h5, _⟩ := h.at_
  exact ⟨A, c, _, _, h1, h5⟩
def EdPost (w : World) (v : Int × Int) (e : Ending) (w' : World) : Prop := e = .returned (.agg #[.int .i64 v.1, .int .i64 v.2]) ∧ Below w.heap.size w w'
theorem edge_facts {w : World} {g : Nat} {x y : Value} (h : Blk w g 31 #[x, y]) : w.cell? ⟨g, 0, none⟩ = some x ∧ w.cell? ⟨g, 1, none⟩ = some y ∧ w.frozen? ⟨g, 0, none⟩ = false ∧ w.frozen? ⟨g, 1, none⟩ = false :=
  ⟨h.cell 0, h.cell 1, h.frozen 0, h.frozen 1⟩
theorem edge_set {w : World} {g : Nat} {x y : Value} (h : Blk w g 31 #[x, y]) (u v : Value) : Blk ((w.setCell ⟨g, 0, none⟩ u).setCell ⟨g, 1, none⟩ v) g 31 #[u, v] := by
  simpa using (h.set_ 0 u).set_ 1 v
/-- What most answers are: a number, nothing below changed. -/
def IntPost (w : World) (v : Int) (e : Ending) (w' : World) : Prop := e = .returned (.int .i64 v) ∧ Below w.heap.size w w'
def IsPost (w : World) (v : Value) (e : Ending) (w' : World) : Prop := e = .returned v ∧ w' = w
end Go.Proofs.Ytdmibpcpocacpaa
