/- Soups in a row, and what they are together. No condition. -/
import Derived.Test.YtmmjonpkpeanpaaRefE8
import Derived.Test.YtmmjonpkpeanpaaOpenS
import Derived.Deep.SlicePairs
namespace Go.Proofs.Ytmmjonpkpeanpaa
open Go.ChangeShapes Go.WideShapes Go.ChangeAt Go.RowKit

set_option linter.unusedVariables false
structure Sp where
  N : Int
  A : Option Addr
  c : Nat
  T : List Tri
def Sp.cells (s : Sp) : List Value := [.int .i64 s.N, .slice s.A s.T.length s.c]
structure SoupsAt (w : World) (B : Nat) (A : Option Addr) (n : Nat) (l : List Sp) : Prop where
  row : Reads w B 2 A n (l.flatMap Sp.cells)
  tris : ∀ s ∈ l, TrisAt w B s.A s.T.length s.T
theorem SoupsAt.len {w : World} {B : Nat} {A : Option Addr} {n : Nat} {l : List Sp} (h : SoupsAt w B A n l) : l.length = n := by
  have := h.row.1
  rw [flatMap_len 2 _ (fun _ => rfl)] at this
  omega
theorem SoupsAt.below {w w' : World} {B : Nat} {A : Option Addr} {n : Nat} {l : List Sp} (h : SoupsAt w B A n l) (hb : Below B w w') : SoupsAt w' B A n l := ⟨h.row.below hb, fun s hs => (h.tris s hs).below hb⟩
theorem SoupsAt.more {w : World} {B B' : Nat} {A : Option Addr} {n : Nat} {l : List Sp} (h : SoupsAt w B A n l) (hb : B ≤ B') : SoupsAt w B' A n l := ⟨h.row.more hb, fun s hs => (h.tris s hs).more hb⟩
theorem SoupsAt.at_ {w : World} {B : Nat} {A : Option Addr} {n : Nat} {l : List Sp} (h : SoupsAt w B A n l) {k : Nat} (hk : k < n) :
    ∃ ad s, A = some ad ∧ l[k]? = some s ∧ ad.block < B ∧ Cells2 w (ad.add (k * 2)) (.int .i64 s.N) (.slice s.A s.T.length s.c) ∧ TrisAt w B s.A s.T.length s.T := by
  obtain ⟨ad, e, hb, hc⟩ := h.row.2 (by omega)
  have hl : k < l.length := by rw [h.len]; exact hk
  have hp : l[k]? = some l[k] := List.getElem?_eq_getElem hl
  have h0 := flatMap_at 2 Sp.cells (fun _ => rfl) l k 0 _ hp (by omega)
  have h1 := flatMap_at 2 Sp.cells (fun _ => rfl) l k 1 _ hp (by omega)
  refine ⟨ad, l[k], e, hp, hb, cells2 (hc _ _ h0) ?_, h.tris _ (List.getElem_mem hl)⟩
  rw [add_of_add]
  exact hc _ _ h1
theorem cells2_below {w w' : World} {B : Nat} {q : Addr} {x y : Value} (h : Cells2 w q x y) (hb : Below B w w') (hq : q.block < B) : Cells2 w' q x y :=
  ⟨(hb.cell hq).trans h.c0, (hb.cell (p := q.add 1) (by rw [block_of_add]; exact hq)).trans h.c1, (hb.cell (p := ⟨q.block, q.off, none⟩) hq).trans h.f0, (hb.cell (p := ⟨q.block, q.off + 1, none⟩) hq).trans h.f1⟩
/-- A row of soups that came in. -/
theorem open_soups {H : Type} {enc : TypeId × Value → H} {w : World} {base : Nat} {spare : Nat → Bool} {held : Bool} {fuel : Nat} {v : Value} {x : DataW H × List MemPlace}
    (h : DataW.trod enc Try.prog w base spare held fuel 43 [v] = some x) :
    ∃ (A : Option Addr) (n c : Nat) (l : List Sp), v = .slice A n c ∧ n ≤ c ∧ c ≤ maxLen ∧ SoupsAt w w.heap.size A n l := by
  rcases Deep.open_slice_pairs Try.underlying43 Try.underlying24 (by kernel_rfl) rfl rfl (by kernel_rfl) (by kernel_rfl) h with ⟨hcs, _⟩ | ⟨a, n, c, m, f, V0, V1, D0, D1, P0, P1, hcs, _, hl, hm, hmm, _, hx⟩
  · simp at hcs
    exact ⟨none, 0, 0, [], hcs, Nat.le_refl _, Nat.zero_le _, ⟨Reads.none_, fun s hs => by cases hs⟩⟩
  · simp at hcs
    have hnm : n ≤ m := by rw [hmm]; split <;> omega
    have key : ∀ i, i < n → ∃ s : Sp, w.cell? (a.add (i * 2)) = some (.int .i64 s.N) ∧ w.cell? (a.add (i * 2 + 1)) = some (.slice s.A s.T.length s.c) ∧ TrisAt w w.heap.size s.A s.T.length s.T := by
      intro i hi
      obtain ⟨h0, h1, t0, t1⟩ := hx i (by omega)
      obtain ⟨z, e0, _, _⟩ := DataW.trod_int Try.underlying3 t0
      obtain ⟨A, n', c', T, hv, _, _, hT, _⟩ := open_tris t1
      injection e0 with e0 _
      obtain rfl : n' = T.length := hT.len.symm
      exact ⟨⟨z, A, c', T⟩, by rw [h0, e0], by rw [h1, hv], hT⟩
    haveI : Inhabited Sp := ⟨⟨0, none, 0, []⟩⟩
    obtain ⟨F, hF⟩ := Deep.choose_lt key
    refine ⟨some a, n, c, (List.range n).map F, hcs, hl, hm, ⟨?_, fun hn => ⟨a, rfl, ?_, fun j u hj => ?_⟩⟩, fun t ht => ?_⟩
    · rw [flatMap_len 2 _ (fun _ => rfl)]; simp
    · have := World.block_lt_of_cell? w _ (hF 0 hn).1
      rwa [block_of_add] at this
    · have hj2 : j < n * 2 := by
        have := (List.getElem?_eq_some_iff.1 hj).1
        rw [flatMap_len 2 _ (fun _ => rfl)] at this
        simpa using this
      have hi : j / 2 < n := (Nat.div_lt_iff_lt_mul (by omega)).2 hj2
      have h1 := flatMap_at 2 Sp.cells (fun _ => rfl) ((List.range n).map F) (j / 2) (j % 2) (F (j / 2)) (by simp [hi]) (Nat.mod_lt _ (by omega))
      have e : j / 2 * 2 + j % 2 = j := by rw [Nat.mul_comm]; exact Nat.div_add_mod j 2
      rw [e, hj] at h1
      have h2 := hF (j / 2) hi
      rcases (by omega : j % 2 = 0 ∨ j % 2 = 1) with h3 | h3
      · rw [h3] at h1
        rw [show j = j / 2 * 2 by omega, h2.1]
        exact h1.symm
      · rw [h3] at h1
        rw [show j = j / 2 * 2 + 1 by omega, h2.2.1]
        exact h1.symm
    · obtain ⟨i, hi, rfl⟩ := List.mem_map.1 ht
      exact (hF i (List.mem_range.1 hi)).2.2
/-- What soups are together. -/
def shT (N : Int) (t : Tri) : Tri := ⟨t.a + N, t.b + N, t.c + N⟩
def joinStep (r : Int × List Tri) (s : Sp) : Int × List Tri := (r.1 + s.N, r.2 ++ s.T.map (shT r.1))
def joinS (l : List Sp) : Int × List Tri := l.foldl joinStep (0, [])
def allFit (l : List Sp) : Bool := l.all fun s => fitL s.N s.T
def joinL (l : List Sp) : Int × List Tri × Int := if allFit l = false then (0, [], 1) else if 4096 < (joinS l).1 then (0, [], 7) else ((joinS l).1, (joinS l).2, 0)
theorem take_snoc_S (l : List Sp) (k : Nat) {s : Sp} (h : l[k]? = some s) : l.take (k + 1) = l.take k ++ [s] := by
  rw [List.take_add_one, h]
  rfl
theorem joinS_succ (l : List Sp) (k : Nat) {s : Sp} (h : l[k]? = some s) : joinS (l.take (k + 1)) = joinStep (joinS (l.take k)) s := by
  rw [take_snoc_S l k h]
  unfold joinS
  rw [List.foldl_append]
  rfl
theorem joinS_le (l m : List Sp) (h : ∀ s ∈ m, 0 ≤ s.N) : ∀ r : Int × List Tri, r.1 ≤ (m.foldl joinStep r).1 := by
  induction m with
  | nil => exact fun r => Int.le_refl _
  | cons s m ih =>
    intro r
    rw [List.foldl_cons]
    have h1 := ih (fun x hx => h x (List.mem_cons_of_mem _ hx)) (joinStep r s)
    have h2 := h s (List.mem_cons_self ..)
    have h3 : (joinStep r s).1 = r.1 + s.N := rfl
    omega
theorem joinS_take (l : List Sp) (h : ∀ s ∈ l, 0 ≤ s.N) (k : Nat) : (joinS (l.take k)).1 ≤ (joinS l).1 := by
  have h1 := joinS_le l (l.drop k) (fun s hs => h s (List.mem_of_mem_drop hs)) (joinS (l.take k))
  have h2 : (l.drop k).foldl joinStep (joinS (l.take k)) = joinS l := by
    unfold joinS
    rw [← List.foldl_append, List.take_append_drop]
  rw [h2] at h1
  exact h1
theorem joinS_bound (l : List Sp) (h : ∀ s ∈ l, 0 ≤ s.N ∧ s.N ≤ 4096) : ∀ k, k ≤ l.length → 0 ≤ (joinS (l.take k)).1 ∧ (joinS (l.take k)).1 ≤ 4096 * k := by
  intro k
  induction k with
  | zero => intro _; simp [joinS]
  | succ k ih =>
    intro hk
    have hp : l[k]? = some l[k] := List.getElem?_eq_getElem (by omega)
    have h1 := ih (by omega)
    have h2 := h _ (List.getElem_mem (show k < l.length by omega))
    rw [joinS_succ l k hp]
    have h3 : (joinStep (joinS (l.take k)) l[k]).1 = (joinS (l.take k)).1 + l[k].N := rfl
    omega
theorem joinS_len (l : List Sp) (m : Nat) (h : ∀ s ∈ l, s.T.length ≤ m) : ∀ k, k ≤ l.length → (joinS (l.take k)).2.length ≤ m * k := by
  intro k
  induction k with
  | zero => intro _; simp [joinS]
  | succ k ih =>
    intro hk
    have hp : l[k]? = some l[k] := List.getElem?_eq_getElem (by omega)
    have h1 := ih (by omega)
    have h2 := h _ (List.getElem_mem (show k < l.length by omega))
    rw [joinS_succ l k hp]
    have h3 : (joinStep (joinS (l.take k)) l[k]).2.length = (joinS (l.take k)).2.length + l[k].T.length := by simp [joinStep]
    rw [h3, Nat.mul_succ]
    omega
theorem allFit_take {l : List Sp} (h : allFit l = true) {k : Nat} {s : Sp} (hk : l[k]? = some s) : fitL s.N s.T = true := by
  unfold allFit at h
  rw [List.all_eq_true] at h
  exact h s (List.mem_of_getElem? hk)
theorem joinL_bad {l : List Sp} {k : Nat} {s : Sp} (hk : l[k]? = some s) (hf : fitL s.N s.T = false) : joinL l = (0, [], 1) := by
  unfold joinL
  rw [if_pos]
  unfold allFit
  rw [← Bool.not_eq_true, List.all_eq_true]
  intro h
  rw [h s (List.mem_of_getElem? hk)] at hf
  cases hf
theorem joinL_full {l : List Sp} (hf : allFit l = true) (h : 4096 < (joinS l).1) : joinL l = (0, [], 7) := by
  unfold joinL
  rw [if_neg (by rw [hf]; simp), if_pos h]
theorem joinL_ok {l : List Sp} (hf : allFit l = true) (h : ¬ 4096 < (joinS l).1) : joinL l = ((joinS l).1, (joinS l).2, 0) := by
  unfold joinL
  rw [if_neg (by rw [hf]; simp), if_neg h]
theorem allFit_snoc {l : List Sp} {k : Nat} {s : Sp} (h : allFit (l.take k) = true) (hk : l[k]? = some s) (hf : fitL s.N s.T = true) : allFit (l.take (k + 1)) = true := by
  rw [take_snoc_S l k hk]
  unfold allFit at *
  rw [List.all_append, h]
  simp [hf]
theorem allFit_N {l : List Sp} (h : allFit l = true) : ∀ s ∈ l, 0 ≤ s.N ∧ s.N ≤ 4096 := fun s hs => by
  unfold allFit at h
  rw [List.all_eq_true] at h
  have := fit_N (h s hs)
  omega
end Go.Proofs.Ytmmjonpkpeanpaa
