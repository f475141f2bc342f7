/- Triangles in memory: a slice of them reads as a list. No condition. -/
import Derived.Test.YtdpgbccgngdapaaApp
namespace Go.Proofs.Ytdpgbccgngdapaa
open Go.RowKit

theorem cell_spot {w : World} {q : Addr} {v : Value} (h : w.cell? q = some v) : q = ⟨q.block, q.off, none⟩ := by
  obtain ⟨b, o, p⟩ := q
  cases p with
  | none => rfl
  | some p =>
    unfold World.cell? at h
    split at h
    · simp at h
    · cases h

/-- A triangle. -/
structure Tri where
  a : Int
  b : Int
  c : Int
def Tri.cells (t : Tri) : List Value := [.int .i64 t.a, .int .i64 t.b, .int .i64 t.c]
theorem tri_eq {t u : Tri} (h1 : t.a = u.a) (h2 : t.b = u.b) (h3 : t.c = u.c) : t = u := by
  cases t; cases u; simp at h1 h2 h3; subst h1 h2 h3; rfl
theorem flatMap_len (m : Nat) {α : Type} (f : α → List Value) (hf : ∀ a, (f a).length = m) : ∀ l : List α, (l.flatMap f).length = l.length * m
  | [] => by simp
  | a :: l => by rw [List.flatMap_cons, List.length_append, hf, flatMap_len m f hf l, List.length_cons, Nat.add_mul]; omega
theorem flatMap_at (m : Nat) {α : Type} (f : α → List Value) (hf : ∀ a, (f a).length = m) : ∀ (l : List α) (k j : Nat) (a : α), l[k]? = some a → j < m → (l.flatMap f)[k * m + j]? = (f a)[j]?
  | [], k, j, a, h, _ => by simp at h
  | b :: l, 0, j, a, h, hj => by
    simp at h
    subst h
    rw [List.flatMap_cons, List.getElem?_append_left (by rw [hf]; omega)]
    simp
  | b :: l, k + 1, j, a, h, hj => by
    have := flatMap_at m f hf l k j a (by simpa using h) hj
    rw [List.flatMap_cons, List.getElem?_append_right (by rw [hf, Nat.add_mul]; omega), hf, ← this]
    congr 1
    rw [Nat.add_mul]
    omega

/-- Three cells in a row. -/
structure Cells3 (w : World) (q : Addr) (x y z : Value) : Prop where
  c0 : w.cell? q = some x
  c1 : w.cell? (q.add 1) = some y
  c2 : w.cell? (q.add 2) = some z
  f0 : w.cell? ⟨q.block, q.off, none⟩ = some x
  f1 : w.cell? ⟨q.block, q.off + 1, none⟩ = some y
  f2 : w.cell? ⟨q.block, q.off + 2, none⟩ = some z
theorem cells3 {w : World} {q : Addr} {x y z : Value} (h0 : w.cell? q = some x) (h1 : w.cell? (q.add 1) = some y) (h2 : w.cell? (q.add 2) = some z) : Cells3 w q x y z := by
  have e := cell_spot h0
  refine ⟨h0, h1, h2, ?_, ?_, ?_⟩
  · rw [← e]; exact h0
  · have e1 : q.add 1 = ⟨q.block, q.off + 1, none⟩ := by rw [e]; simp [Addr.add]
    rw [← e1]; exact h1
  · have e1 : q.add 2 = ⟨q.block, q.off + 2, none⟩ := by rw [e]; simp [Addr.add]
    rw [← e1]; exact h2
theorem Cells3.keep {w w' : World} {q : Addr} {x y z : Value} (h : Cells3 w q x y z) (hk : ∀ p : Addr, p.block = q.block → w'.cell? p = w.cell? p) : Cells3 w' q x y z :=
  ⟨(hk _ rfl).trans h.c0, (hk _ (block_of_add _ _)).trans h.c1, (hk _ (block_of_add _ _)).trans h.c2, (hk ⟨q.block, q.off, none⟩ rfl).trans h.f0, (hk ⟨q.block, q.off + 1, none⟩ rfl).trans h.f1, (hk ⟨q.block, q.off + 2, none⟩ rfl).trans h.f2⟩
theorem Cells3.below {w w' : World} {q : Addr} {x y z : Value} {B : Nat} (h : Cells3 w q x y z) (hb : Below B w w') (hq : q.block < B) : Cells3 w' q x y z :=
  h.keep fun p hp => hb.cell (by omega)

/-- A slice of triangles. -/
structure TrisAt (w : World) (B : Nat) (A : Option Addr) (n : Nat) (T : List Tri) : Prop where
  row : Reads w B 3 A n (T.flatMap Tri.cells)
  len : T.length = n
section
variable {w w' : World} {B n : Nat} {A : Option Addr} {T : List Tri}
theorem TrisAt.mk_ (h : Reads w B 3 A n (T.flatMap Tri.cells)) : TrisAt w B A n T := by
  refine ⟨h, ?_⟩
  have := h.1
  rw [flatMap_len 3 _ (fun _ => rfl)] at this
  omega
theorem TrisAt.below (h : TrisAt w B A n T) (hb : Below B w w') : TrisAt w' B A n T := ⟨h.row.below hb, h.len⟩
theorem TrisAt.drewN (h : TrisAt w B A n T) (k : Nat) : TrisAt (w.drewN k) B A n T := ⟨h.row.drewN k, h.len⟩
theorem TrisAt.more {B' : Nat} (h : TrisAt w B A n T) (hB : B ≤ B') : TrisAt w B' A n T := ⟨h.row.more hB, h.len⟩
theorem TrisAt.at_ (h : TrisAt w B A n T) {k : Nat} (hk : k < n) :
    ∃ ad t, A = some ad ∧ T[k]? = some t ∧ t ∈ T ∧ ad.block < B ∧ Cells3 w (ad.add (k * 3)) (.int .i64 t.a) (.int .i64 t.b) (.int .i64 t.c) := by
  obtain ⟨ad, e, hb, hc⟩ := h.row.2 (by omega)
  have hl : k < T.length := by rw [h.len]; exact hk
  have hp : T[k]? = some T[k] := List.getElem?_eq_getElem hl
  have h0 := flatMap_at 3 Tri.cells (fun _ => rfl) T k 0 _ hp (by omega)
  have h1 := flatMap_at 3 Tri.cells (fun _ => rfl) T k 1 _ hp (by omega)
  have h2 := flatMap_at 3 Tri.cells (fun _ => rfl) T k 2 _ hp (by omega)
  refine ⟨ad, T[k], e, hp, List.getElem_mem hl, hb, cells3 (hc _ _ h0) ?_ ?_⟩
  · rw [add_of_add]; exact hc _ _ h1
  · rw [add_of_add]; exact hc _ _ h2
theorem TrisAt.cells (h : TrisAt w B A n T) {ad : Addr} (hA : A = some ad) {k : Nat} {t : Tri} (ht : T[k]? = some t) : Cells3 w (ad.add (k * 3)) (.int .i64 t.a) (.int .i64 t.b) (.int .i64 t.c) := by
  have hk : k < n := by rw [← h.len]; exact (List.getElem?_eq_some_iff.1 ht).1
  obtain ⟨ad', t', e, h1, _, _, h2⟩ := h.at_ hk
  rw [hA] at e; rw [ht] at h1
  injection e with e; injection h1 with h1
  subst e h1
  exact h2
theorem TrisAt.lt (h : TrisAt w B A n T) {ad : Addr} (hA : A = some ad) (hn : 0 < n) : ad.block < B := by
  obtain ⟨ad', e, hb, _⟩ := h.row.2 hn
  rw [hA] at e; injection e with e; subst e; exact hb
end
theorem reads_blk {w : World} {g : Nat} {t : TypeId} {cs : Array Value} {n size : Nat} (h : Blk w g t cs) (hs : cs.size = n * size) : Reads w (g + 1) size (some ⟨g, 0, none⟩) n cs.toList := by
  refine ⟨by simpa using hs, fun _ => ⟨_, rfl, by simp, fun j u hj => ?_⟩⟩
  have e : (⟨g, 0, none⟩ : Addr).add j = ⟨g, j, none⟩ := by unfold Addr.add; split <;> simp_all
  rw [e, h.cell j]
  simpa using hj
theorem reads_newN (w : World) (cs : Array Value) (t : TypeId) (n size : Nat) {g : Nat} (hs : cs.size = n * size) (hg : w.heap.size = g) : Reads (w.alloc (.cells cs t)) (g + 1) size (some ⟨g, 0, none⟩) n cs.toList := by
  subst hg
  exact reads_new w cs t n size hs
/-- A witness, or any three numbers. -/
def w3 (x : Int × Int × Int) : List Value := [.int .i64 x.1, .int .i64 x.2.1, .int .i64 x.2.2]
/-- The numbers below k that a test takes, each as a witness of a kind. -/
def picks (kind : Int) (p : Nat → Bool) (k : Nat) : List (Int × Int × Int) := ((List.range k).filter p).map fun i : Nat => (kind, (i : Int), 0)
theorem picks_succ (kind : Int) (p : Nat → Bool) (k : Nat) : picks kind p (k + 1) = if p k then picks kind p k ++ [(kind, (k : Int), 0)] else picks kind p k := by
  unfold picks
  rw [List.range_succ, List.filter_append, List.map_append]
  by_cases h : p k <;> simp [h]
theorem picks_len (kind : Int) (p : Nat → Bool) (k : Nat) : (picks kind p k).length ≤ k := by
  unfold picks
  rw [List.length_map]
  exact Nat.le_trans (List.length_filter_le _ _) (by simp)
theorem take_snoc_ {α : Type} (l : List α) (k : Nat) {x : α} (h : l[k]? = some x) : l.take (k + 1) = l.take k ++ [x] := by
  obtain ⟨hk, e⟩ := List.getElem?_eq_some_iff.1 h
  rw [List.take_succ_eq_append_getElem hk, e]
theorem w3_snoc (l : List (Int × Int × Int)) (x : Int × Int × Int) : (l ++ [x]).flatMap w3 = l.flatMap w3 ++ w3 x := by simp
end Go.Proofs.Ytdpgbccgngdapaa
