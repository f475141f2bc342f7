/- The keys of a triangle, as certify.twice and certify.mirrored make them. No condition. -/
import Derived.Test.YtdmibpcpocacpaaLonely
import Derived.Shelf.Sort.Plain
namespace Go.Proofs.Ytdmibpcpocacpaa
open Go.RowKit Go.Sort Go.Shelf

def keys2 (t : Tri) : List (Int × Int × Int) := [(t.a, t.b, 0), (t.b, t.c, 0), (t.c, t.a, 0)]
/-- Three numbers, sorted. -/
def sort3L (t : Tri) : List Int := [t.a, t.b, t.c].mergeSort fun x y => decide (x ≤ y)
def sort3 (t : Tri) : Int × Int × Int := ((sort3L t).getD 0 0, (sort3L t).getD 1 0, (sort3L t).getD 2 0)
theorem sort3L_len (t : Tri) : (sort3L t).length = 3 := by unfold sort3L; rw [List.length_mergeSort]; rfl
theorem sort3_list (t : Tri) : sort3L t = [(sort3 t).1, (sort3 t).2.1, (sort3 t).2.2] := by
  have h := sort3L_len t
  unfold sort3
  match hm : sort3L t, h with
  | [x, y, z], _ => rfl
def keys3 (t : Tri) : List (Int × Int × Int) := [sort3 t]
/-- What tells a triangle's keys. -/
def KeysPost (w : World) (ks : List (Int × Int × Int)) (e : Ending) (w' : World) : Prop :=
  ∃ g, e = .returned (.slice (some ⟨g, 0, none⟩) ks.length ks.length) ∧ w.heap.size ≤ g ∧ Blk w' g 49 (ks.flatMap w3).toArray ∧ Below w.heap.size w w'

set_option maxHeartbeats 1000000 in
theorem keys2_any (t : Tri) (w : World) : Calls Try.prog 60 #[.agg #[.int .i64 t.a, .int .i64 t.b, .int .i64 t.c]] w (KeysPost w (keys2 t)) := by
  obtain ⟨a, b, c⟩ := t
  go_enter Try.func60, Try.ntmps60
  go_wp2_with fail
  go_ret
  refine ⟨w.heap.size + 1, rfl, by omega, ?_, ((Below.refl _ _).alloc (Nat.le_refl _) _).alloc (by simp) _⟩
  exact Blk.new_ (by simp) _ _

theorem blk_sorted {w : World} {g : Nat} {e : TypeId} {x y z : Int} (h : Blk w g e #[.int .i64 x, .int .i64 y, .int .i64 z]) (n : Nat) (os : Array Obj) (x' y' z' : Int) :
    Blk (grow (putRow (Value.int .i64) (Sort.ahead w n) g 0 #[x', y', z']) os) g e #[.int .i64 x', .int .i64 y', .int .i64 z'] ∧ Only (fun i => i = g) w (grow (putRow (Value.int .i64) (Sort.ahead w n) g 0 #[x', y', z']) os) := by
  have hsz : (putRow (Value.int .i64) (Sort.ahead w n) g 0 #[x', y', z']).heap.size = w.heap.size := by simp [putRow, mapBlock, Sort.ahead]
  have hne : ∀ i, i < w.heap.size → i ≠ g → (grow (putRow (Value.int .i64) (Sort.ahead w n) g 0 #[x', y', z']) os).heap[i]? = w.heap[i]? := by
    intro i hi hn
    rw [heap_grow_old _ _ (by rw [hsz]; exact hi)]
    unfold putRow mapBlock Sort.ahead
    simp only [Array.getElem?_modify, if_neg (Ne.symm hn)]
  refine ⟨?_, ⟨rfl, rfl, rfl, ?_, fun i hi hn => hne i hi hn⟩⟩
  · unfold Blk
    rw [heap_grow_old _ _ (by rw [hsz]; exact h.lt)]
    unfold putRow mapBlock Sort.ahead
    unfold Blk at h
    simp only [Array.getElem?_modify, if_true, h, Option.map_some]
    rfl
  · rw [size_grow, hsz]
    exact Nat.le_add_right _ _

theorem sort3_any (t : Tri) (g : Nat) (e : TypeId) (w : World) (h : Blk w g e #[.int .i64 t.a, .int .i64 t.b, .int .i64 t.c]) :
    Calls Try.prog 62 #[.slice (some ⟨g, 0, none⟩) 3 3] w fun e' w' => e' = .returned (.tuple #[]) ∧ Blk w' g e #[.int .i64 (sort3 t).1, .int .i64 (sort3 t).2.1, .int .i64 (sort3 t).2.2] ∧ Only (fun i => i = g) w w' := by
  have hH : Holds (Value.int .i64) w g 0 [t.a, t.b, t.c].toArray := by
    intro j hj
    have hj' : j < 3 := by simpa using hj
    refine ⟨?_, h.frozen _⟩
    rw [Nat.zero_add, h.cell]
    rcases (by omega : j = 0 ∨ j = 1 ∨ j = 2) with rfl | rfl | rfl <;> rfl
  refine (Any.slices_Sort_int Try.sortI g 0 3 [t.a, t.b, t.c] w hH h.lt (by simp)).mono ?_
  rintro e' w' ⟨he, n, os, rfl⟩
  refine ⟨he, ?_⟩
  have hs : ([t.a, t.b, t.c].mergeSort fun x y => decide (x ≤ y)) = [(sort3 t).1, (sort3 t).2.1, (sort3 t).2.2] := sort3_list t
  rw [hs]
  exact blk_sorted h n os _ _ _

set_option maxHeartbeats 1000000 in
theorem keys3_any (t : Tri) (w : World) : Calls Try.prog 61 #[.agg #[.int .i64 t.a, .int .i64 t.b, .int .i64 t.c]] w (KeysPost w (keys3 t)) := by
  have hs := fun g e w => sort3_any t g e w
  have hk : keys3 t = [((sort3 t).1, (sort3 t).2.1, (sort3 t).2.2)] := rfl
  rw [hk]
  generalize (sort3 t).1 = x at *
  generalize (sort3 t).2.1 = y at *
  generalize (sort3 t).2.2 = z at *
  clear hk
  obtain ⟨a, b, c⟩ := t
  have HS := Lib.hid hs
  clear hs
  go_enter Try.func61, Try.ntmps61
  go_wp2_with fail
  have hb : Blk ((w.alloc (.cells #[.int .i64 a, .int .i64 b, .int .i64 c] 50)).alloc (.cells #[.int .i64 a, .int .i64 b, .int .i64 c] 50)) (w.heap.size + 1) 50 #[.int .i64 a, .int .i64 b, .int .i64 c] := Blk.new_ (by simp) _ _
  refine (HS.out _ _ _ hb).mono ?_
  rintro e w1 ⟨rfl, hb1, ho⟩
  have hbe : Below w.heap.size w w1 := (((Below.refl _ _).alloc (Nat.le_refl _) _).alloc (by simp) _).trans (ho.below (by simp; omega) fun k hk e => by omega)
  have c0 := hb1.cell 0
  have c1 := hb1.cell 1
  have c2 := hb1.cell 2
  simp at c0 c1 c2
  have HBE := Lib.hid hbe
  clear hb hb1 ho hbe
  go_wp2_with fail
  go_ret
  refine ⟨w1.heap.size, rfl, HBE.out.size, ?_, HBE.out.alloc HBE.out.size _⟩
  exact Blk.new _ _ _
end Go.Proofs.Ytdmibpcpocacpaa
