/- The document's answer for layer 9: Edge, Has, twice, walked. No condition. -/
import Derived.Test.YtbdicndkkenbgaaGreatIs
namespace Go.Proofs.YtbdicndkkenbgaaGreat
open Go.RowKit

def r9BoolPost (w : World) (b : Bool) (e : Ending) (w' : World) : Prop := e = .returned (.bool b) ∧ Below w.heap.size w w'
theorem beqI (a b : Int) : (a == b) = decide (a = b) := by rw [Bool.eq_iff_iff]; simp
theorem ret_bool {a b : Bool} (h : a = b) : Ending.returned (.bool a) = .returned (.bool b) := by rw [h]
set_option maxRecDepth 100000 in
set_option maxHeartbeats 4000000 in
theorem r9has_any (t : Tri) (v : Int) (w : World) : Calls Tryz.prog 77 #[.agg #[.int .i64 t.a, .int .i64 t.b, .int .i64 t.c], .int .i64 v] w (r9BoolPost w (hasB t v)) := by
  obtain ⟨a, b, c⟩ := t
  go_enter Tryz.func77, Tryz.ntmps77
  go_wp2_with fail
  all_goals
    go_ret
    refine ⟨ret_bool ?_, (Below.refl _ _).alloc (Nat.le_refl _) _⟩
    simp [hasB, *]
set_option maxRecDepth 100000 in
set_option maxHeartbeats 4000000 in
theorem r9edge_any (t : Tri) (x y : Int) (w : World) : Calls Tryz.prog 96 #[.agg #[.int .i64 t.a, .int .i64 t.b, .int .i64 t.c], .int .i64 x, .int .i64 y] w (r9BoolPost w (edgeB t x y)) := by
  obtain ⟨a, b, c⟩ := t
  go_enter Tryz.func96, Tryz.ntmps96
  go_wp2_with fail
  all_goals
    go_ret
    refine ⟨ret_bool ?_, (Below.refl _ _).alloc (Nat.le_refl _) _⟩
    first
    | (simp [edgeB, *]; done)
    | (simp only [edgeB, beqI]; simp [*])
set_option maxRecDepth 100000 in
set_option maxHeartbeats 4000000 in
theorem twiceR_any (t u : Tri) (w : World) : Calls Tryz.prog 85 #[.agg #[.int .i64 t.a, .int .i64 t.b, .int .i64 t.c], .agg #[.int .i64 u.a, .int .i64 u.b, .int .i64 u.c]] w (r9BoolPost w (twiceB t u)) := by
  have hb0 : Below w.heap.size w ((w.alloc (.cells #[.int .i64 t.a, .int .i64 t.b, .int .i64 t.c] 71)).alloc (.cells #[.int .i64 u.a, .int .i64 u.b, .int .i64 u.c] 71)) := ((Below.refl _ _).alloc (Nat.le_refl _) _).alloc (by simp) _
  have hx : Blk ((w.alloc (.cells #[.int .i64 t.a, .int .i64 t.b, .int .i64 t.c] 71)).alloc (.cells #[.int .i64 u.a, .int .i64 u.b, .int .i64 u.c] 71)) w.heap.size 71 #[.int .i64 t.a, .int .i64 t.b, .int .i64 t.c] := (Blk.new _ _ _).alloc _
  have hy : Blk ((w.alloc (.cells #[.int .i64 t.a, .int .i64 t.b, .int .i64 t.c] 71)).alloc (.cells #[.int .i64 u.a, .int .i64 u.b, .int .i64 u.c] 71)) (w.heap.size + 1) 71 #[.int .i64 u.a, .int .i64 u.b, .int .i64 u.c] := Blk.new_ (by simp) _ _
  have HB0 := Lib.hid hb0
  have HX := Lib.hid hx
  have HY := Lib.hid hy
  have HT : Hid (twiceB t u = (edgeB u t.a t.b || edgeB u t.b t.c || edgeB u t.c t.a)) := Lib.hid rfl
  rw [HT.out]
  have h1 := fun w => r9edge_any u t.a t.b w
  have h2 := fun w => r9edge_any u t.b t.c w
  have h3 := fun w => r9edge_any u t.c t.a w
  clear hb0 hx hy HT
  obtain ⟨ta, tb, tc⟩ := t
  obtain ⟨ua, ub, uc⟩ := u
  simp only at h1 h2 h3 HX HY HB0 ⊢
  generalize edgeB ⟨ua, ub, uc⟩ ta tb = q1 at h1 ⊢
  generalize edgeB ⟨ua, ub, uc⟩ tb tc = q2 at h2 ⊢
  generalize edgeB ⟨ua, ub, uc⟩ tc ta = q3 at h3 ⊢
  have H1 := Lib.hid h1
  have H2 := Lib.hid h2
  have H3 := Lib.hid h3
  clear h1 h2 h3
  go_enter Tryz.func85, Tryz.ntmps85
  go_wp2_with fail
  refine (H1.out _).mono ?_
  rintro e w1 ⟨rfl, hb⟩
  have HX1 := Lib.hid (HX.out.below hb HX.out.lt)
  have HY1 := Lib.hid (HY.out.below hb HY.out.lt)
  have HB1 := Lib.hid (HB0.out.trans (hb.mono HB0.out.size))
  clear hb HX HY HB0
  have c0 := HX1.out.cell 0
  have c1 := HX1.out.cell 1
  have c2 := HX1.out.cell 2
  have d0 := HY1.out.cell 0
  have d1 := HY1.out.cell 1
  have d2 := HY1.out.cell 2
  simp at c0 c1 c2 d0 d1 d2
  cases q1 with
  | true =>
    go_wp2_with fail
    go_ret
    exact ⟨rfl, HB1.out⟩
  | false =>
    go_wp2_with fail
    refine (H2.out _).mono ?_
    rintro e w2 ⟨rfl, hb⟩
    have HX2 := Lib.hid (HX1.out.below hb HX1.out.lt)
    have HY2 := Lib.hid (HY1.out.below hb HY1.out.lt)
    have HB2 := Lib.hid (HB1.out.trans (hb.mono HB1.out.size))
    clear hb HX1 HY1 HB1 c0 c1 c2 d0 d1 d2
    have c0 := HX2.out.cell 0
    have c1 := HX2.out.cell 1
    have c2 := HX2.out.cell 2
    have d0 := HY2.out.cell 0
    have d1 := HY2.out.cell 1
    have d2 := HY2.out.cell 2
    simp at c0 c1 c2 d0 d1 d2
    cases q2 with
    | true =>
      go_wp2_with fail
      go_ret
      exact ⟨rfl, HB2.out⟩
    | false =>
      go_wp2_with fail
      refine (H3.out _).mono ?_
      rintro e w3 ⟨rfl, hb⟩
      have HB3 := Lib.hid (HB2.out.trans (hb.mono HB2.out.size))
      clear hb
      go_wp2_with fail
      go_ret
      exact ⟨by simp, HB3.out⟩
end Go.Proofs.YtbdicndkkenbgaaGreat
