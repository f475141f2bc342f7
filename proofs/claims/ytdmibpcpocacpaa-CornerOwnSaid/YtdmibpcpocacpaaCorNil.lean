/- What is told of no table. No condition. -/
import Derived.Test.YtdmibpcpocacpaaCorner
namespace Go.Proofs.Ytdmibpcpocacpaa
open Go.RowKit

set_option linter.unusedSimpArgs false
set_option linter.unusedVariables false
theorem has_nil (x : Int) (w : World) : Calls Try.prog 38 #[.pointer none, .int .i64 x] w (IsPost w (.bool false)) := by
  go_enter Try.func38, Try.ntmps38
  go_wp2_with fail
  go_ret
  exact ⟨rfl, rfl⟩
theorem vertex_nil (x : Int) (w : World) : Calls Try.prog 14 #[.pointer none, .int .i64 x] w (IsPost w (.int .i64 (-1))) := by
  go_enter Try.func14, Try.ntmps14
  go_wp2_with fail
  refine (has_nil x w).mono ?_
  rintro e w1 ⟨rfl, rfl⟩
  go_wp2_with fail
  go_ret
  exact ⟨rfl, rfl⟩
theorem next_nil (x : Int) (w : World) : Calls Try.prog 15 #[.pointer none, .int .i64 x] w (IsPost w (.int .i64 (-1))) := by
  go_enter Try.func15, Try.ntmps15
  go_wp2_with fail
  refine (has_nil x w).mono ?_
  rintro e w1 ⟨rfl, rfl⟩
  go_wp2_with fail
  go_ret
  exact ⟨rfl, rfl⟩
theorem prev_nil (x : Int) (w : World) : Calls Try.prog 16 #[.pointer none, .int .i64 x] w (IsPost w (.int .i64 (-1))) := by
  go_enter Try.func16, Try.ntmps16
  go_wp2_with fail
  refine (has_nil x w).mono ?_
  rintro e w1 ⟨rfl, rfl⟩
  go_wp2_with fail
  go_ret
  exact ⟨rfl, rfl⟩
set_option maxHeartbeats 2000000 in
theorem edge_nil (x : Int) (w : World) : Calls Try.prog 18 #[.pointer none, .int .i64 x] w (EdPost w (-1, -1)) := by
  obtain ⟨V, hV⟩ : ∃ V, V = w.alloc (.cells #[.int .i64 0, .int .i64 0] 31) := ⟨_, rfl⟩
  have GV : Hid (Blk V w.heap.size 31 #[.int .i64 0, .int .i64 0]) := by subst hV; exact Lib.hid (Blk.new _ _ _)
  have HB : Hid (Below w.heap.size w V) := by subst hV; exact Lib.hid (bw_alloc (Below.refl _ _) _)
  go_enter Try.func18, Try.ntmps18
  go_upto_region 1 with (fail)
  rw [← hV]
  clear hV
  obtain ⟨ge, hge⟩ : ∃ ge, ge = w.heap.size := ⟨_, rfl⟩
  have HGE : Hid (w.heap.size ≤ ge) := Lib.hid (by omega)
  rw [← hge] at GV
  simp only [← hge]
  clear hge
  go_wp2_with fail
  refine (next_nil x V).mono ?_
  rintro e w' ⟨rfl, rfl⟩
  go_wp2_with fail
  refine (vertex_nil (-1) w').mono ?_
  rintro e w2 ⟨rfl, rfl⟩
  go_wp2_with fail
  refine (prev_nil x w2).mono ?_
  rintro e w3 ⟨rfl, rfl⟩
  go_wp2_with fail
  refine (vertex_nil (-1) w3).mono ?_
  rintro e w4 ⟨rfl, rfl⟩
  obtain ⟨f0, f1, f2, f3⟩ := edge_facts GV.out
  go_wp2_with fail
  obtain ⟨g0, g1, _, _⟩ := edge_facts (edge_set GV.out (.int .i64 (-1)) (.int .i64 (-1)))
  refine bodyPost_ret (v := .agg #[.int .i64 (-1), .int .i64 (-1)]) ?_ rfl ⟨rfl, bw_set (bw_set HB.out HGE.out _) HGE.out _⟩
  simp [results, Try.results18, go_sem, g0, g1]
set_option maxHeartbeats 2000000 in
theorem facing_nil (x y : Int) (w : World) : Calls Try.prog 24 #[.pointer none, .agg #[.int .i64 x, .int .i64 y]] w (IntPost w (-1)) := by
  have HB : Hid (Below w.heap.size w (w.alloc (.cells #[.int .i64 x, .int .i64 y] 31))) := Lib.hid (bw_alloc (Below.refl _ _) _)
  go_enter Try.func24, Try.ntmps24
  go_wp2_with fail
  go_ret
  exact ⟨rfl, HB.out⟩
set_option maxHeartbeats 2000000 in
theorem opp_nil (x : Int) (w : World) : Calls Try.prog 17 #[.pointer none, .int .i64 x] w (IntPost w (-1)) := by
  have HED := Lib.hid (edge_nil x w)
  go_enter Try.func17, Try.ntmps17
  go_wp2_with fail
  refine HED.out.mono ?_
  rintro e w1 ⟨rfl, hb⟩
  have HB1 := Lib.hid hb
  clear hb HED
  obtain ⟨V, hV⟩ : ∃ V, V = w1.alloc (.cells #[.int .i64 (-1), .int .i64 (-1)] 31) := ⟨_, rfl⟩
  have GV : Hid (Blk V w1.heap.size 31 #[.int .i64 (-1), .int .i64 (-1)]) := by subst hV; exact Lib.hid (Blk.new _ _ _)
  have HB : Hid (Below w.heap.size w V) := by subst hV; exact Lib.hid (bw_alloc HB1.out _)
  go_upto_region 2 with (fail)
  rw [← hV]
  clear hV
  generalize w1.heap.size = ge at GV ⊢
  obtain ⟨g0, g1, _, _⟩ := edge_facts GV.out
  go_wp2_with fail
  refine (facing_nil (-1) (-1) V).mono ?_
  rintro e w2 ⟨rfl, hb⟩
  have HB2 := Lib.hid (bw_call HB.out hb)
  clear hb
  go_wp2_with fail
  go_ret
  exact ⟨rfl, HB2.out⟩
theorem corner_nil (x : Int) (w : World) : Calls Try.prog 26 #[.pointer none, .int .i64 x] w (IsPost w (.int .i64 (-1))) := by
  go_enter Try.func26, Try.ntmps26
  go_wp2_with fail
  go_ret
  exact ⟨rfl, rfl⟩
theorem tris_nil (w : World) : Calls Try.prog 28 #[.pointer none] w (IsPost w (.int .i64 0)) := by
  go_enter Try.func28, Try.ntmps28
  go_wp2_with fail
  go_ret
  exact ⟨rfl, rfl⟩
theorem verts_nil (w : World) : Calls Try.prog 35 #[.pointer none] w (IsPost w (.int .i64 0)) := by
  go_enter Try.func35, Try.ntmps35
  go_wp2_with fail
  go_ret
  exact ⟨rfl, rfl⟩
set_option maxHeartbeats 2000000 in
theorem soup_nil (w : World) : Calls Try.prog 34 #[.pointer none] w (fun e w' => e = .returned (.agg #[.int .i64 0, .slice none 0 0]) ∧ Below w.heap.size w w') := by
  obtain ⟨V, hV⟩ : ∃ V, V = w.alloc (.cells #[.int .i64 0, .slice none 0 0] 24) := ⟨_, rfl⟩
  have GV : Hid (Blk V w.heap.size 24 #[.int .i64 0, .slice none 0 0]) := by subst hV; exact Lib.hid (Blk.new _ _ _)
  have HB : Hid (Below w.heap.size w V) := by subst hV; exact Lib.hid (bw_alloc (Below.refl _ _) _)
  go_enter Try.func34, Try.ntmps34
  go_upto_region 2 with (fail)
  rw [← hV]
  clear hV
  obtain ⟨gr, hgr⟩ : ∃ gr, gr = w.heap.size := ⟨_, rfl⟩
  have HGR : Hid (w.heap.size ≤ gr) := Lib.hid (by omega)
  rw [← hgr] at GV
  simp only [← hgr]
  clear hgr
  obtain ⟨f0, f1, f2, f3, _⟩ := soup_facts GV.out
  go_wp2_with fail
  obtain ⟨g0, g1, _, _, _⟩ := soup_facts (soup_set0 GV.out (.int .i64 0) (.slice none 0 0))
  refine bodyPost_ret (v := .agg #[.int .i64 0, .slice none 0 0]) ?_ rfl ⟨rfl, bw_set (bw_set HB.out HGR.out _) HGR.out _⟩
  simp [results, Try.results34, go_sem, g0, g1]
end Go.Proofs.Ytdmibpcpocacpaa
