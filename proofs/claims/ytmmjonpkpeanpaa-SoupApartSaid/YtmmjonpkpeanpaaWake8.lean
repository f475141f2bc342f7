/- awake and great of layer 8's laws, walked. No condition. -/
import Derived.Test.YtmmjonpkpeanpaaEdges8
import Derived.Test.YtmmjonpkpeanpaaRefPart8
namespace Go.Proofs.Ytmmjonpkpeanpaa
open Go.RowKit

set_option linter.unusedSimpArgs false
set_option linter.unusedVariables false
def tetraL : List Tri := [⟨0, 1, 2⟩, ⟨0, 3, 1⟩, ⟨1, 3, 2⟩, ⟨0, 2, 3⟩]
def SPost (w : World) (N : Int) (T : List Tri) (e : Ending) (w' : World) : Prop := ∃ A c, e = .returned (.agg #[.int .i64 N, .slice A T.length c]) ∧ LRow w' w.heap.size A c T ∧ Below w.heap.size w w'
set_option maxRecDepth 100000 in
set_option maxHeartbeats 2000000 in
theorem tetra_any (w : World) : Calls Try.prog 32 #[] w (SPost w 4 tetraL) := by
  go_enter Try.func32, Try.ntmps32
  go_wp2_with fail
  refine bodyPost_ret (v := .agg #[.int .i64 4, .slice (some ⟨w.heap.size + 1, 0, none⟩) 4 4]) ?_ rfl ⟨_, _, rfl, ?_, ((Below.refl _ _).alloc (Nat.le_refl _) _).alloc (by simp) _⟩
  · simp [results, Try.results32, go_sem]
  · exact ⟨rfl, .inr ⟨w.heap.size + 1, 4, _, rfl, by omega, Blk.new_ (by simp) _ _, Nat.le_refl _, by decide, rfl, rfl⟩⟩
theorem great_any (N : Int) (A : Option Addr) (n c : Nat) (w : World) : Calls Try.prog 12 #[.agg #[.int .i64 N, .slice A n c]] w (BoolPost w (decide (40 < n))) := by
  by_cases h : 40 < n
  · have h' : (40 : Int) < (n : Int) := by omega
    go_enter Try.func12, Try.ntmps12
    go_wp2_with fail
    go_ret
    exact ⟨by simp [h], (Below.refl _ _).alloc (Nat.le_refl _) _⟩
  · have h' : ¬ (40 : Int) < (n : Int) := by omega
    go_enter Try.func12, Try.ntmps12
    go_wp2_with fail
    go_ret
    exact ⟨by simp [h], (Below.refl _ _).alloc (Nat.le_refl _) _⟩
theorem run_eq_tri (a b c : Int) (w : World) : (binOp .eql 51 (.agg #[.int .i64 a, .int .i64 b, .int .i64 c]) (.agg #[.int .i64 a, .int .i64 b, .int .i64 c])).run Try.prog w = .ok (.bool true) w := by
  rw [run_eql_struct]
  show ((Op.equalIn (9998 + 1 + 1) _ _ _).run _ _).andThen _ = _
  unfold Op.equalIn
  simp [go_sem, Try.underlying3, Result.andThen, List.range']
theorem row_new1 (w : World) (x : Int) : Reads (w.alloc (.cells #[.int .i64 x] 3)) (w.heap.size + 1) 1 (some ⟨w.heap.size, 0, none⟩) 1 (ZL [x]) := reads_newN _ #[.int .i64 x] _ 1 1 rfl rfl
theorem row_new3 (w : World) (x y z : Int) : Reads (w.alloc (.cells #[.int .i64 x, .int .i64 y, .int .i64 z] 3)) (w.heap.size + 1) 1 (some ⟨w.heap.size, 0, none⟩) 3 (ZL [x, y, z]) := reads_newN _ #[.int .i64 x, .int .i64 y, .int .i64 z] _ 3 1 rfl rfl
set_option maxRecDepth 100000 in
theorem tetra_pick : pickL 4 tetraL [4] = (4, [⟨3, 1, 0⟩], 0) := by kernel_rfl
set_option maxRecDepth 100000 in
theorem tetra_part : partL 4 tetraL [2] = ((3, [⟨0, 2, 1⟩]), [1, 2, 3], 0) := by kernel_rfl
set_option maxRecDepth 100000 in
theorem tetra_edges : (edgesL 4 tetraL).length = 6 := by decide +kernel
set_option linter.unusedSimpArgs false
set_option linter.unusedVariables false
attribute [local irreducible] Blk LRow IRow World.alloc World.setCell World.cell? World.frozen?
set_option maxRecDepth 100000 in
set_option maxHeartbeats 8000000 in
theorem awake_any (w : World) : Calls Try.prog 11 #[] w (BoolPost w true) := by
  go_enter Try.func11, Try.ntmps11
  go_wp2_with fail
  refine (tetra_any _).mono ?_
  rintro e w1 ⟨A1, c1, rfl, hr1, hb1⟩
  have HR1 := Lib.hid hr1
  have HB1 := Lib.hid hb1
  clear hr1 hb1
  go_wp2_with fail
  have HA := Lib.hid (bw_alloc (Below.refl w1.heap.size w1) (.cells #[.int .i64 4] 3))
  refine (pick_any 4 A1 tetraL.length c1 tetraL (some ⟨w1.heap.size, 0, none⟩) 1 1 [4] _ (by decide) (by omega) (HR1.out.below HA.out).tris (by simpa using row_new1 w1 4)).mono ?_
  rw [tetra_pick]
  rintro e w2 ⟨A2, c2, rfl, hr2, hb2⟩
  have HR2 : Hid (LRow w2 0 A2 c2 [⟨3, 1, 0⟩]) := Lib.hid (LRow.base hr2 (Nat.zero_le _))
  have HB2 := Lib.hid (bw_call (bw_call HB1.out HA.out) hb2)
  clear hr2 hb2 HR1 HB1 HA
  go_wp2_with fail
  obtain ⟨w3, hw3⟩ : ∃ w3, w3 = w2.alloc (.cells #[.int .i64 4, .slice A2 1 c2] 24) := ⟨_, rfl⟩
  have HS3 : Hid (Blk w3 w2.heap.size 24 #[.int .i64 4, .slice A2 1 c2]) := by subst hw3; exact Lib.hid (Blk.new _ _ _)
  have HR3 : Hid (LRow w3 0 A2 c2 [⟨3, 1, 0⟩]) := by subst hw3; exact Lib.hid (HR2.out.alloc _)
  have HB3 : Hid (Below w.heap.size w w3) := by subst hw3; exact Lib.hid (bw_alloc HB2.out _)
  rw [← hw3]
  generalize w2.heap.size = g1 at *
  clear hw3 HR2 HB2
  refine (tetra_any _).mono ?_
  rintro e w4 ⟨A4, c4, rfl, hr4, hb4⟩
  have HR4 := Lib.hid hr4
  have HS4 := Lib.hid (blk_call HS3.out hb4)
  have HQ4 := Lib.hid (HR3.out.below hb4)
  have HB4 := Lib.hid (bw_call HB3.out hb4)
  clear hr4 hb4 HS3 HR3 HB3
  go_wp2_with fail
  have HA := Lib.hid (bw_alloc (Below.refl w4.heap.size w4) (.cells #[.int .i64 2] 3))
  refine (part_any 4 A4 tetraL.length c4 tetraL (some ⟨w4.heap.size, 0, none⟩) 1 1 [2] _ (by decide) (by omega) (HR4.out.below HA.out).tris (by simpa using row_new1 w4 2)).mono ?_
  rw [tetra_part]
  rintro e w5 ⟨A5, c5, Ao, co, rfl, hr5, hi5, hb5⟩
  have HR5 : Hid (LRow w5 0 A5 c5 [⟨0, 2, 1⟩]) := Lib.hid (LRow.base hr5 (Nat.zero_le _))
  have HI5 : Hid (IRow w5 0 Ao co [1, 2, 3]) := Lib.hid (IRow.base hi5 (Nat.zero_le _))
  have HS5 := Lib.hid (blk_call (HS4.out.alloc _) hb5)
  have HQ5 := Lib.hid ((HQ4.out.alloc _).below hb5)
  have HB5 := Lib.hid (bw_call (bw_call HB4.out HA.out) hb5)
  clear hr5 hi5 hb5 HS4 HQ4 HB4 HA HR4
  obtain ⟨w6, hw6⟩ : ∃ w6, w6 = w5.alloc (.cells #[.int .i64 3, .slice A5 1 c5] 24) := ⟨_, rfl⟩
  have HP6 : Hid (Blk w6 w5.heap.size 24 #[.int .i64 3, .slice A5 1 c5]) := by subst hw6; exact Lib.hid (Blk.new _ _ _)
  have HR6 : Hid (LRow w6 0 A5 c5 [⟨0, 2, 1⟩]) := by subst hw6; exact Lib.hid (HR5.out.alloc _)
  have HQ6 : Hid (LRow w6 0 A2 c2 [⟨3, 1, 0⟩]) := by subst hw6; exact Lib.hid (HQ5.out.alloc _)
  have HI6 : Hid (IRow w6 0 Ao co [1, 2, 3]) := by subst hw6; exact Lib.hid (HI5.out.alloc _)
  have HS6 : Hid (Blk w6 g1 24 #[.int .i64 4, .slice A2 1 c2]) := by subst hw6; exact Lib.hid (HS5.out.alloc _)
  have HB6 : Hid (Below w.heap.size w w6) := by subst hw6; exact Lib.hid (bw_alloc HB5.out _)
  obtain ⟨s0, s1, _, _, _⟩ := soup_facts HS6.out
  obtain ⟨p0, p1, _, _, _⟩ := soup_facts HP6.out
  obtain ⟨b2, rfl, _, _, ⟨x0, x1, x2⟩, _⟩ := row_cells HQ6.out (i := 0) rfl
  obtain ⟨b5, rfl, _, _, ⟨y0, y1, y2⟩, _⟩ := row_cells HR6.out (i := 0) rfl
  simp only [Nat.zero_mul, Nat.zero_add] at x0 x1 x2 y0 y1 y2
  have e1 := run_eq_tri 3 1 0
  have e2 := run_eq_tri 0 2 1
  subst hw6
  clear HR5 HI5 HS5 HQ5 HB5
  go_wp2_with fail
  have HRI : Hid (∀ W : World, W = (w5.alloc (.cells #[.int .i64 3, .slice (some ⟨b5, 0, none⟩) 1 c5] 24)).alloc (.cells #[.int .i64 1, .int .i64 2, .int .i64 3] 3) → Reads W W.heap.size 1 Ao 3 (ZL [1, 2, 3]) ∧ Reads W W.heap.size 1 (some ⟨w5.heap.size + 1, 0, none⟩) 3 (ZL [1, 2, 3]) ∧ Below w.heap.size w W) := Lib.hid fun W hW => by
    subst hW
    exact ⟨(HI6.out.alloc _).reads, by simpa using row_new3 (w5.alloc (.cells #[.int .i64 3, .slice (some ⟨b5, 0, none⟩) 1 c5] 24)) 1 2 3, bw_alloc HB6.out _⟩
  obtain ⟨h1, h2, h3⟩ := HRI.out _ rfl
  refine (refInts_any [1, 2, 3] Ao _ 3 co 3 _ (by omega) h1 h2).mono ?_
  rintro e w7 ⟨rfl, hb7⟩
  have HB7 := Lib.hid (bw_call h3 hb7)
  clear hb7 h1 h2 h3 HRI s0 s1 p0 p1 x0 x1 x2 y0 y1 y2 e1 e2 HP6 HR6 HQ6 HI6 HS6 HB6
  go_wp2_with fail
  refine (tetra_any _).mono ?_
  rintro e w8 ⟨A8, c8, rfl, hr8, hb8⟩
  have HR8 := Lib.hid hr8
  have HB8 := Lib.hid (bw_call HB7.out hb8)
  clear hr8 hb8 HB7
  go_wp2_with fail
  refine (edges_any 4 A8 tetraL.length c8 tetraL w8 (by decide) HR8.out.tris).mono ?_
  have HTE := Lib.hid tetra_edges
  generalize edgesL 4 tetraL = E at *
  rintro e w9 ⟨A9, c9, rfl, hr9, hb9⟩
  have HB9 := Lib.hid (bw_call HB8.out hb9)
  have hl6 : (E.length : Int) = 6 := by rw [HTE.out]; rfl
  clear hr9 hb9 HB8 HR8
  go_wp2_with fail
  go_ret
  exact ⟨rfl, HB9.out⟩
end Go.Proofs.Ytmmjonpkpeanpaa
