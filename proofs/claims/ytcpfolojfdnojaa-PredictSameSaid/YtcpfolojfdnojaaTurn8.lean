/- gypsumref08.Turned, walked. No condition. -/
import Derived.Test.YtcpfolojfdnojaaRow8
import Derived.Test.YtcpfolojfdnojaaSoup8
namespace Go.Proofs.Ytcpfolojfdnojaa
open Go.RowKit
theorem tri_cells {w : World} {g : Nat} {x y z : Value} (h : Blk w g 47 #[x, y, z]) : w.cell? ⟨g, 0, none⟩ = some x ∧ w.cell? ⟨g, 1, none⟩ = some y ∧ w.cell? ⟨g, 2, none⟩ = some z := ⟨h.cell 0, h.cell 1, h.cell 2⟩
theorem tri_frozen {w : World} {g : Nat} {x y z : Value} (h : Blk w g 47 #[x, y, z]) : w.frozen? ⟨g, 0, none⟩ = false ∧ w.frozen? ⟨g, 1, none⟩ = false ∧ w.frozen? ⟨g, 2, none⟩ = false := ⟨h.frozen 0, h.frozen 1, h.frozen 2⟩
theorem tri_set3 {w : World} {g : Nat} {x y z : Value} (h : Blk w g 47 #[x, y, z]) (a b c : Int) : Blk (((w.setCell ⟨g, 0, none⟩ (.int .i64 a)).setCell ⟨g, 1, none⟩ (.int .i64 b)).setCell ⟨g, 2, none⟩ (.int .i64 c)) g 47 #[.int .i64 a, .int .i64 b, .int .i64 c] := by
  simpa using ((h.set_ 0 (.int .i64 a)).set_ 1 (.int .i64 b)).set_ 2 (.int .i64 c)
attribute [local irreducible] Blk LRow World.alloc World.setCell KeepB World.cell? World.frozen?
set_option maxRecDepth 100000 in
set_option maxHeartbeats 4000000 in
theorem refTurned_any (t : Tri) (k : Nat) (w : World) (hk : k < 3) :
    Calls Try.prog 17 #[.agg #[.int .i64 t.a, .int .i64 t.b, .int .i64 t.c], .int .i64 k] w fun e w' => e = .returned (.agg #[.int .i64 (turnT k t).a, .int .i64 (turnT k t).b, .int .i64 (turnT k t).c]) ∧ Below w.heap.size w w' := by
  obtain ⟨a, b, c⟩ := t
  obtain ⟨V, hV⟩ : ∃ V, V = (w.alloc (.cells #[.int .i64 a, .int .i64 b, .int .i64 c] 47)).alloc (.cells #[.int .i64 0, .int .i64 0, .int .i64 0] 47) := ⟨_, rfl⟩
  have HB : Hid (Below w.heap.size w V) := by subst hV; exact Lib.hid (bw_alloc (bw_alloc (Below.refl _ _) _) _)
  have HX : Hid (Blk V w.heap.size 47 #[.int .i64 a, .int .i64 b, .int .i64 c]) := by subst hV; exact Lib.hid ((Blk.new _ _ _).alloc _)
  have HY : Hid (Blk V (w.heap.size + 1) 47 #[.int .i64 0, .int .i64 0, .int .i64 0]) := by subst hV; exact Lib.hid (blk_new1 _ _ _ _)
  rcases (by omega : k = 0 ∨ k = 1 ∨ k = 2) with rfl | rfl | rfl
  · change Calls Try.prog 17 #[.agg #[.int .i64 a, .int .i64 b, .int .i64 c], .int .i64 0] w fun e w' => e = .returned (.agg #[.int .i64 a, .int .i64 b, .int .i64 c]) ∧ Below w.heap.size w w'
    go_enter Try.func17, Try.ntmps17
    go_wp2_with fail
    rw [← hV]
    clear hV
    have HG : Hid (w.heap.size ≤ w.heap.size + 1) := Lib.hid (by omega)
    have HN : Hid (w.heap.size ≠ w.heap.size + 1) := Lib.hid (by omega)
    generalize w.heap.size + 1 = gy at *
    generalize hgx : w.heap.size = gx at HX HN ⊢
    obtain ⟨x0, x1, x2⟩ := tri_cells HX.out
    obtain ⟨f0, f1, f2⟩ := tri_frozen HY.out
    obtain ⟨y0, y1, y2⟩ := tri_cells HY.out
    have HS : Hid (∀ w', KeepB gy V w' → w'.cell? ⟨gx, 0, none⟩ = some (.int .i64 a) ∧ w'.cell? ⟨gx, 1, none⟩ = some (.int .i64 b) ∧ w'.cell? ⟨gx, 2, none⟩ = some (.int .i64 c) ∧ KeepB gy V w') := Lib.hid fun w' h => ⟨(h.get HN.out).trans x0, (h.get HN.out).trans x1, (h.get HN.out).trans x2, h⟩
    have HKB := Lib.hid (KeepB.refl gy V)
    have HBO : Hid (∀ w', (w'.cell? ⟨gx, 0, none⟩ = some (.int .i64 a) ∧ w'.cell? ⟨gx, 1, none⟩ = some (.int .i64 b) ∧ w'.cell? ⟨gx, 2, none⟩ = some (.int .i64 c) ∧ KeepB gy V w') → KeepB gy V w') := Lib.hid fun w' h => h.2.2.2
    have v1 : IntKind.i64.wrap 1 = 1 := by decide
    have m1 : Int.tmod 1 3 = 1 := by decide
    have v2 : IntKind.i64.wrap 2 = 2 := by decide
    have m2 : Int.tmod 2 3 = 2 := by decide
    have m0 : Int.tmod 0 3 = 0 := by decide
    have v0 : IntKind.i64.wrap 0 = 0 := by decide
    go_region_held3 (fun w' => w'.cell? ⟨gx, 0, none⟩ = some (.int .i64 a) ∧ w'.cell? ⟨gx, 1, none⟩ = some (.int .i64 b) ∧ w'.cell? ⟨gx, 2, none⟩ = some (.int .i64 c) ∧ KeepB gy V w')
      ((refine HS.out _ ?_; repeat (first | exact HKB.out | refine KeepB.set ?_ _ | refine KeepB.drew ?_ | exact HBO.out _ (by assumption))))
      (fail)
    all_goals go_wp2_with fail
    all_goals
      obtain ⟨z0, z1, z2⟩ := tri_cells (tri_set3 HY.out a b c)
      refine bodyPost_ret (v := .agg #[.int .i64 a, .int .i64 b, .int .i64 c]) ?_ rfl ⟨rfl, bw_drew (bw_set (bw_set (bw_set HB.out HG.out _) HG.out _) HG.out _)⟩
      first
        | (simp [results, Try.results17, go_sem, z0, z1, z2]; done)
        | skip
  · change Calls Try.prog 17 #[.agg #[.int .i64 a, .int .i64 b, .int .i64 c], .int .i64 1] w fun e w' => e = .returned (.agg #[.int .i64 b, .int .i64 c, .int .i64 a]) ∧ Below w.heap.size w w'
    go_enter Try.func17, Try.ntmps17
    go_wp2_with fail
    rw [← hV]
    clear hV
    have HG : Hid (w.heap.size ≤ w.heap.size + 1) := Lib.hid (by omega)
    have HN : Hid (w.heap.size ≠ w.heap.size + 1) := Lib.hid (by omega)
    generalize w.heap.size + 1 = gy at *
    generalize hgx : w.heap.size = gx at HX HN ⊢
    obtain ⟨x0, x1, x2⟩ := tri_cells HX.out
    obtain ⟨f0, f1, f2⟩ := tri_frozen HY.out
    obtain ⟨y0, y1, y2⟩ := tri_cells HY.out
    have HS : Hid (∀ w', KeepB gy V w' → w'.cell? ⟨gx, 0, none⟩ = some (.int .i64 a) ∧ w'.cell? ⟨gx, 1, none⟩ = some (.int .i64 b) ∧ w'.cell? ⟨gx, 2, none⟩ = some (.int .i64 c) ∧ KeepB gy V w') := Lib.hid fun w' h => ⟨(h.get HN.out).trans x0, (h.get HN.out).trans x1, (h.get HN.out).trans x2, h⟩
    have HKB := Lib.hid (KeepB.refl gy V)
    have HBO : Hid (∀ w', (w'.cell? ⟨gx, 0, none⟩ = some (.int .i64 a) ∧ w'.cell? ⟨gx, 1, none⟩ = some (.int .i64 b) ∧ w'.cell? ⟨gx, 2, none⟩ = some (.int .i64 c) ∧ KeepB gy V w') → KeepB gy V w') := Lib.hid fun w' h => h.2.2.2
    have v1 : IntKind.i64.wrap 2 = 2 := by decide
    have m1 : Int.tmod 2 3 = 2 := by decide
    have v2 : IntKind.i64.wrap 3 = 3 := by decide
    have m2 : Int.tmod 3 3 = 0 := by decide
    have m0 : Int.tmod 1 3 = 1 := by decide
    have v0 : IntKind.i64.wrap 1 = 1 := by decide
    go_region_held3 (fun w' => w'.cell? ⟨gx, 0, none⟩ = some (.int .i64 a) ∧ w'.cell? ⟨gx, 1, none⟩ = some (.int .i64 b) ∧ w'.cell? ⟨gx, 2, none⟩ = some (.int .i64 c) ∧ KeepB gy V w')
      ((refine HS.out _ ?_; repeat (first | exact HKB.out | refine KeepB.set ?_ _ | refine KeepB.drew ?_ | exact HBO.out _ (by assumption))))
      (fail)
    all_goals go_wp2_with fail
    all_goals
      obtain ⟨z0, z1, z2⟩ := tri_cells (tri_set3 HY.out b c a)
      refine bodyPost_ret (v := .agg #[.int .i64 b, .int .i64 c, .int .i64 a]) ?_ rfl ⟨rfl, bw_drew (bw_set (bw_set (bw_set HB.out HG.out _) HG.out _) HG.out _)⟩
      first
        | (simp [results, Try.results17, go_sem, z0, z1, z2]; done)
        | skip
  · change Calls Try.prog 17 #[.agg #[.int .i64 a, .int .i64 b, .int .i64 c], .int .i64 2] w fun e w' => e = .returned (.agg #[.int .i64 c, .int .i64 a, .int .i64 b]) ∧ Below w.heap.size w w'
    go_enter Try.func17, Try.ntmps17
    go_wp2_with fail
    rw [← hV]
    clear hV
    have HG : Hid (w.heap.size ≤ w.heap.size + 1) := Lib.hid (by omega)
    have HN : Hid (w.heap.size ≠ w.heap.size + 1) := Lib.hid (by omega)
    generalize w.heap.size + 1 = gy at *
    generalize hgx : w.heap.size = gx at HX HN ⊢
    obtain ⟨x0, x1, x2⟩ := tri_cells HX.out
    obtain ⟨f0, f1, f2⟩ := tri_frozen HY.out
    obtain ⟨y0, y1, y2⟩ := tri_cells HY.out
    have HS : Hid (∀ w', KeepB gy V w' → w'.cell? ⟨gx, 0, none⟩ = some (.int .i64 a) ∧ w'.cell? ⟨gx, 1, none⟩ = some (.int .i64 b) ∧ w'.cell? ⟨gx, 2, none⟩ = some (.int .i64 c) ∧ KeepB gy V w') := Lib.hid fun w' h => ⟨(h.get HN.out).trans x0, (h.get HN.out).trans x1, (h.get HN.out).trans x2, h⟩
    have HKB := Lib.hid (KeepB.refl gy V)
    have HBO : Hid (∀ w', (w'.cell? ⟨gx, 0, none⟩ = some (.int .i64 a) ∧ w'.cell? ⟨gx, 1, none⟩ = some (.int .i64 b) ∧ w'.cell? ⟨gx, 2, none⟩ = some (.int .i64 c) ∧ KeepB gy V w') → KeepB gy V w') := Lib.hid fun w' h => h.2.2.2
    have v1 : IntKind.i64.wrap 3 = 3 := by decide
    have m1 : Int.tmod 3 3 = 0 := by decide
    have v2 : IntKind.i64.wrap 4 = 4 := by decide
    have m2 : Int.tmod 4 3 = 1 := by decide
    have m0 : Int.tmod 2 3 = 2 := by decide
    have v0 : IntKind.i64.wrap 2 = 2 := by decide
    go_region_held3 (fun w' => w'.cell? ⟨gx, 0, none⟩ = some (.int .i64 a) ∧ w'.cell? ⟨gx, 1, none⟩ = some (.int .i64 b) ∧ w'.cell? ⟨gx, 2, none⟩ = some (.int .i64 c) ∧ KeepB gy V w')
      ((refine HS.out _ ?_; repeat (first | exact HKB.out | refine KeepB.set ?_ _ | refine KeepB.drew ?_ | exact HBO.out _ (by assumption))))
      (fail)
    all_goals go_wp2_with fail
    all_goals
      obtain ⟨z0, z1, z2⟩ := tri_cells (tri_set3 HY.out c a b)
      refine bodyPost_ret (v := .agg #[.int .i64 c, .int .i64 a, .int .i64 b]) ?_ rfl ⟨rfl, bw_drew (bw_set (bw_set (bw_set HB.out HG.out _) HG.out _) HG.out _)⟩
      first
        | (simp [results, Try.results17, go_sem, z0, z1, z2]; done)
        | skip
end Go.Proofs.Ytcpfolojfdnojaa
