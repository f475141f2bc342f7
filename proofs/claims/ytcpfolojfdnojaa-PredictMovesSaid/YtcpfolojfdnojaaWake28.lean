/- The example of layer 28: awake answers true. No condition. -/
import Derived.Test.YtcpfolojfdnojaaKnC
import Derived.Test.YtcpfolojfdnojaaPtC
namespace Go.Proofs.Ytcpfolojfdnojaa
open Go.RowKit

set_option linter.unusedSimpArgs false
set_option linter.unusedVariables false
def exT : List Tri := [⟨0, 1, 2⟩, ⟨2, 1, 3⟩]
def exP : List Tri := [⟨0, 0, 0⟩, ⟨4, 0, 0⟩, ⟨0, 4, 0⟩]
theorem ex_is : checkR 4 exT = (0, 0, 0) := by decide +kernel
theorem ex_kn : fld (known exT 3) 0 = 2 ∧ fld (known exT 3) 1 = 2 ∧ fld (known exT 3) 2 = 1 ∧ fld (known exT 3) 3 = 0 ∧ fld (known exT 3) 4 = -1 := by decide +kernel
theorem ex_p0 : pointL 0 ⟨2, 2, 1, 0, -1⟩ exP 0 = 0 ∧ pointL 0 ⟨2, 2, 1, 0, -1⟩ exP 1 = 4 ∧ pointL 0 ⟨2, 2, 1, 0, -1⟩ exP 2 = 0 := by decide +kernel
theorem ex_p1 : pointL 1 ⟨2, 2, 1, 0, -1⟩ exP 0 = 2 ∧ pointL 1 ⟨2, 2, 1, 0, -1⟩ exP 1 = 2 ∧ pointL 1 ⟨2, 2, 1, 0, -1⟩ exP 2 = 0 := by decide +kernel
theorem ex_p2 : pointL 2 ⟨2, 2, 1, 0, -1⟩ exP 0 = 4 ∧ pointL 2 ⟨2, 2, 1, 0, -1⟩ exP 1 = 4 ∧ pointL 2 ⟨2, 2, 1, 0, -1⟩ exP 2 = 0 := by decide +kernel
theorem ex_p3 : pointL 3 ⟨2, 2, 1, 0, -1⟩ exP 0 = 4 ∧ pointL 3 ⟨2, 2, 1, 0, -1⟩ exP 1 = 4 ∧ pointL 3 ⟨2, 2, 1, 0, -1⟩ exP 2 = 0 := by decide +kernel
theorem run_eq_pt (a b c a' b' c' : Int) (w : World) : (binOp .eql 36 (.agg #[.int .i64 a, .int .i64 b, .int .i64 c]) (.agg #[.int .i64 a', .int .i64 b', .int .i64 c'])).run Try.prog w = .ok (.bool (a == a' && (b == b' && c == c'))) w := by
  rw [run_eql_struct]
  show ((Op.equalIn (9997 + 1 + 1 + 1) _ _ _).run _ _).andThen _ = _
  unfold Op.equalIn
  cases h1 : (a == a') <;> cases h2 : (b == b') <;> cases h3 : (c == c') <;> simp [go_sem, Try.underlying3, Result.andThen, List.range', h1, h2, h3]
theorem run_ne_ar (a b c d e : Int) (w : World) : (binOp .neq 32 (.agg #[.int .i64 a, .int .i64 b, .int .i64 c, .int .i64 d, .int .i64 e]) (.agg #[.int .i64 a, .int .i64 b, .int .i64 c, .int .i64 d, .int .i64 e])).run Try.prog w = .ok (.bool false) w := by
  have h1 : Try.prog.underlying 32 = some (.struct (Try.prog.fieldsOf 32)) := by kernel_rfl
  have h2 : Try.prog.stoodInHeld 32 = false := by kernel_rfl
  rw [run_neq_struct, run_equalIn_agg (P := Try.prog) w 9999 32 _ _ h1 h2]
  simp only [Program.fieldsOf, Try.underlying32]
  simp [Op.eqFields, go_sem, Try.underlying3, Result.andThen]
attribute [local irreducible] Blk LRow World.alloc World.setCell World.cell? World.frozen? MapV
set_option maxRecDepth 100000 in
set_option maxHeartbeats 8000000 in
theorem awake_any (w : World) : Calls Try.prog 10 #[] w (BoolPost w true) := by
  have HB0 : Hid (Below w.heap.size w (w.alloc (.cells #[.int .i64 0, .int .i64 1, .int .i64 2, .int .i64 2, .int .i64 1, .int .i64 3] 47))) := Lib.hid (bw_alloc (Below.refl _ _) _)
  obtain ⟨V, hV⟩ : ∃ V, V = w.alloc (.cells #[.int .i64 0, .int .i64 1, .int .i64 2, .int .i64 2, .int .i64 1, .int .i64 3] 47) := ⟨_, rfl⟩
  have HT : Hid (TrisAt V V.heap.size (some ⟨w.heap.size, 0, none⟩) exT.length exT) := by
    subst hV
    refine Lib.hid (TrisAt.mk_ ?_)
    simpa [exT, Tri.cells] using reads_new w #[.int .i64 0, .int .i64 1, .int .i64 2, .int .i64 2, .int .i64 1, .int .i64 3] 47 2 3 rfl
  rw [← hV] at HB0
  obtain ⟨V1, hV1⟩ : ∃ V1, V1 = V.alloc (.cells #[.int .i64 4, .slice (some ⟨w.heap.size, 0, none⟩) 2 2] 24) := ⟨_, rfl⟩
  have GS1 : Hid (Blk V1 V.heap.size 24 #[.int .i64 4, .slice (some ⟨w.heap.size, 0, none⟩) 2 2]) := by subst hV1; exact Lib.hid (Blk.new _ _ _)
  have HT1 : Hid (TrisAt V1 V1.heap.size (some ⟨w.heap.size, 0, none⟩) exT.length exT) := by subst hV1; exact Lib.hid ((HT.out.below (bw_alloc (Below.refl _ _) _)).more (by simp))
  have HB1 : Hid (Below w.heap.size w V1) := by subst hV1; exact Lib.hid (bw_alloc HB0.out _)
  go_enter Try.func10, Try.ntmps10
  go_upto_region 2 with (fail)
  rw [← hV, ← hV1]
  have hVs : V.heap.size = w.heap.size + 1 := by subst hV; simp
  rw [hVs] at GS1
  clear hV1 HT HB0 hVs
  obtain ⟨s0, s1, _, _, _⟩ := soup_facts GS1.out
  go_wp2_with fail
  refine (known_any 4 (some ⟨w.heap.size, 0, none⟩) exT.length 2 exT V1 (by decide) HT1.out).mono ?_
  rintro e w2 (⟨hx, rfl, hb⟩ | ⟨m, g, hm, hx, rfl, hg, hk, hb⟩)
  · exact absurd ex_is hx
  obtain rfl : m = 4 := by omega
  have GK2 := Lib.hid hk
  have HB2 := Lib.hid (bw_call HB1.out hb)
  clear hb hx hm hk HB1 GS1 HT1 s0 s1 hV
  obtain ⟨w3, hw3⟩ : ∃ w3, w3 = w2.alloc (.cells #[.int .i64 0, .int .i64 0, .int .i64 0, .int .i64 4, .int .i64 0, .int .i64 0, .int .i64 0, .int .i64 4, .int .i64 0] 36) := ⟨_, rfl⟩
  have HP3 : Hid (TrisAt w3 w3.heap.size (some ⟨w2.heap.size, 0, none⟩) exP.length exP) := by
    subst hw3
    refine Lib.hid (TrisAt.mk_ ?_)
    simpa [exP, Tri.cells] using reads_new w2 #[.int .i64 0, .int .i64 0, .int .i64 0, .int .i64 4, .int .i64 0, .int .i64 0, .int .i64 0, .int .i64 4, .int .i64 0] 36 3 3 rfl
  have GK3 : Hid (Blk w3 g 32 (arr 4 (known exT))) := by subst hw3; exact Lib.hid (GK2.out.alloc _)
  have HB3 : Hid (Below w.heap.size w w3) := by subst hw3; exact Lib.hid (bw_alloc HB2.out _)
  go_upto_region 4 with (fail)
  rw [← hw3]
  generalize w2.heap.size = gp at *
  clear hw3 GK2 HB2
  have hne := run_ne_ar 2 2 1 0 (-1)
  obtain ⟨k0, k1, k2, k3, k4⟩ := ex_kn
  have FLD : ∀ W, Blk W g 32 (arr 4 (known exT)) → W.cell? ⟨g, 15, none⟩ = some (.int .i64 2) ∧ W.cell? ⟨g, 16, none⟩ = some (.int .i64 2) ∧ W.cell? ⟨g, 17, none⟩ = some (.int .i64 1) ∧ W.cell? ⟨g, 18, none⟩ = some (.int .i64 0) ∧ W.cell? ⟨g, 19, none⟩ = some (.int .i64 (-1)) := fun W h =>
    ⟨k0 ▸ blk_fld h (v := 3) (j := 0) (by omega) (by omega), k1 ▸ blk_fld h (v := 3) (j := 1) (by omega) (by omega), k2 ▸ blk_fld h (v := 3) (j := 2) (by omega) (by omega), k3 ▸ blk_fld h (v := 3) (j := 3) (by omega) (by omega), k4 ▸ blk_fld h (v := 3) (j := 4) (by omega) (by omega)⟩
  have HFL := Lib.hid FLD
  clear FLD k0 k1 k2 k3 k4
  have GKw3 := GK3
  have HPw3 := HP3
  have HBw3 := HB3
  clear GK3 HP3 HB3
  obtain ⟨c0, c1, c2, c3, c4⟩ := HFL.out w3 GKw3.out
  go_upto_region 6 with (fail)
  clear hne
  have hq0 := run_eq_pt 0 4 0 0 4 0
  have hq1 := run_eq_pt 2 2 0 2 2 0
  have hq2 := run_eq_pt 4 4 0 4 4 0
  simp only [beq_self_eq_true, Bool.and_self] at hq0 hq1 hq2
  go_wp2_with fail
  refine (point_any 0 2 2 1 0 (-1) (some ⟨gp, 0, none⟩) exP.length 3 exP w3 (by decide) HPw3.out).mono ?_
  obtain ⟨p0, p1, p2⟩ := ex_p0
  unfold PtPost
  rw [p0, p1, p2]
  clear p0 p1 p2
  rintro e x1 ⟨rfl, hb⟩
  have GKx1 := Lib.hid (blk_call GKw3.out hb)
  have HPx1 := Lib.hid ((HPw3.out.below hb).more hb.size)
  have HBx1 := Lib.hid (bw_call HBw3.out hb)
  clear hb GKw3 HPw3 HBw3 c0 c1 c2 c3 c4
  obtain ⟨c0, c1, c2, c3, c4⟩ := HFL.out x1 GKx1.out
  go_wp2_with fail
  refine (point_any 1 2 2 1 0 (-1) (some ⟨gp, 0, none⟩) exP.length 3 exP x1 (by decide) HPx1.out).mono ?_
  obtain ⟨p0, p1, p2⟩ := ex_p1
  unfold PtPost
  rw [p0, p1, p2]
  clear p0 p1 p2
  rintro e x2 ⟨rfl, hb⟩
  have GKx2 := Lib.hid (blk_call GKx1.out hb)
  have HPx2 := Lib.hid ((HPx1.out.below hb).more hb.size)
  have HBx2 := Lib.hid (bw_call HBx1.out hb)
  clear hb GKx1 HPx1 HBx1 c0 c1 c2 c3 c4
  obtain ⟨c0, c1, c2, c3, c4⟩ := HFL.out x2 GKx2.out
  go_wp2_with fail
  refine (point_any 2 2 2 1 0 (-1) (some ⟨gp, 0, none⟩) exP.length 3 exP x2 (by decide) HPx2.out).mono ?_
  obtain ⟨p0, p1, p2⟩ := ex_p2
  unfold PtPost
  rw [p0, p1, p2]
  clear p0 p1 p2
  rintro e x3 ⟨rfl, hb⟩
  have GKx3 := Lib.hid (blk_call GKx2.out hb)
  have HPx3 := Lib.hid ((HPx2.out.below hb).more hb.size)
  have HBx3 := Lib.hid (bw_call HBx2.out hb)
  clear hb GKx2 HPx2 HBx2 c0 c1 c2 c3 c4
  obtain ⟨c0, c1, c2, c3, c4⟩ := HFL.out x3 GKx3.out
  go_wp2_with fail
  refine (point_any 3 2 2 1 0 (-1) (some ⟨gp, 0, none⟩) exP.length 3 exP x3 (by decide) HPx3.out).mono ?_
  obtain ⟨p0, p1, p2⟩ := ex_p3
  unfold PtPost
  rw [p0, p1, p2]
  clear p0 p1 p2
  rintro e x4 ⟨rfl, hb⟩
  have GKx4 := Lib.hid (blk_call GKx3.out hb)
  have HPx4 := Lib.hid ((HPx3.out.below hb).more hb.size)
  have HBx4 := Lib.hid (bw_call HBx3.out hb)
  clear hb GKx3 HPx3 HBx3 c0 c1 c2 c3 c4
  go_wp2_with fail
  go_ret
  exact ⟨rfl, HBx4.out⟩
end Go.Proofs.Ytcpfolojfdnojaa
