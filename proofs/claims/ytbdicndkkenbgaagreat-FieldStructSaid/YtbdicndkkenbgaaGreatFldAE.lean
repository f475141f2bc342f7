/- At of fields of edges and of pairs; FieldStruct's closures. No condition but sizes. -/
import Derived.Test.YtbdicndkkenbgaaGreatFldVE
import Derived.Test.YtbdicndkkenbgaaGreatFldNQ
import Derived.Test.YtbdicndkkenbgaaGreatF16A
namespace Go.Proofs.YtbdicndkkenbgaaGreat
open Go.RowKit

set_option linter.unusedSimpArgs false
set_option linter.unusedVariables false
theorem pair_set {w : World} {g : Nat} {t : TypeId} {x y : Value} (h : Blk w g t #[x, y]) (u v : Value) : Blk ((w.setCell ⟨g, 0, none⟩ u).setCell ⟨g, 1, none⟩ v) g t #[u, v] := by
  simpa using (h.set_ 0 u).set_ 1 v
theorem flat_atQ (V : Nat → Int × Int) (n : Nat) : ((List.range n).flatMap fun i => cellsQ (V i)) = ((List.range n).map V).flatMap cellsE := by
  rw [List.flatMap_map]
  rfl
attribute [local irreducible] Blk LRow World.alloc World.setCell World.cell? World.frozen? MapV
set_option maxRecDepth 100000 in
set_option maxHeartbeats 4000000 in
theorem atE_in (gf g n B : Nat) (A : Option Addr) (c : Nat) (V : Nat → Int × Int) (k : Nat) (w : World) (hn : n ≤ 1000000) (hk : k < n) (hF : FAt w 80 32 2 B gf g A c n ((List.range n).flatMap fun i => cellsE (V i))) :
    Calls Tryz.prog 16 #[.pointer (some ⟨gf, 0, none⟩), .int .i64 (k : Int)] w (fun e w' => e = .returned (.tuple #[.agg #[.int .i64 (V k).1, .int .i64 (V k).2], .bool true]) ∧ Below w.heap.size w w') := by
  obtain ⟨V0, hV⟩ : ∃ V0, V0 = (w.alloc (.cells #[.int .i64 0, .int .i64 0] 32)).alloc (.cells #[.int .i64 0, .int .i64 0] 32) := ⟨_, rfl⟩
  have GE0 : Hid (Blk V0 w.heap.size 32 #[.int .i64 0, .int .i64 0]) := by subst hV; exact Lib.hid ((Blk.new _ _ _).alloc _)
  have HB0 : Hid (Below w.heap.size w V0) := by subst hV; exact Lib.hid (bw_alloc (bw_alloc (Below.refl _ _) _) _)
  have HF0 := Lib.hid (hF.below HB0.out)
  clear hF
  have f1 := HF0.out.f1
  have hr : V0.ownsRow B 32 2 (.slice A n c) n (((List.range n).map V).flatMap cellsE) := by rw [← (flat_atE V hk).1]; exact HF0.out.r
  obtain ⟨gr, rfl, _, q0, q1⟩ := own_ptE hr (show ((List.range n).map V)[k]? = some (V k) by simp [hk])
  clear hr HF0
  obtain ⟨e0, e1, e2, e3⟩ : V0.cell? ⟨w.heap.size, 0, none⟩ = some (.int .i64 0) ∧ V0.cell? ⟨w.heap.size, 1, none⟩ = some (.int .i64 0) ∧ V0.frozen? ⟨w.heap.size, 0, none⟩ = false ∧ V0.frozen? ⟨w.heap.size, 1, none⟩ = false := ⟨GE0.out.cell 0, GE0.out.cell 1, GE0.out.frozen 0, GE0.out.frozen 1⟩
  have hki : (k : Int) < (n : Int) := by omega
  go_enter Tryz.func16, Tryz.ntmps16
  go_upto_region 2 with (fail)
  rw [← hV]
  clear hV
  obtain ⟨ge, hge⟩ : ∃ ge, ge = w.heap.size := ⟨_, rfl⟩
  have HGE : Hid (w.heap.size ≤ ge) := Lib.hid (by omega)
  rw [← hge] at GE0 e0 e1 e2 e3
  simp only [← hge]
  clear hge
  go_wp2_with fail
  have g0 := (pair_set GE0.out (.int .i64 (V k).1) (.int .i64 (V k).2)).cell 0
  have g1 := (pair_set GE0.out (.int .i64 (V k).1) (.int .i64 (V k).2)).cell 1
  simp at g0 g1
  refine bodyPost_ret (v := .tuple #[.agg #[.int .i64 (V k).1, .int .i64 (V k).2], .bool true]) ?_ rfl ⟨rfl, bw_set (bw_set HB0.out HGE.out _) HGE.out _⟩
  simp [results, Tryz.results16, go_sem, g0, g1]
theorem newE_pure (kf : Nat) (lb : Array Value) (heg : ∀ args w, (callFunc kf args).run Tryz.prog w = .ok (.enter kf args) w) (g m : Nat) (T : List Tri) (V : Nat → Int × Int) (w : World) (hT : T.length ≤ 1000) (h : TabN w g m T)
    (hof : ∀ c W, c < 3 * T.length → Below w.heap.size w W → Calls Tryz.prog kf (#[.int .i64 (c : Int)] ++ lb) W (EdPost W (V c))) :
    Calls Tryz.prog 10 #[.pointer (some ⟨g, 0, none⟩), .func (.func kf) #[] lb] w (NewQ 80 32 2 g (3 * T.length) ((List.range (3 * T.length)).flatMap fun i => cellsE (V i)) w) :=
  (newE_any kf lb heg g m T (fun _ => False) (fun _ _ => True) V w hT h (fun _ hf => hf.elim) (fun _ _ _ _ _ => trivial) trivial (OfC.pure hof)).mono fun e w' ⟨gf, A, c, he, hf, _, ho⟩ => ⟨gf, A, c, he, hf, ho.below_⟩
set_option maxRecDepth 100000 in
set_option maxHeartbeats 4000000 in
theorem atQ_in (gf g n B : Nat) (A : Option Addr) (c : Nat) (V : Nat → Int × Int) (k : Nat) (w : World) (hn : n ≤ 1000000) (hk : k < n) (hF : FAt w 84 36 2 B gf g A c n ((List.range n).flatMap fun i => cellsQ (V i))) :
    Calls Tryz.prog 17 #[.pointer (some ⟨gf, 0, none⟩), .int .i64 (k : Int)] w (fun e w' => e = .returned (.tuple #[.agg #[.int .i64 (V k).1, .int .i64 (V k).2], .bool true]) ∧ Below w.heap.size w w') := by
  obtain ⟨V0, hV⟩ : ∃ V0, V0 = (w.alloc (.cells #[.int .i64 0, .int .i64 0] 36)).alloc (.cells #[.int .i64 0, .int .i64 0] 36) := ⟨_, rfl⟩
  have GE0 : Hid (Blk V0 w.heap.size 36 #[.int .i64 0, .int .i64 0]) := by subst hV; exact Lib.hid ((Blk.new _ _ _).alloc _)
  have HB0 : Hid (Below w.heap.size w V0) := by subst hV; exact Lib.hid (bw_alloc (bw_alloc (Below.refl _ _) _) _)
  have HF0 := Lib.hid (hF.below HB0.out)
  clear hF
  have f1 := HF0.out.f1
  have hr : V0.ownsRow B 36 2 (.slice A n c) n (((List.range n).map V).flatMap cellsE) := by rw [← flat_atQ V n]; exact HF0.out.r
  obtain ⟨gr, rfl, _, q0, q1⟩ := own_ptE hr (show ((List.range n).map V)[k]? = some (V k) by simp [hk])
  clear hr HF0
  obtain ⟨e0, e1, e2, e3⟩ : V0.cell? ⟨w.heap.size, 0, none⟩ = some (.int .i64 0) ∧ V0.cell? ⟨w.heap.size, 1, none⟩ = some (.int .i64 0) ∧ V0.frozen? ⟨w.heap.size, 0, none⟩ = false ∧ V0.frozen? ⟨w.heap.size, 1, none⟩ = false := ⟨GE0.out.cell 0, GE0.out.cell 1, GE0.out.frozen 0, GE0.out.frozen 1⟩
  have hki : (k : Int) < (n : Int) := by omega
  go_enter Tryz.func17, Tryz.ntmps17
  go_upto_region 2 with (fail)
  rw [← hV]
  clear hV
  obtain ⟨ge, hge⟩ : ∃ ge, ge = w.heap.size := ⟨_, rfl⟩
  have HGE : Hid (w.heap.size ≤ ge) := Lib.hid (by omega)
  rw [← hge] at GE0 e0 e1 e2 e3
  simp only [← hge]
  clear hge
  go_wp2_with fail
  have g0 := (pair_set GE0.out (.int .i64 (V k).1) (.int .i64 (V k).2)).cell 0
  have g1 := (pair_set GE0.out (.int .i64 (V k).1) (.int .i64 (V k).2)).cell 1
  simp at g0 g1
  refine bodyPost_ret (v := .tuple #[.agg #[.int .i64 (V k).1, .int .i64 (V k).2], .bool true]) ?_ rfl ⟨rfl, bw_set (bw_set HB0.out HGE.out _) HGE.out _⟩
  simp [results, Tryz.results17, go_sem, g0, g1]
theorem newQ_pure (kf : Nat) (lb : Array Value) (heg : ∀ args w, (callFunc kf args).run Tryz.prog w = .ok (.enter kf args) w) (g m : Nat) (T : List Tri) (V : Nat → Int × Int) (w : World) (hT : T.length ≤ 1000) (h : TabN w g m T)
    (hof : ∀ c W, c < 3 * T.length → Below w.heap.size w W → Calls Tryz.prog kf (#[.int .i64 (c : Int)] ++ lb) W (EdPost W (V c))) :
    Calls Tryz.prog 13 #[.pointer (some ⟨g, 0, none⟩), .func (.func kf) #[] lb] w (NewQ 84 36 2 g (3 * T.length) ((List.range (3 * T.length)).flatMap fun i => cellsQ (V i)) w) :=
  (newQ_any kf lb heg g m T (fun _ => False) (fun _ _ => True) V w hT h (fun _ hf => hf.elim) (fun _ _ _ _ _ => trivial) trivial (OfC.pure hof)).mono fun e w' ⟨gf, A, c, he, hf, _, ho⟩ => ⟨gf, A, c, he, hf, ho.below_⟩
set_option maxHeartbeats 4000000 in
theorem structFE_any (bt g m : Nat) (T : List Tri) (c : Nat) (w : World) (hc : c < 3 * T.length) (h2 : w.cell? ⟨bt, 0, none⟩ = some (.pointer (some ⟨g, 0, none⟩))) (hlt : bt < w.heap.size) (ht : TabN w g m T) :
    Calls Tryz.prog 11 #[.int .i64 (c : Int), .pointer (some ⟨bt, 0, none⟩)] w (EdPost w (ce T c)) := by
  obtain ⟨V0, hV⟩ : ∃ V0, V0 = w.alloc (.cells #[.int .i64 0, .int .i64 0] 32) := ⟨_, rfl⟩
  have GE0 : Hid (Blk V0 w.heap.size 32 #[.int .i64 0, .int .i64 0]) := by subst hV; exact Lib.hid (Blk.new _ _ _)
  have HB0 : Hid (Below w.heap.size w V0) := by subst hV; exact Lib.hid (bw_alloc (Below.refl _ _) _)
  have HT0 := Lib.hid (ht.below HB0.out)
  have hbt : V0.cell? ⟨bt, 0, none⟩ = some (.pointer (some ⟨g, 0, none⟩)) := (HB0.out.cell (p := ⟨bt, 0, none⟩) hlt).trans h2
  clear ht h2
  go_enter Tryz.func11, Tryz.ntmps11
  go_upto_region 1 with (fail)
  rw [← hV]
  clear hV
  obtain ⟨ge, hge⟩ : ∃ ge, ge = w.heap.size := ⟨_, rfl⟩
  have HGE : Hid (w.heap.size ≤ ge) := Lib.hid (by omega)
  rw [← hge] at GE0
  simp only [← hge]
  clear hge
  go_wp2_with fail
  refine (HT0.out.edge hc).mono ?_
  rintro e w1 ⟨rfl, hb⟩
  have GE1 := Lib.hid (blk_call GE0.out hb)
  have HB1 := Lib.hid (bw_call HB0.out hb)
  clear hb GE0 HB0 HT0 hbt
  obtain ⟨e0, e1, e2, e3⟩ : w1.cell? ⟨ge, 0, none⟩ = some (.int .i64 0) ∧ w1.cell? ⟨ge, 1, none⟩ = some (.int .i64 0) ∧ w1.frozen? ⟨ge, 0, none⟩ = false ∧ w1.frozen? ⟨ge, 1, none⟩ = false := ⟨GE1.out.cell 0, GE1.out.cell 1, GE1.out.frozen 0, GE1.out.frozen 1⟩
  go_wp2_with fail
  have g0 := (pair_set GE1.out (.int .i64 (ce T c).1) (.int .i64 (ce T c).2)).cell 0
  have g1 := (pair_set GE1.out (.int .i64 (ce T c).1) (.int .i64 (ce T c).2)).cell 1
  simp at g0 g1
  refine bodyPost_ret (v := .agg #[.int .i64 (ce T c).1, .int .i64 (ce T c).2]) ?_ rfl ⟨rfl, bw_set (bw_set HB1.out HGE.out _) HGE.out _⟩
  simp [results, Tryz.results11, go_sem, g0, g1]
set_option maxHeartbeats 4000000 in
theorem structFQ_any (bt g m : Nat) (T : List Tri) (c : Nat) (w : World) (hc : c < 3 * T.length) (h2 : w.cell? ⟨bt, 0, none⟩ = some (.pointer (some ⟨g, 0, none⟩))) (hlt : bt < w.heap.size) (ht : TabN w g m T) :
    Calls Tryz.prog 14 #[.int .i64 (c : Int), .pointer (some ⟨bt, 0, none⟩)] w (EdPost w (((c : Int), optI (oppF T c)))) := by
  obtain ⟨V0, hV⟩ : ∃ V0, V0 = w.alloc (.cells #[.int .i64 0, .int .i64 0] 36) := ⟨_, rfl⟩
  have GE0 : Hid (Blk V0 w.heap.size 36 #[.int .i64 0, .int .i64 0]) := by subst hV; exact Lib.hid (Blk.new _ _ _)
  have HB0 : Hid (Below w.heap.size w V0) := by subst hV; exact Lib.hid (bw_alloc (Below.refl _ _) _)
  have HT0 := Lib.hid (ht.below HB0.out)
  have hbt : V0.cell? ⟨bt, 0, none⟩ = some (.pointer (some ⟨g, 0, none⟩)) := (HB0.out.cell (p := ⟨bt, 0, none⟩) hlt).trans h2
  clear ht h2
  go_enter Tryz.func14, Tryz.ntmps14
  go_upto_region 1 with (fail)
  rw [← hV]
  clear hV
  obtain ⟨ge, hge⟩ : ∃ ge, ge = w.heap.size := ⟨_, rfl⟩
  have HGE : Hid (w.heap.size ≤ ge) := Lib.hid (by omega)
  rw [← hge] at GE0
  simp only [← hge]
  clear hge
  go_wp2_with fail
  refine (HT0.out.opp hc).mono ?_
  rintro e w1 ⟨rfl, hb⟩
  have GE1 := Lib.hid (blk_call GE0.out hb)
  have HB1 := Lib.hid (bw_call HB0.out hb)
  clear hb GE0 HB0 HT0 hbt
  obtain ⟨e0, e1, e2, e3⟩ : w1.cell? ⟨ge, 0, none⟩ = some (.int .i64 0) ∧ w1.cell? ⟨ge, 1, none⟩ = some (.int .i64 0) ∧ w1.frozen? ⟨ge, 0, none⟩ = false ∧ w1.frozen? ⟨ge, 1, none⟩ = false := ⟨GE1.out.cell 0, GE1.out.cell 1, GE1.out.frozen 0, GE1.out.frozen 1⟩
  go_wp2_with fail
  have g0 := (pair_set GE1.out (.int .i64 (c : Int)) (.int .i64 (optI (oppF T c)))).cell 0
  have g1 := (pair_set GE1.out (.int .i64 (c : Int)) (.int .i64 (optI (oppF T c)))).cell 1
  simp at g0 g1
  refine bodyPost_ret (v := .agg #[.int .i64 (c : Int), .int .i64 (optI (oppF T c))]) ?_ rfl ⟨rfl, bw_set (bw_set HB1.out HGE.out _) HGE.out _⟩
  simp [results, Tryz.results14, go_sem, g0, g1]
end Go.Proofs.YtbdicndkkenbgaaGreat
