/- The table's soup, walked. No condition. -/
import Derived.Test.YtcahbcminonfbaaGreatIRow
import Derived.Test.YtcahbcminonfbaaGreatCornerB
namespace Go.Proofs.YtcahbcminonfbaaGreat
open Go.RowKit

set_option linter.unusedSimpArgs false
set_option linter.unusedVariables false
attribute [local irreducible] Blk LRow World.alloc World.setCell World.cell? World.frozen? MapV
set_option maxRecDepth 100000 in
set_option maxHeartbeats 4000000 in
theorem soupT_any (g B : Nat) (N : Int) (T : List Tri) (w : World) (hT : T.length ≤ 8192) (h : TabS w B g N T) :
    Calls Tryz.prog 23 #[.pointer (some ⟨g, 0, none⟩)] w (SPost w N T) := by
  obtain ⟨A, c, x2, x3, h1, h2⟩ := h.at_
  obtain ⟨w1, hV⟩ : ∃ V, V = w.alloc (.cells #[.int .i64 0, .slice none 0 0] 24) := ⟨_, rfl⟩
  have GRw1 : Hid (Blk w1 w.heap.size 24 #[.int .i64 0, .slice none 0 0]) := by subst hV; exact Lib.hid (Blk.new _ _ _)
  have GTw1 : Hid (Blk w1 g 67 #[.int .i64 N, .slice A T.length c, x2, x3]) := by subst hV; exact Lib.hid (h1.alloc _)
  have HRw1 : Hid (LRow w1 B A c T) := by subst hV; exact Lib.hid (h2.alloc _)
  have HBw1 : Hid (Below w.heap.size w w1) := by subst hV; exact Lib.hid (bw_alloc (Below.refl _ _) _)
  clear h h1 h2
  go_enter Tryz.func23, Tryz.ntmps23
  go_upto_region 3 with (fail)
  rw [← hV]
  clear hV
  obtain ⟨gr, hgr⟩ : ∃ gr, gr = w.heap.size := ⟨_, rfl⟩
  have HGR : Hid (w.heap.size ≤ gr) := Lib.hid (by omega)
  rw [← hgr] at GRw1
  simp only [← hgr]
  clear hgr
  refine wp_region_till (S := fun w' => w'.cell? ⟨gr, 0, none⟩ = some (.int .i64 0) ∧ w'.cell? ⟨gr, 1, none⟩ = some (.slice none 0 0) ∧ w'.frozen? ⟨gr, 0, none⟩ = false ∧ w'.frozen? ⟨gr, 1, none⟩ = false ∧ w'.cell? ⟨g, 0, none⟩ = some (.int .i64 N) ∧ w'.cell? ⟨g, 1, none⟩ = some (.slice A T.length c)) 12 (by kernel_rfl) ⟨(soup_facts GRw1.out.drew).1, (soup_facts GRw1.out.drew).2.1, (soup_facts GRw1.out.drew).2.2.1, (soup_facts GRw1.out.drew).2.2.2.1, (tab_facts GTw1.out.drew).1, (tab_facts GTw1.out.drew).2.1⟩ (fun hHeld => ?_)
  refine Till.take (i := 0) (v := ?vt1) rfl (by kernel_rfl) (by kernel_rfl) (by kernel_rfl) (by kernel_rfl) (fun _ _ _ h => h) (Or.inl ⟨by rfl, ?ht1⟩) (by assumption) ?restt1
  case ht1 => (intro w hSw; (try dsimp only at hSw); go_simp; try with_reducible rfl)
  (try simp only [Act.put, List.setIfInBounds_toArray, List.set_cons_zero, List.set_cons_succ])
  refine Till.take (i := 1) (v := ?vt2) rfl (by kernel_rfl) (by kernel_rfl) (by kernel_rfl) (by kernel_rfl) (fun _ _ _ h => h) (Or.inl ⟨by rfl, ?ht2⟩) (by assumption) ?restt2
  case ht2 => (intro w hSw; (try dsimp only at hSw); go_simp; try with_reducible rfl)
  (try simp only [Act.put, List.setIfInBounds_toArray, List.set_cons_zero, List.set_cons_succ])
  refine Till.take (i := 2) (v := ?vt3) rfl (by kernel_rfl) (by kernel_rfl) (by kernel_rfl) (by kernel_rfl) (fun _ _ _ h => h) (Or.inl ⟨by rfl, ?ht3⟩) (by assumption) ?restt3
  case ht3 => (intro w hSw; (try dsimp only at hSw); go_simp; try with_reducible rfl)
  (try simp only [Act.put, List.setIfInBounds_toArray, List.set_cons_zero, List.set_cons_succ])
  refine Till.take (i := 3) (v := ?vt4) rfl (by kernel_rfl) (by kernel_rfl) (by kernel_rfl) (by kernel_rfl) (fun _ _ _ h => h) (Or.inl ⟨by rfl, ?ht4⟩) (by assumption) ?restt4
  case ht4 => (intro w hSw; (try dsimp only at hSw); go_simp; try with_reducible rfl)
  (try simp only [Act.put, List.setIfInBounds_toArray, List.set_cons_zero, List.set_cons_succ])
  refine Till.take (i := 4) (v := ?vt5) rfl (by kernel_rfl) (by kernel_rfl) (by kernel_rfl) (by kernel_rfl) (fun _ _ _ h => h) (Or.inl ⟨by rfl, ?ht5⟩) (by assumption) ?restt5
  case ht5 => (intro w hSw; (try dsimp only at hSw); go_simp; try with_reducible rfl)
  (try simp only [Act.put, List.setIfInBounds_toArray, List.set_cons_zero, List.set_cons_succ])
  refine Till.take (i := 5) (v := ?vt6) rfl (by kernel_rfl) (by kernel_rfl) (by kernel_rfl) (by kernel_rfl) (fun _ _ _ h => h) (Or.inl ⟨by rfl, ?ht6⟩) (by assumption) ?restt6
  case ht6 => (intro w hSw; (try dsimp only at hSw); go_simp; try with_reducible rfl)
  (try simp only [Act.put, List.setIfInBounds_toArray, List.set_cons_zero, List.set_cons_succ])
  refine Till.take (i := 6) (v := ?vt7) rfl (by kernel_rfl) (by kernel_rfl) (by kernel_rfl) (by kernel_rfl) (fun _ _ _ h => h) (Or.inl ⟨by rfl, ?ht7⟩) (by assumption) ?restt7
  case ht7 => (intro w hSw; (try dsimp only at hSw); go_simp; try with_reducible rfl)
  (try simp only [Act.put, List.setIfInBounds_toArray, List.set_cons_zero, List.set_cons_succ])
  refine Till.take (i := 7) (v := ?vt8) rfl (by kernel_rfl) (by kernel_rfl) (by kernel_rfl) (by kernel_rfl) (fun _ _ _ h => h) (Or.inl ⟨by rfl, ?ht8⟩) (by assumption) ?restt8
  case ht8 => (intro w hSw; (try dsimp only at hSw); go_simp; try with_reducible rfl)
  (try simp only [Act.put, List.setIfInBounds_toArray, List.set_cons_zero, List.set_cons_succ])
  refine Till.take (i := 8) (v := ?vt9) rfl (by kernel_rfl) (by kernel_rfl) (by kernel_rfl) (by kernel_rfl) (fun _ _ _ h => h) (Or.inl ⟨by rfl, ?ht9⟩) (by assumption) ?restt9
  case ht9 => (intro w hSw; (try dsimp only at hSw); go_simp; try with_reducible rfl)
  (try simp only [Act.put, List.setIfInBounds_toArray, List.set_cons_zero, List.set_cons_succ])
  refine Till.take (i := 9) (v := ?vt10) rfl (by kernel_rfl) (by kernel_rfl) (by kernel_rfl) (by kernel_rfl) (fun _ _ _ h => h) (Or.inl ⟨by rfl, ?ht10⟩) (by assumption) ?restt10
  case ht10 => (intro w hSw; (try dsimp only at hSw); go_simp; try with_reducible rfl)
  (try simp only [Act.put, List.setIfInBounds_toArray, List.set_cons_zero, List.set_cons_succ])
  refine Till.ready (rs := [10]) (by kernel_rfl) (by simp) ?_
  refine TillEach.cons rfl (fun K hK => ?_) ?_
  · go_simp
    go_wp2_with (go_at_call 29; refine (clone_any A c T w1.drew hT (HRw1.out.drew).tris).mono ?_; rintro e v3 ⟨A1, c1, rfl, hr, hb⟩)
    have GRv3 := Lib.hid (blk_call GRw1.out.drew hb)
    have GTv3 := Lib.hid (blk_call GTw1.out.drew hb)
    have HRv3 := Lib.hid (HRw1.out.drew.below hb)
    have RAv3 : Hid (LRow v3 w.heap.size A1 c1 T) := Lib.hid (LRow.base hr (bw_size (bw_drew HBw1.out)))
    clear hr
    have HBv3 := Lib.hid (bw_call (bw_drew HBw1.out) hb)
    clear hb
    refine hK.out _ _ ?_ (fun hHeld => ?_)
    · exact ⟨(soup_facts GRv3.out).1, (soup_facts GRv3.out).2.1, (soup_facts GRv3.out).2.2.1, (soup_facts GRv3.out).2.2.2.1, (tab_facts GTv3.out).1, (tab_facts GTv3.out).2.1⟩
    clear hK K
    (try simp only [Act.put, List.setIfInBounds_toArray, List.set_cons_zero, List.set_cons_succ])
    refine Till.take (i := 11) (v := ?vt11) rfl (by kernel_rfl) (by kernel_rfl) (by kernel_rfl) (by kernel_rfl) (fun _ _ _ h => h) (Or.inl ⟨by rfl, ?ht11⟩) (by assumption) ?restt11
    case ht11 => (intro w hSw; (try dsimp only at hSw); go_simp; try with_reducible rfl)
    (try simp only [Act.put, List.setIfInBounds_toArray, List.set_cons_zero, List.set_cons_succ])
    refine Till.ready (rs := [12]) (by kernel_rfl) (by simp) ?_
    refine TillEach.last rfl (fun K hK => ?_)
    · go_simp
      refine hK.out _ _ ?_
      clear hK K
      (try simp only [Act.put, List.setIfInBounds_toArray, List.set_cons_zero, List.set_cons_succ])
      refine Till.done (by kernel_rfl) ?_ _
      go_wp2_with fail
      obtain ⟨g0, g1, _, _, _⟩ := soup_facts (soup_set0 GRv3.out (.int .i64 N) (.slice A1 T.length c1))
      refine bodyPost_ret (v := .agg #[.int .i64 N, .slice A1 T.length c1]) ?_ rfl ⟨A1, c1, rfl, LRow.soup_set0 RAv3.out GRv3.out _ _, bw_set (bw_set HBv3.out HGR.out _) HGR.out _⟩
      simp [results, Tryz.results23, go_sem, g0, g1]
  exact TillEach.nil
end Go.Proofs.YtcahbcminonfbaaGreat
