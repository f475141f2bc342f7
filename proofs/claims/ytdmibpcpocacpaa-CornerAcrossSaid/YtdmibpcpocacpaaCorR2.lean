/- The document's Edge, Facing, Opp, Corner and Same of layer 10, walked. No condition but sizes. -/
import Derived.Test.YtdmibpcpocacpaaCorR
namespace Go.Proofs.Ytdmibpcpocacpaa
open Go.RowKit

set_option linter.unusedSimpArgs false
set_option linter.unusedVariables false
attribute [local irreducible] Blk LRow World.alloc World.setCell World.cell? World.frozen? MapV
set_option maxRecDepth 100000 in
set_option maxHeartbeats 4000000 in
theorem refEdge_any (N : Int) (A : Option Addr) (c : Nat) (T : List Tri) (k : Nat) (w : World) (hT : T.length ≤ 8192) (hk : k < 3 * T.length) (ht : TrisAt w w.heap.size A T.length T) :
    Calls Try.prog 23 #[.agg #[.int .i64 N, .slice A T.length c], .int .i64 (k : Int)] w (EdPost w (ce T k)) := by
  have HT := Lib.hid ht
  clear ht
  have HN : Hid (∀ W, Calls Try.prog 20 #[.int .i64 (k : Int)] W (IntPost W (nxc k : Int))) := Lib.hid fun W => (refNext_any k W (by omega)).mono fun e w' h => int_of_is h
  have HP : Hid (∀ W, Calls Try.prog 21 #[.int .i64 (k : Int)] W (IntPost W (pvc k : Int))) := Lib.hid fun W => (refPrev_any k W (by omega)).mono fun e w' h => int_of_is h
  have HV : Hid (∀ (W : World) (j : Nat) (hj : j < 3 * T.length) (h : Below w.heap.size w W), Calls Try.prog 19 #[.agg #[.int .i64 N, .slice A T.length c], .int .i64 (j : Int)] W (IntPost W (cv T j))) := Lib.hid fun W j hj h => refVertex_any N A c T j W hT hj ((HT.out.below h).more h.size)
  rw [show ce T k = (cv T (nxc k), cv T (pvc k)) from rfl]
  go_enter Try.func23, Try.ntmps23
  go_upto_region 1 with (fail)
  obtain ⟨v, hV⟩ : ∃ V, V = (w.alloc (.cells #[.int .i64 N, .slice A T.length c] 24)).alloc (.cells #[.int .i64 0, .int .i64 0] 31) := ⟨_, rfl⟩
  have GAv : Hid (Blk v w.heap.size 24 #[.int .i64 N, .slice A T.length c]) := by subst hV; exact Lib.hid ((Blk.new _ _ _).alloc _)
  have GEv : Hid (Blk v (w.heap.size + 1) 31 #[.int .i64 0, .int .i64 0]) := by subst hV; exact Lib.hid (blk_new1 _ _ _ _)
  have HBv : Hid (Below w.heap.size w v) := by subst hV; exact Lib.hid (bw_alloc (bw_alloc (Below.refl _ _) _) _)
  rw [← hV]
  clear hV
  obtain ⟨ga, hga⟩ : ∃ g, g = w.heap.size := ⟨_, rfl⟩
  obtain ⟨ge, hge⟩ : ∃ g, g = w.heap.size + 1 := ⟨_, rfl⟩
  have HGE : Hid (w.heap.size ≤ ge) := Lib.hid (by omega)
  rw [← hge] at GEv ⊢
  rw [← hga] at GAv
  simp only [← hga]
  clear hga hge
  have hx1 := nxc_lt hk
  have hx2 := pvc_lt hk
  refine wp_region_till (S := fun w' => w'.cell? ⟨ga, 0, none⟩ = some (.int .i64 N) ∧ w'.cell? ⟨ga, 1, none⟩ = some (.slice A T.length c)) 9 (by kernel_rfl) ⟨(soup_facts GAv.out.drew).1, (soup_facts GAv.out.drew).2.1⟩ (fun hHeld => ?_)
  refine Till.take (i := 0) (v := ?vt1) rfl (by kernel_rfl) (by kernel_rfl) (by kernel_rfl) (by kernel_rfl) (fun _ _ _ h => h) (Or.inl ⟨by rfl, ?ht1⟩) (by assumption) ?restt1
  case ht1 => (intro w hSw; (try dsimp only at hSw); go_simp; try with_reducible rfl)
  (try simp only [Act.put, List.setIfInBounds_toArray, List.set_cons_zero, List.set_cons_succ])
  refine Till.take (i := 1) (v := ?vt2) rfl (by kernel_rfl) (by kernel_rfl) (by kernel_rfl) (by kernel_rfl) (fun _ _ _ h => h) (Or.inl ⟨by rfl, ?ht2⟩) (by assumption) ?restt2
  case ht2 => (intro w hSw; (try dsimp only at hSw); go_simp; try with_reducible rfl)
  (try simp only [Act.put, List.setIfInBounds_toArray, List.set_cons_zero, List.set_cons_succ])
  refine Till.take (i := 4) (v := ?vt3) rfl (by kernel_rfl) (by kernel_rfl) (by kernel_rfl) (by kernel_rfl) (fun _ _ _ h => h) (Or.inl ⟨by rfl, ?ht3⟩) (by assumption) ?restt3
  case ht3 => (intro w hSw; (try dsimp only at hSw); go_simp; try with_reducible rfl)
  (try simp only [Act.put, List.setIfInBounds_toArray, List.set_cons_zero, List.set_cons_succ])
  refine Till.take (i := 5) (v := ?vt4) rfl (by kernel_rfl) (by kernel_rfl) (by kernel_rfl) (by kernel_rfl) (fun _ _ _ h => h) (Or.inl ⟨by rfl, ?ht4⟩) (by assumption) ?restt4
  case ht4 => (intro w hSw; (try dsimp only at hSw); go_simp; try with_reducible rfl)
  (try simp only [Act.put, List.setIfInBounds_toArray, List.set_cons_zero, List.set_cons_succ])
  refine Till.ready (rs := [2]) (by kernel_rfl) (by simp) ?_
  refine TillEach.cons rfl (fun K hK => ?_) ?_
  · go_simp
    go_wp2_with (go_at_call 20; refine (HN.out v.drew).mono ?_; rintro e v3 ⟨rfl, hb⟩)
    have GAv3 := Lib.hid (blk_call GAv.out.drew hb)
    have GEv3 := Lib.hid (blk_call GEv.out.drew hb)
    have HBv3 := Lib.hid (bw_call (bw_drew HBv.out) hb)
    clear hb
    refine hK.out _ _ ?_ (fun hHeld => ?_)
    · exact ⟨(soup_facts GAv3.out).1, (soup_facts GAv3.out).2.1⟩
    clear hK K
    (try simp only [Act.put, List.setIfInBounds_toArray, List.set_cons_zero, List.set_cons_succ])
    refine Till.ready (rs := [3]) (by kernel_rfl) (by simp) ?_
    refine TillEach.cons rfl (fun K hK => ?_) ?_
    · go_simp
      go_wp2_with (go_at_call 19; refine (HV.out v3 _ (nxc_lt hk) HBv3.out).mono ?_; rintro e v4 ⟨rfl, hb⟩)
      have GAv4 := Lib.hid (blk_call GAv3.out hb)
      have GEv4 := Lib.hid (blk_call GEv3.out hb)
      have HBv4 := Lib.hid (bw_call HBv3.out hb)
      clear hb
      refine hK.out _ _ ?_ (fun hHeld => ?_)
      · exact ⟨(soup_facts GAv4.out).1, (soup_facts GAv4.out).2.1⟩
      clear hK K
      (try simp only [Act.put, List.setIfInBounds_toArray, List.set_cons_zero, List.set_cons_succ])
      refine Till.ready (rs := [6]) (by kernel_rfl) (by simp) ?_
      refine TillEach.cons rfl (fun K hK => ?_) ?_
      · go_simp
        go_wp2_with (go_at_call 21; refine (HP.out v4).mono ?_; rintro e v5 ⟨rfl, hb⟩)
        have GAv5 := Lib.hid (blk_call GAv4.out hb)
        have GEv5 := Lib.hid (blk_call GEv4.out hb)
        have HBv5 := Lib.hid (bw_call HBv4.out hb)
        clear hb
        refine hK.out _ _ ?_ (fun hHeld => ?_)
        · exact ⟨(soup_facts GAv5.out).1, (soup_facts GAv5.out).2.1⟩
        clear hK K
        (try simp only [Act.put, List.setIfInBounds_toArray, List.set_cons_zero, List.set_cons_succ])
        refine Till.ready (rs := [7]) (by kernel_rfl) (by simp) ?_
        refine TillEach.cons rfl (fun K hK => ?_) ?_
        · go_simp
          go_wp2_with (go_at_call 19; refine (HV.out v5 _ (pvc_lt hk) HBv5.out).mono ?_; rintro e v6 ⟨rfl, hb⟩)
          have GAv6 := Lib.hid (blk_call GAv5.out hb)
          have GEv6 := Lib.hid (blk_call GEv5.out hb)
          obtain ⟨f0, f1, f2, f3⟩ := edge_facts GEv6.out
          have HBv6 := Lib.hid (bw_call HBv5.out hb)
          clear hb
          refine hK.out _ _ ?_ (fun hHeld => ?_)
          · exact ⟨(soup_facts GAv6.out).1, (soup_facts GAv6.out).2.1⟩
          clear hK K
          (try simp only [Act.put, List.setIfInBounds_toArray, List.set_cons_zero, List.set_cons_succ])
          refine Till.take (i := 8) (v := ?vt5) rfl (by kernel_rfl) (by kernel_rfl) (by kernel_rfl) (by kernel_rfl) (fun _ _ _ h => h) (Or.inl ⟨by rfl, ?ht5⟩) (by assumption) ?restt5
          case ht5 => (intro w hSw; (try dsimp only at hSw); go_simp; try with_reducible rfl)
          (try simp only [Act.put, List.setIfInBounds_toArray, List.set_cons_zero, List.set_cons_succ])
          refine Till.ready (rs := [9]) (by kernel_rfl) (by simp) ?_
          refine TillEach.last rfl (fun K hK => ?_)
          · go_simp
            refine hK.out _ _ ?_
            clear hK K
            (try simp only [Act.put, List.setIfInBounds_toArray, List.set_cons_zero, List.set_cons_succ])
            refine Till.done (by kernel_rfl) ?_ _
            go_wp2_with fail
            obtain ⟨g0, g1, _, _⟩ := edge_facts (edge_set GEv6.out (.int .i64 (cv T (nxc k))) (.int .i64 (cv T (pvc k))))
            refine bodyPost_ret (v := .agg #[.int .i64 (cv T (nxc k)), .int .i64 (cv T (pvc k))]) ?_ rfl ⟨rfl, bw_set (bw_set HBv6.out HGE.out _) HGE.out _⟩
            simp [results, Try.results23, go_sem, g0, g1]
        exact TillEach.nil
      exact TillEach.nil
    exact TillEach.nil
  exact TillEach.nil
set_option maxRecDepth 100000 in
set_option maxHeartbeats 4000000 in
theorem refFacing_any (N : Int) (A : Option Addr) (c : Nat) (T : List Tri) (x y : Int) (w : World) (hT : T.length ≤ 8192) (ht : TrisAt w w.heap.size A T.length T) :
    Calls Try.prog 25 #[.agg #[.int .i64 N, .slice A T.length c], .agg #[.int .i64 x, .int .i64 y]] w (IntPost w (facingI T (x, y))) := by
  have HT := Lib.hid ht
  clear ht
  have hq := fun a b => run_eq_ed a b x y
  obtain ⟨r, HRR⟩ : ∃ r, Hid (facingI T (x, y) = r) := ⟨_, Lib.hid rfl⟩
  rw [HRR.out]
  go_enter Try.func25, Try.ntmps25
  go_upto_region 1 with (fail)
  obtain ⟨v, hV⟩ : ∃ V, V = (w.alloc (.cells #[.int .i64 N, .slice A T.length c] 24)).alloc (.cells #[.int .i64 x, .int .i64 y] 31) := ⟨_, rfl⟩
  have GAv : Hid (Blk v w.heap.size 24 #[.int .i64 N, .slice A T.length c]) := by subst hV; exact Lib.hid ((Blk.new _ _ _).alloc _)
  have GEv : Hid (Blk v (w.heap.size + 1) 31 #[.int .i64 x, .int .i64 y]) := by subst hV; exact Lib.hid (blk_new1 _ _ _ _)
  have HBv : Hid (Below w.heap.size w v) := by subst hV; exact Lib.hid (bw_alloc (bw_alloc (Below.refl _ _) _) _)
  rw [← hV]
  clear hV
  obtain ⟨ga, hga⟩ : ∃ g, g = w.heap.size := ⟨_, rfl⟩
  obtain ⟨ge, hge⟩ : ∃ g, g = w.heap.size + 1 := ⟨_, rfl⟩
  rw [← hge] at GEv ⊢
  rw [← hga] at GAv
  simp only [← hga]
  clear hga hge
  go_wp2_with fail
  go_loopw [5] (fun iv wr => ∃ k : Nat, k ≤ 3 * T.length ∧ iv = .int .i64 k ∧ Hid (∀ i, i < k → ce T i ≠ (x, y)) ∧ Hid (Blk wr ga 24 #[.int .i64 N, .slice A T.length c]) ∧ Hid (Blk wr ge 31 #[.int .i64 x, .int .i64 y]) ∧ Hid (Below w.heap.size w wr)) (fun iv _ => 3 * T.length - (intOf iv).toNat)
  case atStart => exact ⟨0, by omega, rfl, Lib.hid (fun i hi => absurd hi (by omega)), GAv, GEv, HBv⟩
  case round =>
    obtain ⟨k, hk, rfl, HF, GAk, GEk, HBk⟩ := hrel
    obtain ⟨wB, hwB⟩ : ∃ wB : World, wB = wr := ⟨_, rfl⟩
    rw [← hwB] at GAk GEk HBk ⊢
    have GAwB := GAk
    have GEwB := GEk
    have HBwB := HBk
    clear hwB GAv GEv HBv
    obtain ⟨s0, s1, _, _, _⟩ := soup_facts GAk.out
    by_cases hlt : k < 3 * T.length
    · have hki : (k : Int) < 3 * (T.length : Int) := by omega
      have HE : Hid (∀ (W : World) (h : Below w.heap.size w W), Calls Try.prog 23 #[.agg #[.int .i64 N, .slice A T.length c], .int .i64 (k : Int)] W (EdPost W (ce T k))) := Lib.hid fun W h => refEdge_any N A c T k W hT hlt ((HT.out.below h).more h.size)
      have hqk := hq (ce T k).1 (ce T k).2
      by_cases he : ce T k = (x, y)
      · have HR : Hid (Ending.returned (.int .i64 (k : Int)) = .returned (.int .i64 r)) := Lib.hid (by
          rw [← HRR.out]
          unfold facingI facingF
          rw [leastF_is (p := fun c => decide (ce T c = (x, y))) (Nat.zero_le k) (by omega) (by simpa using he) (fun i _ hi => by simpa using HF.out i hi)]
          rfl)
        rw [show ((ce T k).1, (ce T k).2) = ce T k from rfl, decide_eq_true he] at hqk
        clear hq he GAk GEk HBk
        generalize ce T k = E at *
        obtain ⟨a, b⟩ := E
        simp only at hqk
        go_upto_region 4 with (fail)
        clear s0 s1
        refine wp_region_held_drew (S := fun w' => w'.cell? ⟨ga, 0, none⟩ = some (.int .i64 N) ∧ w'.cell? ⟨ga, 1, none⟩ = some (.slice A T.length c) ∧ w'.cell? ⟨ge, 0, none⟩ = some (.int .i64 x) ∧ w'.cell? ⟨ge, 1, none⟩ = some (.int .i64 y)) (by kernel_rfl) ⟨(soup_facts GAwB.out.drew).1, (soup_facts GAwB.out.drew).2.1, (edge_facts GEwB.out.drew).1, (edge_facts GEwB.out.drew).2.1⟩ (fun hHeld => ?_)
        refine held_take (i := 0) (v := ?v1) rfl (by kernel_rfl) (by kernel_rfl) (by kernel_rfl) (fun _ _ _ h => h) (Or.inl ⟨by rfl, ?hy1⟩) (by assumption) ?rest1
        case hy1 => (intro w hSw; (try dsimp only at hSw); go_simp; try with_reducible rfl)
        (try simp only [Act.put, List.setIfInBounds_toArray, List.set_cons_zero, List.set_cons_succ])
        refine held_take (i := 1) (v := ?v2) rfl (by kernel_rfl) (by kernel_rfl) (by kernel_rfl) (fun _ _ _ h => h) (Or.inl ⟨by rfl, ?hy2⟩) (by assumption) ?rest2
        case hy2 => (intro w hSw; (try dsimp only at hSw); go_simp; try with_reducible rfl)
        (try simp only [Act.put, List.setIfInBounds_toArray, List.set_cons_zero, List.set_cons_succ])
        refine held_take (i := 3) (v := ?v3) rfl (by kernel_rfl) (by kernel_rfl) (by kernel_rfl) (fun _ _ _ h => h) (Or.inl ⟨by rfl, ?hy3⟩) (by assumption) ?rest3
        case hy3 => (intro w hSw; (try dsimp only at hSw); go_simp; try with_reducible rfl)
        (try simp only [Act.put, List.setIfInBounds_toArray, List.set_cons_zero, List.set_cons_succ])
        refine wpAnyH_ready (rs := [2]) (by kernel_rfl) (by simp) ?_
        refine held_cons rfl (fun K hK => ?_) ?_
        · go_simp
          go_wp2_with (go_at_call 23; refine (HE.out wB.drew (bw_drew HBwB.out)).mono ?_; rintro e v3 ⟨rfl, hb⟩)
          have GAv3 := Lib.hid (blk_call GAwB.out.drew hb)
          have GEv3 := Lib.hid (blk_call GEwB.out.drew hb)
          have HBv3 := Lib.hid (bw_call (bw_drew HBwB.out) hb)
          clear hb
          refine hK.out _ _ ?_ (fun hHeld => ?_)
          · exact ⟨(soup_facts GAv3.out).1, (soup_facts GAv3.out).2.1, (edge_facts GEv3.out).1, (edge_facts GEv3.out).2.1⟩
          clear hK K
          (try simp only [Act.put, List.setIfInBounds_toArray, List.set_cons_zero, List.set_cons_succ])
          refine held_take (i := 4) (v := ?v4) rfl (by kernel_rfl) (by kernel_rfl) (by kernel_rfl) (fun _ _ _ h => h) (Or.inl ⟨by rfl, ?hy4⟩) (by assumption) ?rest4
          case hy4 => (intro w hSw; (try dsimp only at hSw); go_simp; try with_reducible rfl)
          (try simp only [Act.put, List.setIfInBounds_toArray, List.set_cons_zero, List.set_cons_succ])
          refine wpAnyH_done (by kernel_rfl) ?_ _
          go_wp2_with fail
          go_ret
          exact ⟨HR.out, HBv3.out⟩
        exact AllReadyH.nil
      · have HF2 : Hid (∀ i, i < k + 1 → ce T i ≠ (x, y)) := Lib.hid (fun i hi => by
          by_cases h : i = k
          · rw [h]; exact he
          · exact HF.out i (by omega))
        rw [show ((ce T k).1, (ce T k).2) = ce T k from rfl, decide_eq_false he] at hqk
        clear hq he GAk GEk HBk
        generalize ce T k = E at HE hqk
        obtain ⟨a, b⟩ := E
        simp only at hqk
        go_upto_region 4 with (fail)
        clear s0 s1
        refine wp_region_held_drew (S := fun w' => w'.cell? ⟨ga, 0, none⟩ = some (.int .i64 N) ∧ w'.cell? ⟨ga, 1, none⟩ = some (.slice A T.length c) ∧ w'.cell? ⟨ge, 0, none⟩ = some (.int .i64 x) ∧ w'.cell? ⟨ge, 1, none⟩ = some (.int .i64 y)) (by kernel_rfl) ⟨(soup_facts GAwB.out.drew).1, (soup_facts GAwB.out.drew).2.1, (edge_facts GEwB.out.drew).1, (edge_facts GEwB.out.drew).2.1⟩ (fun hHeld => ?_)
        refine held_take (i := 0) (v := ?v5) rfl (by kernel_rfl) (by kernel_rfl) (by kernel_rfl) (fun _ _ _ h => h) (Or.inl ⟨by rfl, ?hy5⟩) (by assumption) ?rest5
        case hy5 => (intro w hSw; (try dsimp only at hSw); go_simp; try with_reducible rfl)
        (try simp only [Act.put, List.setIfInBounds_toArray, List.set_cons_zero, List.set_cons_succ])
        refine held_take (i := 1) (v := ?v6) rfl (by kernel_rfl) (by kernel_rfl) (by kernel_rfl) (fun _ _ _ h => h) (Or.inl ⟨by rfl, ?hy6⟩) (by assumption) ?rest6
        case hy6 => (intro w hSw; (try dsimp only at hSw); go_simp; try with_reducible rfl)
        (try simp only [Act.put, List.setIfInBounds_toArray, List.set_cons_zero, List.set_cons_succ])
        refine held_take (i := 3) (v := ?v7) rfl (by kernel_rfl) (by kernel_rfl) (by kernel_rfl) (fun _ _ _ h => h) (Or.inl ⟨by rfl, ?hy7⟩) (by assumption) ?rest7
        case hy7 => (intro w hSw; (try dsimp only at hSw); go_simp; try with_reducible rfl)
        (try simp only [Act.put, List.setIfInBounds_toArray, List.set_cons_zero, List.set_cons_succ])
        refine wpAnyH_ready (rs := [2]) (by kernel_rfl) (by simp) ?_
        refine held_cons rfl (fun K hK => ?_) ?_
        · go_simp
          go_wp2_with (go_at_call 23; refine (HE.out wB.drew (bw_drew HBwB.out)).mono ?_; rintro e v3 ⟨rfl, hb⟩)
          have GAv3 := Lib.hid (blk_call GAwB.out.drew hb)
          have GEv3 := Lib.hid (blk_call GEwB.out.drew hb)
          have HBv3 := Lib.hid (bw_call (bw_drew HBwB.out) hb)
          clear hb
          refine hK.out _ _ ?_ (fun hHeld => ?_)
          · exact ⟨(soup_facts GAv3.out).1, (soup_facts GAv3.out).2.1, (edge_facts GEv3.out).1, (edge_facts GEv3.out).2.1⟩
          clear hK K
          (try simp only [Act.put, List.setIfInBounds_toArray, List.set_cons_zero, List.set_cons_succ])
          refine held_take (i := 4) (v := ?v8) rfl (by kernel_rfl) (by kernel_rfl) (by kernel_rfl) (fun _ _ _ h => h) (Or.inl ⟨by rfl, ?hy8⟩) (by assumption) ?rest8
          case hy8 => (intro w hSw; (try dsimp only at hSw); go_simp; try with_reducible rfl)
          (try simp only [Act.put, List.setIfInBounds_toArray, List.set_cons_zero, List.set_cons_succ])
          refine wpAnyH_done (by kernel_rfl) ?_ _
          go_wp2_with fail
          exact ⟨⟨k + 1, by omega, by go_num, HF2, GAv3, GEv3, HBv3⟩, by simp [intOf]; omega⟩
        exact AllReadyH.nil
    · obtain rfl : k = 3 * T.length := by omega
      have HR : Hid (Ending.returned (.int .i64 (-1)) = .returned (.int .i64 r)) := Lib.hid (by
        rw [← HRR.out]
        unfold facingI facingF
        rw [leastF_no (p := fun c => decide (ce T c = (x, y))) (fun i _ hi => by simpa using HF.out i (by omega))]
        rfl)
      go_wp2_with fail
      go_ret
      exact ⟨HR.out, HBk.out⟩
end Go.Proofs.Ytdmibpcpocacpaa
