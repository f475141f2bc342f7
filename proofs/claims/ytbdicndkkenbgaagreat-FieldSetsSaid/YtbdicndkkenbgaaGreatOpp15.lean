/- gypsumref15.Opp, walked. No condition but sizes. -/
import Derived.Test.YtbdicndkkenbgaaGreatR15f
import Derived.Test.YtbdicndkkenbgaaGreatTabN
namespace Go.Proofs.YtbdicndkkenbgaaGreat
open Go.RowKit

set_option linter.unusedSimpArgs false
set_option linter.unusedVariables false
attribute [local irreducible] Blk LRow World.alloc World.setCell World.cell? World.frozen? MapV
set_option maxRecDepth 100000 in
set_option maxHeartbeats 4000000 in
theorem r15Opp_any (N : Int) (A : Option Addr) (c : Nat) (T : List Tri) (k : Nat) (w : World) (hT : T.length ≤ 1000) (hk : k < 3 * T.length) (ht : TrisAt w w.heap.size A T.length T) :
    Calls Tryz.prog 70 #[.agg #[.int .i64 N, .slice A T.length c], .int .i64 (k : Int)] w (IntPost w (optI (oppF T k))) := by
  have HT := Lib.hid ht
  clear ht
  have hof : optI (oppF T k) = facingI T (cv T (pvc k), cv T (nxc k)) := rfl
  rw [hof]
  clear hof
  obtain ⟨V0, hV⟩ : ∃ V, V = w.alloc (.cells #[.int .i64 N, .slice A T.length c] 24) := ⟨_, rfl⟩
  have GAV0 : Hid (Blk V0 w.heap.size 24 #[.int .i64 N, .slice A T.length c]) := by subst hV; exact Lib.hid (Blk.new _ _ _)
  have HBV0 : Hid (Below w.heap.size w V0) := by subst hV; exact Lib.hid (bw_alloc (Below.refl _ _) _)
  go_enter Tryz.func70, Tryz.ntmps70
  go_upto_region 1 with (fail)
  rw [← hV]
  clear hV
  obtain ⟨ga, hga⟩ : ∃ g, g = w.heap.size := ⟨_, rfl⟩
  rw [← hga] at GAV0
  simp only [← hga]
  clear hga
  refine wp_region_till (S := fun w' => w'.cell? ⟨ga, 0, none⟩ = some (.int .i64 N) ∧ w'.cell? ⟨ga, 1, none⟩ = some (.slice A T.length c)) 10 (by kernel_rfl) ⟨(soup_facts GAV0.out.drew).1, (soup_facts GAV0.out.drew).2.1⟩ (fun hHeld => ?_)
  refine Till.take (i := 0) (v := ?vt1) rfl (by kernel_rfl) (by kernel_rfl) (by kernel_rfl) (by kernel_rfl) (fun _ _ _ h => h) (Or.inl ⟨by rfl, ?ht1⟩) (by assumption) ?restt1
  case ht1 => (intro w hSw; (try dsimp only at hSw); go_simp; try with_reducible rfl)
  (try simp only [Act.put, List.setIfInBounds_toArray, List.set_cons_zero, List.set_cons_succ])
  refine Till.take (i := 1) (v := ?vt2) rfl (by kernel_rfl) (by kernel_rfl) (by kernel_rfl) (by kernel_rfl) (fun _ _ _ h => h) (Or.inl ⟨by rfl, ?ht2⟩) (by assumption) ?restt2
  case ht2 => (intro w hSw; (try dsimp only at hSw); go_simp; try with_reducible rfl)
  (try simp only [Act.put, List.setIfInBounds_toArray, List.set_cons_zero, List.set_cons_succ])
  refine Till.take (i := 2) (v := ?vt3) rfl (by kernel_rfl) (by kernel_rfl) (by kernel_rfl) (by kernel_rfl) (fun _ _ _ h => h) (Or.inl ⟨by rfl, ?ht3⟩) (by assumption) ?restt3
  case ht3 => (intro w hSw; (try dsimp only at hSw); go_simp; try with_reducible rfl)
  (try simp only [Act.put, List.setIfInBounds_toArray, List.set_cons_zero, List.set_cons_succ])
  refine Till.take (i := 5) (v := ?vt4) rfl (by kernel_rfl) (by kernel_rfl) (by kernel_rfl) (by kernel_rfl) (fun _ _ _ h => h) (Or.inl ⟨by rfl, ?ht4⟩) (by assumption) ?restt4
  case ht4 => (intro w hSw; (try dsimp only at hSw); go_simp; try with_reducible rfl)
  (try simp only [Act.put, List.setIfInBounds_toArray, List.set_cons_zero, List.set_cons_succ])
  refine Till.take (i := 6) (v := ?vt5) rfl (by kernel_rfl) (by kernel_rfl) (by kernel_rfl) (by kernel_rfl) (fun _ _ _ h => h) (Or.inl ⟨by rfl, ?ht5⟩) (by assumption) ?restt5
  case ht5 => (intro w hSw; (try dsimp only at hSw); go_simp; try with_reducible rfl)
  (try simp only [Act.put, List.setIfInBounds_toArray, List.set_cons_zero, List.set_cons_succ])
  refine Till.ready (rs := [3]) (by kernel_rfl) (by simp) ?_
  refine TillEach.cons rfl (fun K hK => ?_) ?_
  · go_simp
    go_wp2_with (go_at_call 71; refine (((r15Prev_any k V0.drew (by omega)).mono fun e w' h => is_int h)).mono ?_; rintro e v3 ⟨rfl, hb⟩)
    have GAv3 := Lib.hid (blk_call GAV0.out.drew hb)
    have HBv3 := Lib.hid (bw_call (bw_drew HBV0.out) hb)
    clear hb
    refine hK.out _ _ ?_ (fun hHeld => ?_)
    · exact ⟨(soup_facts GAv3.out).1, (soup_facts GAv3.out).2.1⟩
    clear hK K
    (try simp only [Act.put, List.setIfInBounds_toArray, List.set_cons_zero, List.set_cons_succ])
    refine Till.ready (rs := [4]) (by kernel_rfl) (by simp) ?_
    refine TillEach.cons rfl (fun K hK => ?_) ?_
    · go_simp
      go_wp2_with (go_at_call 32; refine (r15V_any N A c T (pvc k) v3 (by omega) (pvc_lt hk) ((HT.out.below HBv3.out).more (bw_size HBv3.out))).mono ?_; rintro e v4 ⟨rfl, hb⟩)
      have GAv4 := Lib.hid (blk_call GAv3.out hb)
      have HBv4 := Lib.hid (bw_call HBv3.out hb)
      clear hb GAv3 HBv3
      refine hK.out _ _ ?_ (fun hHeld => ?_)
      · exact ⟨(soup_facts GAv4.out).1, (soup_facts GAv4.out).2.1⟩
      clear hK K
      (try simp only [Act.put, List.setIfInBounds_toArray, List.set_cons_zero, List.set_cons_succ])
      refine Till.ready (rs := [7]) (by kernel_rfl) (by simp) ?_
      refine TillEach.cons rfl (fun K hK => ?_) ?_
      · go_simp
        go_wp2_with (go_at_call 72; refine (((r15Next_any k v4 (by omega)).mono fun e w' h => is_int h)).mono ?_; rintro e v5 ⟨rfl, hb⟩)
        have GAv5 := Lib.hid (blk_call GAv4.out hb)
        have HBv5 := Lib.hid (bw_call HBv4.out hb)
        clear hb GAv4 HBv4
        refine hK.out _ _ ?_ (fun hHeld => ?_)
        · exact ⟨(soup_facts GAv5.out).1, (soup_facts GAv5.out).2.1⟩
        clear hK K
        (try simp only [Act.put, List.setIfInBounds_toArray, List.set_cons_zero, List.set_cons_succ])
        refine Till.ready (rs := [8]) (by kernel_rfl) (by simp) ?_
        refine TillEach.cons rfl (fun K hK => ?_) ?_
        · go_simp
          go_wp2_with (go_at_call 32; refine (r15V_any N A c T (nxc k) v5 (by omega) (nxc_lt hk) ((HT.out.below HBv5.out).more (bw_size HBv5.out))).mono ?_; rintro e v6 ⟨rfl, hb⟩)
          have GAv6 := Lib.hid (blk_call GAv5.out hb)
          have HBv6 := Lib.hid (bw_call HBv5.out hb)
          clear hb GAv5 HBv5
          refine hK.out _ _ ?_ (fun hHeld => ?_)
          · exact ⟨(soup_facts GAv6.out).1, (soup_facts GAv6.out).2.1⟩
          clear hK K
          (try simp only [Act.put, List.setIfInBounds_toArray, List.set_cons_zero, List.set_cons_succ])
          refine Till.ready (rs := [9]) (by kernel_rfl) (by simp) ?_
          refine TillEach.cons rfl (fun K hK => ?_) ?_
          · go_simp
            go_wp2_with (go_at_call 83; refine (r15Facing_any N A c T (cv T (pvc k)) (cv T (nxc k)) v6 (by omega) ((HT.out.below HBv6.out).more (bw_size HBv6.out))).mono ?_; rintro e v7 ⟨rfl, hb⟩)
            have GAv7 := Lib.hid (blk_call GAv6.out hb)
            have HBv7 := Lib.hid (bw_call HBv6.out hb)
            clear hb GAv6 HBv6
            refine hK.out _ _ ?_ (fun hHeld => ?_)
            · exact ⟨(soup_facts GAv7.out).1, (soup_facts GAv7.out).2.1⟩
            clear hK K
            (try simp only [Act.put, List.setIfInBounds_toArray, List.set_cons_zero, List.set_cons_succ])
            refine Till.ready (rs := [10]) (by kernel_rfl) (by simp) ?_
            refine TillEach.last rfl (fun K hK => ?_)
            · go_simp
              refine hK.out _ _ ?_
              clear hK K
              (try simp only [Act.put, List.setIfInBounds_toArray, List.set_cons_zero, List.set_cons_succ])
              refine Till.done (by kernel_rfl) ?_ _
              go_wp2_with fail
              go_ret
              exact ⟨rfl, HBv7.out⟩
          exact TillEach.nil
        exact TillEach.nil
      exact TillEach.nil
    exact TillEach.nil
  exact TillEach.nil
end Go.Proofs.YtbdicndkkenbgaaGreat
