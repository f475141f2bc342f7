/- gypsumref15.Facing, walked. No condition but sizes. -/
import Derived.Test.YtbdicndkkenbgaaGreatR15a
import Derived.Test.YtbdicndkkenbgaaGreatCornerB
namespace Go.Proofs.YtbdicndkkenbgaaGreat
open Go.RowKit

set_option linter.unusedSimpArgs false
set_option linter.unusedVariables false
attribute [local irreducible] Blk LRow World.alloc World.setCell World.cell? World.frozen?
set_option maxRecDepth 100000 in
set_option maxHeartbeats 4000000 in
theorem r15Facing_any (N : Int) (A : Option Addr) (c : Nat) (T : List Tri) (x y : Int) (w : World) (hT : T.length ≤ 8192) (ht : TrisAt w w.heap.size A T.length T) :
    Calls Tryz.prog 83 #[.agg #[.int .i64 N, .slice A T.length c], .int .i64 x, .int .i64 y] w (IntPost w (facingI T (x, y))) := by
  have HT := Lib.hid ht
  clear ht
  obtain ⟨r, HRR⟩ : ∃ r, Hid (facingI T (x, y) = r) := ⟨_, Lib.hid rfl⟩
  rw [HRR.out]
  obtain ⟨V, hV⟩ : ∃ V, V = w.alloc (.cells #[.int .i64 N, .slice A T.length c] 24) := ⟨_, rfl⟩
  have GA0 : Hid (Blk V w.heap.size 24 #[.int .i64 N, .slice A T.length c]) := by subst hV; exact Lib.hid (Blk.new _ _ _)
  have HB0 : Hid (Below w.heap.size w V) := by subst hV; exact Lib.hid (bw_alloc (Below.refl _ _) _)
  go_enter Tryz.func83, Tryz.ntmps83
  go_upto_region 1 with (fail)
  rw [← hV]
  clear hV
  obtain ⟨ga, hga⟩ : ∃ g, g = w.heap.size := ⟨_, rfl⟩
  rw [← hga] at GA0
  simp only [← hga]
  clear hga
  go_wp2_with fail
  go_loopw [7] (fun iv wr => ∃ k : Nat, k ≤ 3 * T.length ∧ iv = .int .i64 k ∧ Hid (∀ i, i < k → ce T i ≠ (x, y)) ∧ Hid (Blk wr ga 24 #[.int .i64 N, .slice A T.length c]) ∧ Hid (Below w.heap.size w wr)) (fun iv _ => 3 * T.length - (intOf iv).toNat)
  case atStart => exact ⟨0, by omega, rfl, Lib.hid (fun i hi => absurd hi (by omega)), GA0, HB0⟩
  case round =>
    obtain ⟨k, hk, rfl, HF, GAwB, HBwB⟩ := hrel
    obtain ⟨wB, hwB⟩ : ∃ wB : World, wB = wr := ⟨_, rfl⟩
    rw [← hwB] at GAwB HBwB ⊢
    clear hwB GA0 HB0
    obtain ⟨s0, s1, _, _, _⟩ := soup_facts GAwB.out
    have hw3 : IntKind.i64.wrap (3 * (T.length : Int)) = 3 * (T.length : Int) := IntWalk.i64_in _ (by omega)
    by_cases hlt : k < 3 * T.length
    · have hki : (k : Int) < 3 * (T.length : Int) := by omega
      have HN : Hid (∀ (W : World), Calls Tryz.prog 72 #[.int .i64 (k : Int)] W (IntPost W (nxc k : Int))) := Lib.hid fun W => (r15Next_any k W (by omega)).mono fun e w' h => ⟨h.1, h.2 ▸ Below.refl _ _⟩
      have HP : Hid (∀ (W : World), Calls Tryz.prog 71 #[.int .i64 (k : Int)] W (IntPost W (pvc k : Int))) := Lib.hid fun W => (r15Prev_any k W (by omega)).mono fun e w' h => ⟨h.1, h.2 ▸ Below.refl _ _⟩
      have HV1 : Hid (∀ (W : World) (h : Below w.heap.size w W), Calls Tryz.prog 32 #[.agg #[.int .i64 N, .slice A T.length c], .int .i64 (nxc k : Int)] W (IntPost W (cv T (nxc k)))) := Lib.hid fun W h => r15V_any N A c T (nxc k) W hT (nxc_lt hlt) ((HT.out.below h).more h.size)
      have HV2 : Hid (∀ (W : World) (h : Below w.heap.size w W), Calls Tryz.prog 32 #[.agg #[.int .i64 N, .slice A T.length c], .int .i64 (pvc k : Int)] W (IntPost W (cv T (pvc k)))) := Lib.hid fun W h => r15V_any N A c T (pvc k) W hT (pvc_lt hlt) ((HT.out.below h).more h.size)
      have HCE : Hid (ce T k = (cv T (nxc k), cv T (pvc k))) := Lib.hid rfl
      have HST : Hid (ce T k ≠ (x, y) → ∀ i, i < k + 1 → ce T i ≠ (x, y)) := Lib.hid (fun h i hi => by
        by_cases e : i = k
        · subst e; exact h
        · exact HF.out i (by omega))
      have HIS : Hid (ce T k = (x, y) → Ending.returned (.int .i64 (k : Int)) = .returned (.int .i64 r)) := Lib.hid (fun he => by
        rw [← HRR.out]
        unfold facingI facingF
        rw [leastF_is (p := fun c => decide (ce T c = (x, y))) (Nat.zero_le k) (by omega) (by simpa using he) (fun i _ hi => by simpa using HF.out i hi)]
        rfl)
      rw [HCE.out] at HST HIS
      clear HCE HF
      generalize cv T (nxc k) = a at *
      generalize cv T (pvc k) = b at *
      generalize nxc k = k1 at *
      generalize pvc k = k2 at *
      by_cases ha : a = x
      rotate_left
      · have hab : (a == x) = false := by simpa using ha
        have HFN := Lib.hid (HST.out (fun e => ha (congrArg Prod.fst e)))
        clear HST HIS ha
        go_upto_region 4 with (fail)
        clear s0 s1
        refine wp_region_held_drew (S := fun w' => w'.cell? ⟨ga, 0, none⟩ = some (.int .i64 N) ∧ w'.cell? ⟨ga, 1, none⟩ = some (.slice A T.length c)) (by kernel_rfl) ⟨(soup_facts GAwB.out.drew).1, (soup_facts GAwB.out.drew).2.1⟩ (fun hHeld => ?_)
        refine held_take (i := 0) (v := ?v15) rfl (by kernel_rfl) (by kernel_rfl) (by kernel_rfl) (fun _ _ _ h => h) (Or.inl ⟨by rfl, ?hy15⟩) (by assumption) ?rest15
        case hy15 => (intro w hSw; (try dsimp only at hSw); go_simp; try with_reducible rfl)
        (try simp only [Act.put, List.setIfInBounds_toArray, List.set_cons_zero, List.set_cons_succ])
        refine held_take (i := 1) (v := ?v16) rfl (by kernel_rfl) (by kernel_rfl) (by kernel_rfl) (fun _ _ _ h => h) (Or.inl ⟨by rfl, ?hy16⟩) (by assumption) ?rest16
        case hy16 => (intro w hSw; (try dsimp only at hSw); go_simp; try with_reducible rfl)
        (try simp only [Act.put, List.setIfInBounds_toArray, List.set_cons_zero, List.set_cons_succ])
        refine held_take (i := 4) (v := ?v17) rfl (by kernel_rfl) (by kernel_rfl) (by kernel_rfl) (fun _ _ _ h => h) (Or.inl ⟨by rfl, ?hy17⟩) (by assumption) ?rest17
        case hy17 => (intro w hSw; (try dsimp only at hSw); go_simp; try with_reducible rfl)
        (try simp only [Act.put, List.setIfInBounds_toArray, List.set_cons_zero, List.set_cons_succ])
        refine wpAnyH_ready (rs := [2]) (by kernel_rfl) (by simp) ?_
        refine held_cons rfl (fun K hK => ?_) ?_
        · go_simp
          go_wp2_with (go_at_call 72; refine (HN.out wB.drew).mono ?_; rintro e v3 ⟨rfl, hb⟩)
          have GAv3 := Lib.hid (blk_call GAwB.out.drew hb)
          have HBv3 := Lib.hid (bw_call (bw_drew HBwB.out) hb)
          clear hb
          refine hK.out _ _ ?_ (fun hHeld => ?_)
          · exact ⟨(soup_facts GAv3.out).1, (soup_facts GAv3.out).2.1⟩
          clear hK K
          (try simp only [Act.put, List.setIfInBounds_toArray, List.set_cons_zero, List.set_cons_succ])
          refine wpAnyH_ready (rs := [3]) (by kernel_rfl) (by simp) ?_
          refine held_cons rfl (fun K hK => ?_) ?_
          · go_simp
            go_wp2_with (go_at_call 32; refine (HV1.out v3 HBv3.out).mono ?_; rintro e v4 ⟨rfl, hb⟩)
            have GAv4 := Lib.hid (blk_call GAv3.out hb)
            have HBv4 := Lib.hid (bw_call HBv3.out hb)
            clear hb GAv3 HBv3
            refine hK.out _ _ ?_ (fun hHeld => ?_)
            · exact ⟨(soup_facts GAv4.out).1, (soup_facts GAv4.out).2.1⟩
            clear hK K
            (try simp only [Act.put, List.setIfInBounds_toArray, List.set_cons_zero, List.set_cons_succ])
            refine held_take (i := 5) (v := ?v18) rfl (by kernel_rfl) (by kernel_rfl) (by kernel_rfl) (fun _ _ _ h => h) (Or.inl ⟨by rfl, ?hy18⟩) (by assumption) ?rest18
            case hy18 => (intro w hSw; (try dsimp only at hSw); go_simp; try with_reducible rfl)
            (try simp only [Act.put, List.setIfInBounds_toArray, List.set_cons_zero, List.set_cons_succ])
            refine held_take (i := 6) (v := ?v19) rfl (by kernel_rfl) (by kernel_rfl) (by kernel_rfl) (fun _ _ _ h => h) (Or.inl ⟨by rfl, ?hy19⟩) (by assumption) ?rest19
            case hy19 => (intro w hSw; (try dsimp only at hSw); go_simp; try with_reducible rfl)
            (try simp only [Act.put, List.setIfInBounds_toArray, List.set_cons_zero, List.set_cons_succ])
            refine held_take (i := 7) rfl (by kernel_rfl) (by kernel_rfl) (by kernel_rfl) (fun _ _ _ h => h) (Or.inr ⟨by rfl, rfl⟩) (by assumption) ?_
            (try simp only [Act.put, List.setIfInBounds_toArray, List.set_cons_zero, List.set_cons_succ])
            refine held_take (i := 8) rfl (by kernel_rfl) (by kernel_rfl) (by kernel_rfl) (fun _ _ _ h => h) (Or.inr ⟨by rfl, rfl⟩) (by assumption) ?_
            (try simp only [Act.put, List.setIfInBounds_toArray, List.set_cons_zero, List.set_cons_succ])
            refine held_take (i := 9) rfl (by kernel_rfl) (by kernel_rfl) (by kernel_rfl) (fun _ _ _ h => h) (Or.inr ⟨by rfl, rfl⟩) (by assumption) ?_
            (try simp only [Act.put, List.setIfInBounds_toArray, List.set_cons_zero, List.set_cons_succ])
            refine held_take (i := 10) rfl (by kernel_rfl) (by kernel_rfl) (by kernel_rfl) (fun _ _ _ h => h) (Or.inr ⟨by rfl, rfl⟩) (by assumption) ?_
            (try simp only [Act.put, List.setIfInBounds_toArray, List.set_cons_zero, List.set_cons_succ])
            refine held_take (i := 11) rfl (by kernel_rfl) (by kernel_rfl) (by kernel_rfl) (fun _ _ _ h => h) (Or.inr ⟨by rfl, rfl⟩) (by assumption) ?_
            (try simp only [Act.put, List.setIfInBounds_toArray, List.set_cons_zero, List.set_cons_succ])
            refine held_take (i := 12) rfl (by kernel_rfl) (by kernel_rfl) (by kernel_rfl) (fun _ _ _ h => h) (Or.inr ⟨by rfl, rfl⟩) (by assumption) ?_
            (try simp only [Act.put, List.setIfInBounds_toArray, List.set_cons_zero, List.set_cons_succ])
            refine held_take (i := 13) (v := ?v20) rfl (by kernel_rfl) (by kernel_rfl) (by kernel_rfl) (fun _ _ _ h => h) (Or.inl ⟨by rfl, ?hy20⟩) (by assumption) ?rest20
            case hy20 => (intro w hSw; (try dsimp only at hSw); go_simp; try with_reducible rfl)
            (try simp only [Act.put, List.setIfInBounds_toArray, List.set_cons_zero, List.set_cons_succ])
            refine wpAnyH_done (by kernel_rfl) ?_ _
            go_wp2_with fail
            exact ⟨⟨k + 1, by omega, by go_num, HFN, GAv4, HBv4⟩, by simp [intOf]; omega⟩
          exact AllReadyH.nil
        exact AllReadyH.nil
      · subst ha
        by_cases hb : b = y
        rotate_left
        · have hbb : (b == y) = false := by simpa using hb
          have HFN := Lib.hid (HST.out (fun e => hb (congrArg Prod.snd e)))
          clear HST HIS hb
          go_upto_region 4 with (fail)
          clear s0 s1
          refine wp_region_held_drew (S := fun w' => w'.cell? ⟨ga, 0, none⟩ = some (.int .i64 N) ∧ w'.cell? ⟨ga, 1, none⟩ = some (.slice A T.length c)) (by kernel_rfl) ⟨(soup_facts GAwB.out.drew).1, (soup_facts GAwB.out.drew).2.1⟩ (fun hHeld => ?_)
          refine held_take (i := 0) (v := ?v21) rfl (by kernel_rfl) (by kernel_rfl) (by kernel_rfl) (fun _ _ _ h => h) (Or.inl ⟨by rfl, ?hy21⟩) (by assumption) ?rest21
          case hy21 => (intro w hSw; (try dsimp only at hSw); go_simp; try with_reducible rfl)
          (try simp only [Act.put, List.setIfInBounds_toArray, List.set_cons_zero, List.set_cons_succ])
          refine held_take (i := 1) (v := ?v22) rfl (by kernel_rfl) (by kernel_rfl) (by kernel_rfl) (fun _ _ _ h => h) (Or.inl ⟨by rfl, ?hy22⟩) (by assumption) ?rest22
          case hy22 => (intro w hSw; (try dsimp only at hSw); go_simp; try with_reducible rfl)
          (try simp only [Act.put, List.setIfInBounds_toArray, List.set_cons_zero, List.set_cons_succ])
          refine held_take (i := 4) (v := ?v23) rfl (by kernel_rfl) (by kernel_rfl) (by kernel_rfl) (fun _ _ _ h => h) (Or.inl ⟨by rfl, ?hy23⟩) (by assumption) ?rest23
          case hy23 => (intro w hSw; (try dsimp only at hSw); go_simp; try with_reducible rfl)
          (try simp only [Act.put, List.setIfInBounds_toArray, List.set_cons_zero, List.set_cons_succ])
          refine wpAnyH_ready (rs := [2]) (by kernel_rfl) (by simp) ?_
          refine held_cons rfl (fun K hK => ?_) ?_
          · go_simp
            go_wp2_with (go_at_call 72; refine (HN.out wB.drew).mono ?_; rintro e v3 ⟨rfl, hb⟩)
            have GAv3 := Lib.hid (blk_call GAwB.out.drew hb)
            have HBv3 := Lib.hid (bw_call (bw_drew HBwB.out) hb)
            clear hb
            refine hK.out _ _ ?_ (fun hHeld => ?_)
            · exact ⟨(soup_facts GAv3.out).1, (soup_facts GAv3.out).2.1⟩
            clear hK K
            (try simp only [Act.put, List.setIfInBounds_toArray, List.set_cons_zero, List.set_cons_succ])
            refine wpAnyH_ready (rs := [3]) (by kernel_rfl) (by simp) ?_
            refine held_cons rfl (fun K hK => ?_) ?_
            · go_simp
              go_wp2_with (go_at_call 32; refine (HV1.out v3 HBv3.out).mono ?_; rintro e v4 ⟨rfl, hb⟩)
              have GAv4 := Lib.hid (blk_call GAv3.out hb)
              have HBv4 := Lib.hid (bw_call HBv3.out hb)
              clear hb GAv3 HBv3
              refine hK.out _ _ ?_ (fun hHeld => ?_)
              · exact ⟨(soup_facts GAv4.out).1, (soup_facts GAv4.out).2.1⟩
              clear hK K
              (try simp only [Act.put, List.setIfInBounds_toArray, List.set_cons_zero, List.set_cons_succ])
              refine held_take (i := 5) (v := ?v24) rfl (by kernel_rfl) (by kernel_rfl) (by kernel_rfl) (fun _ _ _ h => h) (Or.inl ⟨by rfl, ?hy24⟩) (by assumption) ?rest24
              case hy24 => (intro w hSw; (try dsimp only at hSw); go_simp; try with_reducible rfl)
              (try simp only [Act.put, List.setIfInBounds_toArray, List.set_cons_zero, List.set_cons_succ])
              refine held_take (i := 6) (v := ?v25) rfl (by kernel_rfl) (by kernel_rfl) (by kernel_rfl) (fun _ _ _ h => h) (Or.inl ⟨by rfl, ?hy25⟩) (by assumption) ?rest25
              case hy25 => (intro w hSw; (try dsimp only at hSw); go_simp; try with_reducible rfl)
              (try simp only [Act.put, List.setIfInBounds_toArray, List.set_cons_zero, List.set_cons_succ])
              refine held_take (i := 7) (v := ?v26) rfl (by kernel_rfl) (by kernel_rfl) (by kernel_rfl) (fun _ _ _ h => h) (Or.inl ⟨by rfl, ?hy26⟩) (by assumption) ?rest26
              case hy26 => (intro w hSw; (try dsimp only at hSw); go_simp; try with_reducible rfl)
              (try simp only [Act.put, List.setIfInBounds_toArray, List.set_cons_zero, List.set_cons_succ])
              refine held_take (i := 8) (v := ?v27) rfl (by kernel_rfl) (by kernel_rfl) (by kernel_rfl) (fun _ _ _ h => h) (Or.inl ⟨by rfl, ?hy27⟩) (by assumption) ?rest27
              case hy27 => (intro w hSw; (try dsimp only at hSw); go_simp; try with_reducible rfl)
              (try simp only [Act.put, List.setIfInBounds_toArray, List.set_cons_zero, List.set_cons_succ])
              refine held_take (i := 11) (v := ?v28) rfl (by kernel_rfl) (by kernel_rfl) (by kernel_rfl) (fun _ _ _ h => h) (Or.inl ⟨by rfl, ?hy28⟩) (by assumption) ?rest28
              case hy28 => (intro w hSw; (try dsimp only at hSw); go_simp; try with_reducible rfl)
              (try simp only [Act.put, List.setIfInBounds_toArray, List.set_cons_zero, List.set_cons_succ])
              refine wpAnyH_ready (rs := [9]) (by kernel_rfl) (by simp) ?_
              refine held_cons rfl (fun K hK => ?_) ?_
              · go_simp
                go_wp2_with (go_at_call 71; refine (HP.out v4).mono ?_; rintro e v5 ⟨rfl, hb⟩)
                have GAv5 := Lib.hid (blk_call GAv4.out hb)
                have HBv5 := Lib.hid (bw_call HBv4.out hb)
                clear hb GAv4 HBv4
                refine hK.out _ _ ?_ (fun hHeld => ?_)
                · exact ⟨(soup_facts GAv5.out).1, (soup_facts GAv5.out).2.1⟩
                clear hK K
                (try simp only [Act.put, List.setIfInBounds_toArray, List.set_cons_zero, List.set_cons_succ])
                refine wpAnyH_ready (rs := [10]) (by kernel_rfl) (by simp) ?_
                refine held_cons rfl (fun K hK => ?_) ?_
                · go_simp
                  go_wp2_with (go_at_call 32; refine (HV2.out v5 HBv5.out).mono ?_; rintro e v6 ⟨rfl, hb⟩)
                  have GAv6 := Lib.hid (blk_call GAv5.out hb)
                  have HBv6 := Lib.hid (bw_call HBv5.out hb)
                  clear hb GAv5 HBv5
                  refine hK.out _ _ ?_ (fun hHeld => ?_)
                  · exact ⟨(soup_facts GAv6.out).1, (soup_facts GAv6.out).2.1⟩
                  clear hK K
                  (try simp only [Act.put, List.setIfInBounds_toArray, List.set_cons_zero, List.set_cons_succ])
                  refine held_take (i := 12) (v := ?v29) rfl (by kernel_rfl) (by kernel_rfl) (by kernel_rfl) (fun _ _ _ h => h) (Or.inl ⟨by rfl, ?hy29⟩) (by assumption) ?rest29
                  case hy29 => (intro w hSw; (try dsimp only at hSw); go_simp; try with_reducible rfl)
                  (try simp only [Act.put, List.setIfInBounds_toArray, List.set_cons_zero, List.set_cons_succ])
                  refine held_take (i := 13) (v := ?v30) rfl (by kernel_rfl) (by kernel_rfl) (by kernel_rfl) (fun _ _ _ h => h) (Or.inl ⟨by rfl, ?hy30⟩) (by assumption) ?rest30
                  case hy30 => (intro w hSw; (try dsimp only at hSw); go_simp; try with_reducible rfl)
                  (try simp only [Act.put, List.setIfInBounds_toArray, List.set_cons_zero, List.set_cons_succ])
                  refine wpAnyH_done (by kernel_rfl) ?_ _
                  go_wp2_with fail
                  exact ⟨⟨k + 1, by omega, by go_num, HFN, GAv6, HBv6⟩, by simp [intOf]; omega⟩
                exact AllReadyH.nil
              exact AllReadyH.nil
            exact AllReadyH.nil
          exact AllReadyH.nil
        · subst hb
          have HR := Lib.hid (HIS.out rfl)
          clear HST HIS
          go_upto_region 4 with (fail)
          clear s0 s1
          refine wp_region_held_drew (S := fun w' => w'.cell? ⟨ga, 0, none⟩ = some (.int .i64 N) ∧ w'.cell? ⟨ga, 1, none⟩ = some (.slice A T.length c)) (by kernel_rfl) ⟨(soup_facts GAwB.out.drew).1, (soup_facts GAwB.out.drew).2.1⟩ (fun hHeld => ?_)
          refine held_take (i := 0) (v := ?v31) rfl (by kernel_rfl) (by kernel_rfl) (by kernel_rfl) (fun _ _ _ h => h) (Or.inl ⟨by rfl, ?hy31⟩) (by assumption) ?rest31
          case hy31 => (intro w hSw; (try dsimp only at hSw); go_simp; try with_reducible rfl)
          (try simp only [Act.put, List.setIfInBounds_toArray, List.set_cons_zero, List.set_cons_succ])
          refine held_take (i := 1) (v := ?v32) rfl (by kernel_rfl) (by kernel_rfl) (by kernel_rfl) (fun _ _ _ h => h) (Or.inl ⟨by rfl, ?hy32⟩) (by assumption) ?rest32
          case hy32 => (intro w hSw; (try dsimp only at hSw); go_simp; try with_reducible rfl)
          (try simp only [Act.put, List.setIfInBounds_toArray, List.set_cons_zero, List.set_cons_succ])
          refine held_take (i := 4) (v := ?v33) rfl (by kernel_rfl) (by kernel_rfl) (by kernel_rfl) (fun _ _ _ h => h) (Or.inl ⟨by rfl, ?hy33⟩) (by assumption) ?rest33
          case hy33 => (intro w hSw; (try dsimp only at hSw); go_simp; try with_reducible rfl)
          (try simp only [Act.put, List.setIfInBounds_toArray, List.set_cons_zero, List.set_cons_succ])
          refine wpAnyH_ready (rs := [2]) (by kernel_rfl) (by simp) ?_
          refine held_cons rfl (fun K hK => ?_) ?_
          · go_simp
            go_wp2_with (go_at_call 72; refine (HN.out wB.drew).mono ?_; rintro e v3 ⟨rfl, hb⟩)
            have GAv3 := Lib.hid (blk_call GAwB.out.drew hb)
            have HBv3 := Lib.hid (bw_call (bw_drew HBwB.out) hb)
            clear hb
            refine hK.out _ _ ?_ (fun hHeld => ?_)
            · exact ⟨(soup_facts GAv3.out).1, (soup_facts GAv3.out).2.1⟩
            clear hK K
            (try simp only [Act.put, List.setIfInBounds_toArray, List.set_cons_zero, List.set_cons_succ])
            refine wpAnyH_ready (rs := [3]) (by kernel_rfl) (by simp) ?_
            refine held_cons rfl (fun K hK => ?_) ?_
            · go_simp
              go_wp2_with (go_at_call 32; refine (HV1.out v3 HBv3.out).mono ?_; rintro e v4 ⟨rfl, hb⟩)
              have GAv4 := Lib.hid (blk_call GAv3.out hb)
              have HBv4 := Lib.hid (bw_call HBv3.out hb)
              clear hb GAv3 HBv3
              refine hK.out _ _ ?_ (fun hHeld => ?_)
              · exact ⟨(soup_facts GAv4.out).1, (soup_facts GAv4.out).2.1⟩
              clear hK K
              (try simp only [Act.put, List.setIfInBounds_toArray, List.set_cons_zero, List.set_cons_succ])
              refine held_take (i := 5) (v := ?v34) rfl (by kernel_rfl) (by kernel_rfl) (by kernel_rfl) (fun _ _ _ h => h) (Or.inl ⟨by rfl, ?hy34⟩) (by assumption) ?rest34
              case hy34 => (intro w hSw; (try dsimp only at hSw); go_simp; try with_reducible rfl)
              (try simp only [Act.put, List.setIfInBounds_toArray, List.set_cons_zero, List.set_cons_succ])
              refine held_take (i := 6) (v := ?v35) rfl (by kernel_rfl) (by kernel_rfl) (by kernel_rfl) (fun _ _ _ h => h) (Or.inl ⟨by rfl, ?hy35⟩) (by assumption) ?rest35
              case hy35 => (intro w hSw; (try dsimp only at hSw); go_simp; try with_reducible rfl)
              (try simp only [Act.put, List.setIfInBounds_toArray, List.set_cons_zero, List.set_cons_succ])
              refine held_take (i := 7) (v := ?v36) rfl (by kernel_rfl) (by kernel_rfl) (by kernel_rfl) (fun _ _ _ h => h) (Or.inl ⟨by rfl, ?hy36⟩) (by assumption) ?rest36
              case hy36 => (intro w hSw; (try dsimp only at hSw); go_simp; try with_reducible rfl)
              (try simp only [Act.put, List.setIfInBounds_toArray, List.set_cons_zero, List.set_cons_succ])
              refine held_take (i := 8) (v := ?v37) rfl (by kernel_rfl) (by kernel_rfl) (by kernel_rfl) (fun _ _ _ h => h) (Or.inl ⟨by rfl, ?hy37⟩) (by assumption) ?rest37
              case hy37 => (intro w hSw; (try dsimp only at hSw); go_simp; try with_reducible rfl)
              (try simp only [Act.put, List.setIfInBounds_toArray, List.set_cons_zero, List.set_cons_succ])
              refine held_take (i := 11) (v := ?v38) rfl (by kernel_rfl) (by kernel_rfl) (by kernel_rfl) (fun _ _ _ h => h) (Or.inl ⟨by rfl, ?hy38⟩) (by assumption) ?rest38
              case hy38 => (intro w hSw; (try dsimp only at hSw); go_simp; try with_reducible rfl)
              (try simp only [Act.put, List.setIfInBounds_toArray, List.set_cons_zero, List.set_cons_succ])
              refine wpAnyH_ready (rs := [9]) (by kernel_rfl) (by simp) ?_
              refine held_cons rfl (fun K hK => ?_) ?_
              · go_simp
                go_wp2_with (go_at_call 71; refine (HP.out v4).mono ?_; rintro e v5 ⟨rfl, hb⟩)
                have GAv5 := Lib.hid (blk_call GAv4.out hb)
                have HBv5 := Lib.hid (bw_call HBv4.out hb)
                clear hb GAv4 HBv4
                refine hK.out _ _ ?_ (fun hHeld => ?_)
                · exact ⟨(soup_facts GAv5.out).1, (soup_facts GAv5.out).2.1⟩
                clear hK K
                (try simp only [Act.put, List.setIfInBounds_toArray, List.set_cons_zero, List.set_cons_succ])
                refine wpAnyH_ready (rs := [10]) (by kernel_rfl) (by simp) ?_
                refine held_cons rfl (fun K hK => ?_) ?_
                · go_simp
                  go_wp2_with (go_at_call 32; refine (HV2.out v5 HBv5.out).mono ?_; rintro e v6 ⟨rfl, hb⟩)
                  have GAv6 := Lib.hid (blk_call GAv5.out hb)
                  have HBv6 := Lib.hid (bw_call HBv5.out hb)
                  clear hb GAv5 HBv5
                  refine hK.out _ _ ?_ (fun hHeld => ?_)
                  · exact ⟨(soup_facts GAv6.out).1, (soup_facts GAv6.out).2.1⟩
                  clear hK K
                  (try simp only [Act.put, List.setIfInBounds_toArray, List.set_cons_zero, List.set_cons_succ])
                  refine held_take (i := 12) (v := ?v39) rfl (by kernel_rfl) (by kernel_rfl) (by kernel_rfl) (fun _ _ _ h => h) (Or.inl ⟨by rfl, ?hy39⟩) (by assumption) ?rest39
                  case hy39 => (intro w hSw; (try dsimp only at hSw); go_simp; try with_reducible rfl)
                  (try simp only [Act.put, List.setIfInBounds_toArray, List.set_cons_zero, List.set_cons_succ])
                  refine held_take (i := 13) (v := ?v40) rfl (by kernel_rfl) (by kernel_rfl) (by kernel_rfl) (fun _ _ _ h => h) (Or.inl ⟨by rfl, ?hy40⟩) (by assumption) ?rest40
                  case hy40 => (intro w hSw; (try dsimp only at hSw); go_simp; try with_reducible rfl)
                  (try simp only [Act.put, List.setIfInBounds_toArray, List.set_cons_zero, List.set_cons_succ])
                  refine wpAnyH_done (by kernel_rfl) ?_ _
                  go_wp2_with fail
                  go_ret
                  exact ⟨HR.out, HBv6.out⟩
                exact AllReadyH.nil
              exact AllReadyH.nil
            exact AllReadyH.nil
          exact AllReadyH.nil
    · obtain rfl : k = 3 * T.length := by omega
      have HR : Hid (Ending.returned (.int .i64 (-1)) = .returned (.int .i64 r)) := Lib.hid (by
        rw [← HRR.out]
        unfold facingI facingF
        rw [leastF_no (p := fun c => decide (ce T c = (x, y))) (fun i _ hi => by simpa using HF.out i (by omega))]
        rfl)
      go_wp2_with fail
      go_ret
      exact ⟨HR.out, HBwB.out⟩
end Go.Proofs.YtbdicndkkenbgaaGreat
