/- CornerAcross, walked. No condition. -/
import Derived.Test.YtdmibpcpocacpaaWake10
import Derived.Test.YtdmibpcpocacpaaCorP
import Derived.Test.YtdmibpcpocacpaaHeldL
import Derived.IntWalk
namespace Go.Proofs.Ytdmibpcpocacpaa
open Go.RowKit

set_option linter.unusedSimpArgs false
set_option linter.unusedVariables false
theorem run_ne_edge (a b : Int) (w : World) : (binOp .neq 31 (.agg #[.int .i64 a, .int .i64 b]) (.agg #[.int .i64 a, .int .i64 b])).run Try.prog w = .ok (.bool false) w := by
  rw [run_neq_struct]
  show ((Op.equalIn (9998 + 1 + 1) _ _ _).run _ _).andThen _ = _
  unfold Op.equalIn
  simp [go_sem, Try.underlying3, Result.andThen, List.range']
attribute [local irreducible] Blk LRow World.alloc World.setCell World.cell? World.frozen? MapV
set_option maxRecDepth 100000 in
set_option maxHeartbeats 8000000 in
theorem acrossLaw_any (N : Int) (A : Option Addr) (n c : Nat) (T : List Tri) (w : World) (ht : TrisAt w w.heap.size A n T) :
    Calls Try.prog 5 #[.agg #[.int .i64 N, .slice A n c]] w (BoolPost w true) := by
  obtain rfl : n = T.length := ht.len.symm
  have HT := Lib.hid ht
  clear ht
  obtain ⟨V, hV⟩ : ∃ V, V = (w.alloc (.cells #[.int .i64 N, .slice A T.length c] 24)) := ⟨_, rfl⟩
  have GA0 : Hid (Blk V w.heap.size 24 #[.int .i64 N, .slice A T.length c]) := by subst hV; exact Lib.hid (Blk.new _ _ _)
  have HB0 : Hid (Below w.heap.size w V) := by subst hV; exact Lib.hid (bw_alloc (Below.refl _ _) _)
  go_enter Try.func5, Try.ntmps5
  go_upto_region 1 with (fail)
  rw [← hV]
  clear hV
  obtain ⟨ga, hga⟩ : ∃ g, g = w.heap.size := ⟨_, rfl⟩
  rw [← hga] at GA0
  simp only [← hga]
  clear hga
  go_wp2_with fail
  refine (awake_any _).mono ?_
  rintro e w1 ⟨rfl, hb⟩
  have GA1 := Lib.hid (blk_call GA0.out hb)
  have HB1 := Lib.hid (bw_call HB0.out hb)
  clear hb HB0 GA0
  obtain ⟨s0, s1, _, _, _⟩ := soup_facts GA1.out
  go_wp2_with fail
  refine (laid_any N A T.length c T w1 ((HT.out.below HB1.out).more HB1.out.size)).mono ?_
  rintro e w3 (⟨hbg, rfl, hb⟩ | ⟨hbg, hx, rfl, hb⟩ | ⟨hbg, hx, g, rfl, htab, hb⟩)
  · have HB3 := Lib.hid (bw_call HB1.out hb)
    clear hb s0 s1 hbg
    go_wp2_with fail
    go_ret
    exact ⟨rfl, HB3.out⟩
  · have HB3 := Lib.hid (bw_call HB1.out hb)
    clear hb s0 s1 hbg hx
    go_wp2_with fail
    go_ret
    exact ⟨rfl, HB3.out⟩
  · have HBw3 := Lib.hid (bw_call HB1.out hb)
    have GAw3 := Lib.hid (blk_call GA1.out hb)
    have hT8 : T.length ≤ 8192 := by unfold bigS at hbg; omega
    have hT40 : T.length ≤ 40 := by unfold bigS at hbg; omega
    obtain ⟨m, hs⟩ := surf_of (checkR_zero (by rw [hx])).1
    obtain rfl : N = (m : Int) := hs.n
    have TBw3 : Hid (TabAt w3 0 g (m : Int) T) := Lib.hid (htab.base (Nat.zero_le _))
    have hm1 := hs.m1
    have HS := Lib.hid hs
    clear hb htab hx hs hbg s0 s1 HB1 GA1
    go_wp2_with fail
    refine (tris_any g 0 m T w3 TBw3.out.s).mono ?_
    rintro e w4 ⟨rfl, rfl⟩
    clear GAw3
    go_wp2_with fail
    go_loopw [17] (fun iv wr => ∃ k : Nat, k ≤ 3 * T.length ∧ iv = .int .i64 k ∧ Hid (TabAt wr 0 g (m : Int) T) ∧ Hid (Below w.heap.size w wr)) (fun iv _ => 3 * T.length - (intOf iv).toNat)
    case atStart => exact ⟨0, by omega, rfl, TBw3, HBw3⟩
    case round =>
      obtain ⟨k, hk, rfl, TBk, HBk⟩ := hrel
      obtain ⟨wB, hwB⟩ : ∃ wB : World, wB = wr := ⟨_, rfl⟩
      rw [← hwB] at TBk HBk ⊢
      clear hwB TBw3 HBw3
      by_cases hlt : k < 3 * T.length
      · have hki : (k : Int) < 3 * (T.length : Int) := by omega
        have hse := (surf_e.1 HS.out).2
        have n1 := nxc_lt hlt
        have n2 := nxc_lt n1
        have n3 := pvc_lt hlt
        have o1 := cv_ok HS.out.ok n1
        have o2 := cv_ok HS.out.ok n3
        have hwf0 : wfE (cv T (nxc k), cv T (pvc k)) := ⟨wf_small (by omega) (by omega), wf_small (by omega) (by omega)⟩
        have hwf1 : wfE (cv T (pvc k), cv T (nxc k)) := ⟨hwf0.2, hwf0.1⟩
        have HOB : Hid (∀ d, oppF T k = some d → d < 3 * T.length ∧ ce T d = ((ce T k).2, (ce T k).1) ∧ oppF T d = some k ∧ d / 3 ≠ k / 3 ∧ cv T d ≠ cv T k) := Lib.hid (fun d hd => opp_back hse hlt hd)
        have q1 := nextI_nat hlt
        have q2 := nextI_nat n1
        have q3 := nextI_nat n2
        rw [nxc3] at q3
        have p1 := prevI_nat hlt
        have p2 := prevI_nat n1
        rw [pvc_nxc] at p2
        have v1 := vertexI_nat n1
        have v2 := vertexI_nat n3
        have e1 := edgeI_nat hlt
        have f1 : facingI T (cv T (nxc k), cv T (pvc k)) = (k : Int) := by
          have h := facing_ce hse hlt
          unfold facingI
          unfold ce at h
          rw [h]
          rfl
        have b1 : oppI T (k : Int) = optI (oppF T k) := by unfold oppI oppF facingI; rw [e1]
        have b2 : facingI T (cv T (pvc k), cv T (nxc k)) = optI (oppF T k) := rfl
        obtain ⟨ea, hea⟩ : ∃ ea, ea = cv T (nxc k) := ⟨_, rfl⟩
        obtain ⟨eb, heb⟩ : ∃ eb, eb = cv T (pvc k) := ⟨_, rfl⟩
        have HKE : Hid (((ce T k).2, (ce T k).1) = (eb, ea)) := Lib.hid (by rw [hea, heb]; rfl)
        have HKE2 : Hid (ce T k = (ea, eb)) := Lib.hid (by rw [hea, heb]; rfl)
        rw [← hea, ← heb] at hwf0 hwf1 f1 b2
        rw [← hea] at v1
        rw [← heb] at v2
        rw [HKE2.out] at e1
        have HWF0 := Lib.hid hwf0
        have HWF1 := Lib.hid hwf1
        have HWK : Hid (wfE ((edgeI T (k : Int)).2, (edgeI T (k : Int)).1)) := Lib.hid (by rw [e1]; exact hwf1)
        have HWF : Hid (wfE (ea, eb)) := HWF0
        have HE1 : Hid (∀ (W : World), TabAt W 0 g (m : Int) T → Calls Try.prog 18 #[.pointer (some ⟨g, 0, none⟩), .int .i64 (k : Int)] W (EdPost W (ea, eb))) := Lib.hid fun W h => e1 ▸ edge_any g 0 m T k W hT8 h.s
        have HO1 : Hid (∀ (W : World), TabAt W 0 g (m : Int) T → Calls Try.prog 17 #[.pointer (some ⟨g, 0, none⟩), .int .i64 (k : Int)] W (IntPost W (optI (oppF T k)))) := Lib.hid fun W h => b1 ▸ opp_any g 0 m T k W hT8 HWK.out h
        have HF1 : Hid (∀ (W : World), TabAt W 0 g (m : Int) T → Calls Try.prog 24 #[.pointer (some ⟨g, 0, none⟩), .agg #[.int .i64 ea, .int .i64 eb]] W (IntPost W (k : Int))) := Lib.hid fun W h => f1 ▸ facing_any g 0 m T ea eb W hT8 HWF0.out h
        have HBK : Hid (∀ (W : World), TabAt W 0 g (m : Int) T → Calls Try.prog 24 #[.pointer (some ⟨g, 0, none⟩), .agg #[.int .i64 eb, .int .i64 ea]] W (IntPost W (optI (oppF T k)))) := Lib.hid fun W h => b2 ▸ facing_any g 0 m T eb ea W hT8 HWF1.out h
        have HN1 : Hid (∀ (W : World), TabAt W 0 g (m : Int) T → Calls Try.prog 15 #[.pointer (some ⟨g, 0, none⟩), .int .i64 (k : Int)] W (IntPost W (nxc k : Int))) := Lib.hid fun W h => q1 ▸ (next_any g 0 m T k W hT8 h.s).mono fun e w' h => int_of_is h
        have HN2 : Hid (∀ (W : World), TabAt W 0 g (m : Int) T → Calls Try.prog 15 #[.pointer (some ⟨g, 0, none⟩), .int .i64 (nxc k : Int)] W (IntPost W (nxc (nxc k) : Int))) := Lib.hid fun W h => q2 ▸ (next_any g 0 m T (nxc k) W hT8 h.s).mono fun e w' h => int_of_is h
        have HN3 : Hid (∀ (W : World), TabAt W 0 g (m : Int) T → Calls Try.prog 15 #[.pointer (some ⟨g, 0, none⟩), .int .i64 (nxc (nxc k) : Int)] W (IntPost W (k : Int))) := Lib.hid fun W h => q3 ▸ (next_any g 0 m T (nxc (nxc k)) W hT8 h.s).mono fun e w' h => int_of_is h
        have HP1 : Hid (∀ (W : World), TabAt W 0 g (m : Int) T → Calls Try.prog 16 #[.pointer (some ⟨g, 0, none⟩), .int .i64 (k : Int)] W (IntPost W (pvc k : Int))) := Lib.hid fun W h => p1 ▸ (prev_any g 0 m T k W hT8 h.s).mono fun e w' h => int_of_is h
        have HP2 : Hid (∀ (W : World), TabAt W 0 g (m : Int) T → Calls Try.prog 16 #[.pointer (some ⟨g, 0, none⟩), .int .i64 (nxc k : Int)] W (IntPost W (k : Int))) := Lib.hid fun W h => p2 ▸ (prev_any g 0 m T (nxc k) W hT8 h.s).mono fun e w' h => int_of_is h
        have HV1 : Hid (∀ (W : World), TabAt W 0 g (m : Int) T → Calls Try.prog 14 #[.pointer (some ⟨g, 0, none⟩), .int .i64 (nxc k : Int)] W (IntPost W ea)) := Lib.hid fun W h => v1 ▸ (vertex_any g 0 m T (nxc k) W hT8 h.s).mono fun e w' h => int_of_is h
        have HV2 : Hid (∀ (W : World), TabAt W 0 g (m : Int) T → Calls Try.prog 14 #[.pointer (some ⟨g, 0, none⟩), .int .i64 (pvc k : Int)] W (IntPost W eb)) := Lib.hid fun W h => v2 ▸ (vertex_any g 0 m T (pvc k) W hT8 h.s).mono fun e w' h => int_of_is h
        clear q1 q2 q3 p1 p2 v1 v2 e1 f1 b1 b2 hea heb hwf0 hwf1 o1 o2 n1 n2 n3 hse HWF0 HWF1 HWK HKE2
        generalize nxc (nxc k) = k2 at *
        generalize nxc k = k1 at *
        generalize pvc k = k3 at *
        go_wp2_with fail
        refine (HE1.out wB TBk.out).mono ?_
        rintro e w4 ⟨rfl, hb⟩
        have TB4 := Lib.hid (TBk.out.below hb)
        have HB4 := Lib.hid (bw_call HBk.out hb)
        clear hb TBk HBk HE1
        go_wp2_with fail
        refine (HO1.out w4 TB4.out).mono ?_
        rintro e wx ⟨rfl, hb⟩
        have TBx := Lib.hid (TB4.out.below hb)
        have HBx := Lib.hid (bw_call HB4.out hb)
        clear hb TB4 HB4 HO1
        obtain ⟨w5, hw5⟩ : ∃ w5, w5 = wx.alloc (.cells #[.int .i64 ea, .int .i64 eb] 31) := ⟨_, rfl⟩
        have GEw5 : Hid (Blk w5 wx.heap.size 31 #[.int .i64 ea, .int .i64 eb]) := by subst hw5; exact Lib.hid (Blk.new _ _ _)
        have TBw5 : Hid (TabAt w5 0 g (m : Int) T) := by subst hw5; exact Lib.hid (TBx.out.alloc _)
        have HBw5 : Hid (Below w.heap.size w w5) := by subst hw5; exact Lib.hid (bw_alloc HBx.out _)
        go_upto_region 10 with (fail)
        rw [← hw5]
        generalize wx.heap.size = ge at *
        clear hw5 TBx HBx
        refine wp_region_held_drew (S := fun w' => w'.cell? ⟨ge, 0, none⟩ = some (.int .i64 ea) ∧ w'.cell? ⟨ge, 1, none⟩ = some (.int .i64 eb)) (by kernel_rfl) ⟨(edge_facts GEw5.out.drew).1, (edge_facts GEw5.out.drew).2.1⟩ (fun hHeld => ?_)
        refine held_take (i := 0) (v := ?v1) rfl (by kernel_rfl) (by kernel_rfl) (by kernel_rfl) (fun _ _ _ h => h) (Or.inl ⟨by rfl, ?hy1⟩) (by assumption) ?rest1
        case hy1 => (intro w hSw; (try dsimp only at hSw); go_simp; try with_reducible rfl)
        (try simp only [Act.put, List.setIfInBounds_toArray, List.set_cons_zero, List.set_cons_succ])
        refine held_take (i := 1) (v := ?v2) rfl (by kernel_rfl) (by kernel_rfl) (by kernel_rfl) (fun _ _ _ h => h) (Or.inl ⟨by rfl, ?hy2⟩) (by assumption) ?rest2
        case hy2 => (intro w hSw; (try dsimp only at hSw); go_simp; try with_reducible rfl)
        (try simp only [Act.put, List.setIfInBounds_toArray, List.set_cons_zero, List.set_cons_succ])
        refine held_take (i := 3) (v := ?v3) rfl (by kernel_rfl) (by kernel_rfl) (by kernel_rfl) (fun _ _ _ h => h) (Or.inl ⟨by rfl, ?hy3⟩) (by assumption) ?rest3
        case hy3 => (intro w hSw; (try dsimp only at hSw); go_simp; try with_reducible rfl)
        (try simp only [Act.put, List.setIfInBounds_toArray, List.set_cons_zero, List.set_cons_succ])
        refine wpAnyH_ready (rs := [2]) (by kernel_rfl) (by simp) ?_
        refine held_cons rfl (fun K hK => ?_) ?_
        · go_simp
          go_wp2_with (go_at_call 24; refine (HF1.out w5.drew TBw5.out.drew).mono ?_; rintro e v30 ⟨rfl, hb⟩)
          have GEv30 := Lib.hid (blk_call GEw5.out.drew hb)
          have TBv30 := Lib.hid (TBw5.out.drew.below hb)
          have HBv30 := Lib.hid (bw_call (bw_drew HBw5.out) hb)
          clear hb
          refine hK.out _ _ ?_ (fun hHeld => ?_)
          · exact ⟨(edge_facts GEv30.out).1, (edge_facts GEv30.out).2.1⟩
          clear hK K
          (try simp only [Act.put, List.setIfInBounds_toArray, List.set_cons_zero, List.set_cons_succ])
          refine held_take (i := 4) (v := ?v4) rfl (by kernel_rfl) (by kernel_rfl) (by kernel_rfl) (fun _ _ _ h => h) (Or.inl ⟨by rfl, ?hy4⟩) (by assumption) ?rest4
          case hy4 => (intro w hSw; (try dsimp only at hSw); go_simp; try with_reducible rfl)
          (try simp only [Act.put, List.setIfInBounds_toArray, List.set_cons_zero, List.set_cons_succ])
          refine held_take (i := 5) (v := ?v5) rfl (by kernel_rfl) (by kernel_rfl) (by kernel_rfl) (fun _ _ _ h => h) (Or.inl ⟨by rfl, ?hy5⟩) (by assumption) ?rest5
          case hy5 => (intro w hSw; (try dsimp only at hSw); go_simp; try with_reducible rfl)
          (try simp only [Act.put, List.setIfInBounds_toArray, List.set_cons_zero, List.set_cons_succ])
          refine held_take (i := 6) (v := ?v6) rfl (by kernel_rfl) (by kernel_rfl) (by kernel_rfl) (fun _ _ _ h => h) (Or.inl ⟨by rfl, ?hy6⟩) (by assumption) ?rest6
          case hy6 => (intro w hSw; (try dsimp only at hSw); go_simp; try with_reducible rfl)
          (try simp only [Act.put, List.setIfInBounds_toArray, List.set_cons_zero, List.set_cons_succ])
          refine held_take (i := 7) (v := ?v7) rfl (by kernel_rfl) (by kernel_rfl) (by kernel_rfl) (fun _ _ _ h => h) (Or.inl ⟨by rfl, ?hy7⟩) (by assumption) ?rest7
          case hy7 => (intro w hSw; (try dsimp only at hSw); go_simp; try with_reducible rfl)
          (try simp only [Act.put, List.setIfInBounds_toArray, List.set_cons_zero, List.set_cons_succ])
          refine held_take (i := 8) (v := ?v8) rfl (by kernel_rfl) (by kernel_rfl) (by kernel_rfl) (fun _ _ _ h => h) (Or.inl ⟨by rfl, ?hy8⟩) (by assumption) ?rest8
          case hy8 => (intro w hSw; (try dsimp only at hSw); go_simp; try with_reducible rfl)
          (try simp only [Act.put, List.setIfInBounds_toArray, List.set_cons_zero, List.set_cons_succ])
          refine held_take (i := 9) (v := ?v9) rfl (by kernel_rfl) (by kernel_rfl) (by kernel_rfl) (fun _ _ _ h => h) (Or.inl ⟨by rfl, ?hy9⟩) (by assumption) ?rest9
          case hy9 => (intro w hSw; (try dsimp only at hSw); go_simp; try with_reducible rfl)
          (try simp only [Act.put, List.setIfInBounds_toArray, List.set_cons_zero, List.set_cons_succ])
          refine held_take (i := 13) (v := ?v10) rfl (by kernel_rfl) (by kernel_rfl) (by kernel_rfl) (fun _ _ _ h => h) (Or.inl ⟨by rfl, ?hy10⟩) (by assumption) ?rest10
          case hy10 => (intro w hSw; (try dsimp only at hSw); go_simp; try with_reducible rfl)
          (try simp only [Act.put, List.setIfInBounds_toArray, List.set_cons_zero, List.set_cons_succ])
          refine wpAnyH_ready (rs := [10]) (by kernel_rfl) (by simp) ?_
          refine held_cons rfl (fun K hK => ?_) ?_
          · go_simp
            go_wp2_with (go_at_call 15; refine (HN1.out v30 TBv30.out).mono ?_; rintro e v31 ⟨rfl, hb⟩)
            have GEv31 := Lib.hid (blk_call GEv30.out hb)
            have TBv31 := Lib.hid (TBv30.out.below hb)
            have HBv31 := Lib.hid (bw_call HBv30.out hb)
            clear hb
            refine hK.out _ _ ?_ (fun hHeld => ?_)
            · exact ⟨(edge_facts GEv31.out).1, (edge_facts GEv31.out).2.1⟩
            clear hK K
            (try simp only [Act.put, List.setIfInBounds_toArray, List.set_cons_zero, List.set_cons_succ])
            refine wpAnyH_ready (rs := [11]) (by kernel_rfl) (by simp) ?_
            refine held_cons rfl (fun K hK => ?_) ?_
            · go_simp
              go_wp2_with (go_at_call 15; refine (HN2.out v31 TBv31.out).mono ?_; rintro e v32 ⟨rfl, hb⟩)
              have GEv32 := Lib.hid (blk_call GEv31.out hb)
              have TBv32 := Lib.hid (TBv31.out.below hb)
              have HBv32 := Lib.hid (bw_call HBv31.out hb)
              clear hb
              refine hK.out _ _ ?_ (fun hHeld => ?_)
              · exact ⟨(edge_facts GEv32.out).1, (edge_facts GEv32.out).2.1⟩
              clear hK K
              (try simp only [Act.put, List.setIfInBounds_toArray, List.set_cons_zero, List.set_cons_succ])
              refine wpAnyH_ready (rs := [12]) (by kernel_rfl) (by simp) ?_
              refine held_cons rfl (fun K hK => ?_) ?_
              · go_simp
                go_wp2_with (go_at_call 15; refine (HN3.out v32 TBv32.out).mono ?_; rintro e v33 ⟨rfl, hb⟩)
                have GEv33 := Lib.hid (blk_call GEv32.out hb)
                have TBv33 := Lib.hid (TBv32.out.below hb)
                have HBv33 := Lib.hid (bw_call HBv32.out hb)
                clear hb
                refine hK.out _ _ ?_ (fun hHeld => ?_)
                · exact ⟨(edge_facts GEv33.out).1, (edge_facts GEv33.out).2.1⟩
                clear hK K
                (try simp only [Act.put, List.setIfInBounds_toArray, List.set_cons_zero, List.set_cons_succ])
                refine held_take (i := 14) (v := ?v11) rfl (by kernel_rfl) (by kernel_rfl) (by kernel_rfl) (fun _ _ _ h => h) (Or.inl ⟨by rfl, ?hy11⟩) (by assumption) ?rest11
                case hy11 => (intro w hSw; (try dsimp only at hSw); go_simp; try with_reducible rfl)
                (try simp only [Act.put, List.setIfInBounds_toArray, List.set_cons_zero, List.set_cons_succ])
                refine held_take (i := 15) (v := ?v12) rfl (by kernel_rfl) (by kernel_rfl) (by kernel_rfl) (fun _ _ _ h => h) (Or.inl ⟨by rfl, ?hy12⟩) (by assumption) ?rest12
                case hy12 => (intro w hSw; (try dsimp only at hSw); go_simp; try with_reducible rfl)
                (try simp only [Act.put, List.setIfInBounds_toArray, List.set_cons_zero, List.set_cons_succ])
                refine held_take (i := 16) (v := ?v13) rfl (by kernel_rfl) (by kernel_rfl) (by kernel_rfl) (fun _ _ _ h => h) (Or.inl ⟨by rfl, ?hy13⟩) (by assumption) ?rest13
                case hy13 => (intro w hSw; (try dsimp only at hSw); go_simp; try with_reducible rfl)
                (try simp only [Act.put, List.setIfInBounds_toArray, List.set_cons_zero, List.set_cons_succ])
                refine held_take (i := 17) (v := ?v14) rfl (by kernel_rfl) (by kernel_rfl) (by kernel_rfl) (fun _ _ _ h => h) (Or.inl ⟨by rfl, ?hy14⟩) (by assumption) ?rest14
                case hy14 => (intro w hSw; (try dsimp only at hSw); go_simp; try with_reducible rfl)
                (try simp only [Act.put, List.setIfInBounds_toArray, List.set_cons_zero, List.set_cons_succ])
                refine held_take (i := 18) (v := ?v15) rfl (by kernel_rfl) (by kernel_rfl) (by kernel_rfl) (fun _ _ _ h => h) (Or.inl ⟨by rfl, ?hy15⟩) (by assumption) ?rest15
                case hy15 => (intro w hSw; (try dsimp only at hSw); go_simp; try with_reducible rfl)
                (try simp only [Act.put, List.setIfInBounds_toArray, List.set_cons_zero, List.set_cons_succ])
                refine held_take (i := 19) (v := ?v16) rfl (by kernel_rfl) (by kernel_rfl) (by kernel_rfl) (fun _ _ _ h => h) (Or.inl ⟨by rfl, ?hy16⟩) (by assumption) ?rest16
                case hy16 => (intro w hSw; (try dsimp only at hSw); go_simp; try with_reducible rfl)
                (try simp only [Act.put, List.setIfInBounds_toArray, List.set_cons_zero, List.set_cons_succ])
                refine held_take (i := 22) (v := ?v17) rfl (by kernel_rfl) (by kernel_rfl) (by kernel_rfl) (fun _ _ _ h => h) (Or.inl ⟨by rfl, ?hy17⟩) (by assumption) ?rest17
                case hy17 => (intro w hSw; (try dsimp only at hSw); go_simp; try with_reducible rfl)
                (try simp only [Act.put, List.setIfInBounds_toArray, List.set_cons_zero, List.set_cons_succ])
                refine wpAnyH_ready (rs := [20]) (by kernel_rfl) (by simp) ?_
                refine held_cons rfl (fun K hK => ?_) ?_
                · go_simp
                  go_wp2_with (go_at_call 15; refine (HN1.out v33 TBv33.out).mono ?_; rintro e v34 ⟨rfl, hb⟩)
                  have GEv34 := Lib.hid (blk_call GEv33.out hb)
                  have TBv34 := Lib.hid (TBv33.out.below hb)
                  have HBv34 := Lib.hid (bw_call HBv33.out hb)
                  clear hb
                  refine hK.out _ _ ?_ (fun hHeld => ?_)
                  · exact ⟨(edge_facts GEv34.out).1, (edge_facts GEv34.out).2.1⟩
                  clear hK K
                  (try simp only [Act.put, List.setIfInBounds_toArray, List.set_cons_zero, List.set_cons_succ])
                  refine wpAnyH_ready (rs := [21]) (by kernel_rfl) (by simp) ?_
                  refine held_cons rfl (fun K hK => ?_) ?_
                  · go_simp
                    go_wp2_with (go_at_call 16; refine (HP2.out v34 TBv34.out).mono ?_; rintro e v35 ⟨rfl, hb⟩)
                    have GEv35 := Lib.hid (blk_call GEv34.out hb)
                    have TBv35 := Lib.hid (TBv34.out.below hb)
                    have HBv35 := Lib.hid (bw_call HBv34.out hb)
                    clear hb
                    refine hK.out _ _ ?_ (fun hHeld => ?_)
                    · exact ⟨(edge_facts GEv35.out).1, (edge_facts GEv35.out).2.1⟩
                    clear hK K
                    (try simp only [Act.put, List.setIfInBounds_toArray, List.set_cons_zero, List.set_cons_succ])
                    refine held_take (i := 23) (v := ?v18) rfl (by kernel_rfl) (by kernel_rfl) (by kernel_rfl) (fun _ _ _ h => h) (Or.inl ⟨by rfl, ?hy18⟩) (by assumption) ?rest18
                    case hy18 => (intro w hSw; (try dsimp only at hSw); go_simp; try with_reducible rfl)
                    (try simp only [Act.put, List.setIfInBounds_toArray, List.set_cons_zero, List.set_cons_succ])
                    refine held_take (i := 24) (v := ?v19) rfl (by kernel_rfl) (by kernel_rfl) (by kernel_rfl) (fun _ _ _ h => h) (Or.inl ⟨by rfl, ?hy19⟩) (by assumption) ?rest19
                    case hy19 => (intro w hSw; (try dsimp only at hSw); go_simp; try with_reducible rfl)
                    (try simp only [Act.put, List.setIfInBounds_toArray, List.set_cons_zero, List.set_cons_succ])
                    refine held_take (i := 25) (v := ?v20) rfl (by kernel_rfl) (by kernel_rfl) (by kernel_rfl) (fun _ _ _ h => h) (Or.inl ⟨by rfl, ?hy20⟩) (by assumption) ?rest20
                    case hy20 => (intro w hSw; (try dsimp only at hSw); go_simp; try with_reducible rfl)
                    (try simp only [Act.put, List.setIfInBounds_toArray, List.set_cons_zero, List.set_cons_succ])
                    refine held_take (i := 26) (v := ?v21) rfl (by kernel_rfl) (by kernel_rfl) (by kernel_rfl) (fun _ _ _ h => h) (Or.inl ⟨by rfl, ?hy21⟩) (by assumption) ?rest21
                    case hy21 => (intro w hSw; (try dsimp only at hSw); go_simp; try with_reducible rfl)
                    (try simp only [Act.put, List.setIfInBounds_toArray, List.set_cons_zero, List.set_cons_succ])
                    refine held_take (i := 27) (v := ?v22) rfl (by kernel_rfl) (by kernel_rfl) (by kernel_rfl) (fun _ _ _ h => h) (Or.inl ⟨by rfl, ?hy22⟩) (by assumption) ?rest22
                    case hy22 => (intro w hSw; (try dsimp only at hSw); go_simp; try with_reducible rfl)
                    (try simp only [Act.put, List.setIfInBounds_toArray, List.set_cons_zero, List.set_cons_succ])
                    refine held_take (i := 28) (v := ?v23) rfl (by kernel_rfl) (by kernel_rfl) (by kernel_rfl) (fun _ _ _ h => h) (Or.inl ⟨by rfl, ?hy23⟩) (by assumption) ?rest23
                    case hy23 => (intro w hSw; (try dsimp only at hSw); go_simp; try with_reducible rfl)
                    (try simp only [Act.put, List.setIfInBounds_toArray, List.set_cons_zero, List.set_cons_succ])
                    refine held_take (i := 31) (v := ?v24) rfl (by kernel_rfl) (by kernel_rfl) (by kernel_rfl) (fun _ _ _ h => h) (Or.inl ⟨by rfl, ?hy24⟩) (by assumption) ?rest24
                    case hy24 => (intro w hSw; (try dsimp only at hSw); go_simp; try with_reducible rfl)
                    (try simp only [Act.put, List.setIfInBounds_toArray, List.set_cons_zero, List.set_cons_succ])
                    refine held_take (i := 32) (v := ?v25) rfl (by kernel_rfl) (by kernel_rfl) (by kernel_rfl) (fun _ _ _ h => h) (Or.inl ⟨by rfl, ?hy25⟩) (by assumption) ?rest25
                    case hy25 => (intro w hSw; (try dsimp only at hSw); go_simp; try with_reducible rfl)
                    (try simp only [Act.put, List.setIfInBounds_toArray, List.set_cons_zero, List.set_cons_succ])
                    refine wpAnyH_ready (rs := [29]) (by kernel_rfl) (by simp) ?_
                    refine held_cons rfl (fun K hK => ?_) ?_
                    · go_simp
                      go_wp2_with (go_at_call 15; refine (HN1.out v35 TBv35.out).mono ?_; rintro e v36 ⟨rfl, hb⟩)
                      have GEv36 := Lib.hid (blk_call GEv35.out hb)
                      have TBv36 := Lib.hid (TBv35.out.below hb)
                      have HBv36 := Lib.hid (bw_call HBv35.out hb)
                      clear hb
                      refine hK.out _ _ ?_ (fun hHeld => ?_)
                      · exact ⟨(edge_facts GEv36.out).1, (edge_facts GEv36.out).2.1⟩
                      clear hK K
                      (try simp only [Act.put, List.setIfInBounds_toArray, List.set_cons_zero, List.set_cons_succ])
                      refine wpAnyH_ready (rs := [30]) (by kernel_rfl) (by simp) ?_
                      refine held_cons rfl (fun K hK => ?_) ?_
                      · go_simp
                        go_wp2_with (go_at_call 14; refine (HV1.out v36 TBv36.out).mono ?_; rintro e v37 ⟨rfl, hb⟩)
                        have GEv37 := Lib.hid (blk_call GEv36.out hb)
                        have TBv37 := Lib.hid (TBv36.out.below hb)
                        have HBv37 := Lib.hid (bw_call HBv36.out hb)
                        clear hb
                        refine hK.out _ _ ?_ (fun hHeld => ?_)
                        · exact ⟨(edge_facts GEv37.out).1, (edge_facts GEv37.out).2.1⟩
                        clear hK K
                        (try simp only [Act.put, List.setIfInBounds_toArray, List.set_cons_zero, List.set_cons_succ])
                        refine held_take (i := 33) (v := ?v26) rfl (by kernel_rfl) (by kernel_rfl) (by kernel_rfl) (fun _ _ _ h => h) (Or.inl ⟨by rfl, ?hy26⟩) (by assumption) ?rest26
                        case hy26 => (intro w hSw; (try dsimp only at hSw); go_simp; try with_reducible rfl)
                        (try simp only [Act.put, List.setIfInBounds_toArray, List.set_cons_zero, List.set_cons_succ])
                        refine held_take (i := 34) (v := ?v27) rfl (by kernel_rfl) (by kernel_rfl) (by kernel_rfl) (fun _ _ _ h => h) (Or.inl ⟨by rfl, ?hy27⟩) (by assumption) ?rest27
                        case hy27 => (intro w hSw; (try dsimp only at hSw); go_simp; try with_reducible rfl)
                        (try simp only [Act.put, List.setIfInBounds_toArray, List.set_cons_zero, List.set_cons_succ])
                        refine held_take (i := 35) (v := ?v28) rfl (by kernel_rfl) (by kernel_rfl) (by kernel_rfl) (fun _ _ _ h => h) (Or.inl ⟨by rfl, ?hy28⟩) (by assumption) ?rest28
                        case hy28 => (intro w hSw; (try dsimp only at hSw); go_simp; try with_reducible rfl)
                        (try simp only [Act.put, List.setIfInBounds_toArray, List.set_cons_zero, List.set_cons_succ])
                        refine held_take (i := 36) (v := ?v29) rfl (by kernel_rfl) (by kernel_rfl) (by kernel_rfl) (fun _ _ _ h => h) (Or.inl ⟨by rfl, ?hy29⟩) (by assumption) ?rest29
                        case hy29 => (intro w hSw; (try dsimp only at hSw); go_simp; try with_reducible rfl)
                        (try simp only [Act.put, List.setIfInBounds_toArray, List.set_cons_zero, List.set_cons_succ])
                        refine held_take (i := 37) (v := ?v30) rfl (by kernel_rfl) (by kernel_rfl) (by kernel_rfl) (fun _ _ _ h => h) (Or.inl ⟨by rfl, ?hy30⟩) (by assumption) ?rest30
                        case hy30 => (intro w hSw; (try dsimp only at hSw); go_simp; try with_reducible rfl)
                        (try simp only [Act.put, List.setIfInBounds_toArray, List.set_cons_zero, List.set_cons_succ])
                        refine held_take (i := 38) (v := ?v31) rfl (by kernel_rfl) (by kernel_rfl) (by kernel_rfl) (fun _ _ _ h => h) (Or.inl ⟨by rfl, ?hy31⟩) (by assumption) ?rest31
                        case hy31 => (intro w hSw; (try dsimp only at hSw); go_simp; try with_reducible rfl)
                        (try simp only [Act.put, List.setIfInBounds_toArray, List.set_cons_zero, List.set_cons_succ])
                        refine held_take (i := 41) (v := ?v32) rfl (by kernel_rfl) (by kernel_rfl) (by kernel_rfl) (fun _ _ _ h => h) (Or.inl ⟨by rfl, ?hy32⟩) (by assumption) ?rest32
                        case hy32 => (intro w hSw; (try dsimp only at hSw); go_simp; try with_reducible rfl)
                        (try simp only [Act.put, List.setIfInBounds_toArray, List.set_cons_zero, List.set_cons_succ])
                        refine held_take (i := 42) (v := ?v33) rfl (by kernel_rfl) (by kernel_rfl) (by kernel_rfl) (fun _ _ _ h => h) (Or.inl ⟨by rfl, ?hy33⟩) (by assumption) ?rest33
                        case hy33 => (intro w hSw; (try dsimp only at hSw); go_simp; try with_reducible rfl)
                        (try simp only [Act.put, List.setIfInBounds_toArray, List.set_cons_zero, List.set_cons_succ])
                        refine wpAnyH_ready (rs := [39]) (by kernel_rfl) (by simp) ?_
                        refine held_cons rfl (fun K hK => ?_) ?_
                        · go_simp
                          go_wp2_with (go_at_call 16; refine (HP1.out v37 TBv37.out).mono ?_; rintro e v38 ⟨rfl, hb⟩)
                          have GEv38 := Lib.hid (blk_call GEv37.out hb)
                          have TBv38 := Lib.hid (TBv37.out.below hb)
                          have HBv38 := Lib.hid (bw_call HBv37.out hb)
                          clear hb
                          refine hK.out _ _ ?_ (fun hHeld => ?_)
                          · exact ⟨(edge_facts GEv38.out).1, (edge_facts GEv38.out).2.1⟩
                          clear hK K
                          (try simp only [Act.put, List.setIfInBounds_toArray, List.set_cons_zero, List.set_cons_succ])
                          refine wpAnyH_ready (rs := [40]) (by kernel_rfl) (by simp) ?_
                          refine held_cons rfl (fun K hK => ?_) ?_
                          · go_simp
                            go_wp2_with (go_at_call 14; refine (HV2.out v38 TBv38.out).mono ?_; rintro e v39 ⟨rfl, hb⟩)
                            have GEv39 := Lib.hid (blk_call GEv38.out hb)
                            have TBv39 := Lib.hid (TBv38.out.below hb)
                            have HBv39 := Lib.hid (bw_call HBv38.out hb)
                            clear hb
                            refine hK.out _ _ ?_ (fun hHeld => ?_)
                            · exact ⟨(edge_facts GEv39.out).1, (edge_facts GEv39.out).2.1⟩
                            clear hK K
                            (try simp only [Act.put, List.setIfInBounds_toArray, List.set_cons_zero, List.set_cons_succ])
                            refine held_take (i := 43) (v := ?v34) rfl (by kernel_rfl) (by kernel_rfl) (by kernel_rfl) (fun _ _ _ h => h) (Or.inl ⟨by rfl, ?hy34⟩) (by assumption) ?rest34
                            case hy34 => (intro w hSw; (try dsimp only at hSw); go_simp; try with_reducible rfl)
                            (try simp only [Act.put, List.setIfInBounds_toArray, List.set_cons_zero, List.set_cons_succ])
                            refine held_take (i := 44) (v := ?v35) rfl (by kernel_rfl) (by kernel_rfl) (by kernel_rfl) (fun _ _ _ h => h) (Or.inl ⟨by rfl, ?hy35⟩) (by assumption) ?rest35
                            case hy35 => (intro w hSw; (try dsimp only at hSw); go_simp; try with_reducible rfl)
                            (try simp only [Act.put, List.setIfInBounds_toArray, List.set_cons_zero, List.set_cons_succ])
                            refine wpAnyH_done (by kernel_rfl) ?_ _
                            go_wp2_with fail
                            clear HN1 HN2 HN3 HP1 HP2 HV1 HV2 HF1
                            obtain ⟨e0, e1, _, _⟩ := edge_facts GEv39.out
                            refine (HBK.out v39 TBv39.out).mono ?_
                            rintro e w6 ⟨rfl, hb⟩
                            have GEw6 := Lib.hid (blk_call GEv39.out hb)
                            have TBw6 := Lib.hid (TBv39.out.below hb)
                            have HBw6 := Lib.hid (bw_call HBv39.out hb)
                            clear hb GEv39 TBv39 HBv39 HBK e0 e1
                            cases ho : oppF T k with
                            | none =>
                              rw [show optI none = -1 from rfl]
                              clear ho HOB
                              go_upto_region 13 with (fail)
                              refine wp_region_held_drew (S := fun w' => w'.cell? ⟨ge, 0, none⟩ = some (.int .i64 ea) ∧ w'.cell? ⟨ge, 1, none⟩ = some (.int .i64 eb)) (by kernel_rfl) ⟨(edge_facts GEw6.out.drew).1, (edge_facts GEw6.out.drew).2.1⟩ (fun hHeld => ?_)
                              refine held_take (i := 0) (v := ?v36) rfl (by kernel_rfl) (by kernel_rfl) (by kernel_rfl) (fun _ _ _ h => h) (Or.inl ⟨by rfl, ?hy36⟩) (by assumption) ?rest36
                              case hy36 => (intro w hSw; (try dsimp only at hSw); go_simp; try with_reducible rfl)
                              (try simp only [Act.put, List.setIfInBounds_toArray, List.set_cons_zero, List.set_cons_succ])
                              refine held_take (i := 1) (v := ?v37) rfl (by kernel_rfl) (by kernel_rfl) (by kernel_rfl) (fun _ _ _ h => h) (Or.inl ⟨by rfl, ?hy37⟩) (by assumption) ?rest37
                              case hy37 => (intro w hSw; (try dsimp only at hSw); go_simp; try with_reducible rfl)
                              (try simp only [Act.put, List.setIfInBounds_toArray, List.set_cons_zero, List.set_cons_succ])
                              refine held_take (i := 2) (v := ?v38) rfl (by kernel_rfl) (by kernel_rfl) (by kernel_rfl) (fun _ _ _ h => h) (Or.inl ⟨by rfl, ?hy38⟩) (by assumption) ?rest38
                              case hy38 => (intro w hSw; (try dsimp only at hSw); go_simp; try with_reducible rfl)
                              (try simp only [Act.put, List.setIfInBounds_toArray, List.set_cons_zero, List.set_cons_succ])
                              refine held_take (i := 3) (v := ?v39) rfl (by kernel_rfl) (by kernel_rfl) (by kernel_rfl) (fun _ _ _ h => h) (Or.inl ⟨by rfl, ?hy39⟩) (by assumption) ?rest39
                              case hy39 => (intro w hSw; (try dsimp only at hSw); go_simp; try with_reducible rfl)
                              (try simp only [Act.put, List.setIfInBounds_toArray, List.set_cons_zero, List.set_cons_succ])
                              refine held_take (i := 4) (v := ?v40) rfl (by kernel_rfl) (by kernel_rfl) (by kernel_rfl) (fun _ _ _ h => h) (Or.inl ⟨by rfl, ?hy40⟩) (by assumption) ?rest40
                              case hy40 => (intro w hSw; (try dsimp only at hSw); go_simp; try with_reducible rfl)
                              (try simp only [Act.put, List.setIfInBounds_toArray, List.set_cons_zero, List.set_cons_succ])
                              refine held_take (i := 5) (v := ?v41) rfl (by kernel_rfl) (by kernel_rfl) (by kernel_rfl) (fun _ _ _ h => h) (Or.inl ⟨by rfl, ?hy41⟩) (by assumption) ?rest41
                              case hy41 => (intro w hSw; (try dsimp only at hSw); go_simp; try with_reducible rfl)
                              (try simp only [Act.put, List.setIfInBounds_toArray, List.set_cons_zero, List.set_cons_succ])
                              refine held_take (i := 6) (v := ?v42) rfl (by kernel_rfl) (by kernel_rfl) (by kernel_rfl) (fun _ _ _ h => h) (Or.inl ⟨by rfl, ?hy42⟩) (by assumption) ?rest42
                              case hy42 => (intro w hSw; (try dsimp only at hSw); go_simp; try with_reducible rfl)
                              (try simp only [Act.put, List.setIfInBounds_toArray, List.set_cons_zero, List.set_cons_succ])
                              refine held_take (i := 7) rfl (by kernel_rfl) (by kernel_rfl) (by kernel_rfl) (fun _ _ _ h => h) (Or.inr ⟨by rfl, rfl⟩) (by assumption) ?_
                              (try simp only [Act.put, List.setIfInBounds_toArray, List.set_cons_zero, List.set_cons_succ])
                              refine held_take (i := 8) rfl (by kernel_rfl) (by kernel_rfl) (by kernel_rfl) (fun _ _ _ h => h) (Or.inr ⟨by rfl, rfl⟩) (by assumption) ?_
                              (try simp only [Act.put, List.setIfInBounds_toArray, List.set_cons_zero, List.set_cons_succ])
                              refine held_take (i := 9) rfl (by kernel_rfl) (by kernel_rfl) (by kernel_rfl) (fun _ _ _ h => h) (Or.inr ⟨by rfl, rfl⟩) (by assumption) ?_
                              (try simp only [Act.put, List.setIfInBounds_toArray, List.set_cons_zero, List.set_cons_succ])
                              refine held_take (i := 10) rfl (by kernel_rfl) (by kernel_rfl) (by kernel_rfl) (fun _ _ _ h => h) (Or.inr ⟨by rfl, rfl⟩) (by assumption) ?_
                              (try simp only [Act.put, List.setIfInBounds_toArray, List.set_cons_zero, List.set_cons_succ])
                              refine held_take (i := 11) rfl (by kernel_rfl) (by kernel_rfl) (by kernel_rfl) (fun _ _ _ h => h) (Or.inr ⟨by rfl, rfl⟩) (by assumption) ?_
                              (try simp only [Act.put, List.setIfInBounds_toArray, List.set_cons_zero, List.set_cons_succ])
                              refine held_take (i := 12) rfl (by kernel_rfl) (by kernel_rfl) (by kernel_rfl) (fun _ _ _ h => h) (Or.inr ⟨by rfl, rfl⟩) (by assumption) ?_
                              (try simp only [Act.put, List.setIfInBounds_toArray, List.set_cons_zero, List.set_cons_succ])
                              refine held_take (i := 13) rfl (by kernel_rfl) (by kernel_rfl) (by kernel_rfl) (fun _ _ _ h => h) (Or.inr ⟨by rfl, rfl⟩) (by assumption) ?_
                              (try simp only [Act.put, List.setIfInBounds_toArray, List.set_cons_zero, List.set_cons_succ])
                              refine held_take (i := 14) rfl (by kernel_rfl) (by kernel_rfl) (by kernel_rfl) (fun _ _ _ h => h) (Or.inr ⟨by rfl, rfl⟩) (by assumption) ?_
                              (try simp only [Act.put, List.setIfInBounds_toArray, List.set_cons_zero, List.set_cons_succ])
                              refine held_take (i := 15) rfl (by kernel_rfl) (by kernel_rfl) (by kernel_rfl) (fun _ _ _ h => h) (Or.inr ⟨by rfl, rfl⟩) (by assumption) ?_
                              (try simp only [Act.put, List.setIfInBounds_toArray, List.set_cons_zero, List.set_cons_succ])
                              refine held_take (i := 16) rfl (by kernel_rfl) (by kernel_rfl) (by kernel_rfl) (fun _ _ _ h => h) (Or.inr ⟨by rfl, rfl⟩) (by assumption) ?_
                              (try simp only [Act.put, List.setIfInBounds_toArray, List.set_cons_zero, List.set_cons_succ])
                              refine held_take (i := 17) rfl (by kernel_rfl) (by kernel_rfl) (by kernel_rfl) (fun _ _ _ h => h) (Or.inr ⟨by rfl, rfl⟩) (by assumption) ?_
                              (try simp only [Act.put, List.setIfInBounds_toArray, List.set_cons_zero, List.set_cons_succ])
                              refine held_take (i := 18) rfl (by kernel_rfl) (by kernel_rfl) (by kernel_rfl) (fun _ _ _ h => h) (Or.inr ⟨by rfl, rfl⟩) (by assumption) ?_
                              (try simp only [Act.put, List.setIfInBounds_toArray, List.set_cons_zero, List.set_cons_succ])
                              refine held_take (i := 19) rfl (by kernel_rfl) (by kernel_rfl) (by kernel_rfl) (fun _ _ _ h => h) (Or.inr ⟨by rfl, rfl⟩) (by assumption) ?_
                              (try simp only [Act.put, List.setIfInBounds_toArray, List.set_cons_zero, List.set_cons_succ])
                              refine held_take (i := 20) rfl (by kernel_rfl) (by kernel_rfl) (by kernel_rfl) (fun _ _ _ h => h) (Or.inr ⟨by rfl, rfl⟩) (by assumption) ?_
                              (try simp only [Act.put, List.setIfInBounds_toArray, List.set_cons_zero, List.set_cons_succ])
                              refine held_take (i := 21) rfl (by kernel_rfl) (by kernel_rfl) (by kernel_rfl) (fun _ _ _ h => h) (Or.inr ⟨by rfl, rfl⟩) (by assumption) ?_
                              (try simp only [Act.put, List.setIfInBounds_toArray, List.set_cons_zero, List.set_cons_succ])
                              refine held_take (i := 22) rfl (by kernel_rfl) (by kernel_rfl) (by kernel_rfl) (fun _ _ _ h => h) (Or.inr ⟨by rfl, rfl⟩) (by assumption) ?_
                              (try simp only [Act.put, List.setIfInBounds_toArray, List.set_cons_zero, List.set_cons_succ])
                              refine held_take (i := 23) rfl (by kernel_rfl) (by kernel_rfl) (by kernel_rfl) (fun _ _ _ h => h) (Or.inr ⟨by rfl, rfl⟩) (by assumption) ?_
                              (try simp only [Act.put, List.setIfInBounds_toArray, List.set_cons_zero, List.set_cons_succ])
                              refine held_take (i := 24) rfl (by kernel_rfl) (by kernel_rfl) (by kernel_rfl) (fun _ _ _ h => h) (Or.inr ⟨by rfl, rfl⟩) (by assumption) ?_
                              (try simp only [Act.put, List.setIfInBounds_toArray, List.set_cons_zero, List.set_cons_succ])
                              refine held_take (i := 25) rfl (by kernel_rfl) (by kernel_rfl) (by kernel_rfl) (fun _ _ _ h => h) (Or.inr ⟨by rfl, rfl⟩) (by assumption) ?_
                              (try simp only [Act.put, List.setIfInBounds_toArray, List.set_cons_zero, List.set_cons_succ])
                              refine held_take (i := 26) rfl (by kernel_rfl) (by kernel_rfl) (by kernel_rfl) (fun _ _ _ h => h) (Or.inr ⟨by rfl, rfl⟩) (by assumption) ?_
                              (try simp only [Act.put, List.setIfInBounds_toArray, List.set_cons_zero, List.set_cons_succ])
                              refine held_take (i := 27) rfl (by kernel_rfl) (by kernel_rfl) (by kernel_rfl) (fun _ _ _ h => h) (Or.inr ⟨by rfl, rfl⟩) (by assumption) ?_
                              (try simp only [Act.put, List.setIfInBounds_toArray, List.set_cons_zero, List.set_cons_succ])
                              refine held_take (i := 28) rfl (by kernel_rfl) (by kernel_rfl) (by kernel_rfl) (fun _ _ _ h => h) (Or.inr ⟨by rfl, rfl⟩) (by assumption) ?_
                              (try simp only [Act.put, List.setIfInBounds_toArray, List.set_cons_zero, List.set_cons_succ])
                              refine held_take (i := 29) rfl (by kernel_rfl) (by kernel_rfl) (by kernel_rfl) (fun _ _ _ h => h) (Or.inr ⟨by rfl, rfl⟩) (by assumption) ?_
                              (try simp only [Act.put, List.setIfInBounds_toArray, List.set_cons_zero, List.set_cons_succ])
                              refine held_take (i := 30) rfl (by kernel_rfl) (by kernel_rfl) (by kernel_rfl) (fun _ _ _ h => h) (Or.inr ⟨by rfl, rfl⟩) (by assumption) ?_
                              (try simp only [Act.put, List.setIfInBounds_toArray, List.set_cons_zero, List.set_cons_succ])
                              refine held_take (i := 31) rfl (by kernel_rfl) (by kernel_rfl) (by kernel_rfl) (fun _ _ _ h => h) (Or.inr ⟨by rfl, rfl⟩) (by assumption) ?_
                              (try simp only [Act.put, List.setIfInBounds_toArray, List.set_cons_zero, List.set_cons_succ])
                              refine held_take (i := 32) rfl (by kernel_rfl) (by kernel_rfl) (by kernel_rfl) (fun _ _ _ h => h) (Or.inr ⟨by rfl, rfl⟩) (by assumption) ?_
                              (try simp only [Act.put, List.setIfInBounds_toArray, List.set_cons_zero, List.set_cons_succ])
                              refine held_take (i := 33) rfl (by kernel_rfl) (by kernel_rfl) (by kernel_rfl) (fun _ _ _ h => h) (Or.inr ⟨by rfl, rfl⟩) (by assumption) ?_
                              (try simp only [Act.put, List.setIfInBounds_toArray, List.set_cons_zero, List.set_cons_succ])
                              refine held_take (i := 34) rfl (by kernel_rfl) (by kernel_rfl) (by kernel_rfl) (fun _ _ _ h => h) (Or.inr ⟨by rfl, rfl⟩) (by assumption) ?_
                              (try simp only [Act.put, List.setIfInBounds_toArray, List.set_cons_zero, List.set_cons_succ])
                              refine held_take (i := 35) rfl (by kernel_rfl) (by kernel_rfl) (by kernel_rfl) (fun _ _ _ h => h) (Or.inr ⟨by rfl, rfl⟩) (by assumption) ?_
                              (try simp only [Act.put, List.setIfInBounds_toArray, List.set_cons_zero, List.set_cons_succ])
                              refine held_take (i := 36) rfl (by kernel_rfl) (by kernel_rfl) (by kernel_rfl) (fun _ _ _ h => h) (Or.inr ⟨by rfl, rfl⟩) (by assumption) ?_
                              (try simp only [Act.put, List.setIfInBounds_toArray, List.set_cons_zero, List.set_cons_succ])
                              refine held_take (i := 37) rfl (by kernel_rfl) (by kernel_rfl) (by kernel_rfl) (fun _ _ _ h => h) (Or.inr ⟨by rfl, rfl⟩) (by assumption) ?_
                              (try simp only [Act.put, List.setIfInBounds_toArray, List.set_cons_zero, List.set_cons_succ])
                              refine held_take (i := 38) rfl (by kernel_rfl) (by kernel_rfl) (by kernel_rfl) (fun _ _ _ h => h) (Or.inr ⟨by rfl, rfl⟩) (by assumption) ?_
                              (try simp only [Act.put, List.setIfInBounds_toArray, List.set_cons_zero, List.set_cons_succ])
                              refine held_take (i := 39) (v := ?v75) rfl (by kernel_rfl) (by kernel_rfl) (by kernel_rfl) (fun _ _ _ h => h) (Or.inl ⟨by rfl, ?hy75⟩) (by assumption) ?rest75
                              case hy75 => (intro w hSw; (try dsimp only at hSw); go_simp; try with_reducible rfl)
                              (try simp only [Act.put, List.setIfInBounds_toArray, List.set_cons_zero, List.set_cons_succ])
                              refine held_take (i := 40) (v := ?v76) rfl (by kernel_rfl) (by kernel_rfl) (by kernel_rfl) (fun _ _ _ h => h) (Or.inl ⟨by rfl, ?hy76⟩) (by assumption) ?rest76
                              case hy76 => (intro w hSw; (try dsimp only at hSw); go_simp; try with_reducible rfl)
                              (try simp only [Act.put, List.setIfInBounds_toArray, List.set_cons_zero, List.set_cons_succ])
                              refine wpAnyH_done (by kernel_rfl) ?_ _
                              go_wp2_with fail
                              exact ⟨⟨k + 1, by omega, by go_num, Lib.hid TBw6.out.drew, Lib.hid (bw_drew HBw6.out)⟩, by simp [intOf]; omega⟩
                            | some d =>
                              obtain ⟨hd, hed, hod, hd3, hdv⟩ := HOB.out d ho
                              rw [show optI (some d) = (d : Int) from rfl]
                              have q4 : oppI T (d : Int) = (k : Int) := by
                                unfold oppI facingI
                                rw [edgeI_nat hd]
                                unfold oppF at hod
                                rw [hod]
                                rfl
                              have q5 := edgeI_nat hd
                              rw [hed, HKE.out] at q5
                              have HW2 : Hid (wfE ((edgeI T (d : Int)).2, (edgeI T (d : Int)).1)) := Lib.hid (by rw [q5]; exact HWF.out)
                              have q1 := vertexI_nat hd
                              have q6 := vertexI_nat hlt
                              have HO2 : Hid (∀ (W : World), TabAt W 0 g (m : Int) T → Calls Try.prog 17 #[.pointer (some ⟨g, 0, none⟩), .int .i64 (d : Int)] W (IntPost W (k : Int))) := Lib.hid fun W h => q4 ▸ opp_any g 0 m T d W hT8 HW2.out h
                              have HE2 : Hid (∀ (W : World), TabAt W 0 g (m : Int) T → Calls Try.prog 18 #[.pointer (some ⟨g, 0, none⟩), .int .i64 (d : Int)] W (EdPost W (eb, ea))) := Lib.hid fun W h => q5 ▸ edge_any g 0 m T d W hT8 h.s
                              have HV3 : Hid (∀ (W : World), TabAt W 0 g (m : Int) T → Calls Try.prog 14 #[.pointer (some ⟨g, 0, none⟩), .int .i64 (d : Int)] W (IntPost W (cv T d))) := Lib.hid fun W h => q1 ▸ (vertex_any g 0 m T d W hT8 h.s).mono fun e w' h => int_of_is h
                              have HV4 : Hid (∀ (W : World), TabAt W 0 g (m : Int) T → Calls Try.prog 14 #[.pointer (some ⟨g, 0, none⟩), .int .i64 (k : Int)] W (IntPost W (cv T k))) := Lib.hid fun W h => q6 ▸ (vertex_any g 0 m T k W hT8 h.s).mono fun e w' h => int_of_is h
                              have hne := run_ne_edge eb ea
                              have hvb : (cv T d == cv T k) = false := by simp [hdv]
                              have t1 : Int.tdiv (d : Int) 3 = ((d / 3 : Nat) : Int) := Int.ofNat_tdiv d 3
                              have t2 : Int.tdiv (k : Int) 3 = ((k / 3 : Nat) : Int) := Int.ofNat_tdiv k 3
                              have t3 : (d : Int) / 3 = ((d / 3 : Nat) : Int) := by omega
                              have t4 : (k : Int) / 3 = ((k / 3 : Nat) : Int) := by omega
                              have hqb : (((d / 3 : Nat) : Int) == ((k / 3 : Nat) : Int)) = false := by simp; omega
                              have hd0 : (0 : Int) ≤ (d : Int) := by omega
                              have hd120 : d < 120 := by omega
                              clear q1 q4 q5 q6 hed hod hd3 hdv ho HOB hd
                              generalize cv T d = vd at *
                              generalize cv T k = vk at *
                              have hw1 : IntKind.i64.wrap ((d / 3 : Nat) : Int) = ((d / 3 : Nat) : Int) := IntWalk.i64_in _ (by omega)
                              have hw2 : IntKind.i64.wrap ((k / 3 : Nat) : Int) = ((k / 3 : Nat) : Int) := IntWalk.i64_in _ (by omega)
                              generalize d / 3 = dq at *
                              generalize k / 3 = kq at *
                              go_upto_region 13 with (fail)
                              refine wp_region_held_drew (S := fun w' => w'.cell? ⟨ge, 0, none⟩ = some (.int .i64 ea) ∧ w'.cell? ⟨ge, 1, none⟩ = some (.int .i64 eb)) (by kernel_rfl) ⟨(edge_facts GEw6.out.drew).1, (edge_facts GEw6.out.drew).2.1⟩ (fun hHeld => ?_)
                              refine held_take (i := 0) (v := ?v77) rfl (by kernel_rfl) (by kernel_rfl) (by kernel_rfl) (fun _ _ _ h => h) (Or.inl ⟨by rfl, ?hy77⟩) (by assumption) ?rest77
                              case hy77 => (intro w hSw; (try dsimp only at hSw); go_simp; try with_reducible rfl)
                              (try simp only [Act.put, List.setIfInBounds_toArray, List.set_cons_zero, List.set_cons_succ])
                              refine held_take (i := 1) (v := ?v78) rfl (by kernel_rfl) (by kernel_rfl) (by kernel_rfl) (fun _ _ _ h => h) (Or.inl ⟨by rfl, ?hy78⟩) (by assumption) ?rest78
                              case hy78 => (intro w hSw; (try dsimp only at hSw); go_simp; try with_reducible rfl)
                              (try simp only [Act.put, List.setIfInBounds_toArray, List.set_cons_zero, List.set_cons_succ])
                              refine held_take (i := 2) (v := ?v79) rfl (by kernel_rfl) (by kernel_rfl) (by kernel_rfl) (fun _ _ _ h => h) (Or.inl ⟨by rfl, ?hy79⟩) (by assumption) ?rest79
                              case hy79 => (intro w hSw; (try dsimp only at hSw); go_simp; try with_reducible rfl)
                              (try simp only [Act.put, List.setIfInBounds_toArray, List.set_cons_zero, List.set_cons_succ])
                              refine held_take (i := 3) (v := ?v80) rfl (by kernel_rfl) (by kernel_rfl) (by kernel_rfl) (fun _ _ _ h => h) (Or.inl ⟨by rfl, ?hy80⟩) (by assumption) ?rest80
                              case hy80 => (intro w hSw; (try dsimp only at hSw); go_simp; try with_reducible rfl)
                              (try simp only [Act.put, List.setIfInBounds_toArray, List.set_cons_zero, List.set_cons_succ])
                              refine held_take (i := 4) (v := ?v81) rfl (by kernel_rfl) (by kernel_rfl) (by kernel_rfl) (fun _ _ _ h => h) (Or.inl ⟨by rfl, ?hy81⟩) (by assumption) ?rest81
                              case hy81 => (intro w hSw; (try dsimp only at hSw); go_simp; try with_reducible rfl)
                              (try simp only [Act.put, List.setIfInBounds_toArray, List.set_cons_zero, List.set_cons_succ])
                              refine held_take (i := 5) (v := ?v82) rfl (by kernel_rfl) (by kernel_rfl) (by kernel_rfl) (fun _ _ _ h => h) (Or.inl ⟨by rfl, ?hy82⟩) (by assumption) ?rest82
                              case hy82 => (intro w hSw; (try dsimp only at hSw); go_simp; try with_reducible rfl)
                              (try simp only [Act.put, List.setIfInBounds_toArray, List.set_cons_zero, List.set_cons_succ])
                              refine held_take (i := 6) (v := ?v83) rfl (by kernel_rfl) (by kernel_rfl) (by kernel_rfl) (fun _ _ _ h => h) (Or.inl ⟨by rfl, ?hy83⟩) (by assumption) ?rest83
                              case hy83 => (intro w hSw; (try dsimp only at hSw); go_simp; try with_reducible rfl)
                              (try simp only [Act.put, List.setIfInBounds_toArray, List.set_cons_zero, List.set_cons_succ])
                              refine held_take (i := 7) (v := ?v84) rfl (by kernel_rfl) (by kernel_rfl) (by kernel_rfl) (fun _ _ _ h => h) (Or.inl ⟨by rfl, ?hy84⟩) (by assumption) ?rest84
                              case hy84 => (intro w hSw; (try dsimp only at hSw); go_simp; try with_reducible rfl)
                              (try simp only [Act.put, List.setIfInBounds_toArray, List.set_cons_zero, List.set_cons_succ])
                              refine held_take (i := 8) (v := ?v85) rfl (by kernel_rfl) (by kernel_rfl) (by kernel_rfl) (fun _ _ _ h => h) (Or.inl ⟨by rfl, ?hy85⟩) (by assumption) ?rest85
                              case hy85 => (intro w hSw; (try dsimp only at hSw); go_simp; try with_reducible rfl)
                              (try simp only [Act.put, List.setIfInBounds_toArray, List.set_cons_zero, List.set_cons_succ])
                              refine held_take (i := 10) (v := ?v86) rfl (by kernel_rfl) (by kernel_rfl) (by kernel_rfl) (fun _ _ _ h => h) (Or.inl ⟨by rfl, ?hy86⟩) (by assumption) ?rest86
                              case hy86 => (intro w hSw; (try dsimp only at hSw); go_simp; try with_reducible rfl)
                              (try simp only [Act.put, List.setIfInBounds_toArray, List.set_cons_zero, List.set_cons_succ])
                              refine wpAnyH_ready (rs := [9]) (by kernel_rfl) (by simp) ?_
                              refine held_cons rfl (fun K hK => ?_) ?_
                              · go_simp
                                go_wp2_with (go_at_call 17; refine (HO2.out w6.drew TBw6.out.drew).mono ?_; rintro e v50 ⟨rfl, hb⟩)
                                have GEv50 := Lib.hid (blk_call GEw6.out.drew hb)
                                have TBv50 := Lib.hid (TBw6.out.drew.below hb)
                                have HBv50 := Lib.hid (bw_call (bw_drew HBw6.out) hb)
                                clear hb
                                refine hK.out _ _ ?_ (fun hHeld => ?_)
                                · exact ⟨(edge_facts GEv50.out).1, (edge_facts GEv50.out).2.1⟩
                                clear hK K
                                (try simp only [Act.put, List.setIfInBounds_toArray, List.set_cons_zero, List.set_cons_succ])
                                refine held_take (i := 11) (v := ?v87) rfl (by kernel_rfl) (by kernel_rfl) (by kernel_rfl) (fun _ _ _ h => h) (Or.inl ⟨by rfl, ?hy87⟩) (by assumption) ?rest87
                                case hy87 => (intro w hSw; (try dsimp only at hSw); go_simp; try with_reducible rfl)
                                (try simp only [Act.put, List.setIfInBounds_toArray, List.set_cons_zero, List.set_cons_succ])
                                refine held_take (i := 12) (v := ?v88) rfl (by kernel_rfl) (by kernel_rfl) (by kernel_rfl) (fun _ _ _ h => h) (Or.inl ⟨by rfl, ?hy88⟩) (by assumption) ?rest88
                                case hy88 => (intro w hSw; (try dsimp only at hSw); go_simp; try with_reducible rfl)
                                (try simp only [Act.put, List.setIfInBounds_toArray, List.set_cons_zero, List.set_cons_succ])
                                refine held_take (i := 13) (v := ?v89) rfl (by kernel_rfl) (by kernel_rfl) (by kernel_rfl) (fun _ _ _ h => h) (Or.inl ⟨by rfl, ?hy89⟩) (by assumption) ?rest89
                                case hy89 => (intro w hSw; (try dsimp only at hSw); go_simp; try with_reducible rfl)
                                (try simp only [Act.put, List.setIfInBounds_toArray, List.set_cons_zero, List.set_cons_succ])
                                refine held_take (i := 14) (v := ?v90) rfl (by kernel_rfl) (by kernel_rfl) (by kernel_rfl) (fun _ _ _ h => h) (Or.inl ⟨by rfl, ?hy90⟩) (by assumption) ?rest90
                                case hy90 => (intro w hSw; (try dsimp only at hSw); go_simp; try with_reducible rfl)
                                (try simp only [Act.put, List.setIfInBounds_toArray, List.set_cons_zero, List.set_cons_succ])
                                refine held_take (i := 15) (v := ?v91) rfl (by kernel_rfl) (by kernel_rfl) (by kernel_rfl) (fun _ _ _ h => h) (Or.inl ⟨by rfl, ?hy91⟩) (by assumption) ?rest91
                                case hy91 => (intro w hSw; (try dsimp only at hSw); go_simp; try with_reducible rfl)
                                (try simp only [Act.put, List.setIfInBounds_toArray, List.set_cons_zero, List.set_cons_succ])
                                refine held_take (i := 16) (v := ?v92) rfl (by kernel_rfl) (by kernel_rfl) (by kernel_rfl) (fun _ _ _ h => h) (Or.inl ⟨by rfl, ?hy92⟩) (by assumption) ?rest92
                                case hy92 => (intro w hSw; (try dsimp only at hSw); go_simp; try with_reducible rfl)
                                (try simp only [Act.put, List.setIfInBounds_toArray, List.set_cons_zero, List.set_cons_succ])
                                refine held_take (i := 17) (v := ?v93) rfl (by kernel_rfl) (by kernel_rfl) (by kernel_rfl) (fun _ _ _ h => h) (Or.inl ⟨by rfl, ?hy93⟩) (by assumption) ?rest93
                                case hy93 => (intro w hSw; (try dsimp only at hSw); go_simp; try with_reducible rfl)
                                (try simp only [Act.put, List.setIfInBounds_toArray, List.set_cons_zero, List.set_cons_succ])
                                refine held_take (i := 18) (v := ?v94) rfl (by kernel_rfl) (by kernel_rfl) (by kernel_rfl) (fun _ _ _ h => h) (Or.inl ⟨by rfl, ?hy94⟩) (by assumption) ?rest94
                                case hy94 => (intro w hSw; (try dsimp only at hSw); go_simp; try with_reducible rfl)
                                (try simp only [Act.put, List.setIfInBounds_toArray, List.set_cons_zero, List.set_cons_succ])
                                refine held_take (i := 19) (v := ?v95) rfl (by kernel_rfl) (by kernel_rfl) (by kernel_rfl) (fun _ _ _ h => h) (Or.inl ⟨by rfl, ?hy95⟩) (by assumption) ?rest95
                                case hy95 => (intro w hSw; (try dsimp only at hSw); go_simp; try with_reducible rfl)
                                (try simp only [Act.put, List.setIfInBounds_toArray, List.set_cons_zero, List.set_cons_succ])
                                refine held_take (i := 20) (v := ?v96) rfl (by kernel_rfl) (by kernel_rfl) (by kernel_rfl) (fun _ _ _ h => h) (Or.inl ⟨by rfl, ?hy96⟩) (by assumption) ?rest96
                                case hy96 => (intro w hSw; (try dsimp only at hSw); go_simp; try with_reducible rfl)
                                (try simp only [Act.put, List.setIfInBounds_toArray, List.set_cons_zero, List.set_cons_succ])
                                refine held_take (i := 21) (v := ?v97) rfl (by kernel_rfl) (by kernel_rfl) (by kernel_rfl) (fun _ _ _ h => h) (Or.inl ⟨by rfl, ?hy97⟩) (by assumption) ?rest97
                                case hy97 => (intro w hSw; (try dsimp only at hSw); go_simp; try with_reducible rfl)
                                (try simp only [Act.put, List.setIfInBounds_toArray, List.set_cons_zero, List.set_cons_succ])
                                refine held_take (i := 23) (v := ?v98) rfl (by kernel_rfl) (by kernel_rfl) (by kernel_rfl) (fun _ _ _ h => h) (Or.inl ⟨by rfl, ?hy98⟩) (by assumption) ?rest98
                                case hy98 => (intro w hSw; (try dsimp only at hSw); go_simp; try with_reducible rfl)
                                (try simp only [Act.put, List.setIfInBounds_toArray, List.set_cons_zero, List.set_cons_succ])
                                refine held_take (i := 24) (v := ?v99) rfl (by kernel_rfl) (by kernel_rfl) (by kernel_rfl) (fun _ _ _ h => h) (Or.inl ⟨by rfl, ?hy99⟩) (by assumption) ?rest99
                                case hy99 => (intro w hSw; (try dsimp only at hSw); go_simp; try with_reducible rfl)
                                (try simp only [Act.put, List.setIfInBounds_toArray, List.set_cons_zero, List.set_cons_succ])
                                refine held_take (i := 25) (v := ?v100) rfl (by kernel_rfl) (by kernel_rfl) (by kernel_rfl) (fun _ _ _ h => h) (Or.inl ⟨by rfl, ?hy100⟩) (by assumption) ?rest100
                                case hy100 => (intro w hSw; (try dsimp only at hSw); go_simp; try with_reducible rfl)
                                (try simp only [Act.put, List.setIfInBounds_toArray, List.set_cons_zero, List.set_cons_succ])
                                refine held_take (i := 26) (v := ?v101) rfl (by kernel_rfl) (by kernel_rfl) (by kernel_rfl) (fun _ _ _ h => h) (Or.inl ⟨by rfl, ?hy101⟩) (by assumption) ?rest101
                                case hy101 => (intro w hSw; (try dsimp only at hSw); go_simp; try with_reducible rfl)
                                (try simp only [Act.put, List.setIfInBounds_toArray, List.set_cons_zero, List.set_cons_succ])
                                refine held_take (i := 27) (v := ?v102) rfl (by kernel_rfl) (by kernel_rfl) (by kernel_rfl) (fun _ _ _ h => h) (Or.inl ⟨by rfl, ?hy102⟩) (by assumption) ?rest102
                                case hy102 => (intro w hSw; (try dsimp only at hSw); go_simp; try with_reducible rfl)
                                (try simp only [Act.put, List.setIfInBounds_toArray, List.set_cons_zero, List.set_cons_succ])
                                refine wpAnyH_ready (rs := [22]) (by kernel_rfl) (by simp) ?_
                                refine held_cons rfl (fun K hK => ?_) ?_
                                · go_simp
                                  go_wp2_with (go_at_call 18; refine (HE2.out v50 TBv50.out).mono ?_; rintro e v51 ⟨rfl, hb⟩)
                                  have GEv51 := Lib.hid (blk_call GEv50.out hb)
                                  have TBv51 := Lib.hid (TBv50.out.below hb)
                                  have HBv51 := Lib.hid (bw_call HBv50.out hb)
                                  clear hb
                                  refine hK.out _ _ ?_ (fun hHeld => ?_)
                                  · exact ⟨(edge_facts GEv51.out).1, (edge_facts GEv51.out).2.1⟩
                                  clear hK K
                                  (try simp only [Act.put, List.setIfInBounds_toArray, List.set_cons_zero, List.set_cons_succ])
                                  refine held_take (i := 28) (v := ?v103) rfl (by kernel_rfl) (by kernel_rfl) (by kernel_rfl) (fun _ _ _ h => h) (Or.inl ⟨by rfl, ?hy103⟩) (by assumption) ?rest103
                                  case hy103 => (intro w hSw; (try dsimp only at hSw); go_simp; try with_reducible rfl)
                                  (try simp only [Act.put, List.setIfInBounds_toArray, List.set_cons_zero, List.set_cons_succ])
                                  refine held_take (i := 29) (v := ?v104) rfl (by kernel_rfl) (by kernel_rfl) (by kernel_rfl) (fun _ _ _ h => h) (Or.inl ⟨by rfl, ?hy104⟩) (by assumption) ?rest104
                                  case hy104 => (intro w hSw; (try dsimp only at hSw); go_simp; try with_reducible rfl)
                                  (try simp only [Act.put, List.setIfInBounds_toArray, List.set_cons_zero, List.set_cons_succ])
                                  refine held_take (i := 30) (v := ?v105) rfl (by kernel_rfl) (by kernel_rfl) (by kernel_rfl) (fun _ _ _ h => h) (Or.inl ⟨by rfl, ?hy105⟩) (by assumption) ?rest105
                                  case hy105 => (intro w hSw; (try dsimp only at hSw); go_simp; try with_reducible rfl)
                                  (try simp only [Act.put, List.setIfInBounds_toArray, List.set_cons_zero, List.set_cons_succ])
                                  refine held_take (i := 31) (v := ?v106) rfl (by kernel_rfl) (by kernel_rfl) (by kernel_rfl) (fun _ _ _ h => h) (Or.inl ⟨by rfl, ?hy106⟩) (by assumption) ?rest106
                                  case hy106 => (intro w hSw; (try dsimp only at hSw); go_simp; try with_reducible rfl)
                                  (try simp only [Act.put, List.setIfInBounds_toArray, List.set_cons_zero, List.set_cons_succ])
                                  refine held_take (i := 32) (v := ?v107) rfl (by kernel_rfl) (by kernel_rfl) (by kernel_rfl) (fun _ _ _ h => h) (Or.inl ⟨by rfl, ?hy107⟩) (by assumption) ?rest107
                                  case hy107 => (intro w hSw; (try dsimp only at hSw); go_simp; try with_reducible rfl)
                                  (try simp only [Act.put, List.setIfInBounds_toArray, List.set_cons_zero, List.set_cons_succ])
                                  refine held_take (i := 34) (v := ?v108) rfl (by kernel_rfl) (by kernel_rfl) (by kernel_rfl) (fun _ _ _ h => h) (Or.inl ⟨by rfl, ?hy108⟩) (by assumption) ?rest108
                                  case hy108 => (intro w hSw; (try dsimp only at hSw); go_simp; try with_reducible rfl)
                                  (try simp only [Act.put, List.setIfInBounds_toArray, List.set_cons_zero, List.set_cons_succ])
                                  refine held_take (i := 35) (v := ?v109) rfl (by kernel_rfl) (by kernel_rfl) (by kernel_rfl) (fun _ _ _ h => h) (Or.inl ⟨by rfl, ?hy109⟩) (by assumption) ?rest109
                                  case hy109 => (intro w hSw; (try dsimp only at hSw); go_simp; try with_reducible rfl)
                                  (try simp only [Act.put, List.setIfInBounds_toArray, List.set_cons_zero, List.set_cons_succ])
                                  refine wpAnyH_ready (rs := [33]) (by kernel_rfl) (by simp) ?_
                                  refine held_cons rfl (fun K hK => ?_) ?_
                                  · go_simp
                                    go_wp2_with (go_at_call 14; refine (HV3.out v51 TBv51.out).mono ?_; rintro e v52 ⟨rfl, hb⟩)
                                    have GEv52 := Lib.hid (blk_call GEv51.out hb)
                                    have TBv52 := Lib.hid (TBv51.out.below hb)
                                    have HBv52 := Lib.hid (bw_call HBv51.out hb)
                                    clear hb
                                    refine hK.out _ _ ?_ (fun hHeld => ?_)
                                    · exact ⟨(edge_facts GEv52.out).1, (edge_facts GEv52.out).2.1⟩
                                    clear hK K
                                    (try simp only [Act.put, List.setIfInBounds_toArray, List.set_cons_zero, List.set_cons_succ])
                                    refine wpAnyH_ready (rs := [36]) (by kernel_rfl) (by simp) ?_
                                    refine held_cons rfl (fun K hK => ?_) ?_
                                    · go_simp
                                      go_wp2_with (go_at_call 14; refine (HV4.out v52 TBv52.out).mono ?_; rintro e v53 ⟨rfl, hb⟩)
                                      have GEv53 := Lib.hid (blk_call GEv52.out hb)
                                      have TBv53 := Lib.hid (TBv52.out.below hb)
                                      have HBv53 := Lib.hid (bw_call HBv52.out hb)
                                      clear hb
                                      refine hK.out _ _ ?_ (fun hHeld => ?_)
                                      · exact ⟨(edge_facts GEv53.out).1, (edge_facts GEv53.out).2.1⟩
                                      clear hK K
                                      (try simp only [Act.put, List.setIfInBounds_toArray, List.set_cons_zero, List.set_cons_succ])
                                      refine held_take (i := 37) (v := ?v110) rfl (by kernel_rfl) (by kernel_rfl) (by kernel_rfl) (fun _ _ _ h => h) (Or.inl ⟨by rfl, ?hy110⟩) (by assumption) ?rest110
                                      case hy110 => (intro w hSw; (try dsimp only at hSw); go_simp; try with_reducible rfl)
                                      (try simp only [Act.put, List.setIfInBounds_toArray, List.set_cons_zero, List.set_cons_succ])
                                      refine held_take (i := 38) (v := ?v111) rfl (by kernel_rfl) (by kernel_rfl) (by kernel_rfl) (fun _ _ _ h => h) (Or.inl ⟨by rfl, ?hy111⟩) (by assumption) ?rest111
                                      case hy111 => (intro w hSw; (try dsimp only at hSw); go_simp; try with_reducible rfl)
                                      (try simp only [Act.put, List.setIfInBounds_toArray, List.set_cons_zero, List.set_cons_succ])
                                      refine held_take (i := 39) (v := ?v112) rfl (by kernel_rfl) (by kernel_rfl) (by kernel_rfl) (fun _ _ _ h => h) (Or.inl ⟨by rfl, ?hy112⟩) (by assumption) ?rest112
                                      case hy112 => (intro w hSw; (try dsimp only at hSw); go_simp; try with_reducible rfl)
                                      (try simp only [Act.put, List.setIfInBounds_toArray, List.set_cons_zero, List.set_cons_succ])
                                      refine held_take (i := 40) (v := ?v113) rfl (by kernel_rfl) (by kernel_rfl) (by kernel_rfl) (fun _ _ _ h => h) (Or.inl ⟨by rfl, ?hy113⟩) (by assumption) ?rest113
                                      case hy113 => (intro w hSw; (try dsimp only at hSw); go_simp; try with_reducible rfl)
                                      (try simp only [Act.put, List.setIfInBounds_toArray, List.set_cons_zero, List.set_cons_succ])
                                      refine wpAnyH_done (by kernel_rfl) ?_ _
                                      go_wp2_with fail
                                      exact ⟨⟨k + 1, by omega, by go_num, TBv53, HBv53⟩, by simp [intOf]; omega⟩
                                    exact AllReadyH.nil
                                  exact AllReadyH.nil
                                exact AllReadyH.nil
                              exact AllReadyH.nil
                          exact AllReadyH.nil
                        exact AllReadyH.nil
                      exact AllReadyH.nil
                    exact AllReadyH.nil
                  exact AllReadyH.nil
                exact AllReadyH.nil
              exact AllReadyH.nil
            exact AllReadyH.nil
          exact AllReadyH.nil
        exact AllReadyH.nil
      · obtain rfl : k = 3 * T.length := by omega
        go_wp2_with fail
        go_ret
        exact ⟨rfl, HBk.out⟩
end Go.Proofs.Ytdmibpcpocacpaa
