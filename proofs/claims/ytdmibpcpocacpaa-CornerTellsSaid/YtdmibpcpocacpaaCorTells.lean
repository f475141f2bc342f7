/- CornerTells, walked. No condition. -/
import Derived.Test.YtdmibpcpocacpaaWake10
namespace Go.Proofs.Ytdmibpcpocacpaa
open Go.RowKit

set_option linter.unusedSimpArgs false
set_option linter.unusedVariables false
theorem facing_neg {m : Nat} {T : List Tri} (hok : ∀ t ∈ T, TriOk m t) : facingI T (-1, -1) = -1 := by
  unfold facingI facingF
  rw [leastF_no (fun i _ hi => by
    have h1 := cv_ok hok (c := nxc i) (nxc_lt (by omega))
    simp only [decide_eq_false_iff_not]
    intro h
    unfold ce at h
    injection h with h _
    omega)]
  rfl
attribute [local irreducible] Blk LRow World.alloc World.setCell World.cell? World.frozen? MapV
set_option maxRecDepth 100000 in
set_option maxHeartbeats 8000000 in
theorem tellsLaw_any (N : Int) (A : Option Addr) (n c : Nat) (T : List Tri) (x : Int) (w : World) (ht : TrisAt w w.heap.size A n T) :
    Calls Try.prog 3 #[.agg #[.int .i64 N, .slice A n c], .int .i64 x] w (BoolPost w true) := by
  obtain rfl : n = T.length := ht.len.symm
  have HT := Lib.hid ht
  clear ht
  obtain ⟨V, hV⟩ : ∃ V, V = (w.alloc (.cells #[.int .i64 N, .slice A T.length c] 24)) := ⟨_, rfl⟩
  have GA0 : Hid (Blk V w.heap.size 24 #[.int .i64 N, .slice A T.length c]) := by subst hV; exact Lib.hid (Blk.new _ _ _)
  have HB0 : Hid (Below w.heap.size w V) := by subst hV; exact Lib.hid (bw_alloc (Below.refl _ _) _)
  go_enter Try.func3, Try.ntmps3
  go_upto_region 1 with (fail)
  rw [← hV]
  clear hV
  obtain ⟨ga, hga⟩ : ∃ g, g = w.heap.size := ⟨_, rfl⟩
  rw [← hga] at GA0
  simp only [← hga]
  clear hga
  go_wp2_with fail
  refine (awake_any _).mono ?_
  rintro e w1 ⟨rfl, hb⟩
  have GA1 := Lib.hid (blk_call GA0.out hb)
  have HB1 := Lib.hid (bw_call HB0.out hb)
  clear hb HB0 GA0
  obtain ⟨s0, s1, _, _, _⟩ := soup_facts GA1.out
  go_wp2_with fail
  refine (laid_any N A T.length c T w1 ((HT.out.below HB1.out).more HB1.out.size)).mono ?_
  rintro e w3 (⟨hbg, rfl, hb⟩ | ⟨hbg, hx, rfl, hb⟩ | ⟨hbg, hx, g, rfl, htab, hb⟩)
  · have HB3 := Lib.hid (bw_call HB1.out hb)
    clear hb s0 s1 hbg
    go_wp2_with fail
    go_ret
    exact ⟨rfl, HB3.out⟩
  · have HB3 := Lib.hid (bw_call HB1.out hb)
    clear hb s0 s1 hbg hx
    go_wp2_with fail
    go_ret
    exact ⟨rfl, HB3.out⟩
  · have HBw3 := Lib.hid (bw_call HB1.out hb)
    have GAw3 := Lib.hid (blk_call GA1.out hb)
    have hT8 : T.length ≤ 8192 := by unfold bigS at hbg; omega
    have hT40 : T.length ≤ 40 := by unfold bigS at hbg; omega
    obtain ⟨m, hs⟩ := surf_of (checkR_zero (by rw [hx])).1
    obtain rfl : N = (m : Int) := hs.n
    have TBw3 : Hid (TabAt w3 0 g (m : Int) T) := Lib.hid (htab.base (Nat.zero_le _))
    have hm1 := hs.m1
    have HS := Lib.hid hs
    clear hb htab hx hs hbg s0 s1 HB1 GA1
    obtain ⟨s0, s1, _, _, _⟩ := soup_facts GAw3.out
    go_wp2_with fail
    refine (refIs_any m A c T x w3 hT8).mono ?_
    rintro e w4 ⟨rfl, hb⟩
    have GAw4 := Lib.hid (blk_call GAw3.out hb)
    have TBw4 := Lib.hid (TBw3.out.below hb)
    have HBw4 := Lib.hid (bw_call HBw3.out hb)
    clear hb GAw3 TBw3 HBw3 s0 s1
    by_cases hc : isC T.length x
    · rw [decide_eq_true hc]
      obtain ⟨k, rfl⟩ := Int.eq_ofNat_of_zero_le hc.1
      have hk : k < 3 * T.length := by have := hc.2; omega
      have hk1 : k < 100000 := by omega
      have o1 := cv_ok HS.out.ok (nxc_lt hk)
      have o2 := cv_ok HS.out.ok (pvc_lt hk)
      have HWF : Hid (wfE ((ce T k).2, (ce T k).1)) := Lib.hid ⟨wf_small (show -1 ≤ cv T (pvc k) by omega) (show cv T (pvc k) < 100000 by omega), wf_small (show -1 ≤ cv T (nxc k) by omega) (show cv T (nxc k) < 100000 by omega)⟩
      have q1 := vertexI_nat hk
      have q2 := nextI_nat hk
      have q3 := prevI_nat hk
      have q5 := edgeI_nat hk
      have q4 : oppI T (k : Int) = facingI T ((ce T k).2, (ce T k).1) := by unfold oppI; rw [q5]
      have HW2 : Hid (wfE ((edgeI T (k : Int)).2, (edgeI T (k : Int)).1)) := Lib.hid (q5 ▸ HWF.out)
      have HC1 : Hid (∀ (W : World), TabAt W 0 g (m : Int) T → Calls Try.prog 14 #[.pointer (some ⟨g, 0, none⟩), .int .i64 (k : Int)] W (IntPost W (cv T k))) := Lib.hid fun W h => q1 ▸ (vertex_any g 0 m T k W hT8 h.s).mono fun e w' h => int_of_is h
      have HC2 : Hid (∀ (W : World), TabAt W 0 g (m : Int) T → Calls Try.prog 15 #[.pointer (some ⟨g, 0, none⟩), .int .i64 (k : Int)] W (IntPost W (nxc k : Int))) := Lib.hid fun W h => q2 ▸ (next_any g 0 m T k W hT8 h.s).mono fun e w' h => int_of_is h
      have HC3 : Hid (∀ (W : World), TabAt W 0 g (m : Int) T → Calls Try.prog 16 #[.pointer (some ⟨g, 0, none⟩), .int .i64 (k : Int)] W (IntPost W (pvc k : Int))) := Lib.hid fun W h => q3 ▸ (prev_any g 0 m T k W hT8 h.s).mono fun e w' h => int_of_is h
      have HC4 : Hid (∀ (W : World), TabAt W 0 g (m : Int) T → Calls Try.prog 17 #[.pointer (some ⟨g, 0, none⟩), .int .i64 (k : Int)] W (IntPost W (facingI T ((ce T k).2, (ce T k).1)))) := Lib.hid fun W h => q4 ▸ opp_any g 0 m T k W hT8 HW2.out h
      have HC5 : Hid (∀ (W : World), TabAt W 0 g (m : Int) T → Calls Try.prog 18 #[.pointer (some ⟨g, 0, none⟩), .int .i64 (k : Int)] W (EdPost W (ce T k))) := Lib.hid fun W h => q5 ▸ edge_any g 0 m T k W hT8 h.s
      have HD1 : Hid (∀ (W : World), Below w.heap.size w W → Calls Try.prog 19 #[.agg #[.int .i64 (m : Int), .slice A T.length c], .int .i64 (k : Int)] W (IntPost W (cv T k))) := Lib.hid fun W h => refVertex_any m A c T k W hT8 hk ((HT.out.below h).more h.size)
      have HD2 : Hid (∀ (W : World), Calls Try.prog 20 #[.int .i64 (k : Int)] W (IntPost W (nxc k : Int))) := Lib.hid fun W => (refNext_any k W hk1).mono fun e w' h => int_of_is h
      have HD3 : Hid (∀ (W : World), Calls Try.prog 21 #[.int .i64 (k : Int)] W (IntPost W (pvc k : Int))) := Lib.hid fun W => (refPrev_any k W hk1).mono fun e w' h => int_of_is h
      have HD4 : Hid (∀ (W : World), Below w.heap.size w W → Calls Try.prog 22 #[.agg #[.int .i64 (m : Int), .slice A T.length c], .int .i64 (k : Int)] W (IntPost W (facingI T ((ce T k).2, (ce T k).1)))) := Lib.hid fun W h => refOpp_any m A c T k W hT8 hk ((HT.out.below h).more h.size)
      have HD5 : Hid (∀ (W : World), Below w.heap.size w W → Calls Try.prog 23 #[.agg #[.int .i64 (m : Int), .slice A T.length c], .int .i64 (k : Int)] W (EdPost W (ce T k))) := Lib.hid fun W h => refEdge_any m A c T k W hT8 hk ((HT.out.below h).more h.size)
      clear q1 q2 q3 q4 q5 hc o1 o2
      generalize cv T k = r1 at *
      generalize facingI T ((ce T k).2, (ce T k).1) = r4 at *
      generalize nxc k = r2 at *
      generalize pvc k = r3 at *
      generalize ce T k = E at HC5 HD5
      obtain ⟨ea, eb⟩ := E
      have hed := run_eq_ed ea eb ea eb
      simp only [decide_true] at hed
      go_upto_region 8 with (fail)
      refine wp_region_till (S := fun w' => w'.cell? ⟨ga, 0, none⟩ = some (.int .i64 (m : Int)) ∧ w'.cell? ⟨ga, 1, none⟩ = some (.slice A T.length c)) 41 (by kernel_rfl) ⟨(soup_facts GAw4.out.drew).1, (soup_facts GAw4.out.drew).2.1⟩ (fun hHeld => ?_)
      refine Till.take (i := 0) (v := ?vt13) rfl (by kernel_rfl) (by kernel_rfl) (by kernel_rfl) (by kernel_rfl) (fun _ _ _ h => h) (Or.inl ⟨by rfl, ?ht13⟩) (by assumption) ?restt13
      case ht13 => (intro w hSw; (try dsimp only at hSw); go_simp; try with_reducible rfl)
      (try simp only [Act.put, List.setIfInBounds_toArray, List.set_cons_zero, List.set_cons_succ])
      refine Till.take (i := 1) (v := ?vt14) rfl (by kernel_rfl) (by kernel_rfl) (by kernel_rfl) (by kernel_rfl) (fun _ _ _ h => h) (Or.inl ⟨by rfl, ?ht14⟩) (by assumption) ?restt14
      case ht14 => (intro w hSw; (try dsimp only at hSw); go_simp; try with_reducible rfl)
      (try simp only [Act.put, List.setIfInBounds_toArray, List.set_cons_zero, List.set_cons_succ])
      refine Till.take (i := 3) (v := ?vt15) rfl (by kernel_rfl) (by kernel_rfl) (by kernel_rfl) (by kernel_rfl) (fun _ _ _ h => h) (Or.inl ⟨by rfl, ?ht15⟩) (by assumption) ?restt15
      case ht15 => (intro w hSw; (try dsimp only at hSw); go_simp; try with_reducible rfl)
      (try simp only [Act.put, List.setIfInBounds_toArray, List.set_cons_zero, List.set_cons_succ])
      refine Till.take (i := 4) (v := ?vt16) rfl (by kernel_rfl) (by kernel_rfl) (by kernel_rfl) (by kernel_rfl) (fun _ _ _ h => h) (Or.inl ⟨by rfl, ?ht16⟩) (by assumption) ?restt16
      case ht16 => (intro w hSw; (try dsimp only at hSw); go_simp; try with_reducible rfl)
      (try simp only [Act.put, List.setIfInBounds_toArray, List.set_cons_zero, List.set_cons_succ])
      refine Till.ready (rs := [2]) (by kernel_rfl) (by simp) ?_
      refine TillEach.cons rfl (fun K hK => ?_) ?_
      · go_simp
        go_wp2_with (go_at_call 14; refine (HC1.out w4.drew TBw4.out.drew).mono ?_; rintro e v10 ⟨rfl, hb⟩)
        have GAv10 := Lib.hid (blk_call GAw4.out.drew hb)
        have TBv10 := Lib.hid (TBw4.out.drew.below hb)
        have HBv10 := Lib.hid (bw_call (bw_drew HBw4.out) hb)
        clear hb
        refine hK.out _ _ ?_ (fun hHeld => ?_)
        · exact ⟨(soup_facts GAv10.out).1, (soup_facts GAv10.out).2.1⟩
        clear hK K
        (try simp only [Act.put, List.setIfInBounds_toArray, List.set_cons_zero, List.set_cons_succ])
        refine Till.ready (rs := [5]) (by kernel_rfl) (by simp) ?_
        refine TillEach.cons rfl (fun K hK => ?_) ?_
        · go_simp
          go_wp2_with (go_at_call 19; refine (HD1.out v10 HBv10.out).mono ?_; rintro e v11 ⟨rfl, hb⟩)
          have GAv11 := Lib.hid (blk_call GAv10.out hb)
          have TBv11 := Lib.hid (TBv10.out.below hb)
          have HBv11 := Lib.hid (bw_call HBv10.out hb)
          clear hb
          refine hK.out _ _ ?_ (fun hHeld => ?_)
          · exact ⟨(soup_facts GAv11.out).1, (soup_facts GAv11.out).2.1⟩
          clear hK K
          (try simp only [Act.put, List.setIfInBounds_toArray, List.set_cons_zero, List.set_cons_succ])
          refine Till.take (i := 6) (v := ?vt17) rfl (by kernel_rfl) (by kernel_rfl) (by kernel_rfl) (by kernel_rfl) (fun _ _ _ h => h) (Or.inl ⟨by rfl, ?ht17⟩) (by assumption) ?restt17
          case ht17 => (intro w hSw; (try dsimp only at hSw); go_simp; try with_reducible rfl)
          (try simp only [Act.put, List.setIfInBounds_toArray, List.set_cons_zero, List.set_cons_succ])
          refine Till.take (i := 7) (v := ?vt18) rfl (by kernel_rfl) (by kernel_rfl) (by kernel_rfl) (by kernel_rfl) (fun _ _ _ h => h) (Or.inl ⟨by rfl, ?ht18⟩) (by assumption) ?restt18
          case ht18 => (intro w hSw; (try dsimp only at hSw); go_simp; try with_reducible rfl)
          (try simp only [Act.put, List.setIfInBounds_toArray, List.set_cons_zero, List.set_cons_succ])
          refine Till.take (i := 8) (v := ?vt19) rfl (by kernel_rfl) (by kernel_rfl) (by kernel_rfl) (by kernel_rfl) (fun _ _ _ h => h) (Or.inl ⟨by rfl, ?ht19⟩) (by assumption) ?restt19
          case ht19 => (intro w hSw; (try dsimp only at hSw); go_simp; try with_reducible rfl)
          (try simp only [Act.put, List.setIfInBounds_toArray, List.set_cons_zero, List.set_cons_succ])
          refine Till.take (i := 9) (v := ?vt20) rfl (by kernel_rfl) (by kernel_rfl) (by kernel_rfl) (by kernel_rfl) (fun _ _ _ h => h) (Or.inl ⟨by rfl, ?ht20⟩) (by assumption) ?restt20
          case ht20 => (intro w hSw; (try dsimp only at hSw); go_simp; try with_reducible rfl)
          (try simp only [Act.put, List.setIfInBounds_toArray, List.set_cons_zero, List.set_cons_succ])
          refine Till.take (i := 11) (v := ?vt21) rfl (by kernel_rfl) (by kernel_rfl) (by kernel_rfl) (by kernel_rfl) (fun _ _ _ h => h) (Or.inl ⟨by rfl, ?ht21⟩) (by assumption) ?restt21
          case ht21 => (intro w hSw; (try dsimp only at hSw); go_simp; try with_reducible rfl)
          (try simp only [Act.put, List.setIfInBounds_toArray, List.set_cons_zero, List.set_cons_succ])
          refine Till.ready (rs := [10]) (by kernel_rfl) (by simp) ?_
          refine TillEach.cons rfl (fun K hK => ?_) ?_
          · go_simp
            go_wp2_with (go_at_call 15; refine (HC2.out v11 TBv11.out).mono ?_; rintro e v12 ⟨rfl, hb⟩)
            have GAv12 := Lib.hid (blk_call GAv11.out hb)
            have TBv12 := Lib.hid (TBv11.out.below hb)
            have HBv12 := Lib.hid (bw_call HBv11.out hb)
            clear hb
            refine hK.out _ _ ?_ (fun hHeld => ?_)
            · exact ⟨(soup_facts GAv12.out).1, (soup_facts GAv12.out).2.1⟩
            clear hK K
            (try simp only [Act.put, List.setIfInBounds_toArray, List.set_cons_zero, List.set_cons_succ])
            refine Till.ready (rs := [12]) (by kernel_rfl) (by simp) ?_
            refine TillEach.cons rfl (fun K hK => ?_) ?_
            · go_simp
              go_wp2_with (go_at_call 20; refine (HD2.out v12).mono ?_; rintro e v13 ⟨rfl, hb⟩)
              have GAv13 := Lib.hid (blk_call GAv12.out hb)
              have TBv13 := Lib.hid (TBv12.out.below hb)
              have HBv13 := Lib.hid (bw_call HBv12.out hb)
              clear hb
              refine hK.out _ _ ?_ (fun hHeld => ?_)
              · exact ⟨(soup_facts GAv13.out).1, (soup_facts GAv13.out).2.1⟩
              clear hK K
              (try simp only [Act.put, List.setIfInBounds_toArray, List.set_cons_zero, List.set_cons_succ])
              refine Till.take (i := 13) (v := ?vt22) rfl (by kernel_rfl) (by kernel_rfl) (by kernel_rfl) (by kernel_rfl) (fun _ _ _ h => h) (Or.inl ⟨by rfl, ?ht22⟩) (by assumption) ?restt22
              case ht22 => (intro w hSw; (try dsimp only at hSw); go_simp; try with_reducible rfl)
              (try simp only [Act.put, List.setIfInBounds_toArray, List.set_cons_zero, List.set_cons_succ])
              refine Till.take (i := 14) (v := ?vt23) rfl (by kernel_rfl) (by kernel_rfl) (by kernel_rfl) (by kernel_rfl) (fun _ _ _ h => h) (Or.inl ⟨by rfl, ?ht23⟩) (by assumption) ?restt23
              case ht23 => (intro w hSw; (try dsimp only at hSw); go_simp; try with_reducible rfl)
              (try simp only [Act.put, List.setIfInBounds_toArray, List.set_cons_zero, List.set_cons_succ])
              refine Till.take (i := 15) (v := ?vt24) rfl (by kernel_rfl) (by kernel_rfl) (by kernel_rfl) (by kernel_rfl) (fun _ _ _ h => h) (Or.inl ⟨by rfl, ?ht24⟩) (by assumption) ?restt24
              case ht24 => (intro w hSw; (try dsimp only at hSw); go_simp; try with_reducible rfl)
              (try simp only [Act.put, List.setIfInBounds_toArray, List.set_cons_zero, List.set_cons_succ])
              refine Till.take (i := 16) (v := ?vt25) rfl (by kernel_rfl) (by kernel_rfl) (by kernel_rfl) (by kernel_rfl) (fun _ _ _ h => h) (Or.inl ⟨by rfl, ?ht25⟩) (by assumption) ?restt25
              case ht25 => (intro w hSw; (try dsimp only at hSw); go_simp; try with_reducible rfl)
              (try simp only [Act.put, List.setIfInBounds_toArray, List.set_cons_zero, List.set_cons_succ])
              refine Till.take (i := 17) (v := ?vt26) rfl (by kernel_rfl) (by kernel_rfl) (by kernel_rfl) (by kernel_rfl) (fun _ _ _ h => h) (Or.inl ⟨by rfl, ?ht26⟩) (by assumption) ?restt26
              case ht26 => (intro w hSw; (try dsimp only at hSw); go_simp; try with_reducible rfl)
              (try simp only [Act.put, List.setIfInBounds_toArray, List.set_cons_zero, List.set_cons_succ])
              refine Till.take (i := 19) (v := ?vt27) rfl (by kernel_rfl) (by kernel_rfl) (by kernel_rfl) (by kernel_rfl) (fun _ _ _ h => h) (Or.inl ⟨by rfl, ?ht27⟩) (by assumption) ?restt27
              case ht27 => (intro w hSw; (try dsimp only at hSw); go_simp; try with_reducible rfl)
              (try simp only [Act.put, List.setIfInBounds_toArray, List.set_cons_zero, List.set_cons_succ])
              refine Till.ready (rs := [18]) (by kernel_rfl) (by simp) ?_
              refine TillEach.cons rfl (fun K hK => ?_) ?_
              · go_simp
                go_wp2_with (go_at_call 16; refine (HC3.out v13 TBv13.out).mono ?_; rintro e v14 ⟨rfl, hb⟩)
                have GAv14 := Lib.hid (blk_call GAv13.out hb)
                have TBv14 := Lib.hid (TBv13.out.below hb)
                have HBv14 := Lib.hid (bw_call HBv13.out hb)
                clear hb
                refine hK.out _ _ ?_ (fun hHeld => ?_)
                · exact ⟨(soup_facts GAv14.out).1, (soup_facts GAv14.out).2.1⟩
                clear hK K
                (try simp only [Act.put, List.setIfInBounds_toArray, List.set_cons_zero, List.set_cons_succ])
                refine Till.ready (rs := [20]) (by kernel_rfl) (by simp) ?_
                refine TillEach.cons rfl (fun K hK => ?_) ?_
                · go_simp
                  go_wp2_with (go_at_call 21; refine (HD3.out v14).mono ?_; rintro e v15 ⟨rfl, hb⟩)
                  have GAv15 := Lib.hid (blk_call GAv14.out hb)
                  have TBv15 := Lib.hid (TBv14.out.below hb)
                  have HBv15 := Lib.hid (bw_call HBv14.out hb)
                  clear hb
                  refine hK.out _ _ ?_ (fun hHeld => ?_)
                  · exact ⟨(soup_facts GAv15.out).1, (soup_facts GAv15.out).2.1⟩
                  clear hK K
                  (try simp only [Act.put, List.setIfInBounds_toArray, List.set_cons_zero, List.set_cons_succ])
                  refine Till.take (i := 21) (v := ?vt28) rfl (by kernel_rfl) (by kernel_rfl) (by kernel_rfl) (by kernel_rfl) (fun _ _ _ h => h) (Or.inl ⟨by rfl, ?ht28⟩) (by assumption) ?restt28
                  case ht28 => (intro w hSw; (try dsimp only at hSw); go_simp; try with_reducible rfl)
                  (try simp only [Act.put, List.setIfInBounds_toArray, List.set_cons_zero, List.set_cons_succ])
                  refine Till.take (i := 22) (v := ?vt29) rfl (by kernel_rfl) (by kernel_rfl) (by kernel_rfl) (by kernel_rfl) (fun _ _ _ h => h) (Or.inl ⟨by rfl, ?ht29⟩) (by assumption) ?restt29
                  case ht29 => (intro w hSw; (try dsimp only at hSw); go_simp; try with_reducible rfl)
                  (try simp only [Act.put, List.setIfInBounds_toArray, List.set_cons_zero, List.set_cons_succ])
                  refine Till.take (i := 23) (v := ?vt30) rfl (by kernel_rfl) (by kernel_rfl) (by kernel_rfl) (by kernel_rfl) (fun _ _ _ h => h) (Or.inl ⟨by rfl, ?ht30⟩) (by assumption) ?restt30
                  case ht30 => (intro w hSw; (try dsimp only at hSw); go_simp; try with_reducible rfl)
                  (try simp only [Act.put, List.setIfInBounds_toArray, List.set_cons_zero, List.set_cons_succ])
                  refine Till.take (i := 24) (v := ?vt31) rfl (by kernel_rfl) (by kernel_rfl) (by kernel_rfl) (by kernel_rfl) (fun _ _ _ h => h) (Or.inl ⟨by rfl, ?ht31⟩) (by assumption) ?restt31
                  case ht31 => (intro w hSw; (try dsimp only at hSw); go_simp; try with_reducible rfl)
                  (try simp only [Act.put, List.setIfInBounds_toArray, List.set_cons_zero, List.set_cons_succ])
                  refine Till.take (i := 25) (v := ?vt32) rfl (by kernel_rfl) (by kernel_rfl) (by kernel_rfl) (by kernel_rfl) (fun _ _ _ h => h) (Or.inl ⟨by rfl, ?ht32⟩) (by assumption) ?restt32
                  case ht32 => (intro w hSw; (try dsimp only at hSw); go_simp; try with_reducible rfl)
                  (try simp only [Act.put, List.setIfInBounds_toArray, List.set_cons_zero, List.set_cons_succ])
                  refine Till.take (i := 27) (v := ?vt33) rfl (by kernel_rfl) (by kernel_rfl) (by kernel_rfl) (by kernel_rfl) (fun _ _ _ h => h) (Or.inl ⟨by rfl, ?ht33⟩) (by assumption) ?restt33
                  case ht33 => (intro w hSw; (try dsimp only at hSw); go_simp; try with_reducible rfl)
                  (try simp only [Act.put, List.setIfInBounds_toArray, List.set_cons_zero, List.set_cons_succ])
                  refine Till.take (i := 28) (v := ?vt34) rfl (by kernel_rfl) (by kernel_rfl) (by kernel_rfl) (by kernel_rfl) (fun _ _ _ h => h) (Or.inl ⟨by rfl, ?ht34⟩) (by assumption) ?restt34
                  case ht34 => (intro w hSw; (try dsimp only at hSw); go_simp; try with_reducible rfl)
                  (try simp only [Act.put, List.setIfInBounds_toArray, List.set_cons_zero, List.set_cons_succ])
                  refine Till.ready (rs := [26]) (by kernel_rfl) (by simp) ?_
                  refine TillEach.cons rfl (fun K hK => ?_) ?_
                  · go_simp
                    go_wp2_with (go_at_call 17; refine (HC4.out v15 TBv15.out).mono ?_; rintro e v16 ⟨rfl, hb⟩)
                    have GAv16 := Lib.hid (blk_call GAv15.out hb)
                    have TBv16 := Lib.hid (TBv15.out.below hb)
                    have HBv16 := Lib.hid (bw_call HBv15.out hb)
                    clear hb
                    refine hK.out _ _ ?_ (fun hHeld => ?_)
                    · exact ⟨(soup_facts GAv16.out).1, (soup_facts GAv16.out).2.1⟩
                    clear hK K
                    (try simp only [Act.put, List.setIfInBounds_toArray, List.set_cons_zero, List.set_cons_succ])
                    refine Till.ready (rs := [29]) (by kernel_rfl) (by simp) ?_
                    refine TillEach.cons rfl (fun K hK => ?_) ?_
                    · go_simp
                      go_wp2_with (go_at_call 22; refine (HD4.out v16 HBv16.out).mono ?_; rintro e v17 ⟨rfl, hb⟩)
                      have GAv17 := Lib.hid (blk_call GAv16.out hb)
                      have TBv17 := Lib.hid (TBv16.out.below hb)
                      have HBv17 := Lib.hid (bw_call HBv16.out hb)
                      clear hb
                      refine hK.out _ _ ?_ (fun hHeld => ?_)
                      · exact ⟨(soup_facts GAv17.out).1, (soup_facts GAv17.out).2.1⟩
                      clear hK K
                      (try simp only [Act.put, List.setIfInBounds_toArray, List.set_cons_zero, List.set_cons_succ])
                      refine Till.take (i := 30) (v := ?vt35) rfl (by kernel_rfl) (by kernel_rfl) (by kernel_rfl) (by kernel_rfl) (fun _ _ _ h => h) (Or.inl ⟨by rfl, ?ht35⟩) (by assumption) ?restt35
                      case ht35 => (intro w hSw; (try dsimp only at hSw); go_simp; try with_reducible rfl)
                      (try simp only [Act.put, List.setIfInBounds_toArray, List.set_cons_zero, List.set_cons_succ])
                      refine Till.take (i := 31) (v := ?vt36) rfl (by kernel_rfl) (by kernel_rfl) (by kernel_rfl) (by kernel_rfl) (fun _ _ _ h => h) (Or.inl ⟨by rfl, ?ht36⟩) (by assumption) ?restt36
                      case ht36 => (intro w hSw; (try dsimp only at hSw); go_simp; try with_reducible rfl)
                      (try simp only [Act.put, List.setIfInBounds_toArray, List.set_cons_zero, List.set_cons_succ])
                      refine Till.take (i := 32) (v := ?vt37) rfl (by kernel_rfl) (by kernel_rfl) (by kernel_rfl) (by kernel_rfl) (fun _ _ _ h => h) (Or.inl ⟨by rfl, ?ht37⟩) (by assumption) ?restt37
                      case ht37 => (intro w hSw; (try dsimp only at hSw); go_simp; try with_reducible rfl)
                      (try simp only [Act.put, List.setIfInBounds_toArray, List.set_cons_zero, List.set_cons_succ])
                      refine Till.take (i := 33) (v := ?vt38) rfl (by kernel_rfl) (by kernel_rfl) (by kernel_rfl) (by kernel_rfl) (fun _ _ _ h => h) (Or.inl ⟨by rfl, ?ht38⟩) (by assumption) ?restt38
                      case ht38 => (intro w hSw; (try dsimp only at hSw); go_simp; try with_reducible rfl)
                      (try simp only [Act.put, List.setIfInBounds_toArray, List.set_cons_zero, List.set_cons_succ])
                      refine Till.take (i := 34) (v := ?vt39) rfl (by kernel_rfl) (by kernel_rfl) (by kernel_rfl) (by kernel_rfl) (fun _ _ _ h => h) (Or.inl ⟨by rfl, ?ht39⟩) (by assumption) ?restt39
                      case ht39 => (intro w hSw; (try dsimp only at hSw); go_simp; try with_reducible rfl)
                      (try simp only [Act.put, List.setIfInBounds_toArray, List.set_cons_zero, List.set_cons_succ])
                      refine Till.take (i := 36) (v := ?vt40) rfl (by kernel_rfl) (by kernel_rfl) (by kernel_rfl) (by kernel_rfl) (fun _ _ _ h => h) (Or.inl ⟨by rfl, ?ht40⟩) (by assumption) ?restt40
                      case ht40 => (intro w hSw; (try dsimp only at hSw); go_simp; try with_reducible rfl)
                      (try simp only [Act.put, List.setIfInBounds_toArray, List.set_cons_zero, List.set_cons_succ])
                      refine Till.take (i := 37) (v := ?vt41) rfl (by kernel_rfl) (by kernel_rfl) (by kernel_rfl) (by kernel_rfl) (fun _ _ _ h => h) (Or.inl ⟨by rfl, ?ht41⟩) (by assumption) ?restt41
                      case ht41 => (intro w hSw; (try dsimp only at hSw); go_simp; try with_reducible rfl)
                      (try simp only [Act.put, List.setIfInBounds_toArray, List.set_cons_zero, List.set_cons_succ])
                      refine Till.ready (rs := [35]) (by kernel_rfl) (by simp) ?_
                      refine TillEach.cons rfl (fun K hK => ?_) ?_
                      · go_simp
                        go_wp2_with (go_at_call 18; refine (HC5.out v17 TBv17.out).mono ?_; rintro e v18 ⟨rfl, hb⟩)
                        have GAv18 := Lib.hid (blk_call GAv17.out hb)
                        have TBv18 := Lib.hid (TBv17.out.below hb)
                        have HBv18 := Lib.hid (bw_call HBv17.out hb)
                        clear hb
                        refine hK.out _ _ ?_ (fun hHeld => ?_)
                        · exact ⟨(soup_facts GAv18.out).1, (soup_facts GAv18.out).2.1⟩
                        clear hK K
                        (try simp only [Act.put, List.setIfInBounds_toArray, List.set_cons_zero, List.set_cons_succ])
                        refine Till.ready (rs := [38]) (by kernel_rfl) (by simp) ?_
                        refine TillEach.cons rfl (fun K hK => ?_) ?_
                        · go_simp
                          go_wp2_with (go_at_call 23; refine (HD5.out v18 HBv18.out).mono ?_; rintro e v19 ⟨rfl, hb⟩)
                          have GAv19 := Lib.hid (blk_call GAv18.out hb)
                          have TBv19 := Lib.hid (TBv18.out.below hb)
                          have HBv19 := Lib.hid (bw_call HBv18.out hb)
                          clear hb
                          refine hK.out _ _ ?_ (fun hHeld => ?_)
                          · exact ⟨(soup_facts GAv19.out).1, (soup_facts GAv19.out).2.1⟩
                          clear hK K
                          (try simp only [Act.put, List.setIfInBounds_toArray, List.set_cons_zero, List.set_cons_succ])
                          refine Till.take (i := 39) (v := ?vt42) rfl (by kernel_rfl) (by kernel_rfl) (by kernel_rfl) (by kernel_rfl) (fun _ _ _ h => h) (Or.inl ⟨by rfl, ?ht42⟩) (by assumption) ?restt42
                          case ht42 => (intro w hSw; (try dsimp only at hSw); go_simp; try with_reducible rfl)
                          (try simp only [Act.put, List.setIfInBounds_toArray, List.set_cons_zero, List.set_cons_succ])
                          refine Till.take (i := 40) (v := ?vt43) rfl (by kernel_rfl) (by kernel_rfl) (by kernel_rfl) (by kernel_rfl) (fun _ _ _ h => h) (Or.inl ⟨by rfl, ?ht43⟩) (by assumption) ?restt43
                          case ht43 => (intro w hSw; (try dsimp only at hSw); go_simp; try with_reducible rfl)
                          (try simp only [Act.put, List.setIfInBounds_toArray, List.set_cons_zero, List.set_cons_succ])
                          refine Till.ready (rs := [41]) (by kernel_rfl) (by simp) ?_
                          refine TillEach.last rfl (fun K hK => ?_)
                          · go_simp
                            refine hK.out _ _ ?_
                            clear hK K
                            (try simp only [Act.put, List.setIfInBounds_toArray, List.set_cons_zero, List.set_cons_succ])
                            refine Till.done (by kernel_rfl) ?_ _
                            go_wp2_with fail
                            go_ret
                            exact ⟨rfl, HBv19.out⟩
                        exact TillEach.nil
                      exact TillEach.nil
                    exact TillEach.nil
                  exact TillEach.nil
                exact TillEach.nil
              exact TillEach.nil
            exact TillEach.nil
          exact TillEach.nil
        exact TillEach.nil
      exact TillEach.nil
    · rw [decide_eq_false hc]
      have q1 : vertexI T x = -1 := by unfold vertexI; rw [if_neg hc]
      have q2 : nextI T.length x = -1 := by unfold nextI; rw [if_neg hc]
      have q3 : prevI T.length x = -1 := by unfold prevI; rw [if_neg hc]
      have q5 := edgeI_not hc
      have q4 : oppI T x = -1 := by unfold oppI; rw [q5]; exact facing_neg HS.out.ok
      have HW2 : Hid (wfE ((edgeI T x).2, (edgeI T x).1)) := Lib.hid (by rw [q5]; exact ⟨wf_small (by decide) (by decide), wf_small (by decide) (by decide)⟩)
      have HC1 : Hid (∀ (W : World), TabAt W 0 g (m : Int) T → Calls Try.prog 14 #[.pointer (some ⟨g, 0, none⟩), .int .i64 x] W (IntPost W (-1))) := Lib.hid fun W h => q1 ▸ (vertex_any g 0 m T x W hT8 h.s).mono fun e w' h => int_of_is h
      have HC2 : Hid (∀ (W : World), TabAt W 0 g (m : Int) T → Calls Try.prog 15 #[.pointer (some ⟨g, 0, none⟩), .int .i64 x] W (IntPost W (-1))) := Lib.hid fun W h => q2 ▸ (next_any g 0 m T x W hT8 h.s).mono fun e w' h => int_of_is h
      have HC3 : Hid (∀ (W : World), TabAt W 0 g (m : Int) T → Calls Try.prog 16 #[.pointer (some ⟨g, 0, none⟩), .int .i64 x] W (IntPost W (-1))) := Lib.hid fun W h => q3 ▸ (prev_any g 0 m T x W hT8 h.s).mono fun e w' h => int_of_is h
      have HC4 : Hid (∀ (W : World), TabAt W 0 g (m : Int) T → Calls Try.prog 17 #[.pointer (some ⟨g, 0, none⟩), .int .i64 x] W (IntPost W (-1))) := Lib.hid fun W h => q4 ▸ opp_any g 0 m T x W hT8 HW2.out h
      have HC5 : Hid (∀ (W : World), TabAt W 0 g (m : Int) T → Calls Try.prog 18 #[.pointer (some ⟨g, 0, none⟩), .int .i64 x] W (EdPost W (-1, -1))) := Lib.hid fun W h => q5 ▸ edge_any g 0 m T x W hT8 h.s
      clear q1 q2 q3 q4 q5 hc GAw4
      have hed := run_eq_ed (-1) (-1) (-1) (-1)
      simp only [decide_true] at hed
      go_wp2_with fail
      refine (HC1.out w4 TBw4.out).mono ?_
      rintro e w5 ⟨rfl, hb⟩
      have TBw5 := Lib.hid (TBw4.out.below hb)
      have HBw5 := Lib.hid (bw_call HBw4.out hb)
      clear hb TBw4 HBw4
      go_wp2_with fail
      refine (HC2.out w5 TBw5.out).mono ?_
      rintro e w6 ⟨rfl, hb⟩
      have TBw6 := Lib.hid (TBw5.out.below hb)
      have HBw6 := Lib.hid (bw_call HBw5.out hb)
      clear hb TBw5 HBw5
      go_wp2_with fail
      refine (HC3.out w6 TBw6.out).mono ?_
      rintro e w7 ⟨rfl, hb⟩
      have TBw7 := Lib.hid (TBw6.out.below hb)
      have HBw7 := Lib.hid (bw_call HBw6.out hb)
      clear hb TBw6 HBw6
      go_wp2_with fail
      refine (HC4.out w7 TBw7.out).mono ?_
      rintro e w8 ⟨rfl, hb⟩
      have TBw8 := Lib.hid (TBw7.out.below hb)
      have HBw8 := Lib.hid (bw_call HBw7.out hb)
      clear hb TBw7 HBw7
      go_wp2_with fail
      refine (HC5.out w8 TBw8.out).mono ?_
      rintro e w9 ⟨rfl, hb⟩
      have TBw9 := Lib.hid (TBw8.out.below hb)
      have HBw9 := Lib.hid (bw_call HBw8.out hb)
      clear hb TBw8 HBw8
      go_wp2_with fail
      go_ret
      exact ⟨rfl, HBw9.out⟩
end Go.Proofs.Ytdmibpcpocacpaa
