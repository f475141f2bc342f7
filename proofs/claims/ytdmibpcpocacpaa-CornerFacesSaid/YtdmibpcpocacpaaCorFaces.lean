/- CornerFaces, walked. No condition. -/
import Derived.Test.YtdmibpcpocacpaaWake10
namespace Go.Proofs.Ytdmibpcpocacpaa
open Go.RowKit

set_option linter.unusedSimpArgs false
set_option linter.unusedVariables false
theorem cornerI_eq {m : Nat} {T : List Tri} (hok : ∀ t ∈ T, TriOk m t) (v : Int) : cornerI T m v = optI (cornerF T v) := by
  unfold cornerI
  split
  · rfl
  · rename_i h
    unfold cornerF
    rw [leastF_no (fun i _ hi => by
      have h1 := cv_ok hok (c := i) (by omega)
      simp only [decide_eq_false_iff_not]
      omega)]
    rfl
attribute [local irreducible] Blk LRow World.alloc World.setCell World.cell? World.frozen? MapV
set_option maxRecDepth 100000 in
set_option maxHeartbeats 8000000 in
theorem facesLaw_any (N : Int) (A : Option Addr) (n c : Nat) (T : List Tri) (x y : Int) (hx : (Lit.int .i64 x).wf = true) (hy : (Lit.int .i64 y).wf = true) (v : Int) (w : World) (ht : TrisAt w w.heap.size A n T) :
    Calls Try.prog 4 #[.agg #[.int .i64 N, .slice A n c], .agg #[.int .i64 x, .int .i64 y], .int .i64 v] w (BoolPost w true) := by
  obtain rfl : n = T.length := ht.len.symm
  have HT := Lib.hid ht
  have HWF : Hid (wfE (x, y)) := Lib.hid ⟨hx, hy⟩
  clear ht hx hy
  obtain ⟨V, hV⟩ : ∃ V, V = (w.alloc (.cells #[.int .i64 N, .slice A T.length c] 24)).alloc (.cells #[.int .i64 x, .int .i64 y] 31) := ⟨_, rfl⟩
  have GA0 : Hid (Blk V w.heap.size 24 #[.int .i64 N, .slice A T.length c]) := by subst hV; exact Lib.hid ((Blk.new _ _ _).alloc _)
  have GE0 : Hid (Blk V (w.heap.size + 1) 31 #[.int .i64 x, .int .i64 y]) := by subst hV; exact Lib.hid (blk_new1 _ _ _ _)
  have HB0 : Hid (Below w.heap.size w V) := by subst hV; exact Lib.hid (bw_alloc (bw_alloc (Below.refl _ _) _) _)
  go_enter Try.func4, Try.ntmps4
  go_upto_region 1 with (fail)
  rw [← hV]
  clear hV
  obtain ⟨ga, hga⟩ : ∃ g, g = w.heap.size := ⟨_, rfl⟩
  obtain ⟨ge, hge⟩ : ∃ g, g = w.heap.size + 1 := ⟨_, rfl⟩
  rw [← hge] at GE0 ⊢
  rw [← hga] at GA0
  simp only [← hga]
  clear hga hge
  go_wp2_with fail
  refine (awake_any _).mono ?_
  rintro e w1 ⟨rfl, hb⟩
  have GA1 := Lib.hid (blk_call GA0.out hb)
  have GE1 := Lib.hid (blk_call GE0.out hb)
  have HB1 := Lib.hid (bw_call HB0.out hb)
  clear hb GA0 GE0 HB0
  obtain ⟨s0, s1, _, _, _⟩ := soup_facts GA1.out
  go_wp2_with fail
  refine (laid_any N A T.length c T w1 ((HT.out.below HB1.out).more HB1.out.size)).mono ?_
  rintro e w3 (⟨hbg, rfl, hb⟩ | ⟨hbg, hx, rfl, hb⟩ | ⟨hbg, hx, g, rfl, htab, hb⟩)
  · have HB3 := Lib.hid (bw_call HB1.out hb)
    clear hb s0 s1 hbg
    go_wp2_with fail
    go_ret
    exact ⟨rfl, HB3.out⟩
  · have HB3 := Lib.hid (bw_call HB1.out hb)
    clear hb s0 s1 hbg hx
    go_wp2_with fail
    go_ret
    exact ⟨rfl, HB3.out⟩
  · have HBw3 := Lib.hid (bw_call HB1.out hb)
    have GAw3 := Lib.hid (blk_call GA1.out hb)
    have GEw3 := Lib.hid (blk_call GE1.out hb)
    have hT8 : T.length ≤ 8192 := by unfold bigS at hbg; omega
    obtain ⟨m, hs⟩ := surf_of (checkR_zero (by rw [hx])).1
    obtain rfl : N = (m : Int) := hs.n
    have TBw3 : Hid (TabAt w3 0 g (m : Int) T) := Lib.hid (htab.base (Nat.zero_le _))
    have hm1 := hs.m1
    have HCE := Lib.hid (cornerI_eq hs.ok v)
    have HC1 : Hid (∀ (W : World), TabAt W 0 g (m : Int) T → Calls Try.prog 24 #[.pointer (some ⟨g, 0, none⟩), .agg #[.int .i64 x, .int .i64 y]] W (IntPost W (facingI T (x, y)))) := Lib.hid fun W h => facing_any g 0 m T x y W hT8 HWF.out h
    have HC2 : Hid (∀ (W : World), Below w.heap.size w W → Calls Try.prog 25 #[.agg #[.int .i64 (m : Int), .slice A T.length c], .agg #[.int .i64 x, .int .i64 y]] W (IntPost W (facingI T (x, y)))) := Lib.hid fun W h => refFacing_any m A c T x y W hT8 ((HT.out.below h).more h.size)
    have HC3 : Hid (∀ (W : World), TabAt W 0 g (m : Int) T → Calls Try.prog 26 #[.pointer (some ⟨g, 0, none⟩), .int .i64 v] W (IntPost W (optI (cornerF T v)))) := Lib.hid fun W h => HCE.out ▸ (corner_any g 0 m T v W hm1 h).mono fun e w' h => int_of_is h
    have HC4 : Hid (∀ (W : World), Below w.heap.size w W → Calls Try.prog 27 #[.agg #[.int .i64 (m : Int), .slice A T.length c], .int .i64 v] W (IntPost W (optI (cornerF T v)))) := Lib.hid fun W h => refCorner_any m A c T v W hT8 ((HT.out.below h).more h.size)
    clear hb htab hx hs hbg s0 s1 GA1 GE1 HB1 HCE
    generalize facingI T (x, y) = r1 at *
    generalize optI (cornerF T v) = r2 at *
    go_upto_region 6 with (fail)
    refine wp_region_till (S := fun w' => w'.cell? ⟨ga, 0, none⟩ = some (.int .i64 (m : Int)) ∧ w'.cell? ⟨ga, 1, none⟩ = some (.slice A T.length c) ∧ w'.cell? ⟨ge, 0, none⟩ = some (.int .i64 x) ∧ w'.cell? ⟨ge, 1, none⟩ = some (.int .i64 y)) 16 (by kernel_rfl) ⟨(soup_facts GAw3.out.drew).1, (soup_facts GAw3.out.drew).2.1, (edge_facts GEw3.out.drew).1, (edge_facts GEw3.out.drew).2.1⟩ (fun hHeld => ?_)
    refine Till.take (i := 0) (v := ?vt1) rfl (by kernel_rfl) (by kernel_rfl) (by kernel_rfl) (by kernel_rfl) (fun _ _ _ h => h) (Or.inl ⟨by rfl, ?ht1⟩) (by assumption) ?restt1
    case ht1 => (intro w hSw; (try dsimp only at hSw); go_simp; try with_reducible rfl)
    (try simp only [Act.put, List.setIfInBounds_toArray, List.set_cons_zero, List.set_cons_succ])
    refine Till.take (i := 1) (v := ?vt2) rfl (by kernel_rfl) (by kernel_rfl) (by kernel_rfl) (by kernel_rfl) (fun _ _ _ h => h) (Or.inl ⟨by rfl, ?ht2⟩) (by assumption) ?restt2
    case ht2 => (intro w hSw; (try dsimp only at hSw); go_simp; try with_reducible rfl)
    (try simp only [Act.put, List.setIfInBounds_toArray, List.set_cons_zero, List.set_cons_succ])
    refine Till.take (i := 3) (v := ?vt3) rfl (by kernel_rfl) (by kernel_rfl) (by kernel_rfl) (by kernel_rfl) (fun _ _ _ h => h) (Or.inl ⟨by rfl, ?ht3⟩) (by assumption) ?restt3
    case ht3 => (intro w hSw; (try dsimp only at hSw); go_simp; try with_reducible rfl)
    (try simp only [Act.put, List.setIfInBounds_toArray, List.set_cons_zero, List.set_cons_succ])
    refine Till.take (i := 4) (v := ?vt4) rfl (by kernel_rfl) (by kernel_rfl) (by kernel_rfl) (by kernel_rfl) (fun _ _ _ h => h) (Or.inl ⟨by rfl, ?ht4⟩) (by assumption) ?restt4
    case ht4 => (intro w hSw; (try dsimp only at hSw); go_simp; try with_reducible rfl)
    (try simp only [Act.put, List.setIfInBounds_toArray, List.set_cons_zero, List.set_cons_succ])
    refine Till.ready (rs := [2]) (by kernel_rfl) (by simp) ?_
    refine TillEach.cons rfl (fun K hK => ?_) ?_
    · go_simp
      go_wp2_with (go_at_call 24; refine (HC1.out w3.drew TBw3.out.drew).mono ?_; rintro e v10 ⟨rfl, hb⟩)
      have GAv10 := Lib.hid (blk_call GAw3.out.drew hb)
      have GEv10 := Lib.hid (blk_call GEw3.out.drew hb)
      have TBv10 := Lib.hid (TBw3.out.drew.below hb)
      have HBv10 := Lib.hid (bw_call (bw_drew HBw3.out) hb)
      clear hb
      refine hK.out _ _ ?_ (fun hHeld => ?_)
      · exact ⟨(soup_facts GAv10.out).1, (soup_facts GAv10.out).2.1, (edge_facts GEv10.out).1, (edge_facts GEv10.out).2.1⟩
      clear hK K
      (try simp only [Act.put, List.setIfInBounds_toArray, List.set_cons_zero, List.set_cons_succ])
      refine Till.ready (rs := [5]) (by kernel_rfl) (by simp) ?_
      refine TillEach.cons rfl (fun K hK => ?_) ?_
      · go_simp
        go_wp2_with (go_at_call 25; refine (HC2.out v10 HBv10.out).mono ?_; rintro e v11 ⟨rfl, hb⟩)
        have GAv11 := Lib.hid (blk_call GAv10.out hb)
        have GEv11 := Lib.hid (blk_call GEv10.out hb)
        have TBv11 := Lib.hid (TBv10.out.below hb)
        have HBv11 := Lib.hid (bw_call HBv10.out hb)
        clear hb
        refine hK.out _ _ ?_ (fun hHeld => ?_)
        · exact ⟨(soup_facts GAv11.out).1, (soup_facts GAv11.out).2.1, (edge_facts GEv11.out).1, (edge_facts GEv11.out).2.1⟩
        clear hK K
        (try simp only [Act.put, List.setIfInBounds_toArray, List.set_cons_zero, List.set_cons_succ])
        refine Till.take (i := 6) (v := ?vt5) rfl (by kernel_rfl) (by kernel_rfl) (by kernel_rfl) (by kernel_rfl) (fun _ _ _ h => h) (Or.inl ⟨by rfl, ?ht5⟩) (by assumption) ?restt5
        case ht5 => (intro w hSw; (try dsimp only at hSw); go_simp; try with_reducible rfl)
        (try simp only [Act.put, List.setIfInBounds_toArray, List.set_cons_zero, List.set_cons_succ])
        refine Till.take (i := 7) (v := ?vt6) rfl (by kernel_rfl) (by kernel_rfl) (by kernel_rfl) (by kernel_rfl) (fun _ _ _ h => h) (Or.inl ⟨by rfl, ?ht6⟩) (by assumption) ?restt6
        case ht6 => (intro w hSw; (try dsimp only at hSw); go_simp; try with_reducible rfl)
        (try simp only [Act.put, List.setIfInBounds_toArray, List.set_cons_zero, List.set_cons_succ])
        refine Till.take (i := 8) (v := ?vt7) rfl (by kernel_rfl) (by kernel_rfl) (by kernel_rfl) (by kernel_rfl) (fun _ _ _ h => h) (Or.inl ⟨by rfl, ?ht7⟩) (by assumption) ?restt7
        case ht7 => (intro w hSw; (try dsimp only at hSw); go_simp; try with_reducible rfl)
        (try simp only [Act.put, List.setIfInBounds_toArray, List.set_cons_zero, List.set_cons_succ])
        refine Till.take (i := 9) (v := ?vt8) rfl (by kernel_rfl) (by kernel_rfl) (by kernel_rfl) (by kernel_rfl) (fun _ _ _ h => h) (Or.inl ⟨by rfl, ?ht8⟩) (by assumption) ?restt8
        case ht8 => (intro w hSw; (try dsimp only at hSw); go_simp; try with_reducible rfl)
        (try simp only [Act.put, List.setIfInBounds_toArray, List.set_cons_zero, List.set_cons_succ])
        refine Till.take (i := 11) (v := ?vt9) rfl (by kernel_rfl) (by kernel_rfl) (by kernel_rfl) (by kernel_rfl) (fun _ _ _ h => h) (Or.inl ⟨by rfl, ?ht9⟩) (by assumption) ?restt9
        case ht9 => (intro w hSw; (try dsimp only at hSw); go_simp; try with_reducible rfl)
        (try simp only [Act.put, List.setIfInBounds_toArray, List.set_cons_zero, List.set_cons_succ])
        refine Till.take (i := 12) (v := ?vt10) rfl (by kernel_rfl) (by kernel_rfl) (by kernel_rfl) (by kernel_rfl) (fun _ _ _ h => h) (Or.inl ⟨by rfl, ?ht10⟩) (by assumption) ?restt10
        case ht10 => (intro w hSw; (try dsimp only at hSw); go_simp; try with_reducible rfl)
        (try simp only [Act.put, List.setIfInBounds_toArray, List.set_cons_zero, List.set_cons_succ])
        refine Till.ready (rs := [10]) (by kernel_rfl) (by simp) ?_
        refine TillEach.cons rfl (fun K hK => ?_) ?_
        · go_simp
          go_wp2_with (go_at_call 26; refine (HC3.out v11 TBv11.out).mono ?_; rintro e v12 ⟨rfl, hb⟩)
          have GAv12 := Lib.hid (blk_call GAv11.out hb)
          have GEv12 := Lib.hid (blk_call GEv11.out hb)
          have TBv12 := Lib.hid (TBv11.out.below hb)
          have HBv12 := Lib.hid (bw_call HBv11.out hb)
          clear hb
          refine hK.out _ _ ?_ (fun hHeld => ?_)
          · exact ⟨(soup_facts GAv12.out).1, (soup_facts GAv12.out).2.1, (edge_facts GEv12.out).1, (edge_facts GEv12.out).2.1⟩
          clear hK K
          (try simp only [Act.put, List.setIfInBounds_toArray, List.set_cons_zero, List.set_cons_succ])
          refine Till.ready (rs := [13]) (by kernel_rfl) (by simp) ?_
          refine TillEach.cons rfl (fun K hK => ?_) ?_
          · go_simp
            go_wp2_with (go_at_call 27; refine (HC4.out v12 HBv12.out).mono ?_; rintro e v13 ⟨rfl, hb⟩)
            have GAv13 := Lib.hid (blk_call GAv12.out hb)
            have GEv13 := Lib.hid (blk_call GEv12.out hb)
            have TBv13 := Lib.hid (TBv12.out.below hb)
            have HBv13 := Lib.hid (bw_call HBv12.out hb)
            clear hb
            refine hK.out _ _ ?_ (fun hHeld => ?_)
            · exact ⟨(soup_facts GAv13.out).1, (soup_facts GAv13.out).2.1, (edge_facts GEv13.out).1, (edge_facts GEv13.out).2.1⟩
            clear hK K
            (try simp only [Act.put, List.setIfInBounds_toArray, List.set_cons_zero, List.set_cons_succ])
            refine Till.take (i := 14) (v := ?vt11) rfl (by kernel_rfl) (by kernel_rfl) (by kernel_rfl) (by kernel_rfl) (fun _ _ _ h => h) (Or.inl ⟨by rfl, ?ht11⟩) (by assumption) ?restt11
            case ht11 => (intro w hSw; (try dsimp only at hSw); go_simp; try with_reducible rfl)
            (try simp only [Act.put, List.setIfInBounds_toArray, List.set_cons_zero, List.set_cons_succ])
            refine Till.take (i := 15) (v := ?vt12) rfl (by kernel_rfl) (by kernel_rfl) (by kernel_rfl) (by kernel_rfl) (fun _ _ _ h => h) (Or.inl ⟨by rfl, ?ht12⟩) (by assumption) ?restt12
            case ht12 => (intro w hSw; (try dsimp only at hSw); go_simp; try with_reducible rfl)
            (try simp only [Act.put, List.setIfInBounds_toArray, List.set_cons_zero, List.set_cons_succ])
            refine Till.ready (rs := [16]) (by kernel_rfl) (by simp) ?_
            refine TillEach.last rfl (fun K hK => ?_)
            · go_simp
              refine hK.out _ _ ?_
              clear hK K
              (try simp only [Act.put, List.setIfInBounds_toArray, List.set_cons_zero, List.set_cons_succ])
              refine Till.done (by kernel_rfl) ?_ _
              go_wp2_with fail
              go_ret
              exact ⟨rfl, HBv13.out⟩
          exact TillEach.nil
        exact TillEach.nil
      exact TillEach.nil
    exact TillEach.nil
end Go.Proofs.Ytdmibpcpocacpaa
