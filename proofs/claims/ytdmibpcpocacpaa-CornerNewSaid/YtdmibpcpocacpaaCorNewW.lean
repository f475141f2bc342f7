/- CornerNew, walked. No condition. -/
import Derived.Test.YtdmibpcpocacpaaCorSoup
namespace Go.Proofs.Ytdmibpcpocacpaa
open Go.RowKit

set_option linter.unusedSimpArgs false
set_option linter.unusedVariables false
attribute [local irreducible] Blk LRow World.alloc World.setCell World.cell? World.frozen? MapV
set_option maxRecDepth 100000 in
set_option maxHeartbeats 8000000 in
theorem newLaw_any (N : Int) (A : Option Addr) (n c : Nat) (T : List Tri) (w : World) (ht : TrisAt w w.heap.size A n T) :
    Calls Try.prog 7 #[.agg #[.int .i64 N, .slice A n c]] w (BoolPost w true) := by
  obtain rfl : n = T.length := ht.len.symm
  have HT := Lib.hid ht
  clear ht
  obtain ⟨V, hV⟩ : ∃ V, V = w.alloc (.cells #[.int .i64 N, .slice A T.length c] 24) := ⟨_, rfl⟩
  have GA0 : Hid (Blk V w.heap.size 24 #[.int .i64 N, .slice A T.length c]) := by subst hV; exact Lib.hid (Blk.new _ _ _)
  have HB0 : Hid (Below w.heap.size w V) := by subst hV; exact Lib.hid (bw_alloc (Below.refl _ _) _)
  go_enter Try.func7, Try.ntmps7
  go_upto_region 1 with (fail)
  rw [← hV]
  clear hV
  obtain ⟨ga, hga⟩ : ∃ g, g = w.heap.size := ⟨_, rfl⟩
  rw [← hga] at GA0
  simp only [← hga]
  clear hga
  go_wp2_with fail
  refine (awake_any _).mono ?_
  rintro e w1 ⟨rfl, hb⟩
  have GA1 := Lib.hid (blk_call GA0.out hb)
  have HB1 := Lib.hid (bw_call HB0.out hb)
  clear hb HB0 GA0
  obtain ⟨s0, s1, _, _, _⟩ := soup_facts GA1.out
  go_wp2_with fail
  refine (great10_any N A T.length c w1).mono ?_
  rintro e w2 ⟨rfl, hb⟩
  have GA2 := Lib.hid (blk_call GA1.out hb)
  have HB2 := Lib.hid (bw_call HB1.out hb)
  clear hb HB1 GA1 s0 s1
  by_cases hbig : bigS N T.length
  · rw [if_pos hbig]
    clear hbig
    go_wp2_with fail
    go_ret
    exact ⟨rfl, HB2.out⟩
  rw [if_neg hbig]
  have hT8 : T.length ≤ 8192 := by unfold bigS at hbig; omega
  have hT40 : T.length ≤ 40 := by unfold bigS at hbig; omega
  clear hbig
  obtain ⟨s0, s1, _, _, _⟩ := soup_facts GA2.out
  go_wp2_with fail
  refine (new_any N A T.length c T w2 (by omega) ((HT.out.below HB2.out).more HB2.out.size)).mono ?_
  rintro e w3 (⟨hx, g, rfl, htab, hb⟩ | ⟨hx, rfl, hb⟩)
  · have GA3 := Lib.hid (blk_call GA2.out hb)
    have HB3 := Lib.hid (bw_call HB2.out hb)
    have TB3 : Hid (TabAt w3 0 g N T) := Lib.hid (htab.base (Nat.zero_le _))
    clear hb htab GA2 HB2 s0 s1
    unfold wv
    simp only
    obtain ⟨w4, hw4⟩ : ∃ w4, w4 = w3.alloc (.cells #[.int .i64 0, .int .i64 0, .int .i64 0] 41) := ⟨_, rfl⟩
    have GW4 : Hid (Blk w4 w3.heap.size 41 #[.int .i64 0, .int .i64 0, .int .i64 0]) := by subst hw4; exact Lib.hid (Blk.new _ _ _)
    have GA4 : Hid (Blk w4 ga 24 #[.int .i64 N, .slice A T.length c]) := by subst hw4; exact Lib.hid (GA3.out.alloc _)
    have TB4 : Hid (TabAt w4 0 g N T) := by subst hw4; exact Lib.hid (TB3.out.alloc _)
    have HB4 : Hid (Below w.heap.size w w4) := by subst hw4; exact Lib.hid (bw_alloc HB3.out _)
    go_upto_region 6 with (fail)
    rw [← hw4]
    generalize w3.heap.size = gw at *
    clear hw4 GA3 TB3 HB3
    obtain ⟨s0, s1, _, _, _⟩ := soup_facts GA4.out
    go_wp2_with fail
    refine (check_any N A T.length c T w4 (by omega) ((HT.out.below HB4.out).more HB4.out.size)).mono ?_
    rw [hx]
    rintro e w5 ⟨rfl, hb⟩
    have GA5 := Lib.hid (blk_call GA4.out hb)
    have GW5 := Lib.hid (blk_call GW4.out hb)
    have TB5 := Lib.hid (TB4.out.below hb)
    have HB5 := Lib.hid (bw_call HB4.out hb)
    clear hb GA4 GW4 TB4 HB4 s0 s1 hx
    unfold wv
    simp only
    obtain ⟨w6, hw6⟩ : ∃ w6, w6 = w5.alloc (.cells #[.int .i64 0, .int .i64 0, .int .i64 0] 41) := ⟨_, rfl⟩
    have GX6 : Hid (Blk w6 w5.heap.size 41 #[.int .i64 0, .int .i64 0, .int .i64 0]) := by subst hw6; exact Lib.hid (Blk.new _ _ _)
    have GWw6 : Hid (Blk w6 gw 41 #[.int .i64 0, .int .i64 0, .int .i64 0]) := by subst hw6; exact Lib.hid (GW5.out.alloc _)
    have GAw6 : Hid (Blk w6 ga 24 #[.int .i64 N, .slice A T.length c]) := by subst hw6; exact Lib.hid (GA5.out.alloc _)
    have TBw6 : Hid (TabAt w6 0 g N T) := by subst hw6; exact Lib.hid (TB5.out.alloc _)
    have HBw6 : Hid (Below w.heap.size w w6) := by subst hw6; exact Lib.hid (bw_alloc HB5.out _)
    go_upto_region 7 with (fail)
    rw [← hw6]
    generalize w5.heap.size = gx at *
    clear hw6 GA5 GW5 TB5 HB5
    obtain ⟨x0, x1, x2, _, _, _⟩ := wit_facts GX6.out
    have hw0 := run_eq_wit (0, 0, 0) (0, 0, 0)
    unfold wv at hw0
    simp only [decide_true] at hw0
    go_upto_region 9 with (fail)
    clear x0 x1 x2 GX6
    refine wp_region_till (S := fun w' => w'.cell? ⟨gw, 0, none⟩ = some (.int .i64 0) ∧ w'.cell? ⟨gw, 1, none⟩ = some (.int .i64 0) ∧ w'.cell? ⟨gw, 2, none⟩ = some (.int .i64 0) ∧ w'.cell? ⟨ga, 0, none⟩ = some (.int .i64 N) ∧ w'.cell? ⟨ga, 1, none⟩ = some (.slice A T.length c)) 28 (by kernel_rfl) ⟨(wit_facts GWw6.out.drew).1, (wit_facts GWw6.out.drew).2.1, (wit_facts GWw6.out.drew).2.2.1, (soup_facts GAw6.out.drew).1, (soup_facts GAw6.out.drew).2.1⟩ (fun hHeld => ?_)
    refine Till.take (i := 0) (v := ?vt55) rfl (by kernel_rfl) (by kernel_rfl) (by kernel_rfl) (by kernel_rfl) (fun _ _ _ h => h) (Or.inl ⟨by rfl, ?ht55⟩) (by assumption) ?restt55
    case ht55 => (intro w hSw; (try dsimp only at hSw); go_simp; try with_reducible rfl)
    (try simp only [Act.put, List.setIfInBounds_toArray, List.set_cons_zero, List.set_cons_succ])
    refine Till.take (i := 1) (v := ?vt56) rfl (by kernel_rfl) (by kernel_rfl) (by kernel_rfl) (by kernel_rfl) (fun _ _ _ h => h) (Or.inl ⟨by rfl, ?ht56⟩) (by assumption) ?restt56
    case ht56 => (intro w hSw; (try dsimp only at hSw); go_simp; try with_reducible rfl)
    (try simp only [Act.put, List.setIfInBounds_toArray, List.set_cons_zero, List.set_cons_succ])
    refine Till.take (i := 2) (v := ?vt57) rfl (by kernel_rfl) (by kernel_rfl) (by kernel_rfl) (by kernel_rfl) (fun _ _ _ h => h) (Or.inl ⟨by rfl, ?ht57⟩) (by assumption) ?restt57
    case ht57 => (intro w hSw; (try dsimp only at hSw); go_simp; try with_reducible rfl)
    (try simp only [Act.put, List.setIfInBounds_toArray, List.set_cons_zero, List.set_cons_succ])
    refine Till.take (i := 3) (v := ?vt58) rfl (by kernel_rfl) (by kernel_rfl) (by kernel_rfl) (by kernel_rfl) (fun _ _ _ h => h) (Or.inl ⟨by rfl, ?ht58⟩) (by assumption) ?restt58
    case ht58 => (intro w hSw; (try dsimp only at hSw); go_simp; try with_reducible rfl)
    (try simp only [Act.put, List.setIfInBounds_toArray, List.set_cons_zero, List.set_cons_succ])
    refine Till.take (i := 4) (v := ?vt59) rfl (by kernel_rfl) (by kernel_rfl) (by kernel_rfl) (by kernel_rfl) (fun _ _ _ h => h) (Or.inl ⟨by rfl, ?ht59⟩) (by assumption) ?restt59
    case ht59 => (intro w hSw; (try dsimp only at hSw); go_simp; try with_reducible rfl)
    (try simp only [Act.put, List.setIfInBounds_toArray, List.set_cons_zero, List.set_cons_succ])
    refine Till.take (i := 5) (v := ?vt60) rfl (by kernel_rfl) (by kernel_rfl) (by kernel_rfl) (by kernel_rfl) (fun _ _ _ h => h) (Or.inl ⟨by rfl, ?ht60⟩) (by assumption) ?restt60
    case ht60 => (intro w hSw; (try dsimp only at hSw); go_simp; try with_reducible rfl)
    (try simp only [Act.put, List.setIfInBounds_toArray, List.set_cons_zero, List.set_cons_succ])
    refine Till.take (i := 6) (v := ?vt61) rfl (by kernel_rfl) (by kernel_rfl) (by kernel_rfl) (by kernel_rfl) (fun _ _ _ h => h) (Or.inl ⟨by rfl, ?ht61⟩) (by assumption) ?restt61
    case ht61 => (intro w hSw; (try dsimp only at hSw); go_simp; try with_reducible rfl)
    (try simp only [Act.put, List.setIfInBounds_toArray, List.set_cons_zero, List.set_cons_succ])
    refine Till.take (i := 7) (v := ?vt62) rfl (by kernel_rfl) (by kernel_rfl) (by kernel_rfl) (by kernel_rfl) (fun _ _ _ h => h) (Or.inl ⟨by rfl, ?ht62⟩) (by assumption) ?restt62
    case ht62 => (intro w hSw; (try dsimp only at hSw); go_simp; try with_reducible rfl)
    (try simp only [Act.put, List.setIfInBounds_toArray, List.set_cons_zero, List.set_cons_succ])
    refine Till.take (i := 8) (v := ?vt63) rfl (by kernel_rfl) (by kernel_rfl) (by kernel_rfl) (by kernel_rfl) (fun _ _ _ h => h) (Or.inl ⟨by rfl, ?ht63⟩) (by assumption) ?restt63
    case ht63 => (intro w hSw; (try dsimp only at hSw); go_simp; try with_reducible rfl)
    (try simp only [Act.put, List.setIfInBounds_toArray, List.set_cons_zero, List.set_cons_succ])
    refine Till.take (i := 10) (v := ?vt64) rfl (by kernel_rfl) (by kernel_rfl) (by kernel_rfl) (by kernel_rfl) (fun _ _ _ h => h) (Or.inl ⟨by rfl, ?ht64⟩) (by assumption) ?restt64
    case ht64 => (intro w hSw; (try dsimp only at hSw); go_simp; try with_reducible rfl)
    (try simp only [Act.put, List.setIfInBounds_toArray, List.set_cons_zero, List.set_cons_succ])
    refine Till.ready (rs := [9]) (by kernel_rfl) (by simp) ?_
    refine TillEach.cons rfl (fun K hK => ?_) ?_
    · go_simp
      go_wp2_with (go_at_call 34; refine (soupT_any g 0 N T w6.drew hT8 TBw6.out.drew.s).mono ?_; rintro e v3 ⟨A1, c1, rfl, hr, hb⟩)
      have GWv3 := Lib.hid (blk_call GWw6.out.drew hb)
      have GAv3 := Lib.hid (blk_call GAw6.out.drew hb)
      have TBv3 := Lib.hid (TBw6.out.drew.below hb)
      have RAv3 : Hid (LRow v3 0 A1 c1 T) := Lib.hid (LRow.base hr (Nat.zero_le _))
      clear hr
      have HBv3 := Lib.hid (bw_call (bw_drew HBw6.out) hb)
      clear hb
      refine hK.out _ _ ?_ (fun hHeld => ?_)
      · exact ⟨(wit_facts GWv3.out).1, (wit_facts GWv3.out).2.1, (wit_facts GWv3.out).2.2.1, (soup_facts GAv3.out).1, (soup_facts GAv3.out).2.1⟩
      clear hK K
      (try simp only [Act.put, List.setIfInBounds_toArray, List.set_cons_zero, List.set_cons_succ])
      refine Till.ready (rs := [11]) (by kernel_rfl) (by simp) ?_
      refine TillEach.cons rfl (fun K hK => ?_) ?_
      · go_simp
        go_wp2_with (go_at_call 33; refine (refSame10_any N T A1 A T.length c1 c v3 (by omega) RAv3.out.tris ((HT.out.below HBv3.out).more HBv3.out.size)).mono ?_; rintro e v4 ⟨rfl, hb⟩)
        have GWv4 := Lib.hid (blk_call GWv3.out hb)
        have GAv4 := Lib.hid (blk_call GAv3.out hb)
        have TBv4 := Lib.hid (TBv3.out.below hb)
        have RAv4 := Lib.hid (RAv3.out.below hb)
        have HBv4 := Lib.hid (bw_call HBv3.out hb)
        clear hb GWv3 GAv3 TBv3 RAv3 HBv3
        refine hK.out _ _ ?_ (fun hHeld => ?_)
        · exact ⟨(wit_facts GWv4.out).1, (wit_facts GWv4.out).2.1, (wit_facts GWv4.out).2.2.1, (soup_facts GAv4.out).1, (soup_facts GAv4.out).2.1⟩
        clear hK K
        (try simp only [Act.put, List.setIfInBounds_toArray, List.set_cons_zero, List.set_cons_succ])
        refine Till.take (i := 12) (v := ?vt65) rfl (by kernel_rfl) (by kernel_rfl) (by kernel_rfl) (by kernel_rfl) (fun _ _ _ h => h) (Or.inl ⟨by rfl, ?ht65⟩) (by assumption) ?restt65
        case ht65 => (intro w hSw; (try dsimp only at hSw); go_simp; try with_reducible rfl)
        (try simp only [Act.put, List.setIfInBounds_toArray, List.set_cons_zero, List.set_cons_succ])
        refine Till.take (i := 13) (v := ?vt66) rfl (by kernel_rfl) (by kernel_rfl) (by kernel_rfl) (by kernel_rfl) (fun _ _ _ h => h) (Or.inl ⟨by rfl, ?ht66⟩) (by assumption) ?restt66
        case ht66 => (intro w hSw; (try dsimp only at hSw); go_simp; try with_reducible rfl)
        (try simp only [Act.put, List.setIfInBounds_toArray, List.set_cons_zero, List.set_cons_succ])
        refine Till.take (i := 14) (v := ?vt67) rfl (by kernel_rfl) (by kernel_rfl) (by kernel_rfl) (by kernel_rfl) (fun _ _ _ h => h) (Or.inl ⟨by rfl, ?ht67⟩) (by assumption) ?restt67
        case ht67 => (intro w hSw; (try dsimp only at hSw); go_simp; try with_reducible rfl)
        (try simp only [Act.put, List.setIfInBounds_toArray, List.set_cons_zero, List.set_cons_succ])
        refine Till.take (i := 16) (v := ?vt68) rfl (by kernel_rfl) (by kernel_rfl) (by kernel_rfl) (by kernel_rfl) (fun _ _ _ h => h) (Or.inl ⟨by rfl, ?ht68⟩) (by assumption) ?restt68
        case ht68 => (intro w hSw; (try dsimp only at hSw); go_simp; try with_reducible rfl)
        (try simp only [Act.put, List.setIfInBounds_toArray, List.set_cons_zero, List.set_cons_succ])
        refine Till.take (i := 17) (v := ?vt69) rfl (by kernel_rfl) (by kernel_rfl) (by kernel_rfl) (by kernel_rfl) (fun _ _ _ h => h) (Or.inl ⟨by rfl, ?ht69⟩) (by assumption) ?restt69
        case ht69 => (intro w hSw; (try dsimp only at hSw); go_simp; try with_reducible rfl)
        (try simp only [Act.put, List.setIfInBounds_toArray, List.set_cons_zero, List.set_cons_succ])
        refine Till.take (i := 18) (v := ?vt70) rfl (by kernel_rfl) (by kernel_rfl) (by kernel_rfl) (by kernel_rfl) (fun _ _ _ h => h) (Or.inl ⟨by rfl, ?ht70⟩) (by assumption) ?restt70
        case ht70 => (intro w hSw; (try dsimp only at hSw); go_simp; try with_reducible rfl)
        (try simp only [Act.put, List.setIfInBounds_toArray, List.set_cons_zero, List.set_cons_succ])
        refine Till.ready (rs := [15]) (by kernel_rfl) (by simp) ?_
        refine TillEach.cons rfl (fun K hK => ?_) ?_
        · go_simp
          go_wp2_with (go_at_call 28; refine ((tris_any g 0 N T v4 TBv4.out.s).mono fun e w' h => int_of_is h).mono ?_; rintro e v5 ⟨rfl, hb⟩)
          have GWv5 := Lib.hid (blk_call GWv4.out hb)
          have GAv5 := Lib.hid (blk_call GAv4.out hb)
          have TBv5 := Lib.hid (TBv4.out.below hb)
          have RAv5 := Lib.hid (RAv4.out.below hb)
          have HBv5 := Lib.hid (bw_call HBv4.out hb)
          clear hb GWv4 GAv4 TBv4 RAv4 HBv4
          refine hK.out _ _ ?_ (fun hHeld => ?_)
          · exact ⟨(wit_facts GWv5.out).1, (wit_facts GWv5.out).2.1, (wit_facts GWv5.out).2.2.1, (soup_facts GAv5.out).1, (soup_facts GAv5.out).2.1⟩
          clear hK K
          (try simp only [Act.put, List.setIfInBounds_toArray, List.set_cons_zero, List.set_cons_succ])
          refine Till.take (i := 19) (v := ?vt71) rfl (by kernel_rfl) (by kernel_rfl) (by kernel_rfl) (by kernel_rfl) (fun _ _ _ h => h) (Or.inl ⟨by rfl, ?ht71⟩) (by assumption) ?restt71
          case ht71 => (intro w hSw; (try dsimp only at hSw); go_simp; try with_reducible rfl)
          (try simp only [Act.put, List.setIfInBounds_toArray, List.set_cons_zero, List.set_cons_succ])
          refine Till.take (i := 20) (v := ?vt72) rfl (by kernel_rfl) (by kernel_rfl) (by kernel_rfl) (by kernel_rfl) (fun _ _ _ h => h) (Or.inl ⟨by rfl, ?ht72⟩) (by assumption) ?restt72
          case ht72 => (intro w hSw; (try dsimp only at hSw); go_simp; try with_reducible rfl)
          (try simp only [Act.put, List.setIfInBounds_toArray, List.set_cons_zero, List.set_cons_succ])
          refine Till.take (i := 21) (v := ?vt73) rfl (by kernel_rfl) (by kernel_rfl) (by kernel_rfl) (by kernel_rfl) (fun _ _ _ h => h) (Or.inl ⟨by rfl, ?ht73⟩) (by assumption) ?restt73
          case ht73 => (intro w hSw; (try dsimp only at hSw); go_simp; try with_reducible rfl)
          (try simp only [Act.put, List.setIfInBounds_toArray, List.set_cons_zero, List.set_cons_succ])
          refine Till.take (i := 22) (v := ?vt74) rfl (by kernel_rfl) (by kernel_rfl) (by kernel_rfl) (by kernel_rfl) (fun _ _ _ h => h) (Or.inl ⟨by rfl, ?ht74⟩) (by assumption) ?restt74
          case ht74 => (intro w hSw; (try dsimp only at hSw); go_simp; try with_reducible rfl)
          (try simp only [Act.put, List.setIfInBounds_toArray, List.set_cons_zero, List.set_cons_succ])
          refine Till.take (i := 24) (v := ?vt75) rfl (by kernel_rfl) (by kernel_rfl) (by kernel_rfl) (by kernel_rfl) (fun _ _ _ h => h) (Or.inl ⟨by rfl, ?ht75⟩) (by assumption) ?restt75
          case ht75 => (intro w hSw; (try dsimp only at hSw); go_simp; try with_reducible rfl)
          (try simp only [Act.put, List.setIfInBounds_toArray, List.set_cons_zero, List.set_cons_succ])
          refine Till.take (i := 25) (v := ?vt76) rfl (by kernel_rfl) (by kernel_rfl) (by kernel_rfl) (by kernel_rfl) (fun _ _ _ h => h) (Or.inl ⟨by rfl, ?ht76⟩) (by assumption) ?restt76
          case ht76 => (intro w hSw; (try dsimp only at hSw); go_simp; try with_reducible rfl)
          (try simp only [Act.put, List.setIfInBounds_toArray, List.set_cons_zero, List.set_cons_succ])
          refine Till.ready (rs := [23]) (by kernel_rfl) (by simp) ?_
          refine TillEach.cons rfl (fun K hK => ?_) ?_
          · go_simp
            go_wp2_with (go_at_call 35; refine ((verts_any g 0 N T v5 TBv5.out.s).mono fun e w' h => int_of_is h).mono ?_; rintro e v6 ⟨rfl, hb⟩)
            have GWv6 := Lib.hid (blk_call GWv5.out hb)
            have GAv6 := Lib.hid (blk_call GAv5.out hb)
            have TBv6 := Lib.hid (TBv5.out.below hb)
            have RAv6 := Lib.hid (RAv5.out.below hb)
            have HBv6 := Lib.hid (bw_call HBv5.out hb)
            clear hb GWv5 GAv5 TBv5 RAv5 HBv5
            refine hK.out _ _ ?_ (fun hHeld => ?_)
            · exact ⟨(wit_facts GWv6.out).1, (wit_facts GWv6.out).2.1, (wit_facts GWv6.out).2.2.1, (soup_facts GAv6.out).1, (soup_facts GAv6.out).2.1⟩
            clear hK K
            (try simp only [Act.put, List.setIfInBounds_toArray, List.set_cons_zero, List.set_cons_succ])
            refine Till.take (i := 26) (v := ?vt77) rfl (by kernel_rfl) (by kernel_rfl) (by kernel_rfl) (by kernel_rfl) (fun _ _ _ h => h) (Or.inl ⟨by rfl, ?ht77⟩) (by assumption) ?restt77
            case ht77 => (intro w hSw; (try dsimp only at hSw); go_simp; try with_reducible rfl)
            (try simp only [Act.put, List.setIfInBounds_toArray, List.set_cons_zero, List.set_cons_succ])
            refine Till.take (i := 27) (v := ?vt78) rfl (by kernel_rfl) (by kernel_rfl) (by kernel_rfl) (by kernel_rfl) (fun _ _ _ h => h) (Or.inl ⟨by rfl, ?ht78⟩) (by assumption) ?restt78
            case ht78 => (intro w hSw; (try dsimp only at hSw); go_simp; try with_reducible rfl)
            (try simp only [Act.put, List.setIfInBounds_toArray, List.set_cons_zero, List.set_cons_succ])
            refine Till.ready (rs := [28]) (by kernel_rfl) (by simp) ?_
            refine TillEach.last rfl (fun K hK => ?_)
            · go_simp
              refine hK.out _ _ ?_
              clear hK K
              (try simp only [Act.put, List.setIfInBounds_toArray, List.set_cons_zero, List.set_cons_succ])
              refine Till.done (by kernel_rfl) ?_ _
              go_wp2_with fail
              go_ret
              exact ⟨rfl, HBv6.out⟩
          exact TillEach.nil
        exact TillEach.nil
      exact TillEach.nil
    exact TillEach.nil
  · have HKS := Lib.hid (fun h => hx (@checkR_zero N T h).2)
    have GA3 := Lib.hid (blk_call GA2.out hb)
    have HB3 := Lib.hid (bw_call HB2.out hb)
    clear hb GA2 HB2 s0 s1
    obtain ⟨x, HX⟩ : ∃ x, Hid (checkR N T = x) := ⟨_, Lib.hid rfl⟩
    rw [HX.out] at HKS ⊢
    obtain ⟨k, a, b⟩ := x
    have hk : ¬ k = 0 := HKS.out
    have hkb : (k == 0) = false := by simp [hk]
    have hkd : decide (k = 0) = false := by simp [hk]
    clear HKS hx
    unfold wv
    simp only
    obtain ⟨w4, hw4⟩ : ∃ w4, w4 = w3.alloc (.cells #[.int .i64 k, .int .i64 a, .int .i64 b] 41) := ⟨_, rfl⟩
    have GW4 : Hid (Blk w4 w3.heap.size 41 #[.int .i64 k, .int .i64 a, .int .i64 b]) := by subst hw4; exact Lib.hid (Blk.new _ _ _)
    have GA4 : Hid (Blk w4 ga 24 #[.int .i64 N, .slice A T.length c]) := by subst hw4; exact Lib.hid (GA3.out.alloc _)
    have HB4 : Hid (Below w.heap.size w w4) := by subst hw4; exact Lib.hid (bw_alloc HB3.out _)
    go_upto_region 6 with (fail)
    rw [← hw4]
    generalize w3.heap.size = gw at *
    clear hw4 GA3 HB3
    obtain ⟨s0, s1, _, _, _⟩ := soup_facts GA4.out
    go_wp2_with fail
    refine (check_any N A T.length c T w4 (by omega) ((HT.out.below HB4.out).more HB4.out.size)).mono ?_
    rw [HX.out]
    rintro e w5 ⟨rfl, hb⟩
    have GW5 := Lib.hid (blk_call GW4.out hb)
    have HB5 := Lib.hid (bw_call HB4.out hb)
    clear hb GA4 GW4 HB4 s0 s1
    unfold wv
    simp only
    obtain ⟨w6, hw6⟩ : ∃ w6, w6 = w5.alloc (.cells #[.int .i64 k, .int .i64 a, .int .i64 b] 41) := ⟨_, rfl⟩
    have GX6 : Hid (Blk w6 w5.heap.size 41 #[.int .i64 k, .int .i64 a, .int .i64 b]) := by subst hw6; exact Lib.hid (Blk.new _ _ _)
    have GW6 : Hid (Blk w6 gw 41 #[.int .i64 k, .int .i64 a, .int .i64 b]) := by subst hw6; exact Lib.hid (GW5.out.alloc _)
    have HB6 : Hid (Below w.heap.size w w6) := by subst hw6; exact Lib.hid (bw_alloc HB5.out _)
    go_upto_region 7 with (fail)
    rw [← hw6]
    generalize w5.heap.size = gx at *
    clear hw6 GW5 HB5
    obtain ⟨x0, x1, x2, _, _, _⟩ := wit_facts GX6.out
    obtain ⟨y0, y1, y2, _, _, _⟩ := wit_facts GW6.out
    have hw0 := run_eq_wit (k, a, b) (k, a, b)
    unfold wv at hw0
    simp only [decide_true] at hw0
    go_wp2_with fail
    go_ret
    exact ⟨rfl, HB6.out⟩
end Go.Proofs.Ytdmibpcpocacpaa
