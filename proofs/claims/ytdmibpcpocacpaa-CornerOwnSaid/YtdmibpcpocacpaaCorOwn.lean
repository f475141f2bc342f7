/- CornerOwn, walked. No condition. -/
import Derived.Test.YtdmibpcpocacpaaCorSoup
import Derived.Test.YtdmibpcpocacpaaCorNil
import Derived.Test.YtdmibpcpocacpaaWr10
namespace Go.Proofs.Ytdmibpcpocacpaa
open Go.RowKit

set_option linter.unusedSimpArgs false
set_option linter.unusedVariables false
theorem ne_edge10 (a b : Int) (w : World) : (binOp .neq 31 (.agg #[.int .i64 a, .int .i64 b]) (.agg #[.int .i64 a, .int .i64 b])).run Try.prog w = .ok (.bool false) w := by
  rw [run_neq_struct]
  show ((Op.equalIn (9998 + 1 + 1) _ _ _).run _ _).andThen _ = _
  unfold Op.equalIn
  simp [go_sem, Try.underlying3, Result.andThen, List.range']
attribute [local irreducible] Blk LRow World.alloc World.setCell World.cell? World.frozen? MapV
set_option maxRecDepth 100000 in
set_option maxHeartbeats 8000000 in
theorem ownLaw_any (N : Int) (A : Option Addr) (n c : Nat) (T : List Tri) (x ex ey : Int) (w : World) (ht : TrisAt w w.heap.size A n T) :
    Calls Try.prog 8 #[.agg #[.int .i64 N, .slice A n c], .int .i64 x, .agg #[.int .i64 ex, .int .i64 ey]] w (BoolPost w true) := by
  obtain rfl : n = T.length := ht.len.symm
  have HT := Lib.hid ht
  clear ht
  obtain ⟨i0, hi0, hz0, hz1, hz2⟩ := info_parts ltri_info
  obtain ⟨V, hV⟩ : ∃ V, V = (w.alloc (.cells #[.int .i64 N, .slice A T.length c] 24)).alloc (.cells #[.int .i64 ex, .int .i64 ey] 31) := ⟨_, rfl⟩
  have GA0 : Hid (Blk V w.heap.size 24 #[.int .i64 N, .slice A T.length c]) := by subst hV; exact Lib.hid ((Blk.new _ _ _).alloc _)
  have GE0 : Hid (Blk V (w.heap.size + 1) 31 #[.int .i64 ex, .int .i64 ey]) := by subst hV; exact Lib.hid (blk_new1 _ _ _ _)
  have HB0 : Hid (Below w.heap.size w V) := by subst hV; exact Lib.hid (bw_alloc (bw_alloc (Below.refl _ _) _) _)
  go_enter Try.func8, Try.ntmps8
  go_upto_region 1 with (fail)
  rw [← hV]
  clear hV
  obtain ⟨ga, hga⟩ : ∃ g, g = w.heap.size := ⟨_, rfl⟩
  obtain ⟨ge, hge⟩ : ∃ g, g = w.heap.size + 1 := ⟨_, rfl⟩
  rw [← hge] at GE0 ⊢
  rw [← hga] at GA0
  simp only [← hga]
  clear hga hge
  go_wp2_with fail
  refine (awake_any _).mono ?_
  rintro e w1 ⟨rfl, hb⟩
  have GA1 := Lib.hid (blk_call GA0.out hb)
  have GE1 := Lib.hid (blk_call GE0.out hb)
  have HB1 := Lib.hid (bw_call HB0.out hb)
  clear hb HB0 GA0 GE0
  go_wp2_with fail
  refine (soup_nil w1).mono ?_
  rintro e w2 ⟨rfl, hb⟩
  have GA2 := Lib.hid (blk_call GA1.out hb)
  have GE2 := Lib.hid (blk_call GE1.out hb)
  have HB2 := Lib.hid (bw_call HB1.out hb)
  clear hb HB1 GA1 GE1
  obtain ⟨w3, hw3⟩ : ∃ w3, w3 = w2.alloc (.cells #[.int .i64 0, .slice none 0 0] 24) := ⟨_, rfl⟩
  have GX3 : Hid (Blk w3 w2.heap.size 24 #[.int .i64 0, .slice none 0 0]) := by subst hw3; exact Lib.hid (Blk.new _ _ _)
  have GA3 : Hid (Blk w3 ga 24 #[.int .i64 N, .slice A T.length c]) := by subst hw3; exact Lib.hid (GA2.out.alloc _)
  have GE3 : Hid (Blk w3 ge 31 #[.int .i64 ex, .int .i64 ey]) := by subst hw3; exact Lib.hid (GE2.out.alloc _)
  have HB3 : Hid (Below w.heap.size w w3) := by subst hw3; exact Lib.hid (bw_alloc HB2.out _)
  go_upto_region 5 with (fail)
  rw [← hw3]
  generalize w2.heap.size = gx at *
  clear hw3 GA2 GE2 HB2
  have hne := ne_edge10 (-1) (-1)
  obtain ⟨x0, x1, _, _, _⟩ := soup_facts GX3.out
  go_wp2_with fail
  refine (tris_nil w3).mono ?_
  rintro e w4 ⟨rfl, rfl⟩
  clear x0 x1 GX3
  go_wp2_with fail
  refine (verts_nil _).mono ?_
  rintro e w5 ⟨rfl, rfl⟩
  go_wp2_with fail
  refine (vertex_nil x _).mono ?_
  rintro e w6 ⟨rfl, rfl⟩
  go_wp2_with fail
  refine (next_nil x _).mono ?_
  rintro e w7 ⟨rfl, rfl⟩
  go_wp2_with fail
  refine (prev_nil x _).mono ?_
  rintro e w8 ⟨rfl, rfl⟩
  go_wp2_with fail
  refine (opp_nil x _).mono ?_
  rintro e w9 ⟨rfl, hb⟩
  have GA9 := Lib.hid (blk_call GA3.out hb)
  have GE9 := Lib.hid (blk_call GE3.out hb)
  have HB9 := Lib.hid (bw_call HB3.out hb)
  clear hb HB3 GA3 GE3
  go_wp2_with fail
  refine (edge_nil x _).mono ?_
  rintro e w10 ⟨rfl, hb⟩
  have GA10 := Lib.hid (blk_call GA9.out hb)
  have GE10 := Lib.hid (blk_call GE9.out hb)
  have HB10 := Lib.hid (bw_call HB9.out hb)
  clear hb HB9 GA9 GE9
  obtain ⟨e0, e1, _, _⟩ := edge_facts GE10.out
  go_wp2_with fail
  refine (facing_nil ex ey _).mono ?_
  rintro e w11 ⟨rfl, hb⟩
  have GA11 := Lib.hid (blk_call GA10.out hb)
  have HB11 := Lib.hid (bw_call HB10.out hb)
  clear hb HB10 GA10 GE10 e0 e1
  go_wp2_with fail
  refine (corner_nil x _).mono ?_
  rintro e w12 ⟨rfl, rfl⟩
  obtain ⟨s0, s1, _, _, _⟩ := soup_facts GA11.out
  go_wp2_with fail
  refine (great10_any N A T.length c _).mono ?_
  rintro e w2 ⟨rfl, hb⟩
  have GA2 := Lib.hid (blk_call GA11.out hb)
  have HB2 := Lib.hid (bw_call HB11.out hb)
  clear hb HB11 GA11 s0 s1 hne
  by_cases hbig : bigS N T.length
  · rw [if_pos hbig]
    clear hbig
    go_wp2_with fail
    go_ret
    exact ⟨rfl, HB2.out⟩
  rw [if_neg hbig]
  have hT8 : T.length ≤ 8192 := by unfold bigS at hbig; omega
  have hn40 : T.length ≤ 40 := by unfold bigS at hbig; omega
  clear hbig
  go_upto_region 9 with (fail)
  go_cut [9] (fun pv wx => ∃ gw Aw cw, pv = .pointer (some ⟨gw, 0, none⟩) ∧ Hid (Blk wx gw 24 #[.int .i64 N, .slice Aw T.length cw]) ∧ Hid (LRow wx w.heap.size Aw cw T) ∧ Hid (Blk wx ga 24 #[.int .i64 N, .slice A T.length c]) ∧ Hid (Below w.heap.size w wx))
  case first =>
    refine wp_region_held_drew (S := fun w' => w'.cell? ⟨ga, 0, none⟩ = some (.int .i64 N) ∧ w'.cell? ⟨ga, 1, none⟩ = some (.slice A T.length c)) (by kernel_rfl) ⟨(soup_facts GA2.out.drew).1, (soup_facts GA2.out.drew).2.1⟩ (fun hHeld => ?_)
    refine held_take (i := 0) (v := ?v114) rfl (by kernel_rfl) (by kernel_rfl) (by kernel_rfl) (fun _ _ _ h => h) (Or.inl ⟨by rfl, ?hy114⟩) (by assumption) ?rest114
    case hy114 => (intro w hSw; (try dsimp only at hSw); go_simp; try with_reducible rfl)
    (try simp only [Act.put, List.setIfInBounds_toArray, List.set_cons_zero, List.set_cons_succ])
    refine held_take (i := 1) (v := ?v115) rfl (by kernel_rfl) (by kernel_rfl) (by kernel_rfl) (fun _ _ _ h => h) (Or.inl ⟨by rfl, ?hy115⟩) (by assumption) ?rest115
    case hy115 => (intro w hSw; (try dsimp only at hSw); go_simp; try with_reducible rfl)
    (try simp only [Act.put, List.setIfInBounds_toArray, List.set_cons_zero, List.set_cons_succ])
    refine held_take (i := 3) (v := ?v116) rfl (by kernel_rfl) (by kernel_rfl) (by kernel_rfl) (fun _ _ _ h => h) (Or.inl ⟨by rfl, ?hy116⟩) (by assumption) ?rest116
    case hy116 => (intro w hSw; (try dsimp only at hSw); go_simp; try with_reducible rfl)
    (try simp only [Act.put, List.setIfInBounds_toArray, List.set_cons_zero, List.set_cons_succ])
    refine held_take (i := 4) (v := ?v117) rfl (by kernel_rfl) (by kernel_rfl) (by kernel_rfl) (fun _ _ _ h => h) (Or.inl ⟨by rfl, ?hy117⟩) (by assumption) ?rest117
    case hy117 => (intro w hSw; (try dsimp only at hSw); go_simp; try with_reducible rfl)
    (try simp only [Act.put, List.setIfInBounds_toArray, List.set_cons_zero, List.set_cons_succ])
    refine wpAnyH_ready (rs := [2, 7]) (by kernel_rfl) (by simp) ?_
    refine held_cons rfl (fun K hK => ?_) ?_
    · go_simp
      refine hK.out _ _ ?_ (fun hHeld => ?_)
      · exact ⟨(soup_facts (GA2.out.alloc _).drew).1, (soup_facts (GA2.out.alloc _).drew).2.1⟩
      clear hK K
      (try simp only [Act.put, List.setIfInBounds_toArray, List.set_cons_zero, List.set_cons_succ])
      refine wpAnyH_ready (rs := [5, 7]) (by kernel_rfl) (by simp) ?_
      refine held_cons rfl (fun K hK => ?_) ?_
      · refine step_append_sl _ (by rfl) (.tmp 86) (.tmp 88) _ (by rfl) w.heap.size 50 i0 _ 3 24 Try.underlying22 hi0 hz0 hz1 hz2 rfl (by omega) (.slice (some ⟨w2.heap.size, 0, none⟩) 0 0) 0 [] (by rfl) (own0 ((Blk.new w2 50 #[]).drew) (by have := HB2.out.size; omega)) w.heap.size A T.length c (T.flatMap Tri.cells) (by rfl) (HT.out.below (bw_drew (bw_alloc HB2.out _))).row (tris_one8 T) (by simp only [maxLen]; omega) (by omega) (bw_size (bw_drew (bw_alloc HB2.out _))) ?_
        intro A5 c5 w5 hown5 hg5 hat5
        simp only [Nat.zero_add, List.nil_append] at hown5 ⊢
        have GA5 := ((GA2.out.alloc _).drew).grown hg5 (fun e => by simp [Value.ownBlock] at e; have := GA2.out.lt; omega)
        have HB5 : Below w.heap.size w w5 := bw_grow (bw_drew (bw_alloc HB2.out _)) hg5 (fun k hk => by simp [Value.ownBlock] at hk; have := HB2.out.size; omega)
        have R5 : LRow w5 w.heap.size A5 c5 T := lrow_of hown5 rfl rfl
        refine hK.out _ _ ?_ (fun hHeld => ?_)
        · exact ⟨(soup_facts GA5).1, (soup_facts GA5).2.1⟩
        clear hK K
        (try simp only [Act.put, List.setIfInBounds_toArray, List.set_cons_zero, List.set_cons_succ])
        refine held_take (i := 6) (v := ?v118) rfl (by kernel_rfl) (by kernel_rfl) (by kernel_rfl) (fun _ _ _ h => h) (Or.inl ⟨by rfl, ?hy118⟩) (by assumption) ?rest118
        case hy118 => (intro w hSw; (try dsimp only at hSw); go_simp; try with_reducible rfl)
        (try simp only [Act.put, List.setIfInBounds_toArray, List.set_cons_zero, List.set_cons_succ])
        refine wpAnyH_ready (rs := [7]) (by kernel_rfl) (by simp) ?_
        refine held_cons rfl (fun K hK => ?_) ?_
        · go_simp
          refine hK.out _ _ ?_ (fun hHeld => ?_)
          · exact ⟨(soup_facts (GA5.alloc _)).1, (soup_facts (GA5.alloc _)).2.1⟩
          clear hK K
          (try simp only [Act.put, List.setIfInBounds_toArray, List.set_cons_zero, List.set_cons_succ])
          refine wpAnyH_ready (rs := [8]) (by kernel_rfl) (by simp) ?_
          refine held_cons rfl (fun K hK => ?_) ?_
          · go_simp
            refine hK.out _ _ ?_ (fun hHeld => ?_)
            · exact ⟨(soup_facts (GA5.alloc _)).1, (soup_facts (GA5.alloc _)).2.1⟩
            clear hK K
            (try simp only [Act.put, List.setIfInBounds_toArray, List.set_cons_zero, List.set_cons_succ])
            refine wpAnyH_done (by kernel_rfl) ?_ _
            go_wp2_with fail
            go_meet
            exact ⟨w5.heap.size, A5, c5, rfl, Lib.hid (Blk.new _ _ _), Lib.hid (R5.alloc _), Lib.hid (GA5.alloc _), Lib.hid (bw_alloc HB5 _)⟩
          exact AllReadyH.nil
        exact AllReadyH.nil
      refine held_cons rfl (fun K hK => ?_) ?_
      · go_simp
        refine hK.out _ _ ?_ (fun hHeld => ?_)
        · exact ⟨(soup_facts ((GA2.out.alloc _).alloc _).drew).1, (soup_facts ((GA2.out.alloc _).alloc _).drew).2.1⟩
        clear hK K
        (try simp only [Act.put, List.setIfInBounds_toArray, List.set_cons_zero, List.set_cons_succ])
        refine wpAnyH_ready (rs := [5]) (by kernel_rfl) (by simp) ?_
        refine held_cons rfl (fun K hK => ?_) ?_
        · refine step_append_sl _ (by rfl) (.tmp 86) (.tmp 88) _ (by rfl) w.heap.size 50 i0 _ 3 24 Try.underlying22 hi0 hz0 hz1 hz2 rfl (by omega) (.slice (some ⟨w2.heap.size, 0, none⟩) 0 0) 0 [] (by rfl) (own0 (((Blk.new w2 50 #[]).alloc _).drew) (by have := HB2.out.size; omega)) w.heap.size A T.length c (T.flatMap Tri.cells) (by rfl) (HT.out.below (bw_drew (bw_alloc (bw_alloc HB2.out _) _))).row (tris_one8 T) (by simp only [maxLen]; omega) (by omega) (bw_size (bw_drew (bw_alloc (bw_alloc HB2.out _) _))) ?_
          intro A5 c5 w5 hown5 hg5 hat5
          simp only [Nat.zero_add, List.nil_append] at hown5 ⊢
          have GA5 := (((GA2.out.alloc _).alloc _).drew).grown hg5 (fun e => by simp [Value.ownBlock] at e; have := GA2.out.lt; omega)
          have HB5 : Below w.heap.size w w5 := bw_grow (bw_drew (bw_alloc (bw_alloc HB2.out _) _)) hg5 (fun k hk => by simp [Value.ownBlock] at hk; have := HB2.out.size; omega)
          have R5 : LRow w5 w.heap.size A5 c5 T := lrow_of hown5 rfl rfl
          have GW5 : Blk w5 (w2.heap.size + 1) 24 #[.int .i64 0, .slice none 0 0] := ((blk_new1 w2 _ _ _).drew).grown hg5 (fun e => by simp [Value.ownBlock] at e)
          refine hK.out _ _ ?_ (fun hHeld => ?_)
          · exact ⟨(soup_facts GA5).1, (soup_facts GA5).2.1⟩
          clear hK K
          (try simp only [Act.put, List.setIfInBounds_toArray, List.set_cons_zero, List.set_cons_succ])
          refine held_take (i := 6) (v := ?v119) rfl (by kernel_rfl) (by kernel_rfl) (by kernel_rfl) (fun _ _ _ h => h) (Or.inl ⟨by rfl, ?hy119⟩) (by assumption) ?rest119
          case hy119 => (intro w hSw; (try dsimp only at hSw); go_simp; try with_reducible rfl)
          (try simp only [Act.put, List.setIfInBounds_toArray, List.set_cons_zero, List.set_cons_succ])
          obtain ⟨z0, z1, z2, z3, _⟩ := soup_facts GW5
          refine wpAnyH_ready (rs := [8]) (by kernel_rfl) (by simp) ?_
          refine held_cons rfl (fun K hK => ?_) ?_
          · go_simp
            refine hK.out _ _ ?_ (fun hHeld => ?_)
            · exact ⟨(soup_facts ((GA5.far (show ga ≠ w2.heap.size + 1 by have := GA2.out.lt; omega) _).far (show ga ≠ w2.heap.size + 1 by have := GA2.out.lt; omega) _)).1, (soup_facts ((GA5.far (show ga ≠ w2.heap.size + 1 by have := GA2.out.lt; omega) _).far (show ga ≠ w2.heap.size + 1 by have := GA2.out.lt; omega) _)).2.1⟩
            clear hK K
            (try simp only [Act.put, List.setIfInBounds_toArray, List.set_cons_zero, List.set_cons_succ])
            refine wpAnyH_done (by kernel_rfl) ?_ _
            go_wp2_with fail
            go_meet
            exact ⟨w2.heap.size + 1, A5, c5, rfl, Lib.hid (soup_set0 GW5 _ _), Lib.hid (R5.soup_set0 GW5 _ _), Lib.hid ((GA5.far (show ga ≠ w2.heap.size + 1 by have := GA2.out.lt; omega) _).far (show ga ≠ w2.heap.size + 1 by have := GA2.out.lt; omega) _), Lib.hid (bw_set (bw_set HB5 (show w.heap.size ≤ w2.heap.size + 1 by have := HB2.out.size; omega) _) (show w.heap.size ≤ w2.heap.size + 1 by have := HB2.out.size; omega) _)⟩
          exact AllReadyH.nil
        exact AllReadyH.nil
      exact AllReadyH.nil
    refine held_cons rfl (fun K hK => ?_) ?_
    · go_simp
      refine hK.out _ _ ?_ (fun hHeld => ?_)
      · exact ⟨(soup_facts (GA2.out.alloc _).drew).1, (soup_facts (GA2.out.alloc _).drew).2.1⟩
      clear hK K
      (try simp only [Act.put, List.setIfInBounds_toArray, List.set_cons_zero, List.set_cons_succ])
      refine wpAnyH_ready (rs := [2]) (by kernel_rfl) (by simp) ?_
      refine held_cons rfl (fun K hK => ?_) ?_
      · go_simp
        refine hK.out _ _ ?_ (fun hHeld => ?_)
        · exact ⟨(soup_facts ((GA2.out.alloc _).alloc _).drew).1, (soup_facts ((GA2.out.alloc _).alloc _).drew).2.1⟩
        clear hK K
        (try simp only [Act.put, List.setIfInBounds_toArray, List.set_cons_zero, List.set_cons_succ])
        refine wpAnyH_ready (rs := [5]) (by kernel_rfl) (by simp) ?_
        refine held_cons rfl (fun K hK => ?_) ?_
        · refine step_append_sl _ (by rfl) (.tmp 86) (.tmp 88) _ (by rfl) w.heap.size 50 i0 _ 3 24 Try.underlying22 hi0 hz0 hz1 hz2 rfl (by omega) (.slice (some ⟨w2.heap.size + 1, 0, none⟩) 0 0) 0 [] (by rfl) (own0 ((blk_new1 w2 _ 50 #[]).drew) (by have := HB2.out.size; omega)) w.heap.size A T.length c (T.flatMap Tri.cells) (by rfl) (HT.out.below (bw_drew (bw_alloc (bw_alloc HB2.out _) _))).row (tris_one8 T) (by simp only [maxLen]; omega) (by omega) (bw_size (bw_drew (bw_alloc (bw_alloc HB2.out _) _))) ?_
          intro A5 c5 w5 hown5 hg5 hat5
          simp only [Nat.zero_add, List.nil_append] at hown5 ⊢
          have GA5 := (((GA2.out.alloc _).alloc _).drew).grown hg5 (fun e => by simp [Value.ownBlock] at e; have := GA2.out.lt; omega)
          have HB5 : Below w.heap.size w w5 := bw_grow (bw_drew (bw_alloc (bw_alloc HB2.out _) _)) hg5 (fun k hk => by simp [Value.ownBlock] at hk; have := HB2.out.size; omega)
          have R5 : LRow w5 w.heap.size A5 c5 T := lrow_of hown5 rfl rfl
          have GW5 : Blk w5 w2.heap.size 24 #[.int .i64 0, .slice none 0 0] := (((Blk.new w2 _ _).alloc _).drew).grown hg5 (fun e => by simp [Value.ownBlock] at e)
          refine hK.out _ _ ?_ (fun hHeld => ?_)
          · exact ⟨(soup_facts GA5).1, (soup_facts GA5).2.1⟩
          clear hK K
          (try simp only [Act.put, List.setIfInBounds_toArray, List.set_cons_zero, List.set_cons_succ])
          refine held_take (i := 6) (v := ?v120) rfl (by kernel_rfl) (by kernel_rfl) (by kernel_rfl) (fun _ _ _ h => h) (Or.inl ⟨by rfl, ?hy120⟩) (by assumption) ?rest120
          case hy120 => (intro w hSw; (try dsimp only at hSw); go_simp; try with_reducible rfl)
          (try simp only [Act.put, List.setIfInBounds_toArray, List.set_cons_zero, List.set_cons_succ])
          obtain ⟨z0, z1, z2, z3, _⟩ := soup_facts GW5
          refine wpAnyH_ready (rs := [8]) (by kernel_rfl) (by simp) ?_
          refine held_cons rfl (fun K hK => ?_) ?_
          · go_simp
            refine hK.out _ _ ?_ (fun hHeld => ?_)
            · exact ⟨(soup_facts ((GA5.far (Nat.ne_of_lt GA2.out.lt) _).far (Nat.ne_of_lt GA2.out.lt) _)).1, (soup_facts ((GA5.far (Nat.ne_of_lt GA2.out.lt) _).far (Nat.ne_of_lt GA2.out.lt) _)).2.1⟩
            clear hK K
            (try simp only [Act.put, List.setIfInBounds_toArray, List.set_cons_zero, List.set_cons_succ])
            refine wpAnyH_done (by kernel_rfl) ?_ _
            go_wp2_with fail
            go_meet
            exact ⟨w2.heap.size, A5, c5, rfl, Lib.hid (soup_set0 GW5 _ _), Lib.hid (R5.soup_set0 GW5 _ _), Lib.hid ((GA5.far (Nat.ne_of_lt GA2.out.lt) _).far (Nat.ne_of_lt GA2.out.lt) _), Lib.hid (bw_set (bw_set HB5 HB2.out.size _) HB2.out.size _)⟩
          exact AllReadyH.nil
        exact AllReadyH.nil
      exact AllReadyH.nil
    exact AllReadyH.nil
  case rest =>
    obtain ⟨gw, Aw, cw, rfl, GW3, RW3, GA3, HB3⟩ := hcut
    obtain ⟨w3, hw3⟩ : ∃ w3 : World, w3 = wc := ⟨_, rfl⟩
    rw [← hw3] at GW3 RW3 GA3 HB3 ⊢
    clear hw3 GA2 HB2
    obtain ⟨s0, s1, _, _, _⟩ := soup_facts GW3.out
    go_wp2_with fail
    refine (new_any N Aw T.length cw T w3 (by omega) RW3.out.tris).mono ?_
    rintro e w4 (⟨hx, g, rfl, htab, hb⟩ | ⟨hx, rfl, hb⟩)
    rotate_left
    · have HB4 := Lib.hid (bw_call HB3.out hb)
      clear hb hx GA3 GW3 RW3 HB3 s0 s1
      generalize checkR N T = r at *
      unfold wv
      simp only
      go_wp2_with fail
      go_ret
      exact ⟨rfl, bw_alloc HB4.out _⟩
    have GA4 := Lib.hid (blk_call GA3.out hb)
    have GW4 := Lib.hid (blk_call GW3.out hb)
    have HB4 := Lib.hid (bw_call HB3.out hb)
    have TB4 : Hid (TabAt w4 w3.heap.size g N T) := Lib.hid htab
    have WR4 : Hid (Wr 50 3 w4 w.heap.size Aw T.length) := Lib.hid ((wr_tri RW3.out).below hb)
    have HLT : Hid (∀ b, Aw = some ⟨b, 0, none⟩ → 0 < T.length → b < w3.heap.size) := Lib.hid (fun b hb h0 => by
      subst hb
      exact RW3.out.top)
    clear hb htab hx GA3 GW3 HB3 s0 s1
    unfold wv
    simp only
    obtain ⟨w5, hw5⟩ : ∃ w5, w5 = w4.alloc (.cells #[.int .i64 0, .int .i64 0, .int .i64 0] 41) := ⟨_, rfl⟩
    have GA5 : Hid (Blk w5 ga 24 #[.int .i64 N, .slice A T.length c]) := by subst hw5; exact Lib.hid (GA4.out.alloc _)
    have GW5 : Hid (Blk w5 gw 24 #[.int .i64 N, .slice Aw T.length cw]) := by subst hw5; exact Lib.hid (GW4.out.alloc _)
    have TB5 : Hid (TabAt w5 w3.heap.size g N T) := by subst hw5; exact Lib.hid (TB4.out.alloc _)
    have WR5 : Hid (Wr 50 3 w5 w.heap.size Aw T.length) := by subst hw5; exact Lib.hid (WR4.out.alloc _)
    have HB5 : Hid (Below w.heap.size w w5) := by subst hw5; exact Lib.hid (bw_alloc HB4.out _)
    go_upto_region 11 with (fail)
    rw [← hw5]
    generalize w3.heap.size = B3 at *
    clear hw5 GA4 GW4 TB4 WR4 HB4 RW3
    obtain ⟨s0, s1, _, _, _⟩ := soup_facts GW5.out
    go_wp2_with fail
    clear s0 s1
    go_loopw [101] (fun iv wr => ∃ i : Nat, i ≤ T.length ∧ iv = .int .i64 i ∧ Hid (Blk wr ga 24 #[.int .i64 N, .slice A T.length c]) ∧ Hid (Blk wr gw 24 #[.int .i64 N, .slice Aw T.length cw]) ∧ Hid (TabAt wr B3 g N T) ∧ Hid (Wr 50 3 wr w.heap.size Aw T.length) ∧ Hid (Below w.heap.size w wr)) (fun iv _ => T.length - (intOf iv).toNat)
    case atStart => exact ⟨0, by omega, rfl, GA5, GW5, TB5, WR5, HB5⟩
    case round =>
      obtain ⟨i, hi, rfl, GAi, GWi, TBi, WRi, HBi⟩ := hrel
      obtain ⟨wC, hwC⟩ : ∃ wC : World, wC = wr := ⟨_, rfl⟩
      rw [← hwC] at GAi GWi TBi WRi HBi ⊢
      clear hwC GA5 GW5 TB5 WR5 HB5
      obtain ⟨x0, x1, _, _, _⟩ := soup_facts GWi.out
      by_cases hlt : i < T.length
      · obtain ⟨b, cs, eA, hBg, hgs, hsz⟩ := WRi.out (by omega)
        have hbl := HLT.out b eA (by omega)
        have h3 : (i + 1) * 3 ≤ T.length * 3 := Nat.mul_le_mul_right _ (by omega)
        have TBn := Lib.hid (TBi.out.setLow3 hgs (i := i * 3) (by omega) hbl (.int .i64 0) (.int .i64 0) (.int .i64 0))
        obtain ⟨b', eA', _, _, hcells, hfr⟩ := WRi.out.at_ hlt
        rw [eA] at eA'
        injection eA' with eA'
        injection eA' with eA' _ _
        subst eA'
        obtain ⟨u0, e0⟩ := hcells 0 (by omega)
        obtain ⟨u1, e1⟩ := hcells 1 (by omega)
        obtain ⟨u2, e2⟩ := hcells 2 (by omega)
        rw [Nat.add_zero] at e0
        have f0 := hfr (i * 3)
        have f1 := hfr (i * 3 + 1)
        have f2 := hfr (i * 3 + 2)
        have HNA := Lib.hid (GAi.out.ne_ hgs (by decide))
        have HNW := Lib.hid (GWi.out.ne_ hgs (by decide))
        have hii0 : (0 : Int) ≤ (i : Int) := by omega
        have hii1 : (i : Int) < (T.length : Int) := by omega
        have HBb := Lib.hid hBg
        clear hcells hfr hgs hsz hbl h3 hBg
        subst eA
        go_wp2_with fail
        exact ⟨⟨i + 1, by omega, by go_num, Lib.hid (((GAi.out.far HNA.out _).far HNA.out _).far HNA.out _), Lib.hid (((GWi.out.far HNW.out _).far HNW.out _).far HNW.out _), TBn, Lib.hid (((WRi.out.set _ _ _).set _ _ _).set _ _ _), Lib.hid (bw_set (bw_set (bw_set HBi.out HBb.out _) HBb.out _) HBb.out _)⟩, by simp [intOf]; omega⟩
      · obtain rfl : i = T.length := by omega
        go_upto_region 18 with (fail)
        clear x0 x1 GWi WRi HLT
        go_wp2_with fail
        refine (soupT_any g B3 N T wC hT8 TBi.out.s).mono ?_
        rintro e w6 ⟨A1, c1, rfl, hr, hb⟩
        have GA6 := Lib.hid (blk_call GAi.out hb)
        have TB6 := Lib.hid (TBi.out.below hb)
        have HB6 := Lib.hid (bw_call HBi.out hb)
        have HC6 : Hid (Below wC.heap.size wC w6) := Lib.hid hb
        have WS6 : Hid (Wr 50 3 w6 wC.heap.size A1 T.length) := Lib.hid (wr_tri hr)
        clear hb hr
        obtain ⟨w7, hw7⟩ : ∃ w7, w7 = w6.alloc (.cells #[.int .i64 N, .slice A1 T.length c1] 24) := ⟨_, rfl⟩
        have GT7 : Hid (Blk w7 w6.heap.size 24 #[.int .i64 N, .slice A1 T.length c1]) := by subst hw7; exact Lib.hid (Blk.new _ _ _)
        have HC7 : Hid (Below wC.heap.size wC w7) := by subst hw7; exact Lib.hid (bw_alloc HC6.out _)
        have WS7 : Hid (Wr 50 3 w7 wC.heap.size A1 T.length) := by subst hw7; exact Lib.hid (WS6.out.alloc _)
        go_upto_region 19 with (fail)
        rw [← hw7]
        generalize w6.heap.size = gt at *
        clear hw7 GA6 TB6 HB6 HC6 WS6
        obtain ⟨s0, s1, _, _, _⟩ := soup_facts GT7.out
        go_wp2_with fail
        clear s0 s1
        go_loopw [115] (fun iv wr => ∃ i : Nat, i ≤ T.length ∧ iv = .int .i64 i ∧ Hid (Blk wr gt 24 #[.int .i64 N, .slice A1 T.length c1]) ∧ Hid (Wr 50 3 wr wC.heap.size A1 T.length) ∧ Hid (Below wC.heap.size wC wr)) (fun iv _ => T.length - (intOf iv).toNat)
        case atStart => exact ⟨0, by omega, rfl, GT7, WS7, HC7⟩
        case round =>
          obtain ⟨j, hj, rfl, GTj, WSj, HCj⟩ := hrel
          obtain ⟨wD, hwD⟩ : ∃ wD : World, wD = wr := ⟨_, rfl⟩
          rw [← hwD] at GTj WSj HCj ⊢
          clear hwD GT7 WS7 HC7
          obtain ⟨x0, x1, _, _, _⟩ := soup_facts GTj.out
          by_cases hlt : j < T.length
          · obtain ⟨b, eA, hBg, ⟨cs, hgs⟩, hcells, hfr⟩ := WSj.out.at_ hlt
            obtain ⟨u0, e0⟩ := hcells 0 (by omega)
            obtain ⟨u1, e1⟩ := hcells 1 (by omega)
            obtain ⟨u2, e2⟩ := hcells 2 (by omega)
            rw [Nat.add_zero] at e0
            have f0 := hfr (j * 3)
            have f1 := hfr (j * 3 + 1)
            have f2 := hfr (j * 3 + 2)
            have HNT := Lib.hid (GTj.out.ne_ hgs (by decide))
            have hii0 : (0 : Int) ≤ (j : Int) := by omega
            have hii1 : (j : Int) < (T.length : Int) := by omega
            have HBb := Lib.hid hBg
            clear hcells hfr hgs hBg
            subst eA
            go_wp2_with fail
            exact ⟨⟨j + 1, by omega, by go_num, Lib.hid (((GTj.out.far HNT.out _).far HNT.out _).far HNT.out _), Lib.hid (((WSj.out.set _ _ _).set _ _ _).set _ _ _), Lib.hid (bw_set (bw_set (bw_set HCj.out HBb.out _) HBb.out _) HBb.out _)⟩, by simp [intOf]; omega⟩
          · obtain rfl : j = T.length := by omega
            go_upto_region 24 with (fail)
            have GAwE := Lib.hid (blk_call GAi.out HCj.out)
            have TBwE : Hid (TabAt wD 0 g N T) := Lib.hid ((TBi.out.below HCj.out).base (Nat.zero_le _))
            have HBwE := Lib.hid (bw_call HBi.out HCj.out)
            obtain ⟨wE, hwE⟩ : ∃ wE : World, wE = wD := ⟨_, rfl⟩
            rw [← hwE] at GAwE TBwE HBwE ⊢
            clear hwE GTj WSj HCj GAi TBi HBi x0 x1
            refine wp_region_till (S := fun w' => w'.cell? ⟨ga, 0, none⟩ = some (.int .i64 N) ∧ w'.cell? ⟨ga, 1, none⟩ = some (.slice A T.length c)) 4 (by kernel_rfl) ⟨(soup_facts GAwE.out.drew).1, (soup_facts GAwE.out.drew).2.1⟩ (fun hHeld => ?_)
            refine Till.take (i := 0) (v := ?vt55) rfl (by kernel_rfl) (by kernel_rfl) (by kernel_rfl) (by kernel_rfl) (fun _ _ _ h => h) (Or.inl ⟨by rfl, ?ht55⟩) (by assumption) ?restt55
            case ht55 => (intro w hSw; (try dsimp only at hSw); go_simp; try with_reducible rfl)
            (try simp only [Act.put, List.setIfInBounds_toArray, List.set_cons_zero, List.set_cons_succ])
            refine Till.take (i := 2) (v := ?vt56) rfl (by kernel_rfl) (by kernel_rfl) (by kernel_rfl) (by kernel_rfl) (fun _ _ _ h => h) (Or.inl ⟨by rfl, ?ht56⟩) (by assumption) ?restt56
            case ht56 => (intro w hSw; (try dsimp only at hSw); go_simp; try with_reducible rfl)
            (try simp only [Act.put, List.setIfInBounds_toArray, List.set_cons_zero, List.set_cons_succ])
            refine Till.ready (rs := [1]) (by kernel_rfl) (by simp) ?_
            refine TillEach.cons rfl (fun K hK => ?_) ?_
            · go_simp
              go_wp2_with (go_at_call 34; refine (soupT_any g 0 N T wE.drew hT8 TBwE.out.drew.s).mono ?_; rintro e v20 ⟨A3, c3, rfl, hr, hb⟩)
              have GAv20 := Lib.hid (blk_call GAwE.out.drew hb)
              have TBv20 := Lib.hid (TBwE.out.drew.below hb)
              have RAv20 : Hid (LRow v20 0 A3 c3 T) := Lib.hid (LRow.base hr (Nat.zero_le _))
              clear hr
              have HBv20 := Lib.hid (bw_call (bw_drew HBwE.out) hb)
              clear hb
              refine hK.out _ _ ?_ (fun hHeld => ?_)
              · exact ⟨(soup_facts GAv20.out).1, (soup_facts GAv20.out).2.1⟩
              clear hK K
              (try simp only [Act.put, List.setIfInBounds_toArray, List.set_cons_zero, List.set_cons_succ])
              refine Till.ready (rs := [3]) (by kernel_rfl) (by simp) ?_
              refine TillEach.cons rfl (fun K hK => ?_) ?_
              · go_simp
                go_wp2_with (go_at_call 33; refine (refSame10_any N T A3 A T.length c3 c v20 (by omega) RAv20.out.tris ((HT.out.below HBv20.out).more HBv20.out.size)).mono ?_; rintro e v21 ⟨rfl, hb⟩)
                have GAv21 := Lib.hid (blk_call GAv20.out hb)
                have TBv21 := Lib.hid (TBv20.out.below hb)
                have RAv21 := Lib.hid (RAv20.out.below hb)
                have HBv21 := Lib.hid (bw_call HBv20.out hb)
                clear hb GAv20 TBv20 RAv20 HBv20
                refine hK.out _ _ ?_ (fun hHeld => ?_)
                · exact ⟨(soup_facts GAv21.out).1, (soup_facts GAv21.out).2.1⟩
                clear hK K
                (try simp only [Act.put, List.setIfInBounds_toArray, List.set_cons_zero, List.set_cons_succ])
                refine Till.ready (rs := [4]) (by kernel_rfl) (by simp) ?_
                refine TillEach.last rfl (fun K hK => ?_)
                · go_simp
                  refine hK.out _ _ ?_
                  clear hK K
                  (try simp only [Act.put, List.setIfInBounds_toArray, List.set_cons_zero, List.set_cons_succ])
                  refine Till.done (by kernel_rfl) ?_ _
                  go_wp2_with fail
                  go_ret
                  exact ⟨rfl, HBv21.out⟩
              exact TillEach.nil
            exact TillEach.nil
end Go.Proofs.Ytdmibpcpocacpaa
