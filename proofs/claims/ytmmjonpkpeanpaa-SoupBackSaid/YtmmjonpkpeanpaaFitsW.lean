/- SoupFits, walked. No condition. -/
import Derived.Test.YtmmjonpkpeanpaaSame8
import Derived.Test.YtmmjonpkpeanpaaRefMir8
namespace Go.Proofs.Ytmmjonpkpeanpaa
open Go.RowKit

set_option linter.unusedSimpArgs false
set_option linter.unusedVariables false
attribute [local irreducible] Blk LRow IRow World.alloc World.setCell World.cell? World.frozen?
theorem run_eq_bool (b : Bool) (w : World) : (binOp .eql 4 (.bool b) (.bool b)).run Try.prog w = .ok (.bool true) w := by
  cases b <;> kernel_rfl
set_option maxRecDepth 100000 in
set_option maxHeartbeats 8000000 in
theorem fitsLaw_any (N : Int) (A : Option Addr) (n c : Nat) (T : List Tri) (M : Int) (A' : Option Addr) (n' c' : Nat) (X : List Tri) (w : World) (ht : TrisAt w w.heap.size A n T) (hu : TrisAt w w.heap.size A' n' X) :
    Calls Try.prog 6 #[.agg #[.int .i64 N, .slice A n c], .agg #[.int .i64 M, .slice A' n' c']] w (BoolPost w true) := by
  obtain rfl : n = T.length := ht.len.symm
  obtain rfl : n' = X.length := hu.len.symm
  have HT := Lib.hid ht
  have HU := Lib.hid hu
  clear ht hu
  go_enter Try.func6, Try.ntmps6
  go_wp2_with fail
  obtain ⟨V, hV⟩ : ∃ V, V = (w.alloc (.cells #[.int .i64 N, .slice A T.length c] 24)).alloc (.cells #[.int .i64 M, .slice A' X.length c'] 24) := ⟨_, rfl⟩
  have GA0 : Hid (Blk V w.heap.size 24 #[.int .i64 N, .slice A T.length c]) := by subst hV; exact Lib.hid ((Blk.new _ _ _).alloc _)
  have GB0 : Hid (Blk V (w.heap.size + 1) 24 #[.int .i64 M, .slice A' X.length c']) := by subst hV; exact Lib.hid (blk_new1 _ _ _ _)
  have HB : Hid (Below w.heap.size w V) := by subst hV; exact Lib.hid (bw_alloc (bw_alloc (Below.refl _ _) _) _)
  rw [← hV]
  clear hV
  obtain ⟨ga, hga⟩ : ∃ g, g = w.heap.size := ⟨_, rfl⟩
  obtain ⟨gb, hgb⟩ : ∃ g, g = w.heap.size + 1 := ⟨_, rfl⟩
  rw [← hgb] at GB0 ⊢
  rw [← hga] at GA0
  simp only [← hga]
  clear hga hgb
  refine (awake_any _).mono ?_
  rintro e w1 ⟨rfl, hb⟩
  have GA1 := Lib.hid (blk_call GA0.out hb)
  have GB1 := Lib.hid (blk_call GB0.out hb)
  have HB1 := Lib.hid (bw_call HB.out hb)
  clear hb GA0 GB0 HB
  obtain ⟨s0, s1, _, _, _⟩ := soup_facts GA1.out
  go_wp2_with fail
  refine (great_any _ _ _ _ _).mono ?_
  rintro e wg ⟨rfl, hb⟩
  have GAg := Lib.hid (blk_call GA1.out hb)
  have GBg := Lib.hid (blk_call GB1.out hb)
  have HBg := Lib.hid (bw_call HB1.out hb)
  clear hb GA1 GB1 HB1 s0 s1
  by_cases hg : 40 < T.length
  · rw [decide_eq_true hg]
    go_wp2_with fail
    go_ret
    exact ⟨rfl, HBg.out⟩
  rw [decide_eq_false hg]
  obtain ⟨s0, s1, _, _, _⟩ := soup_facts GBg.out
  go_wp2_with fail
  refine (great_any _ _ _ _ _).mono ?_
  rintro e w2 ⟨rfl, hb⟩
  have GAw2 := Lib.hid (blk_call GAg.out hb)
  have GBw2 := Lib.hid (blk_call GBg.out hb)
  have HBw2 := Lib.hid (bw_call HBg.out hb)
  clear hb GAg GBg HBg s0 s1
  by_cases hg2 : 40 < X.length
  · rw [decide_eq_true hg2]
    go_wp2_with fail
    go_ret
    exact ⟨rfl, HBw2.out⟩
  rw [decide_eq_false hg2]
  have HC1 := Lib.hid (fun (W : World) (h : Below w.heap.size w W) => fits_any N A T.length c T W (by omega) ((HT.out.below h).more h.size))
  have HC2 := Lib.hid (fun (W : World) (h : Below w.heap.size w W) => refFits_any N A T.length c T W (by omega) ((HT.out.below h).more h.size))
  have HC3 := Lib.hid (fun (W : World) (h : Below w.heap.size w W) => soupSame_dec N M T X A A' T.length X.length c c' W (by omega) (by omega) ((HT.out.below h).more h.size) ((HU.out.below h).more h.size))
  have HC4 := Lib.hid (fun (W : World) (h : Below w.heap.size w W) => refSame_dec N M T X A A' T.length X.length c c' W (by omega) (by omega) ((HT.out.below h).more h.size) ((HU.out.below h).more h.size))
  have HC5 : Hid (∀ (W : World) (h : Below w.heap.size w W), Calls Try.prog 26 #[.agg #[.int .i64 N, .slice A T.length c], .agg #[.int .i64 N, .slice A T.length c]] W (BoolPost W true)) := Lib.hid (fun (W : World) (h : Below w.heap.size w W) => by
    have h1 := soupSame_dec N N T T A A T.length T.length c c W (by omega) (by omega) ((HT.out.below h).more h.size) ((HT.out.below h).more h.size)
    rwa [decide_eq_true ⟨rfl, rfl⟩] at h1)
  have HC6 := Lib.hid (fun (W : World) (h : Below w.heap.size w W) => mirror_any N A T.length c T W (by omega) ((HT.out.below h).more h.size))
  have HC7 := Lib.hid (fun (W : World) (h : Below w.heap.size w W) => refMirror_any N A T.length c T W (by omega) ((HT.out.below h).more h.size))
  have HC8 : Hid (∀ (W : World) {A1 A2 : Option Addr} {c1 c2 : Nat} (h1 : LRow W 0 A1 c1 (T.map mirT)) (h2 : LRow W 0 A2 c2 (T.map mirT)), Calls Try.prog 17 #[.agg #[.int .i64 N, .slice A1 T.length c1], .agg #[.int .i64 N, .slice A2 T.length c2]] W (BoolPost W true)) := Lib.hid fun W _ _ _ _ h1 h2 => refSame_any N (T.map mirT) _ _ T.length _ _ W (by omega) (by simpa using h1.tris) (by simpa using h2.tris)
  generalize fitL N T = b1 at *
  generalize decide (N = M ∧ T = X) = b2 at *
  have k1 := run_eq_bool b1
  have k2 := run_eq_bool b2
  go_wp2_with fail
  refine wp_region_till (S := fun w' => w'.cell? ⟨ga, 0, none⟩ = some (.int .i64 N) ∧ w'.cell? ⟨ga, 1, none⟩ = some (.slice A T.length c) ∧ w'.cell? ⟨gb, 0, none⟩ = some (.int .i64 M) ∧ w'.cell? ⟨gb, 1, none⟩ = some (.slice A' X.length c')) 26 (by kernel_rfl) ⟨(soup_facts GAw2.out.drew).1, (soup_facts GAw2.out.drew).2.1, (soup_facts GBw2.out.drew).1, (soup_facts GBw2.out.drew).2.1⟩ (fun hHeld => ?_)
  refine Till.take (i := 0) (v := ?vt1) rfl (by kernel_rfl) (by kernel_rfl) (by kernel_rfl) (by kernel_rfl) (fun _ _ _ h => h) (Or.inl ⟨by rfl, ?ht1⟩) (by assumption) ?restt1
  case ht1 => (intro w hSw; (try dsimp only at hSw); go_simp; try with_reducible rfl)
  (try simp only [Act.put, List.setIfInBounds_toArray, List.set_cons_zero, List.set_cons_succ])
  refine Till.take (i := 2) (v := ?vt2) rfl (by kernel_rfl) (by kernel_rfl) (by kernel_rfl) (by kernel_rfl) (fun _ _ _ h => h) (Or.inl ⟨by rfl, ?ht2⟩) (by assumption) ?restt2
  case ht2 => (intro w hSw; (try dsimp only at hSw); go_simp; try with_reducible rfl)
  (try simp only [Act.put, List.setIfInBounds_toArray, List.set_cons_zero, List.set_cons_succ])
  refine Till.ready (rs := [1]) (by kernel_rfl) (by simp) ?_
  refine TillEach.cons rfl (fun K hK => ?_) ?_
  · go_simp
    go_wp2_with (go_at_call 24; refine (HC1.out _ (bw_drew HBw2.out)).mono ?_; rintro e v3 ⟨rfl, hb⟩)
    have GAv3 := Lib.hid (blk_call GAw2.out.drew hb)
    have GBv3 := Lib.hid (blk_call GBw2.out.drew hb)
    have HBv3 := Lib.hid (bw_call (bw_drew HBw2.out) hb)
    clear hb
    refine hK.out _ _ ?_ (fun hHeld => ?_)
    · exact ⟨(soup_facts GAv3.out).1, (soup_facts GAv3.out).2.1, (soup_facts GBv3.out).1, (soup_facts GBv3.out).2.1⟩
    clear hK K
    (try simp only [Act.put, List.setIfInBounds_toArray, List.set_cons_zero, List.set_cons_succ])
    refine Till.ready (rs := [3]) (by kernel_rfl) (by simp) ?_
    refine TillEach.cons rfl (fun K hK => ?_) ?_
    · go_simp
      go_wp2_with (go_at_call 25; refine (HC2.out _ HBv3.out).mono ?_; rintro e v4 ⟨rfl, hb⟩)
      have GAv4 := Lib.hid (blk_call GAv3.out hb)
      have GBv4 := Lib.hid (blk_call GBv3.out hb)
      have HBv4 := Lib.hid (bw_call HBv3.out hb)
      clear hb
      refine hK.out _ _ ?_ (fun hHeld => ?_)
      · exact ⟨(soup_facts GAv4.out).1, (soup_facts GAv4.out).2.1, (soup_facts GBv4.out).1, (soup_facts GBv4.out).2.1⟩
      clear hK K
      (try simp only [Act.put, List.setIfInBounds_toArray, List.set_cons_zero, List.set_cons_succ])
      refine Till.take (i := 4) (v := ?vt3) rfl (by kernel_rfl) (by kernel_rfl) (by kernel_rfl) (by kernel_rfl) (fun _ _ _ h => h) (Or.inl ⟨by rfl, ?ht3⟩) (by assumption) ?restt3
      case ht3 => (intro w hSw; (try dsimp only at hSw); go_simp; try with_reducible rfl)
      (try simp only [Act.put, List.setIfInBounds_toArray, List.set_cons_zero, List.set_cons_succ])
      refine Till.take (i := 5) (v := ?vt4) rfl (by kernel_rfl) (by kernel_rfl) (by kernel_rfl) (by kernel_rfl) (fun _ _ _ h => h) (Or.inl ⟨by rfl, ?ht4⟩) (by assumption) ?restt4
      case ht4 => (intro w hSw; (try dsimp only at hSw); go_simp; try with_reducible rfl)
      (try simp only [Act.put, List.setIfInBounds_toArray, List.set_cons_zero, List.set_cons_succ])
      refine Till.take (i := 6) (v := ?vt5) rfl (by kernel_rfl) (by kernel_rfl) (by kernel_rfl) (by kernel_rfl) (fun _ _ _ h => h) (Or.inl ⟨by rfl, ?ht5⟩) (by assumption) ?restt5
      case ht5 => (intro w hSw; (try dsimp only at hSw); go_simp; try with_reducible rfl)
      (try simp only [Act.put, List.setIfInBounds_toArray, List.set_cons_zero, List.set_cons_succ])
      refine Till.take (i := 7) (v := ?vt6) rfl (by kernel_rfl) (by kernel_rfl) (by kernel_rfl) (by kernel_rfl) (fun _ _ _ h => h) (Or.inl ⟨by rfl, ?ht6⟩) (by assumption) ?restt6
      case ht6 => (intro w hSw; (try dsimp only at hSw); go_simp; try with_reducible rfl)
      (try simp only [Act.put, List.setIfInBounds_toArray, List.set_cons_zero, List.set_cons_succ])
      refine Till.take (i := 9) (v := ?vt7) rfl (by kernel_rfl) (by kernel_rfl) (by kernel_rfl) (by kernel_rfl) (fun _ _ _ h => h) (Or.inl ⟨by rfl, ?ht7⟩) (by assumption) ?restt7
      case ht7 => (intro w hSw; (try dsimp only at hSw); go_simp; try with_reducible rfl)
      (try simp only [Act.put, List.setIfInBounds_toArray, List.set_cons_zero, List.set_cons_succ])
      refine Till.take (i := 10) (v := ?vt8) rfl (by kernel_rfl) (by kernel_rfl) (by kernel_rfl) (by kernel_rfl) (fun _ _ _ h => h) (Or.inl ⟨by rfl, ?ht8⟩) (by assumption) ?restt8
      case ht8 => (intro w hSw; (try dsimp only at hSw); go_simp; try with_reducible rfl)
      (try simp only [Act.put, List.setIfInBounds_toArray, List.set_cons_zero, List.set_cons_succ])
      refine Till.ready (rs := [8]) (by kernel_rfl) (by simp) ?_
      refine TillEach.cons rfl (fun K hK => ?_) ?_
      · go_simp
        go_wp2_with (go_at_call 26; refine (HC3.out _ HBv4.out).mono ?_; rintro e v5 ⟨rfl, hb⟩)
        have GAv5 := Lib.hid (blk_call GAv4.out hb)
        have GBv5 := Lib.hid (blk_call GBv4.out hb)
        have HBv5 := Lib.hid (bw_call HBv4.out hb)
        clear hb
        refine hK.out _ _ ?_ (fun hHeld => ?_)
        · exact ⟨(soup_facts GAv5.out).1, (soup_facts GAv5.out).2.1, (soup_facts GBv5.out).1, (soup_facts GBv5.out).2.1⟩
        clear hK K
        (try simp only [Act.put, List.setIfInBounds_toArray, List.set_cons_zero, List.set_cons_succ])
        refine Till.ready (rs := [11]) (by kernel_rfl) (by simp) ?_
        refine TillEach.cons rfl (fun K hK => ?_) ?_
        · go_simp
          go_wp2_with (go_at_call 17; refine (HC4.out _ HBv5.out).mono ?_; rintro e v6 ⟨rfl, hb⟩)
          have GAv6 := Lib.hid (blk_call GAv5.out hb)
          have GBv6 := Lib.hid (blk_call GBv5.out hb)
          have HBv6 := Lib.hid (bw_call HBv5.out hb)
          clear hb
          refine hK.out _ _ ?_ (fun hHeld => ?_)
          · exact ⟨(soup_facts GAv6.out).1, (soup_facts GAv6.out).2.1, (soup_facts GBv6.out).1, (soup_facts GBv6.out).2.1⟩
          clear hK K
          (try simp only [Act.put, List.setIfInBounds_toArray, List.set_cons_zero, List.set_cons_succ])
          refine Till.take (i := 12) (v := ?vt9) rfl (by kernel_rfl) (by kernel_rfl) (by kernel_rfl) (by kernel_rfl) (fun _ _ _ h => h) (Or.inl ⟨by rfl, ?ht9⟩) (by assumption) ?restt9
          case ht9 => (intro w hSw; (try dsimp only at hSw); go_simp; try with_reducible rfl)
          (try simp only [Act.put, List.setIfInBounds_toArray, List.set_cons_zero, List.set_cons_succ])
          refine Till.take (i := 13) (v := ?vt10) rfl (by kernel_rfl) (by kernel_rfl) (by kernel_rfl) (by kernel_rfl) (fun _ _ _ h => h) (Or.inl ⟨by rfl, ?ht10⟩) (by assumption) ?restt10
          case ht10 => (intro w hSw; (try dsimp only at hSw); go_simp; try with_reducible rfl)
          (try simp only [Act.put, List.setIfInBounds_toArray, List.set_cons_zero, List.set_cons_succ])
          refine Till.take (i := 14) (v := ?vt11) rfl (by kernel_rfl) (by kernel_rfl) (by kernel_rfl) (by kernel_rfl) (fun _ _ _ h => h) (Or.inl ⟨by rfl, ?ht11⟩) (by assumption) ?restt11
          case ht11 => (intro w hSw; (try dsimp only at hSw); go_simp; try with_reducible rfl)
          (try simp only [Act.put, List.setIfInBounds_toArray, List.set_cons_zero, List.set_cons_succ])
          refine Till.take (i := 15) (v := ?vt12) rfl (by kernel_rfl) (by kernel_rfl) (by kernel_rfl) (by kernel_rfl) (fun _ _ _ h => h) (Or.inl ⟨by rfl, ?ht12⟩) (by assumption) ?restt12
          case ht12 => (intro w hSw; (try dsimp only at hSw); go_simp; try with_reducible rfl)
          (try simp only [Act.put, List.setIfInBounds_toArray, List.set_cons_zero, List.set_cons_succ])
          refine Till.take (i := 16) (v := ?vt13) rfl (by kernel_rfl) (by kernel_rfl) (by kernel_rfl) (by kernel_rfl) (fun _ _ _ h => h) (Or.inl ⟨by rfl, ?ht13⟩) (by assumption) ?restt13
          case ht13 => (intro w hSw; (try dsimp only at hSw); go_simp; try with_reducible rfl)
          (try simp only [Act.put, List.setIfInBounds_toArray, List.set_cons_zero, List.set_cons_succ])
          refine Till.ready (rs := [17]) (by kernel_rfl) (by simp) ?_
          refine TillEach.cons rfl (fun K hK => ?_) ?_
          · go_simp
            go_wp2_with (go_at_call 26; refine (HC5.out _ HBv6.out).mono ?_; rintro e v7 ⟨rfl, hb⟩)
            have GAv7 := Lib.hid (blk_call GAv6.out hb)
            have GBv7 := Lib.hid (blk_call GBv6.out hb)
            have HBv7 := Lib.hid (bw_call HBv6.out hb)
            clear hb
            refine hK.out _ _ ?_ (fun hHeld => ?_)
            · exact ⟨(soup_facts GAv7.out).1, (soup_facts GAv7.out).2.1, (soup_facts GBv7.out).1, (soup_facts GBv7.out).2.1⟩
            clear hK K
            (try simp only [Act.put, List.setIfInBounds_toArray, List.set_cons_zero, List.set_cons_succ])
            refine Till.take (i := 18) (v := ?vt14) rfl (by kernel_rfl) (by kernel_rfl) (by kernel_rfl) (by kernel_rfl) (fun _ _ _ h => h) (Or.inl ⟨by rfl, ?ht14⟩) (by assumption) ?restt14
            case ht14 => (intro w hSw; (try dsimp only at hSw); go_simp; try with_reducible rfl)
            (try simp only [Act.put, List.setIfInBounds_toArray, List.set_cons_zero, List.set_cons_succ])
            refine Till.take (i := 19) (v := ?vt15) rfl (by kernel_rfl) (by kernel_rfl) (by kernel_rfl) (by kernel_rfl) (fun _ _ _ h => h) (Or.inl ⟨by rfl, ?ht15⟩) (by assumption) ?restt15
            case ht15 => (intro w hSw; (try dsimp only at hSw); go_simp; try with_reducible rfl)
            (try simp only [Act.put, List.setIfInBounds_toArray, List.set_cons_zero, List.set_cons_succ])
            refine Till.take (i := 20) (v := ?vt16) rfl (by kernel_rfl) (by kernel_rfl) (by kernel_rfl) (by kernel_rfl) (fun _ _ _ h => h) (Or.inl ⟨by rfl, ?ht16⟩) (by assumption) ?restt16
            case ht16 => (intro w hSw; (try dsimp only at hSw); go_simp; try with_reducible rfl)
            (try simp only [Act.put, List.setIfInBounds_toArray, List.set_cons_zero, List.set_cons_succ])
            refine Till.take (i := 22) (v := ?vt17) rfl (by kernel_rfl) (by kernel_rfl) (by kernel_rfl) (by kernel_rfl) (fun _ _ _ h => h) (Or.inl ⟨by rfl, ?ht17⟩) (by assumption) ?restt17
            case ht17 => (intro w hSw; (try dsimp only at hSw); go_simp; try with_reducible rfl)
            (try simp only [Act.put, List.setIfInBounds_toArray, List.set_cons_zero, List.set_cons_succ])
            refine Till.ready (rs := [21]) (by kernel_rfl) (by simp) ?_
            refine TillEach.cons rfl (fun K hK => ?_) ?_
            · go_simp
              go_wp2_with (go_at_call 27; refine (HC6.out _ HBv7.out).mono ?_; rintro e v8 ⟨A1, c1, rfl, hr, hb⟩)
              have GAv8 := Lib.hid (blk_call GAv7.out hb)
              have GBv8 := Lib.hid (blk_call GBv7.out hb)
              have R1v8 : Hid (LRow v8 0 A1 c1 (T.map mirT)) := Lib.hid (LRow.base hr (Nat.zero_le _))
              have HBv8 := Lib.hid (bw_call HBv7.out hb)
              clear hb
              refine hK.out _ _ ?_ (fun hHeld => ?_)
              · exact ⟨(soup_facts GAv8.out).1, (soup_facts GAv8.out).2.1, (soup_facts GBv8.out).1, (soup_facts GBv8.out).2.1⟩
              clear hK K
              (try simp only [Act.put, List.setIfInBounds_toArray, List.set_cons_zero, List.set_cons_succ])
              refine Till.ready (rs := [23]) (by kernel_rfl) (by simp) ?_
              refine TillEach.cons rfl (fun K hK => ?_) ?_
              · go_simp
                go_wp2_with (go_at_call 28; refine (HC7.out _ HBv8.out).mono ?_; rintro e v9 ⟨A2, c2, rfl, hr, hb⟩)
                have GAv9 := Lib.hid (blk_call GAv8.out hb)
                have GBv9 := Lib.hid (blk_call GBv8.out hb)
                have R1v9 := Lib.hid (R1v8.out.below hb)
                have R2v9 : Hid (LRow v9 0 A2 c2 (T.map mirT)) := Lib.hid (LRow.base hr (Nat.zero_le _))
                have HBv9 := Lib.hid (bw_call HBv8.out hb)
                clear hb
                refine hK.out _ _ ?_ (fun hHeld => ?_)
                · exact ⟨(soup_facts GAv9.out).1, (soup_facts GAv9.out).2.1, (soup_facts GBv9.out).1, (soup_facts GBv9.out).2.1⟩
                clear hK K
                (try simp only [Act.put, List.setIfInBounds_toArray, List.set_cons_zero, List.set_cons_succ])
                refine Till.ready (rs := [24]) (by kernel_rfl) (by simp) ?_
                refine TillEach.cons rfl (fun K hK => ?_) ?_
                · go_simp
                  go_wp2_with (go_at_call 17; refine (HC8.out v9 R1v9.out R2v9.out).mono ?_; rintro e v10 ⟨rfl, hb⟩)
                  have GAv10 := Lib.hid (blk_call GAv9.out hb)
                  have GBv10 := Lib.hid (blk_call GBv9.out hb)
                  have R1v10 := Lib.hid (R1v9.out.below hb)
                  have R2v10 := Lib.hid (R2v9.out.below hb)
                  have HBv10 := Lib.hid (bw_call HBv9.out hb)
                  clear hb
                  refine hK.out _ _ ?_ (fun hHeld => ?_)
                  · exact ⟨(soup_facts GAv10.out).1, (soup_facts GAv10.out).2.1, (soup_facts GBv10.out).1, (soup_facts GBv10.out).2.1⟩
                  clear hK K
                  (try simp only [Act.put, List.setIfInBounds_toArray, List.set_cons_zero, List.set_cons_succ])
                  refine Till.take (i := 25) (v := ?vt18) rfl (by kernel_rfl) (by kernel_rfl) (by kernel_rfl) (by kernel_rfl) (fun _ _ _ h => h) (Or.inl ⟨by rfl, ?ht18⟩) (by assumption) ?restt18
                  case ht18 => (intro w hSw; (try dsimp only at hSw); go_simp; try with_reducible rfl)
                  (try simp only [Act.put, List.setIfInBounds_toArray, List.set_cons_zero, List.set_cons_succ])
                  refine Till.ready (rs := [26]) (by kernel_rfl) (by simp) ?_
                  refine TillEach.last rfl (fun K hK => ?_)
                  · go_simp
                    refine hK.out _ _ ?_
                    clear hK K
                    (try simp only [Act.put, List.setIfInBounds_toArray, List.set_cons_zero, List.set_cons_succ])
                    refine Till.done (by kernel_rfl) ?_ _
                    go_wp2_with fail
                    go_ret
                    exact ⟨rfl, HBv10.out⟩
                exact TillEach.nil
              exact TillEach.nil
            exact TillEach.nil
          exact TillEach.nil
        exact TillEach.nil
      exact TillEach.nil
    exact TillEach.nil
  exact TillEach.nil
end Go.Proofs.Ytmmjonpkpeanpaa
