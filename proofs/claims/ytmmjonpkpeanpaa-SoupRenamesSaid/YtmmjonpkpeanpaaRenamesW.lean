/- SoupRenames, walked. No condition. -/
import Derived.Test.YtmmjonpkpeanpaaRename8
namespace Go.Proofs.Ytmmjonpkpeanpaa
open Go.RowKit

set_option linter.unusedSimpArgs false
set_option linter.unusedVariables false
attribute [local irreducible] Blk LRow IRow World.alloc World.setCell World.cell? World.frozen?
theorem renL_len (N : Int) (T : List Tri) (l : List Int) : (renL N T l).2.1.length ≤ T.length := by
  unfold renL
  split
  · simp
  · split
    · simp
    · simp
set_option maxRecDepth 100000 in
set_option maxHeartbeats 8000000 in
theorem renamesLaw_any (N : Int) (A : Option Addr) (n c : Nat) (T : List Tri) (Al : Option Addr) (m cl : Nat) (l : List Int) (w : World) (ht : TrisAt w w.heap.size A n T) (hl : Reads w w.heap.size 1 Al m (ZL l)) :
    Calls Try.prog 7 #[.agg #[.int .i64 N, .slice A n c], .slice Al m cl] w (BoolPost w true) := by
  obtain rfl : n = T.length := ht.len.symm
  obtain rfl : m = l.length := by have := hl.1; simp [ZL] at this; exact this.symm
  have HT := Lib.hid ht
  have HL := Lib.hid hl
  clear ht hl
  go_enter Try.func7, Try.ntmps7
  go_wp2_with fail
  obtain ⟨V, hV⟩ : ∃ V, V = w.alloc (.cells #[.int .i64 N, .slice A T.length c] 24) := ⟨_, rfl⟩
  have GA0 : Hid (Blk V w.heap.size 24 #[.int .i64 N, .slice A T.length c]) := by subst hV; exact Lib.hid (Blk.new _ _ _)
  have HB : Hid (Below w.heap.size w V) := by subst hV; exact Lib.hid (bw_alloc (Below.refl _ _) _)
  rw [← hV]
  clear hV
  obtain ⟨ga, hga⟩ : ∃ g, g = w.heap.size := ⟨_, rfl⟩
  rw [← hga] at GA0
  simp only [← hga]
  clear hga
  refine (awake_any _).mono ?_
  rintro e w1 ⟨rfl, hb⟩
  have GA1 := Lib.hid (blk_call GA0.out hb)
  have HB1 := Lib.hid (bw_call HB.out hb)
  clear hb GA0 HB
  obtain ⟨s0, s1, _, _, _⟩ := soup_facts GA1.out
  go_wp2_with fail
  refine (great_any _ _ _ _ _).mono ?_
  rintro e w2 ⟨rfl, hb⟩
  have GA2 := Lib.hid (blk_call GA1.out hb)
  have HB2 := Lib.hid (bw_call HB1.out hb)
  clear hb GA1 HB1 s0 s1
  obtain ⟨s0, s1, _, _, _⟩ := soup_facts GA2.out
  by_cases hg : 40 < T.length
  · rw [decide_eq_true hg]
    go_wp2_with fail
    go_ret
    exact ⟨rfl, HB2.out⟩
  rw [decide_eq_false hg]
  by_cases hm : 40 < l.length
  · have hm' : (40 : Int) < (l.length : Int) := by omega
    go_wp2_with fail
    go_ret
    exact ⟨rfl, HB2.out⟩
  have hm' : ¬ (40 : Int) < (l.length : Int) := by omega
  by_cases hN : 40 < N
  · go_wp2_with fail
    go_ret
    exact ⟨rfl, HB2.out⟩
  have HC1 := Lib.hid (fun (W : World) (h : Below w.heap.size w W) => rename_any N A T.length c T Al l.length cl l W (by omega) (by omega) ((HT.out.below h).more h.size) ((HL.out.below h).more h.size))
  have HC2 := Lib.hid (fun (W : World) (h : Below w.heap.size w W) => refFits_any N A T.length c T W (by omega) ((HT.out.below h).more h.size))
  have HC3 := Lib.hid (fun (W : World) (h : Below w.heap.size w W) => refPerm_any N Al l.length cl l W (by omega) ((HL.out.below h).more h.size))
  have hrl := renL_len N T l
  have HRL : Hid (renL N T l = if fitL N T = false then (0, [], 1) else if permP N l then (N, T.map (renT l), 0) else (0, [], 3)) := Lib.hid rfl
  have HFI : Hid (fitL N T = true → permP N l → ∀ t ∈ T, inL l.length t) := Lib.hid (fun hf hp t ht => by
    obtain ⟨i, hi, e⟩ := List.mem_iff_getElem.1 ht
    have h := (fitT_iff.1 (fit_tri hf hi)).1
    rw [tri_of (List.getElem?_eq_getElem hi), e] at h
    have := hp.1
    unfold inL
    omega)
  generalize renL N T l = r at *
  obtain ⟨rn, rT, re⟩ := r
  simp only at hrl
  go_wp2_with fail
  refine (HC1.out _ HB2.out).mono ?_
  rintro e w3 ⟨A1, c1, rfl, hr, hb⟩
  simp only at hr
  have RX3 : Hid (LRow w3 0 A1 c1 rT) := Lib.hid (LRow.base hr (Nat.zero_le _))
  have GA3 := Lib.hid (blk_call GA2.out hb)
  have HB3 := Lib.hid (bw_call HB2.out hb)
  clear hr hb GA2 HB2 HC1 s0 s1
  obtain ⟨w4, hw4⟩ : ∃ w4, w4 = w3.alloc (.cells #[.int .i64 rn, .slice A1 rT.length c1] 24) := ⟨_, rfl⟩
  have GX4 : Hid (Blk w4 w3.heap.size 24 #[.int .i64 rn, .slice A1 rT.length c1]) := by subst hw4; exact Lib.hid (Blk.new _ _ _)
  have RX4 : Hid (LRow w4 0 A1 c1 rT) := by subst hw4; exact Lib.hid (RX3.out.alloc _)
  have GA4 : Hid (Blk w4 ga 24 #[.int .i64 N, .slice A T.length c]) := by subst hw4; exact Lib.hid (GA3.out.alloc _)
  have HB4 : Hid (Below w.heap.size w w4) := by subst hw4; exact Lib.hid (bw_alloc HB3.out _)
  have FX := soup_facts GA4.out
  rw [hw4] at FX
  obtain ⟨s0, s1, _, _, _⟩ := FX
  go_wp2_with fail
  rw [← hw4]
  generalize w3.heap.size = gx at *
  clear hw4 RX3 GA3 HB3 s0 s1
  refine (HC2.out _ HB4.out).mono ?_
  rintro e wf ⟨rfl, hb⟩
  have GXf := Lib.hid (blk_call GX4.out hb)
  have GAf := Lib.hid (blk_call GA4.out hb)
  have RXf := Lib.hid (RX4.out.below hb)
  have HBf := Lib.hid (bw_call HB4.out hb)
  clear hb GX4 GA4 RX4 HB4 HC2
  obtain ⟨s0, s1, _, _, _⟩ := soup_facts GAf.out
  obtain ⟨x0, x1, _, _, _⟩ := soup_facts GXf.out
  cases hf : fitL N T with
  | false =>
    have h := HRL.out
    rw [if_pos hf] at h
    cases h
    go_wp2_with fail
    refine (refSame_any 0 [] A1 none 0 c1 0 wf (by omega) RXf.out.tris (LRow.nil wf 0).tris).mono ?_
    rintro e w6 ⟨rfl, hb⟩
    have HB6 := Lib.hid (bw_call HBf.out hb)
    clear hb
    go_wp2_with fail
    go_ret
    exact ⟨rfl, HB6.out⟩
  | true =>
    have h := HRL.out
    rw [if_neg (by rw [hf]; simp)] at h
    have HTI := Lib.hid (HFI.out hf)
    go_wp2_with fail
    refine (HC3.out _ HBf.out).mono ?_
    rintro e w5 ⟨rfl, hb⟩
    have GXw5 := Lib.hid (blk_call GXf.out hb)
    have GAw5 := Lib.hid (blk_call GAf.out hb)
    have RXw5 := Lib.hid (RXf.out.below hb)
    have HBw5 := Lib.hid (bw_call HBf.out hb)
    clear hb GXf GAf RXf HBf s0 s1 x0 x1
    obtain ⟨x0, x1, _, _, _⟩ := soup_facts GXw5.out
    by_cases hp : permP N l
    · rw [if_pos hp] at h
      cases h
      rw [decide_eq_true hp]
      have HC4 := Lib.hid (fun (W : World) (h : Below w.heap.size w W) => refRename_any Al l.length cl l N A T.length c T W (by omega) ((HT.out.below h).more h.size) ((HL.out.below h).more h.size) (HTI.out hp))
      have HC8 : Hid (∀ (W : World) {A1 A2 : Option Addr} {c1 c2 : Nat} (h1 : LRow W 0 A1 c1 (T.map (renT l))) (h2 : LRow W 0 A2 c2 (T.map (renT l))), Calls Try.prog 17 #[.agg #[.int .i64 N, .slice A1 T.length c1], .agg #[.int .i64 N, .slice A2 T.length c2]] W (BoolPost W true)) := Lib.hid fun W _ _ _ _ h1 h2 => refSame_any N (T.map (renT l)) _ _ T.length _ _ W (by omega) (by simpa using h1.tris) (by simpa using h2.tris)
      simp only [List.length_map] at x0 x1 GXw5
      clear HRL
      go_wp2_with fail
      refine wp_region_till (S := fun w' => w'.cell? ⟨ga, 0, none⟩ = some (.int .i64 N) ∧ w'.cell? ⟨ga, 1, none⟩ = some (.slice A T.length c) ∧ w'.cell? ⟨gx, 0, none⟩ = some (.int .i64 N) ∧ w'.cell? ⟨gx, 1, none⟩ = some (.slice A1 T.length c1)) 9 (by kernel_rfl) ⟨(soup_facts GAw5.out.drew).1, (soup_facts GAw5.out.drew).2.1, (soup_facts GXw5.out.drew).1, (soup_facts GXw5.out.drew).2.1⟩ (fun hHeld => ?_)
      refine Till.take (i := 0) (v := ?vt1) rfl (by kernel_rfl) (by kernel_rfl) (by kernel_rfl) (by kernel_rfl) (fun _ _ _ h => h) (Or.inl ⟨by rfl, ?ht1⟩) (by assumption) ?restt1
      case ht1 => (intro w hSw; (try dsimp only at hSw); go_simp; try with_reducible rfl)
      (try simp only [Act.put, List.setIfInBounds_toArray, List.set_cons_zero, List.set_cons_succ])
      refine Till.take (i := 1) (v := ?vt2) rfl (by kernel_rfl) (by kernel_rfl) (by kernel_rfl) (by kernel_rfl) (fun _ _ _ h => h) (Or.inl ⟨by rfl, ?ht2⟩) (by assumption) ?restt2
      case ht2 => (intro w hSw; (try dsimp only at hSw); go_simp; try with_reducible rfl)
      (try simp only [Act.put, List.setIfInBounds_toArray, List.set_cons_zero, List.set_cons_succ])
      refine Till.take (i := 2) (v := ?vt3) rfl (by kernel_rfl) (by kernel_rfl) (by kernel_rfl) (by kernel_rfl) (fun _ _ _ h => h) (Or.inl ⟨by rfl, ?ht3⟩) (by assumption) ?restt3
      case ht3 => (intro w hSw; (try dsimp only at hSw); go_simp; try with_reducible rfl)
      (try simp only [Act.put, List.setIfInBounds_toArray, List.set_cons_zero, List.set_cons_succ])
      refine Till.take (i := 3) (v := ?vt4) rfl (by kernel_rfl) (by kernel_rfl) (by kernel_rfl) (by kernel_rfl) (fun _ _ _ h => h) (Or.inl ⟨by rfl, ?ht4⟩) (by assumption) ?restt4
      case ht4 => (intro w hSw; (try dsimp only at hSw); go_simp; try with_reducible rfl)
      (try simp only [Act.put, List.setIfInBounds_toArray, List.set_cons_zero, List.set_cons_succ])
      refine Till.take (i := 4) (v := ?vt5) rfl (by kernel_rfl) (by kernel_rfl) (by kernel_rfl) (by kernel_rfl) (fun _ _ _ h => h) (Or.inl ⟨by rfl, ?ht5⟩) (by assumption) ?restt5
      case ht5 => (intro w hSw; (try dsimp only at hSw); go_simp; try with_reducible rfl)
      (try simp only [Act.put, List.setIfInBounds_toArray, List.set_cons_zero, List.set_cons_succ])
      refine Till.take (i := 5) (v := ?vt6) rfl (by kernel_rfl) (by kernel_rfl) (by kernel_rfl) (by kernel_rfl) (fun _ _ _ h => h) (Or.inl ⟨by rfl, ?ht6⟩) (by assumption) ?restt6
      case ht6 => (intro w hSw; (try dsimp only at hSw); go_simp; try with_reducible rfl)
      (try simp only [Act.put, List.setIfInBounds_toArray, List.set_cons_zero, List.set_cons_succ])
      refine Till.ready (rs := [6]) (by kernel_rfl) (by simp) ?_
      refine TillEach.cons rfl (fun K hK => ?_) ?_
      · go_simp
        go_wp2_with (go_at_call 31; refine (HC4.out _ (bw_drew HBw5.out)).mono ?_; rintro e v3 ⟨A2, c2, rfl, hr, hb⟩)
        have GAv3 := Lib.hid (blk_call GAw5.out.drew hb)
        have GXv3 := Lib.hid (blk_call GXw5.out.drew hb)
        have RXv3 := Lib.hid (RXw5.out.drew.below hb)
        have RYv3 : Hid (LRow v3 0 A2 c2 (T.map (renT l))) := Lib.hid (LRow.base hr (Nat.zero_le _))
        have HBv3 := Lib.hid (bw_call (bw_drew HBw5.out) hb)
        clear hb
        refine hK.out _ _ ?_ (fun hHeld => ?_)
        · exact ⟨(soup_facts GAv3.out).1, (soup_facts GAv3.out).2.1, (soup_facts GXv3.out).1, (soup_facts GXv3.out).2.1⟩
        clear hK K
        (try simp only [Act.put, List.setIfInBounds_toArray, List.set_cons_zero, List.set_cons_succ])
        refine Till.ready (rs := [7]) (by kernel_rfl) (by simp) ?_
        refine TillEach.cons rfl (fun K hK => ?_) ?_
        · go_simp
          go_wp2_with (go_at_call 17; refine (HC8.out v3 RXv3.out RYv3.out).mono ?_; rintro e v4 ⟨rfl, hb⟩)
          have GAv4 := Lib.hid (blk_call GAv3.out hb)
          have GXv4 := Lib.hid (blk_call GXv3.out hb)
          have RXv4 := Lib.hid (RXv3.out.below hb)
          have RYv4 := Lib.hid (RYv3.out.below hb)
          have HBv4 := Lib.hid (bw_call HBv3.out hb)
          clear hb
          refine hK.out _ _ ?_ (fun hHeld => ?_)
          · exact ⟨(soup_facts GAv4.out).1, (soup_facts GAv4.out).2.1, (soup_facts GXv4.out).1, (soup_facts GXv4.out).2.1⟩
          clear hK K
          (try simp only [Act.put, List.setIfInBounds_toArray, List.set_cons_zero, List.set_cons_succ])
          refine Till.take (i := 8) (v := ?vt7) rfl (by kernel_rfl) (by kernel_rfl) (by kernel_rfl) (by kernel_rfl) (fun _ _ _ h => h) (Or.inl ⟨by rfl, ?ht7⟩) (by assumption) ?restt7
          case ht7 => (intro w hSw; (try dsimp only at hSw); go_simp; try with_reducible rfl)
          (try simp only [Act.put, List.setIfInBounds_toArray, List.set_cons_zero, List.set_cons_succ])
          refine Till.ready (rs := [9]) (by kernel_rfl) (by simp) ?_
          refine TillEach.last rfl (fun K hK => ?_)
          · go_simp
            refine hK.out _ _ ?_
            clear hK K
            (try simp only [Act.put, List.setIfInBounds_toArray, List.set_cons_zero, List.set_cons_succ])
            refine Till.done (by kernel_rfl) ?_ _
            go_wp2_with fail
            go_ret
            exact ⟨rfl, HBv4.out⟩
        exact TillEach.nil
      exact TillEach.nil
    · rw [if_neg hp] at h
      cases h
      rw [decide_eq_false hp]
      go_wp2_with fail
      refine (refSame_any 0 [] A1 none 0 c1 0 w5 (by omega) RXw5.out.tris (LRow.nil w5 0).tris).mono ?_
      rintro e w6 ⟨rfl, hb⟩
      have HB6 := Lib.hid (bw_call HBw5.out hb)
      clear hb
      go_wp2_with fail
      go_ret
      exact ⟨rfl, HB6.out⟩
end Go.Proofs.Ytmmjonpkpeanpaa
