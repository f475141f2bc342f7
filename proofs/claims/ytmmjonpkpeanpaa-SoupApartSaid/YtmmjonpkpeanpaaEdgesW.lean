/- SoupEdges, walked. No condition. -/
import Derived.Test.YtmmjonpkpeanpaaRefEdges8
import Derived.Test.YtmmjonpkpeanpaaWake8
namespace Go.Proofs.Ytmmjonpkpeanpaa
open Go.RowKit

set_option linter.unusedSimpArgs false
set_option linter.unusedVariables false
attribute [local irreducible] Blk LRow IRow ERow World.alloc World.setCell World.cell? World.frozen?
theorem edgesL_len (N : Int) (T : List Tri) : (edgesL N T).length ≤ 3 * T.length := by
  unfold edgesL
  split
  · simp
  · have h1 := foldl_ins_len (T.flatMap edgesT) []
    rw [edges_len] at h1
    simpa using h1
set_option maxRecDepth 100000 in
set_option maxHeartbeats 8000000 in
theorem edgesLaw_any (N : Int) (A : Option Addr) (n c : Nat) (T : List Tri) (w : World) (ht : TrisAt w w.heap.size A n T) :
    Calls Try.prog 4 #[.agg #[.int .i64 N, .slice A n c]] w (BoolPost w true) := by
  obtain rfl : n = T.length := ht.len.symm
  have HT := Lib.hid ht
  clear ht
  go_enter Try.func4, Try.ntmps4
  go_wp2_with fail
  obtain ⟨V, hV⟩ : ∃ V, V = w.alloc (.cells #[.int .i64 N, .slice A T.length c] 24) := ⟨_, rfl⟩
  have H0 : Hid (Blk V w.heap.size 24 #[.int .i64 N, .slice A T.length c]) := by subst hV; exact Lib.hid (Blk.new _ _ _)
  have HB : Hid (Below w.heap.size w V) := by subst hV; exact Lib.hid (bw_alloc (Below.refl _ _) _)
  rw [← hV]
  clear hV
  obtain ⟨g0, hg0⟩ : ∃ g, g = w.heap.size := ⟨_, rfl⟩
  rw [← hg0] at H0
  simp only [← hg0]
  clear hg0
  refine (awake_any _).mono ?_
  rintro e w1 ⟨rfl, hb⟩
  have H1 := Lib.hid (blk_call H0.out hb)
  have HB1 := Lib.hid (bw_call HB.out hb)
  clear hb H0 HB
  obtain ⟨s0, s1, _, _, _⟩ := soup_facts H1.out
  go_wp2_with fail
  refine (great_any _ _ _ _ _).mono ?_
  rintro e w2 ⟨rfl, hb⟩
  have H2 := Lib.hid (blk_call H1.out hb)
  have HB2 := Lib.hid (bw_call HB1.out hb)
  clear hb H1 HB1 s0 s1
  by_cases hg : 40 < T.length
  · rw [decide_eq_true hg]
    go_wp2_with fail
    go_ret
    exact ⟨rfl, HB2.out⟩
  rw [decide_eq_false hg]
  obtain ⟨s0, s1, _, _, _⟩ := soup_facts H2.out
  have HLN := Lib.hid (edgesL_len N T)
  have HC1 := Lib.hid (fun (W : World) (h : Below w.heap.size w W) => edges_any N A T.length c T W (by omega) ((HT.out.below h).more h.size))
  have HC2 := Lib.hid (fun (W : World) (h : Below w.heap.size w W) => refEdges_any N A T.length c T W (by omega) ((HT.out.below h).more h.size))
  generalize edgesL N T = L at *
  go_wp2_with fail
  refine wp_region_till (S := fun w' => w'.cell? ⟨g0, 0, none⟩ = some (.int .i64 N) ∧ w'.cell? ⟨g0, 1, none⟩ = some (.slice A T.length c)) 5 (by kernel_rfl) ⟨(soup_facts H2.out.drew).1, (soup_facts H2.out.drew).2.1⟩ (fun hHeld => ?_)
  refine Till.take (i := 0) (v := ?vt1) rfl (by kernel_rfl) (by kernel_rfl) (by kernel_rfl) (by kernel_rfl) (fun _ _ _ h => h) (Or.inl ⟨by rfl, ?ht1⟩) (by assumption) ?restt1
  case ht1 => (intro w hSw; (try dsimp only at hSw); go_simp; try with_reducible rfl)
  (try simp only [Act.put, List.setIfInBounds_toArray, List.set_cons_zero, List.set_cons_succ])
  refine Till.take (i := 2) (v := ?vt2) rfl (by kernel_rfl) (by kernel_rfl) (by kernel_rfl) (by kernel_rfl) (fun _ _ _ h => h) (Or.inl ⟨by rfl, ?ht2⟩) (by assumption) ?restt2
  case ht2 => (intro w hSw; (try dsimp only at hSw); go_simp; try with_reducible rfl)
  (try simp only [Act.put, List.setIfInBounds_toArray, List.set_cons_zero, List.set_cons_succ])
  refine Till.ready (rs := [1]) (by kernel_rfl) (by simp) ?_
  refine TillEach.cons rfl (fun K hK => ?_) ?_
  · go_simp
    go_wp2_with (go_at_call 20; refine (HC1.out _ (bw_drew HB2.out)).mono ?_; rintro e w3 ⟨A1, c1, rfl, hr3, hb3⟩)
    have HX3 : Hid (ERow w3 0 A1 c1 L) := Lib.hid (ERow.base hr3 (Nat.zero_le _))
    have H3 := Lib.hid (blk_call H2.out.drew hb3)
    have HB3 := Lib.hid (bw_call (bw_drew HB2.out) hb3)
    clear hr3 hb3
    refine hK.out _ _ ?_ (fun hHeld => ?_)
    · exact ⟨(soup_facts H3.out).1, (soup_facts H3.out).2.1⟩
    clear hK K
    (try simp only [Act.put, List.setIfInBounds_toArray, List.set_cons_zero, List.set_cons_succ])
    refine Till.ready (rs := [3]) (by kernel_rfl) (by simp) ?_
    refine TillEach.cons rfl (fun K hK => ?_) ?_
    · go_simp
      go_wp2_with (go_at_call 21; refine (HC2.out _ HB3.out).mono ?_; rintro e w4 ⟨A2, c2, rfl, hr4, hb4⟩)
      have HY4 : Hid (ERow w4 0 A2 c2 L) := Lib.hid (ERow.base hr4 (Nat.zero_le _))
      have HX4 := Lib.hid (HX3.out.below hb4)
      have H4 := Lib.hid (blk_call H3.out hb4)
      have HB4 := Lib.hid (bw_call HB3.out hb4)
      clear hr4 hb4 HX3 H3 HB3
      refine hK.out _ _ ?_ (fun hHeld => ?_)
      · exact ⟨(soup_facts H4.out).1, (soup_facts H4.out).2.1⟩
      clear hK K
      (try simp only [Act.put, List.setIfInBounds_toArray, List.set_cons_zero, List.set_cons_succ])
      refine Till.ready (rs := [4]) (by kernel_rfl) (by simp) ?_
      refine TillEach.cons rfl (fun K hK => ?_) ?_
      · go_simp
        go_wp2_with (go_at_call 19; refine (refAlike_any L A1 A2 L.length c1 c2 w4 (by have := HLN.out; omega) HX4.out.reads HY4.out.reads).mono ?_; rintro e w5 ⟨rfl, hb5⟩)
        have H5 := Lib.hid (blk_call H4.out hb5)
        have HB5 := Lib.hid (bw_call HB4.out hb5)
        refine hK.out _ _ ?_ (fun hHeld => ?_)
        · exact ⟨(soup_facts H5.out).1, (soup_facts H5.out).2.1⟩
        clear hK K
        (try simp only [Act.put, List.setIfInBounds_toArray, List.set_cons_zero, List.set_cons_succ])
        refine Till.ready (rs := [5]) (by kernel_rfl) (by simp) ?_
        refine TillEach.last rfl (fun K hK => ?_)
        · go_simp
          refine hK.out _ _ ?_
          clear hK K
          (try simp only [Act.put, List.setIfInBounds_toArray, List.set_cons_zero, List.set_cons_succ])
          refine Till.done (by kernel_rfl) ?_ _
          go_wp2_with fail
          go_ret
          exact ⟨rfl, HB5.out⟩
      exact TillEach.nil
    exact TillEach.nil
  exact TillEach.nil
end Go.Proofs.Ytmmjonpkpeanpaa
