/- PredictPoint, walked. No condition. -/
import Derived.Test.YtcpfolojfdnojaaWake28
import Derived.Test.YtcpfolojfdnojaaPtR
namespace Go.Proofs.Ytcpfolojfdnojaa
open Go.RowKit

set_option linter.unusedSimpArgs false
set_option linter.unusedVariables false
/-- A point is told. -/
def Pt3 (w : World) (a b c : Int) (e : Ending) (w' : World) : Prop := e = .returned (.agg #[.int .i64 a, .int .i64 b, .int .i64 c]) ∧ Below w.heap.size w w'
theorem run_ne_pt (a b c : Int) (w : World) : (binOp .neq 36 (.agg #[.int .i64 a, .int .i64 b, .int .i64 c]) (.agg #[.int .i64 a, .int .i64 b, .int .i64 c])).run Try.prog w = .ok (.bool false) w := by
  rw [run_neq_struct]
  show ((Op.equalIn (9997 + 1 + 1 + 1) _ _ _).run _ _).andThen _ = _
  unfold Op.equalIn
  simp [go_sem, Try.underlying3, Result.andThen, List.range']
attribute [local irreducible] Blk LRow World.alloc World.setCell World.cell? World.frozen? MapV
set_option maxRecDepth 100000 in
set_option maxHeartbeats 8000000 in
theorem pointLaw_any (kd xl xa xb xc xd : Int) (Ap : Option Addr) (np cp : Nat) (P : List Tri) (w : World) (hp : TrisAt w w.heap.size Ap np P) :
    Calls Try.prog 4 #[.int .i64 kd, .agg #[.int .i64 xl, .int .i64 xa, .int .i64 xb, .int .i64 xc, .int .i64 xd], .slice Ap np cp] w (BoolPost w true) := by
  have HP := Lib.hid hp
  clear hp
  obtain ⟨V, hV⟩ : ∃ V, V = w.alloc (.cells #[.int .i64 xl, .int .i64 xa, .int .i64 xb, .int .i64 xc, .int .i64 xd] 32) := ⟨_, rfl⟩
  have GX0 : Hid (Blk V w.heap.size 32 #[.int .i64 xl, .int .i64 xa, .int .i64 xb, .int .i64 xc, .int .i64 xd]) := by subst hV; exact Lib.hid (Blk.new _ _ _)
  have HB0 : Hid (Below w.heap.size w V) := by subst hV; exact Lib.hid (bw_alloc (Below.refl _ _) _)
  go_enter Try.func4, Try.ntmps4
  go_upto_region 1 with (fail)
  rw [← hV]
  clear hV
  obtain ⟨gx, hgx⟩ : ∃ g, g = w.heap.size := ⟨_, rfl⟩
  rw [← hgx] at GX0
  simp only [← hgx]
  clear hgx
  go_wp2_with fail
  refine (awake_any _).mono ?_
  rintro e w1 ⟨rfl, hb⟩
  have GXw1 := Lib.hid (blk_call GX0.out hb)
  have HBw1 := Lib.hid (bw_call HB0.out hb)
  clear hb HB0 GX0
  by_cases hn40 : 40 < np
  · have hn40' : (40 : Int) < (np : Int) := by omega
    go_wp2_with fail
    go_ret
    exact ⟨rfl, HBw1.out⟩
  have hn40' : ¬ (40 : Int) < (np : Int) := by omega
  obtain ⟨q0, HLq0⟩ : ∃ q0, Hid (pointL kd ⟨xl, xa, xb, xc, xd⟩ P 0 = q0) := ⟨_, Lib.hid rfl⟩
  obtain ⟨q1, HLq1⟩ : ∃ q1, Hid (pointL kd ⟨xl, xa, xb, xc, xd⟩ P 1 = q1) := ⟨_, Lib.hid rfl⟩
  obtain ⟨q2, HLq2⟩ : ∃ q2, Hid (pointL kd ⟨xl, xa, xb, xc, xd⟩ P 2 = q2) := ⟨_, Lib.hid rfl⟩
  have HC1 : Hid (∀ (W : World), Below w.heap.size w W → Calls Try.prog 13 #[.int .i64 kd, .agg #[.int .i64 xl, .int .i64 xa, .int .i64 xb, .int .i64 xc, .int .i64 xd], .slice Ap np cp] W (Pt3 W q0 q1 q2)) := Lib.hid fun W h => by
    have h1 := point_any kd xl xa xb xc xd Ap np cp P W (by omega) ((HP.out.below h).more h.size)
    unfold PtPost at h1
    rw [HLq0.out, HLq1.out, HLq2.out] at h1
    exact h1
  have HC2 : Hid (∀ (W : World), Below w.heap.size w W → Calls Try.prog 14 #[.int .i64 kd, .agg #[.int .i64 xl, .int .i64 xa, .int .i64 xb, .int .i64 xc, .int .i64 xd], .slice Ap np cp] W (Pt3 W q0 q1 q2)) := Lib.hid fun W h => by
    have h1 := refPoint_any kd xl xa xb xc xd Ap np cp P W (by omega) ((HP.out.below h).more h.size)
    unfold PtPost at h1
    rw [HLq0.out, HLq1.out, HLq2.out] at h1
    exact h1
  have hne := run_ne_pt q0 q1 q2
  go_upto_region 5 with (fail)
  refine wp_region_held_drew (S := fun w' => w'.cell? ⟨gx, 0, none⟩ = some (.int .i64 xl) ∧ w'.cell? ⟨gx, 1, none⟩ = some (.int .i64 xa) ∧ w'.cell? ⟨gx, 2, none⟩ = some (.int .i64 xb) ∧ w'.cell? ⟨gx, 3, none⟩ = some (.int .i64 xc) ∧ w'.cell? ⟨gx, 4, none⟩ = some (.int .i64 xd)) (by kernel_rfl) ⟨(ar_facts GXw1.out.drew).1, (ar_facts GXw1.out.drew).2.1, (ar_facts GXw1.out.drew).2.2.1, (ar_facts GXw1.out.drew).2.2.2.1, (ar_facts GXw1.out.drew).2.2.2.2⟩ (fun hHeld => ?_)
  refine held_take (i := 0) (v := ?v1) rfl (by kernel_rfl) (by kernel_rfl) (by kernel_rfl) (fun _ _ _ h => h) (Or.inl ⟨by rfl, ?hy1⟩) (by assumption) ?rest1
  case hy1 => (intro w hSw; (try dsimp only at hSw); go_simp; try with_reducible rfl)
  (try simp only [Act.put, List.setIfInBounds_toArray, List.set_cons_zero, List.set_cons_succ])
  refine held_take (i := 1) (v := ?v2) rfl (by kernel_rfl) (by kernel_rfl) (by kernel_rfl) (fun _ _ _ h => h) (Or.inl ⟨by rfl, ?hy2⟩) (by assumption) ?rest2
  case hy2 => (intro w hSw; (try dsimp only at hSw); go_simp; try with_reducible rfl)
  (try simp only [Act.put, List.setIfInBounds_toArray, List.set_cons_zero, List.set_cons_succ])
  refine held_take (i := 2) (v := ?v3) rfl (by kernel_rfl) (by kernel_rfl) (by kernel_rfl) (fun _ _ _ h => h) (Or.inl ⟨by rfl, ?hy3⟩) (by assumption) ?rest3
  case hy3 => (intro w hSw; (try dsimp only at hSw); go_simp; try with_reducible rfl)
  (try simp only [Act.put, List.setIfInBounds_toArray, List.set_cons_zero, List.set_cons_succ])
  refine held_take (i := 4) (v := ?v4) rfl (by kernel_rfl) (by kernel_rfl) (by kernel_rfl) (fun _ _ _ h => h) (Or.inl ⟨by rfl, ?hy4⟩) (by assumption) ?rest4
  case hy4 => (intro w hSw; (try dsimp only at hSw); go_simp; try with_reducible rfl)
  (try simp only [Act.put, List.setIfInBounds_toArray, List.set_cons_zero, List.set_cons_succ])
  refine held_take (i := 5) (v := ?v5) rfl (by kernel_rfl) (by kernel_rfl) (by kernel_rfl) (fun _ _ _ h => h) (Or.inl ⟨by rfl, ?hy5⟩) (by assumption) ?rest5
  case hy5 => (intro w hSw; (try dsimp only at hSw); go_simp; try with_reducible rfl)
  (try simp only [Act.put, List.setIfInBounds_toArray, List.set_cons_zero, List.set_cons_succ])
  refine held_take (i := 6) (v := ?v6) rfl (by kernel_rfl) (by kernel_rfl) (by kernel_rfl) (fun _ _ _ h => h) (Or.inl ⟨by rfl, ?hy6⟩) (by assumption) ?rest6
  case hy6 => (intro w hSw; (try dsimp only at hSw); go_simp; try with_reducible rfl)
  (try simp only [Act.put, List.setIfInBounds_toArray, List.set_cons_zero, List.set_cons_succ])
  refine wpAnyH_ready (rs := [3]) (by kernel_rfl) (by simp) ?_
  refine held_cons rfl (fun K hK => ?_) ?_
  · go_simp
    go_wp2_with (go_at_call 13; refine (HC1.out w1.drew (bw_drew HBw1.out)).mono ?_; rintro e v3 ⟨rfl, hb⟩)
    have GXv3 := Lib.hid (blk_call GXw1.out.drew hb)
    have HBv3 := Lib.hid (bw_call (bw_drew HBw1.out) hb)
    clear hb
    refine hK.out _ _ ?_ (fun hHeld => ?_)
    · exact ⟨(ar_facts GXv3.out).1, (ar_facts GXv3.out).2.1, (ar_facts GXv3.out).2.2.1, (ar_facts GXv3.out).2.2.2.1, (ar_facts GXv3.out).2.2.2.2⟩
    clear hK K
    (try simp only [Act.put, List.setIfInBounds_toArray, List.set_cons_zero, List.set_cons_succ])
    refine wpAnyH_ready (rs := [7]) (by kernel_rfl) (by simp) ?_
    refine held_cons rfl (fun K hK => ?_) ?_
    · go_simp
      go_wp2_with (go_at_call 14; refine (HC2.out v3 HBv3.out).mono ?_; rintro e v4 ⟨rfl, hb⟩)
      have GXv4 := Lib.hid (blk_call GXv3.out hb)
      have HBv4 := Lib.hid (bw_call HBv3.out hb)
      clear hb GXv3 HBv3
      refine hK.out _ _ ?_ (fun hHeld => ?_)
      · exact ⟨(ar_facts GXv4.out).1, (ar_facts GXv4.out).2.1, (ar_facts GXv4.out).2.2.1, (ar_facts GXv4.out).2.2.2.1, (ar_facts GXv4.out).2.2.2.2⟩
      clear hK K
      (try simp only [Act.put, List.setIfInBounds_toArray, List.set_cons_zero, List.set_cons_succ])
      refine held_take (i := 8) (v := ?v7) rfl (by kernel_rfl) (by kernel_rfl) (by kernel_rfl) (fun _ _ _ h => h) (Or.inl ⟨by rfl, ?hy7⟩) (by assumption) ?rest7
      case hy7 => (intro w hSw; (try dsimp only at hSw); go_simp; try with_reducible rfl)
      (try simp only [Act.put, List.setIfInBounds_toArray, List.set_cons_zero, List.set_cons_succ])
      refine wpAnyH_done (by kernel_rfl) ?_ _
      go_wp2_with fail
      clear HC1 HC2 hne
      go_loopw [7] (fun iv wr => ∃ k : Nat, k ≤ 4 ∧ iv = .int .i64 k ∧ Hid (Blk wr gx 32 #[.int .i64 xl, .int .i64 xa, .int .i64 xb, .int .i64 xc, .int .i64 xd]) ∧ Hid (Below w.heap.size w wr)) (fun iv _ => 4 - (intOf iv).toNat)
      case atStart => exact ⟨0, by omega, rfl, GXv4, HBv4⟩
      case round =>
        obtain ⟨k, hk, rfl, GXwB, HBwB⟩ := hrel
        obtain ⟨wB, hwB⟩ : ∃ wB : World, wB = wr := ⟨_, rfl⟩
        rw [← hwB] at GXwB HBwB ⊢
        clear hwB GXv4 HBv4
        by_cases hk3 : k < 4
        · have hki : (k : Int) < 4 := by omega
          obtain ⟨r0, HLr0⟩ : ∃ r0, Hid (pointL (k : Int) ⟨xl, xa, xb, xc, xd⟩ P 0 = r0) := ⟨_, Lib.hid rfl⟩
          obtain ⟨r1, HLr1⟩ : ∃ r1, Hid (pointL (k : Int) ⟨xl, xa, xb, xc, xd⟩ P 1 = r1) := ⟨_, Lib.hid rfl⟩
          obtain ⟨r2, HLr2⟩ : ∃ r2, Hid (pointL (k : Int) ⟨xl, xa, xb, xc, xd⟩ P 2 = r2) := ⟨_, Lib.hid rfl⟩
          have HC1 : Hid (∀ (W : World), Below w.heap.size w W → Calls Try.prog 13 #[.int .i64 (k : Int), .agg #[.int .i64 xl, .int .i64 xa, .int .i64 xb, .int .i64 xc, .int .i64 xd], .slice Ap np cp] W (Pt3 W r0 r1 r2)) := Lib.hid fun W h => by
            have h1 := point_any (k : Int) xl xa xb xc xd Ap np cp P W (by omega) ((HP.out.below h).more h.size)
            unfold PtPost at h1
            rw [HLr0.out, HLr1.out, HLr2.out] at h1
            exact h1
          have HC2 : Hid (∀ (W : World), Below w.heap.size w W → Calls Try.prog 14 #[.int .i64 (k : Int), .agg #[.int .i64 xl, .int .i64 xa, .int .i64 xb, .int .i64 xc, .int .i64 xd], .slice Ap np cp] W (Pt3 W r0 r1 r2)) := Lib.hid fun W h => by
            have h1 := refPoint_any (k : Int) xl xa xb xc xd Ap np cp P W (by omega) ((HP.out.below h).more h.size)
            unfold PtPost at h1
            rw [HLr0.out, HLr1.out, HLr2.out] at h1
            exact h1
          have hne := run_ne_pt r0 r1 r2
          go_upto_region 10 with (fail)
          refine wp_region_held_drew (S := fun w' => w'.cell? ⟨gx, 0, none⟩ = some (.int .i64 xl) ∧ w'.cell? ⟨gx, 1, none⟩ = some (.int .i64 xa) ∧ w'.cell? ⟨gx, 2, none⟩ = some (.int .i64 xb) ∧ w'.cell? ⟨gx, 3, none⟩ = some (.int .i64 xc) ∧ w'.cell? ⟨gx, 4, none⟩ = some (.int .i64 xd)) (by kernel_rfl) ⟨(ar_facts GXwB.out.drew).1, (ar_facts GXwB.out.drew).2.1, (ar_facts GXwB.out.drew).2.2.1, (ar_facts GXwB.out.drew).2.2.2.1, (ar_facts GXwB.out.drew).2.2.2.2⟩ (fun hHeld => ?_)
          refine held_take (i := 0) (v := ?v8) rfl (by kernel_rfl) (by kernel_rfl) (by kernel_rfl) (fun _ _ _ h => h) (Or.inl ⟨by rfl, ?hy8⟩) (by assumption) ?rest8
          case hy8 => (intro w hSw; (try dsimp only at hSw); go_simp; try with_reducible rfl)
          (try simp only [Act.put, List.setIfInBounds_toArray, List.set_cons_zero, List.set_cons_succ])
          refine held_take (i := 1) (v := ?v9) rfl (by kernel_rfl) (by kernel_rfl) (by kernel_rfl) (fun _ _ _ h => h) (Or.inl ⟨by rfl, ?hy9⟩) (by assumption) ?rest9
          case hy9 => (intro w hSw; (try dsimp only at hSw); go_simp; try with_reducible rfl)
          (try simp only [Act.put, List.setIfInBounds_toArray, List.set_cons_zero, List.set_cons_succ])
          refine held_take (i := 2) (v := ?v10) rfl (by kernel_rfl) (by kernel_rfl) (by kernel_rfl) (fun _ _ _ h => h) (Or.inl ⟨by rfl, ?hy10⟩) (by assumption) ?rest10
          case hy10 => (intro w hSw; (try dsimp only at hSw); go_simp; try with_reducible rfl)
          (try simp only [Act.put, List.setIfInBounds_toArray, List.set_cons_zero, List.set_cons_succ])
          refine held_take (i := 4) (v := ?v11) rfl (by kernel_rfl) (by kernel_rfl) (by kernel_rfl) (fun _ _ _ h => h) (Or.inl ⟨by rfl, ?hy11⟩) (by assumption) ?rest11
          case hy11 => (intro w hSw; (try dsimp only at hSw); go_simp; try with_reducible rfl)
          (try simp only [Act.put, List.setIfInBounds_toArray, List.set_cons_zero, List.set_cons_succ])
          refine held_take (i := 5) (v := ?v12) rfl (by kernel_rfl) (by kernel_rfl) (by kernel_rfl) (fun _ _ _ h => h) (Or.inl ⟨by rfl, ?hy12⟩) (by assumption) ?rest12
          case hy12 => (intro w hSw; (try dsimp only at hSw); go_simp; try with_reducible rfl)
          (try simp only [Act.put, List.setIfInBounds_toArray, List.set_cons_zero, List.set_cons_succ])
          refine held_take (i := 6) (v := ?v13) rfl (by kernel_rfl) (by kernel_rfl) (by kernel_rfl) (fun _ _ _ h => h) (Or.inl ⟨by rfl, ?hy13⟩) (by assumption) ?rest13
          case hy13 => (intro w hSw; (try dsimp only at hSw); go_simp; try with_reducible rfl)
          (try simp only [Act.put, List.setIfInBounds_toArray, List.set_cons_zero, List.set_cons_succ])
          refine wpAnyH_ready (rs := [3]) (by kernel_rfl) (by simp) ?_
          refine held_cons rfl (fun K hK => ?_) ?_
          · go_simp
            go_wp2_with (go_at_call 13; refine (HC1.out wB.drew (bw_drew HBwB.out)).mono ?_; rintro e v6 ⟨rfl, hb⟩)
            have GXv6 := Lib.hid (blk_call GXwB.out.drew hb)
            have HBv6 := Lib.hid (bw_call (bw_drew HBwB.out) hb)
            clear hb
            refine hK.out _ _ ?_ (fun hHeld => ?_)
            · exact ⟨(ar_facts GXv6.out).1, (ar_facts GXv6.out).2.1, (ar_facts GXv6.out).2.2.1, (ar_facts GXv6.out).2.2.2.1, (ar_facts GXv6.out).2.2.2.2⟩
            clear hK K
            (try simp only [Act.put, List.setIfInBounds_toArray, List.set_cons_zero, List.set_cons_succ])
            refine wpAnyH_ready (rs := [7]) (by kernel_rfl) (by simp) ?_
            refine held_cons rfl (fun K hK => ?_) ?_
            · go_simp
              go_wp2_with (go_at_call 14; refine (HC2.out v6 HBv6.out).mono ?_; rintro e v7 ⟨rfl, hb⟩)
              have GXv7 := Lib.hid (blk_call GXv6.out hb)
              have HBv7 := Lib.hid (bw_call HBv6.out hb)
              clear hb GXv6 HBv6
              refine hK.out _ _ ?_ (fun hHeld => ?_)
              · exact ⟨(ar_facts GXv7.out).1, (ar_facts GXv7.out).2.1, (ar_facts GXv7.out).2.2.1, (ar_facts GXv7.out).2.2.2.1, (ar_facts GXv7.out).2.2.2.2⟩
              clear hK K
              (try simp only [Act.put, List.setIfInBounds_toArray, List.set_cons_zero, List.set_cons_succ])
              refine held_take (i := 8) (v := ?v14) rfl (by kernel_rfl) (by kernel_rfl) (by kernel_rfl) (fun _ _ _ h => h) (Or.inl ⟨by rfl, ?hy14⟩) (by assumption) ?rest14
              case hy14 => (intro w hSw; (try dsimp only at hSw); go_simp; try with_reducible rfl)
              (try simp only [Act.put, List.setIfInBounds_toArray, List.set_cons_zero, List.set_cons_succ])
              refine wpAnyH_done (by kernel_rfl) ?_ _
              go_wp2_with fail
              exact ⟨⟨k + 1, by omega, by go_num, GXv7, HBv7⟩, by simp [intOf]; omega⟩
            exact AllReadyH.nil
          exact AllReadyH.nil
        · obtain rfl : k = 4 := by omega
          go_wp2_with fail
          go_ret
          exact ⟨rfl, HBwB.out⟩
    exact AllReadyH.nil
  exact AllReadyH.nil
end Go.Proofs.Ytcpfolojfdnojaa
