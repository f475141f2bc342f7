/- gypsumref16.Around, walked. No condition but sizes. -/
import Derived.Test.YtbdicndkkenbgaaGreatOpp15
import Derived.Test.YtbdicndkkenbgaaGreatFldVI
namespace Go.Proofs.YtbdicndkkenbgaaGreat
open Go.RowKit

set_option linter.unusedSimpArgs false
set_option linter.unusedVariables false
theorem own_up {w w' : World} {base : Nat} {e : TypeId} {size n : Nat} {v : Value} {xs : List Value} (h : w.ownsRow base e size v n xs) (hb : Below w.heap.size w w') : w'.ownsRow base e size v n xs := own_same h fun k hk => hb.block k (h.lt k hk).2
theorem optI_neg {o : Option Nat} (h : o = none) : optI o = -1 := by rw [h]; rfl
/-- The first corner, when k corners have been looked at. -/
def fstK (border : Bool) (b s k : Nat) : Nat := if border = true ∧ b < k then b else s
theorem fst_same {border : Bool} {b s k : Nat} (h : ¬ (border = true ∧ k = b)) : fstK border b s (k + 1) = fstK border b s k := by
  unfold fstK
  by_cases h1 : border = true ∧ b < k
  · rw [if_pos h1, if_pos ⟨h1.1, by omega⟩]
  · rw [if_neg h1, if_neg]
    rintro ⟨h2, h3⟩
    by_cases h4 : b < k
    · exact h1 ⟨h2, h4⟩
    · exact h ⟨h2, by omega⟩
theorem fst_new {border : Bool} {b s k : Nat} (h : border = true ∧ k = b) : fstK border b s (k + 1) = k := by
  unfold fstK
  rw [if_pos ⟨h.1, by omega⟩, h.2]
theorem bef_none {T : List Tri} {k : Nat} (hk : k < 3 * T.length) : befF T k = none ↔ oppF T (pvc k) = none := by
  unfold befF
  rw [if_pos hk]
  cases oppF T (pvc k) <;> simp
attribute [local irreducible] Blk LRow World.alloc World.setCell World.cell? World.frozen? MapV
set_option maxRecDepth 100000 in
set_option maxHeartbeats 8000000 in
theorem refAround_any (N : Int) (A : Option Addr) (c : Nat) (T : List Tri) (m : Nat) (v : Int) (L : List Nat) (w : World) (hT : T.length ≤ 1000) (hs : SurfE m T) (hr : RingL m T v L) (ht : TrisAt w w.heap.size A T.length T) :
    Calls Tryz.prog 55 #[.agg #[.int .i64 N, .slice A T.length c], .int .i64 v] w (ValPI (L.map fun x : Nat => (x : Int)) w) := by
  have HT := Lib.hid ht
  have HS := Lib.hid hs
  have HRL := Lib.hid hr
  clear ht hs hr
  obtain ⟨i0, hi0, hz0, hz1, hz2⟩ := info_parts int_infoC
  have hm3 : IntKind.i64.wrap (3 * (T.length : Int)) = 3 * (T.length : Int) := IntWalk.i64_in _ (by omega)
  have hm1 : IntKind.i64.wrap (3 * (T.length : Int) - 1) = 3 * (T.length : Int) - 1 := IntWalk.i64_in _ (by omega)
  obtain ⟨V0, hV⟩ : ∃ V, V = w.alloc (.cells #[.int .i64 N, .slice A T.length c] 24) := ⟨_, rfl⟩
  have GAV0 : Hid (Blk V0 w.heap.size 24 #[.int .i64 N, .slice A T.length c]) := by subst hV; exact Lib.hid (Blk.new _ _ _)
  have HBV0 : Hid (Below w.heap.size w V0) := by subst hV; exact Lib.hid (bw_alloc (Below.refl _ _) _)
  go_enter Tryz.func55, Tryz.ntmps55
  go_upto_region 1 with (fail)
  rw [← hV]
  clear hV
  obtain ⟨ga, hga⟩ : ∃ g, g = w.heap.size := ⟨_, rfl⟩
  rw [← hga] at GAV0
  simp only [← hga]
  clear hga
  obtain ⟨s0, s1, _, _, _⟩ := soup_facts GAV0.out
  go_wp2_with fail
  go_loopw [5, 6] (fun fv iv wr => ∃ j : Nat, j ≤ 3 * T.length ∧ iv = .int .i64 ((j : Int) - 1) ∧ fv = .int .i64 (optI (leastF (fun i => decide (cv T i = v)) j (3 * T.length - j))) ∧ Hid (Blk wr ga 24 #[.int .i64 N, .slice A T.length c]) ∧ Hid (Below w.heap.size w wr)) (fun _ iv _ => (intOf iv + 1).toNat)
  case atStart => exact ⟨3 * T.length, by omega, by go_num, by rw [Nat.sub_self]; rfl, GAV0, HBV0⟩
  case round =>
    obtain ⟨j, hj, rfl, rfl, GAB, HBB⟩ := hrel
    obtain ⟨wB, hwB⟩ : ∃ wB : World, wB = wr := ⟨_, rfl⟩
    rw [← hwB] at GAB HBB ⊢
    clear hwB GAV0 HBV0 s0 s1
    obtain ⟨s0, s1, _, _, _⟩ := soup_facts GAB.out
    by_cases hj0 : j = 0
    rotate_left
    · obtain ⟨k, rfl⟩ : ∃ k, j = k + 1 := ⟨j - 1, by omega⟩
      have hk3 : k < 3 * T.length := by omega
      have hki : ((k + 1 : Nat) : Int) - 1 = (k : Int) := by omega
      have HST := Lib.hid (leastF_step (p := fun i => decide (cv T i = v)) hk3)
      have hwk : IntKind.i64.wrap ((k : Int) - 1) = (k : Int) - 1 := IntWalk.i64_in _ (by omega)
      have hk0 : ¬ (k : Int) < 0 := by omega
      simp only [hki]
      clear hki
      go_wp2_with fail
      refine (r15V_any N A c T k wB (by omega) hk3 ((HT.out.below HBB.out).more HBB.out.size)).mono ?_
      rintro e w2 ⟨rfl, hb⟩
      have GA2 := Lib.hid (blk_call GAB.out hb)
      have HB2 := Lib.hid (bw_call HBB.out hb)
      clear hb
      by_cases hv : cv T k = v
      · rw [if_pos (by simpa using hv)] at HST
        rw [hv]
        have hvv : (v == v) = true := by simp
        go_wp2_with fail
        exact ⟨⟨k, by omega, rfl, by rw [HST.out]; rfl, GA2, HB2⟩, by simp [intOf]⟩
      · rw [if_neg (by simpa using hv)] at HST
        have hvv : (cv T k == v) = false := by rw [beq_eq_false_iff_ne]; exact hv
        go_wp2_with fail
        exact ⟨⟨k, by omega, rfl, by rw [HST.out], GA2, HB2⟩, by simp [intOf]⟩
    subst hj0
    have hcf : leastF (fun i => decide (cv T i = v)) 0 (3 * T.length - 0) = cornerF T v := rfl
    rw [hcf]
    clear hcf
    have hz : ((0 : Nat) : Int) - 1 = -1 := rfl
    simp only [hz]
    rcases HRL.out with ⟨hv, rfl⟩ | ⟨kv, rfl, hkm, s, b, border, M, hring⟩
    · rw [cornerF_not HS.out hv]
      simp only [optI]
      go_wp2_with fail
      go_ret
      exact ⟨none, 0, rfl, World.ownsRow_nil _ _ _ _, HBB.out⟩
    have HRG := Lib.hid hring
    have HSL := Lib.hid (cornerF_some hring.cs)
    rw [hring.cs]
    simp only [optI]
    clear hring
    have hs0 : ¬ (s : Int) < 0 := by omega
    have HF0 : Hid (fstK border b s 0 = s) := Lib.hid (by unfold fstK; rw [if_neg (by omega)])
    go_wp2_with fail
    go_loopw [5, 7] (fun fv iv wr => ∃ k : Nat, k ≤ 3 * T.length ∧ fv = .int .i64 (fstK border b s k : Int) ∧ iv = .int .i64 (k : Int) ∧ Hid (Blk wr ga 24 #[.int .i64 N, .slice A T.length c]) ∧ Hid (Below w.heap.size w wr)) (fun _ iv _ => 3 * T.length - (intOf iv).toNat)
    case atStart => exact ⟨0, by omega, by rw [HF0.out], rfl, GAB, HBB⟩
    case round =>
      obtain ⟨k, hk, rfl, rfl, GAwB, HBwB⟩ := hrel
      obtain ⟨wB, hwB⟩ : ∃ wB : World, wB = wr := ⟨_, rfl⟩
      rw [← hwB] at GAwB HBwB ⊢
      clear hwB GAB HBB s0 s1
      obtain ⟨s0, s1, _, _, _⟩ := soup_facts GAwB.out
      by_cases hlt : k < 3 * T.length
      · have hki : (k : Int) < 3 * (T.length : Int) := by omega
        go_upto_region 12 with (fail)
        by_cases hv : cv T k = (kv : Int)
        · have hvv : (cv T k == (kv : Int)) = true := by rw [beq_iff_eq]; exact hv
          have HV := Lib.hid hv
          clear hv
          by_cases hop : oppF T (pvc k) = none
          · have HFN := Lib.hid (fst_new (border := border) (b := b) (s := s) (k := k) (by
              obtain ⟨h1, h2⟩ := first_only HS.out HRG.out.fi hlt (by rw [HV.out]; exact (HRG.out.vv b HRG.out.on.from_mem).symm) ((bef_none hlt).2 hop)
              exact ⟨h2, h1⟩))
            have hoi : optI (oppF T (pvc k)) = -1 := optI_neg hop
            refine wp_region_held_drew (S := fun w' => w'.cell? ⟨ga, 0, none⟩ = some (.int .i64 N) ∧ w'.cell? ⟨ga, 1, none⟩ = some (.slice A T.length c)) (by kernel_rfl) ⟨(soup_facts GAwB.out.drew).1, (soup_facts GAwB.out.drew).2.1⟩ (fun hHeld => ?_)
            refine held_take (i := 0) (v := ?v1) rfl (by kernel_rfl) (by kernel_rfl) (by kernel_rfl) (fun _ _ _ h => h) (Or.inl ⟨by rfl, ?hy1⟩) (by assumption) ?rest1
            case hy1 => (intro w hSw; (try dsimp only at hSw); go_simp; try with_reducible rfl)
            (try simp only [Act.put, List.setIfInBounds_toArray, List.set_cons_zero, List.set_cons_succ])
            refine held_take (i := 1) (v := ?v2) rfl (by kernel_rfl) (by kernel_rfl) (by kernel_rfl) (fun _ _ _ h => h) (Or.inl ⟨by rfl, ?hy2⟩) (by assumption) ?rest2
            case hy2 => (intro w hSw; (try dsimp only at hSw); go_simp; try with_reducible rfl)
            (try simp only [Act.put, List.setIfInBounds_toArray, List.set_cons_zero, List.set_cons_succ])
            refine held_take (i := 3) (v := ?v3) rfl (by kernel_rfl) (by kernel_rfl) (by kernel_rfl) (fun _ _ _ h => h) (Or.inl ⟨by rfl, ?hy3⟩) (by assumption) ?rest3
            case hy3 => (intro w hSw; (try dsimp only at hSw); go_simp; try with_reducible rfl)
            (try simp only [Act.put, List.setIfInBounds_toArray, List.set_cons_zero, List.set_cons_succ])
            refine wpAnyH_ready (rs := [2]) (by kernel_rfl) (by simp) ?_
            refine held_cons rfl (fun K hK => ?_) ?_
            · go_simp
              go_wp2_with (go_at_call 32; refine (r15V_any N A c T k wB.drew (by omega) hlt ((HT.out.below (bw_drew HBwB.out)).more (bw_size (bw_drew HBwB.out)))).mono ?_; rintro e v3 ⟨rfl, hb⟩)
              have GAv3 := Lib.hid (blk_call GAwB.out.drew hb)
              have HBv3 := Lib.hid (bw_call (bw_drew HBwB.out) hb)
              clear hb
              refine hK.out _ _ ?_ (fun hHeld => ?_)
              · exact ⟨(soup_facts GAv3.out).1, (soup_facts GAv3.out).2.1⟩
              clear hK K
              (try simp only [Act.put, List.setIfInBounds_toArray, List.set_cons_zero, List.set_cons_succ])
              refine held_take (i := 4) (v := ?v4) rfl (by kernel_rfl) (by kernel_rfl) (by kernel_rfl) (fun _ _ _ h => h) (Or.inl ⟨by rfl, ?hy4⟩) (by assumption) ?rest4
              case hy4 => (intro w hSw; (try dsimp only at hSw); go_simp; try with_reducible rfl)
              (try simp only [Act.put, List.setIfInBounds_toArray, List.set_cons_zero, List.set_cons_succ])
              refine held_take (i := 5) (v := ?v5) rfl (by kernel_rfl) (by kernel_rfl) (by kernel_rfl) (fun _ _ _ h => h) (Or.inl ⟨by rfl, ?hy5⟩) (by assumption) ?rest5
              case hy5 => (intro w hSw; (try dsimp only at hSw); go_simp; try with_reducible rfl)
              (try simp only [Act.put, List.setIfInBounds_toArray, List.set_cons_zero, List.set_cons_succ])
              refine held_take (i := 6) (v := ?v6) rfl (by kernel_rfl) (by kernel_rfl) (by kernel_rfl) (fun _ _ _ h => h) (Or.inl ⟨by rfl, ?hy6⟩) (by assumption) ?rest6
              case hy6 => (intro w hSw; (try dsimp only at hSw); go_simp; try with_reducible rfl)
              (try simp only [Act.put, List.setIfInBounds_toArray, List.set_cons_zero, List.set_cons_succ])
              refine held_take (i := 7) (v := ?v7) rfl (by kernel_rfl) (by kernel_rfl) (by kernel_rfl) (fun _ _ _ h => h) (Or.inl ⟨by rfl, ?hy7⟩) (by assumption) ?rest7
              case hy7 => (intro w hSw; (try dsimp only at hSw); go_simp; try with_reducible rfl)
              (try simp only [Act.put, List.setIfInBounds_toArray, List.set_cons_zero, List.set_cons_succ])
              refine wpAnyH_ready (rs := [8]) (by kernel_rfl) (by simp) ?_
              refine held_cons rfl (fun K hK => ?_) ?_
              · go_simp
                go_wp2_with (go_at_call 71; refine (((r15Prev_any k v3 (by omega)).mono fun e w' h => is_int h)).mono ?_; rintro e v4 ⟨rfl, hb⟩)
                have GAv4 := Lib.hid (blk_call GAv3.out hb)
                have HBv4 := Lib.hid (bw_call HBv3.out hb)
                clear hb GAv3 HBv3
                refine hK.out _ _ ?_ (fun hHeld => ?_)
                · exact ⟨(soup_facts GAv4.out).1, (soup_facts GAv4.out).2.1⟩
                clear hK K
                (try simp only [Act.put, List.setIfInBounds_toArray, List.set_cons_zero, List.set_cons_succ])
                refine wpAnyH_ready (rs := [9]) (by kernel_rfl) (by simp) ?_
                refine held_cons rfl (fun K hK => ?_) ?_
                · go_simp
                  go_wp2_with (go_at_call 70; refine (r15Opp_any N A c T (pvc k) v4 (by omega) (pvc_lt hlt) ((HT.out.below HBv4.out).more (bw_size HBv4.out))).mono ?_; rintro e v5 ⟨rfl, hb⟩)
                  have GAv5 := Lib.hid (blk_call GAv4.out hb)
                  have HBv5 := Lib.hid (bw_call HBv4.out hb)
                  clear hb GAv4 HBv4
                  refine hK.out _ _ ?_ (fun hHeld => ?_)
                  · exact ⟨(soup_facts GAv5.out).1, (soup_facts GAv5.out).2.1⟩
                  clear hK K
                  (try simp only [Act.put, List.setIfInBounds_toArray, List.set_cons_zero, List.set_cons_succ])
                  refine held_take (i := 10) (v := ?v8) rfl (by kernel_rfl) (by kernel_rfl) (by kernel_rfl) (fun _ _ _ h => h) (Or.inl ⟨by rfl, ?hy8⟩) (by assumption) ?rest8
                  case hy8 => (intro w hSw; (try dsimp only at hSw); go_simp; try with_reducible rfl)
                  (try simp only [Act.put, List.setIfInBounds_toArray, List.set_cons_zero, List.set_cons_succ])
                  refine held_take (i := 11) (v := ?v9) rfl (by kernel_rfl) (by kernel_rfl) (by kernel_rfl) (fun _ _ _ h => h) (Or.inl ⟨by rfl, ?hy9⟩) (by assumption) ?rest9
                  case hy9 => (intro w hSw; (try dsimp only at hSw); go_simp; try with_reducible rfl)
                  (try simp only [Act.put, List.setIfInBounds_toArray, List.set_cons_zero, List.set_cons_succ])
                  refine wpAnyH_done (by kernel_rfl) ?_ _
                  go_wp2_with fail
                  exact ⟨⟨k + 1, by omega, by rw [HFN.out], by go_num, GAv5, HBv5⟩, by simp [intOf]; omega⟩
                exact AllReadyH.nil
              exact AllReadyH.nil
            exact AllReadyH.nil
          · have HFS := Lib.hid (fst_same (border := border) (b := b) (s := s) (k := k) (by
              rintro ⟨h1, h2⟩
              exact hop ((bef_none hlt).1 (by rw [h2]; exact HRG.out.fi.bor h1))))
            obtain ⟨o, ho⟩ : ∃ o, oppF T (pvc k) = some o := by
              cases h : oppF T (pvc k) with
              | none => exact absurd h hop
              | some o => exact ⟨o, rfl⟩
            have hoi : optI (oppF T (pvc k)) = (o : Int) := by rw [ho]; rfl
            have ho0 : ¬ (o : Int) < 0 := by omega
            clear hop ho
            refine wp_region_held_drew (S := fun w' => w'.cell? ⟨ga, 0, none⟩ = some (.int .i64 N) ∧ w'.cell? ⟨ga, 1, none⟩ = some (.slice A T.length c)) (by kernel_rfl) ⟨(soup_facts GAwB.out.drew).1, (soup_facts GAwB.out.drew).2.1⟩ (fun hHeld => ?_)
            refine held_take (i := 0) (v := ?v10) rfl (by kernel_rfl) (by kernel_rfl) (by kernel_rfl) (fun _ _ _ h => h) (Or.inl ⟨by rfl, ?hy10⟩) (by assumption) ?rest10
            case hy10 => (intro w hSw; (try dsimp only at hSw); go_simp; try with_reducible rfl)
            (try simp only [Act.put, List.setIfInBounds_toArray, List.set_cons_zero, List.set_cons_succ])
            refine held_take (i := 1) (v := ?v11) rfl (by kernel_rfl) (by kernel_rfl) (by kernel_rfl) (fun _ _ _ h => h) (Or.inl ⟨by rfl, ?hy11⟩) (by assumption) ?rest11
            case hy11 => (intro w hSw; (try dsimp only at hSw); go_simp; try with_reducible rfl)
            (try simp only [Act.put, List.setIfInBounds_toArray, List.set_cons_zero, List.set_cons_succ])
            refine held_take (i := 3) (v := ?v12) rfl (by kernel_rfl) (by kernel_rfl) (by kernel_rfl) (fun _ _ _ h => h) (Or.inl ⟨by rfl, ?hy12⟩) (by assumption) ?rest12
            case hy12 => (intro w hSw; (try dsimp only at hSw); go_simp; try with_reducible rfl)
            (try simp only [Act.put, List.setIfInBounds_toArray, List.set_cons_zero, List.set_cons_succ])
            refine wpAnyH_ready (rs := [2]) (by kernel_rfl) (by simp) ?_
            refine held_cons rfl (fun K hK => ?_) ?_
            · go_simp
              go_wp2_with (go_at_call 32; refine (r15V_any N A c T k wB.drew (by omega) hlt ((HT.out.below (bw_drew HBwB.out)).more (bw_size (bw_drew HBwB.out)))).mono ?_; rintro e v3 ⟨rfl, hb⟩)
              have GAv3 := Lib.hid (blk_call GAwB.out.drew hb)
              have HBv3 := Lib.hid (bw_call (bw_drew HBwB.out) hb)
              clear hb
              refine hK.out _ _ ?_ (fun hHeld => ?_)
              · exact ⟨(soup_facts GAv3.out).1, (soup_facts GAv3.out).2.1⟩
              clear hK K
              (try simp only [Act.put, List.setIfInBounds_toArray, List.set_cons_zero, List.set_cons_succ])
              refine held_take (i := 4) (v := ?v13) rfl (by kernel_rfl) (by kernel_rfl) (by kernel_rfl) (fun _ _ _ h => h) (Or.inl ⟨by rfl, ?hy13⟩) (by assumption) ?rest13
              case hy13 => (intro w hSw; (try dsimp only at hSw); go_simp; try with_reducible rfl)
              (try simp only [Act.put, List.setIfInBounds_toArray, List.set_cons_zero, List.set_cons_succ])
              refine held_take (i := 5) (v := ?v14) rfl (by kernel_rfl) (by kernel_rfl) (by kernel_rfl) (fun _ _ _ h => h) (Or.inl ⟨by rfl, ?hy14⟩) (by assumption) ?rest14
              case hy14 => (intro w hSw; (try dsimp only at hSw); go_simp; try with_reducible rfl)
              (try simp only [Act.put, List.setIfInBounds_toArray, List.set_cons_zero, List.set_cons_succ])
              refine held_take (i := 6) (v := ?v15) rfl (by kernel_rfl) (by kernel_rfl) (by kernel_rfl) (fun _ _ _ h => h) (Or.inl ⟨by rfl, ?hy15⟩) (by assumption) ?rest15
              case hy15 => (intro w hSw; (try dsimp only at hSw); go_simp; try with_reducible rfl)
              (try simp only [Act.put, List.setIfInBounds_toArray, List.set_cons_zero, List.set_cons_succ])
              refine held_take (i := 7) (v := ?v16) rfl (by kernel_rfl) (by kernel_rfl) (by kernel_rfl) (fun _ _ _ h => h) (Or.inl ⟨by rfl, ?hy16⟩) (by assumption) ?rest16
              case hy16 => (intro w hSw; (try dsimp only at hSw); go_simp; try with_reducible rfl)
              (try simp only [Act.put, List.setIfInBounds_toArray, List.set_cons_zero, List.set_cons_succ])
              refine wpAnyH_ready (rs := [8]) (by kernel_rfl) (by simp) ?_
              refine held_cons rfl (fun K hK => ?_) ?_
              · go_simp
                go_wp2_with (go_at_call 71; refine (((r15Prev_any k v3 (by omega)).mono fun e w' h => is_int h)).mono ?_; rintro e v4 ⟨rfl, hb⟩)
                have GAv4 := Lib.hid (blk_call GAv3.out hb)
                have HBv4 := Lib.hid (bw_call HBv3.out hb)
                clear hb GAv3 HBv3
                refine hK.out _ _ ?_ (fun hHeld => ?_)
                · exact ⟨(soup_facts GAv4.out).1, (soup_facts GAv4.out).2.1⟩
                clear hK K
                (try simp only [Act.put, List.setIfInBounds_toArray, List.set_cons_zero, List.set_cons_succ])
                refine wpAnyH_ready (rs := [9]) (by kernel_rfl) (by simp) ?_
                refine held_cons rfl (fun K hK => ?_) ?_
                · go_simp
                  go_wp2_with (go_at_call 70; refine (r15Opp_any N A c T (pvc k) v4 (by omega) (pvc_lt hlt) ((HT.out.below HBv4.out).more (bw_size HBv4.out))).mono ?_; rintro e v5 ⟨rfl, hb⟩)
                  have GAv5 := Lib.hid (blk_call GAv4.out hb)
                  have HBv5 := Lib.hid (bw_call HBv4.out hb)
                  clear hb GAv4 HBv4
                  refine hK.out _ _ ?_ (fun hHeld => ?_)
                  · exact ⟨(soup_facts GAv5.out).1, (soup_facts GAv5.out).2.1⟩
                  clear hK K
                  (try simp only [Act.put, List.setIfInBounds_toArray, List.set_cons_zero, List.set_cons_succ])
                  refine held_take (i := 10) (v := ?v17) rfl (by kernel_rfl) (by kernel_rfl) (by kernel_rfl) (fun _ _ _ h => h) (Or.inl ⟨by rfl, ?hy17⟩) (by assumption) ?rest17
                  case hy17 => (intro w hSw; (try dsimp only at hSw); go_simp; try with_reducible rfl)
                  (try simp only [Act.put, List.setIfInBounds_toArray, List.set_cons_zero, List.set_cons_succ])
                  refine held_take (i := 11) (v := ?v18) rfl (by kernel_rfl) (by kernel_rfl) (by kernel_rfl) (fun _ _ _ h => h) (Or.inl ⟨by rfl, ?hy18⟩) (by assumption) ?rest18
                  case hy18 => (intro w hSw; (try dsimp only at hSw); go_simp; try with_reducible rfl)
                  (try simp only [Act.put, List.setIfInBounds_toArray, List.set_cons_zero, List.set_cons_succ])
                  refine wpAnyH_done (by kernel_rfl) ?_ _
                  go_wp2_with fail
                  exact ⟨⟨k + 1, by omega, by rw [HFS.out], by go_num, GAv5, HBv5⟩, by simp [intOf]; omega⟩
                exact AllReadyH.nil
              exact AllReadyH.nil
            exact AllReadyH.nil
        · have hvv : (cv T k == (kv : Int)) = false := by rw [beq_eq_false_iff_ne]; exact hv
          have HFS := Lib.hid (fst_same (border := border) (b := b) (s := s) (k := k) (by
            rintro ⟨h1, h2⟩
            exact hv (by rw [h2]; exact HRG.out.vv b HRG.out.on.from_mem)))
          clear hv
          refine wp_region_held_drew (S := fun w' => w'.cell? ⟨ga, 0, none⟩ = some (.int .i64 N) ∧ w'.cell? ⟨ga, 1, none⟩ = some (.slice A T.length c)) (by kernel_rfl) ⟨(soup_facts GAwB.out.drew).1, (soup_facts GAwB.out.drew).2.1⟩ (fun hHeld => ?_)
          refine held_take (i := 0) (v := ?v19) rfl (by kernel_rfl) (by kernel_rfl) (by kernel_rfl) (fun _ _ _ h => h) (Or.inl ⟨by rfl, ?hy19⟩) (by assumption) ?rest19
          case hy19 => (intro w hSw; (try dsimp only at hSw); go_simp; try with_reducible rfl)
          (try simp only [Act.put, List.setIfInBounds_toArray, List.set_cons_zero, List.set_cons_succ])
          refine held_take (i := 1) (v := ?v20) rfl (by kernel_rfl) (by kernel_rfl) (by kernel_rfl) (fun _ _ _ h => h) (Or.inl ⟨by rfl, ?hy20⟩) (by assumption) ?rest20
          case hy20 => (intro w hSw; (try dsimp only at hSw); go_simp; try with_reducible rfl)
          (try simp only [Act.put, List.setIfInBounds_toArray, List.set_cons_zero, List.set_cons_succ])
          refine held_take (i := 3) (v := ?v21) rfl (by kernel_rfl) (by kernel_rfl) (by kernel_rfl) (fun _ _ _ h => h) (Or.inl ⟨by rfl, ?hy21⟩) (by assumption) ?rest21
          case hy21 => (intro w hSw; (try dsimp only at hSw); go_simp; try with_reducible rfl)
          (try simp only [Act.put, List.setIfInBounds_toArray, List.set_cons_zero, List.set_cons_succ])
          refine wpAnyH_ready (rs := [2]) (by kernel_rfl) (by simp) ?_
          refine held_cons rfl (fun K hK => ?_) ?_
          · go_simp
            go_wp2_with (go_at_call 32; refine (r15V_any N A c T k wB.drew (by omega) hlt ((HT.out.below (bw_drew HBwB.out)).more (bw_size (bw_drew HBwB.out)))).mono ?_; rintro e v3 ⟨rfl, hb⟩)
            have GAv3 := Lib.hid (blk_call GAwB.out.drew hb)
            have HBv3 := Lib.hid (bw_call (bw_drew HBwB.out) hb)
            clear hb
            refine hK.out _ _ ?_ (fun hHeld => ?_)
            · exact ⟨(soup_facts GAv3.out).1, (soup_facts GAv3.out).2.1⟩
            clear hK K
            (try simp only [Act.put, List.setIfInBounds_toArray, List.set_cons_zero, List.set_cons_succ])
            refine held_take (i := 4) (v := ?v22) rfl (by kernel_rfl) (by kernel_rfl) (by kernel_rfl) (fun _ _ _ h => h) (Or.inl ⟨by rfl, ?hy22⟩) (by assumption) ?rest22
            case hy22 => (intro w hSw; (try dsimp only at hSw); go_simp; try with_reducible rfl)
            (try simp only [Act.put, List.setIfInBounds_toArray, List.set_cons_zero, List.set_cons_succ])
            refine held_take (i := 5) (v := ?v23) rfl (by kernel_rfl) (by kernel_rfl) (by kernel_rfl) (fun _ _ _ h => h) (Or.inl ⟨by rfl, ?hy23⟩) (by assumption) ?rest23
            case hy23 => (intro w hSw; (try dsimp only at hSw); go_simp; try with_reducible rfl)
            (try simp only [Act.put, List.setIfInBounds_toArray, List.set_cons_zero, List.set_cons_succ])
            refine held_take (i := 6) rfl (by kernel_rfl) (by kernel_rfl) (by kernel_rfl) (fun _ _ _ h => h) (Or.inr ⟨by rfl, rfl⟩) (by assumption) ?_
            (try simp only [Act.put, List.setIfInBounds_toArray, List.set_cons_zero, List.set_cons_succ])
            refine held_take (i := 7) rfl (by kernel_rfl) (by kernel_rfl) (by kernel_rfl) (fun _ _ _ h => h) (Or.inr ⟨by rfl, rfl⟩) (by assumption) ?_
            (try simp only [Act.put, List.setIfInBounds_toArray, List.set_cons_zero, List.set_cons_succ])
            refine held_take (i := 8) rfl (by kernel_rfl) (by kernel_rfl) (by kernel_rfl) (fun _ _ _ h => h) (Or.inr ⟨by rfl, rfl⟩) (by assumption) ?_
            (try simp only [Act.put, List.setIfInBounds_toArray, List.set_cons_zero, List.set_cons_succ])
            refine held_take (i := 9) rfl (by kernel_rfl) (by kernel_rfl) (by kernel_rfl) (fun _ _ _ h => h) (Or.inr ⟨by rfl, rfl⟩) (by assumption) ?_
            (try simp only [Act.put, List.setIfInBounds_toArray, List.set_cons_zero, List.set_cons_succ])
            refine held_take (i := 10) rfl (by kernel_rfl) (by kernel_rfl) (by kernel_rfl) (fun _ _ _ h => h) (Or.inr ⟨by rfl, rfl⟩) (by assumption) ?_
            (try simp only [Act.put, List.setIfInBounds_toArray, List.set_cons_zero, List.set_cons_succ])
            refine held_take (i := 11) (v := ?v24) rfl (by kernel_rfl) (by kernel_rfl) (by kernel_rfl) (fun _ _ _ h => h) (Or.inl ⟨by rfl, ?hy24⟩) (by assumption) ?rest24
            case hy24 => (intro w hSw; (try dsimp only at hSw); go_simp; try with_reducible rfl)
            (try simp only [Act.put, List.setIfInBounds_toArray, List.set_cons_zero, List.set_cons_succ])
            refine wpAnyH_done (by kernel_rfl) ?_ _
            go_wp2_with fail
            exact ⟨⟨k + 1, by omega, by rw [HFS.out], by go_num, GAv3, HBv3⟩, by simp [intOf]; omega⟩
          exact AllReadyH.nil
      obtain rfl : k = 3 * T.length := by omega
      have hki : ¬ ((3 * T.length : Nat) : Int) < 3 * (T.length : Int) := by omega
      have hfb : fstK border b s (3 * T.length) = b := by
        unfold fstK
        cases hbo : border with
        | true => rw [if_pos ⟨rfl, HRG.out.fi.lt⟩]
        | false => rw [if_neg (by simp)]; exact ((HRG.out.fi.inn hbo).1).symm
      rw [hfb]
      clear hfb
      go_wp2_with fail
      go_loopw [8, 9, 10] (fun ov cv iv wr => ∃ (q : Nat) (pre R : List Nat) (A' : Option Addr) (c' : Nat), ov = .slice A' pre.length c' ∧ cv = .int .i64 (q : Int) ∧ iv = .int .i64 (pre.length : Int) ∧ Hid (L = pre ++ R ∧ Run (aftF T) b R q) ∧ Hid (wr.ownsRow w.heap.size 3 1 (.slice A' pre.length c') pre.length ((pre.map fun x : Nat => (x : Int)).flatMap cellsI)) ∧ Hid (Blk wr ga 24 #[.int .i64 N, .slice A T.length c]) ∧ Hid (Below w.heap.size w wr)) (fun _ _ iv _ => 3 * T.length - (intOf iv).toNat)
      case atStart => exact ⟨b, [], L, none, 0, rfl, rfl, rfl, Lib.hid ⟨rfl, HRG.out.on⟩, Lib.hid (World.ownsRow_nil _ _ _ _), GAwB, HBwB⟩
      case round =>
        obtain ⟨q, pre, R, A', c', rfl, rfl, rfl, HLR, HOB, GAB, HBB⟩ := hrel
        obtain ⟨wC, hwC⟩ : ∃ wC : World, wC = wr := ⟨_, rfl⟩
        rw [← hwC] at HOB GAB HBB ⊢
        clear hwC GAwB HBwB s0 s1
        obtain ⟨s0, s1, _, _, _⟩ := soup_facts GAB.out
        obtain ⟨R0, hR0⟩ := HLR.out.2.head
        have hq3 : q < 3 * T.length := HRG.out.lt q (by rw [HLR.out.1, hR0]; simp)
        have hpl : pre.length < 3 * T.length := by
          have h1 := HRL.out.len
          have h2 := HLR.out.1
          rw [h2, hR0] at h1
          simp at h1
          omega
        have hpi : (pre.length : Int) < 3 * (T.length : Int) := by omega
        clear hR0
        have HBE : Hid (Below w.heap.size w (wC.alloc (.cells #[.int .i64 (q : Int)] 3))) := Lib.hid (bw_alloc HBB.out _)
        have HOE : Hid ((wC.alloc (.cells #[.int .i64 (q : Int)] 3)).ownsRow w.heap.size 3 1 (.slice A' pre.length c') pre.length ((pre.map fun x : Nat => (x : Int)).flatMap cellsI)) := Lib.hid (own_same HOB.out fun k hk => Below.heap_alloc _ _ k (HOB.out.lt k hk).2)
        have GAE : Hid (Blk (wC.alloc (.cells #[.int .i64 (q : Int)] 3)) ga 24 #[.int .i64 N, .slice A T.length c]) := Lib.hid (GAB.out.alloc _)
        go_upto_region 20 with (at_builtin; go_must (refine wpList_append_sl _ rfl (.tmp 59) (.tmp 61) _ rfl w.heap.size 3 i0 _ 1 8 Tryz.underlying46 hi0 hz0 hz1 hz2 rfl (by omega) (.slice A' pre.length c') pre.length ((pre.map fun x : Nat => (x : Int)).flatMap cellsI) rfl HOE.out (wC.heap.size + 1) (some ⟨wC.heap.size, 0, none⟩) 1 1 [.int .i64 (q : Int)] rfl (reads_new wC #[.int .i64 (q : Int)] 3 1 1 rfl) (by intro u hu; simp at hu; subst hu; rfl) (by simp only [maxLen]; omega) (by omega) (bw_size HBE.out) ?_); intro A5 c5 wD hown5 hg5 hat5)
        have HOwD : Hid (wD.ownsRow w.heap.size 3 1 (.slice A5 (pre ++ [q]).length c5) (pre ++ [q]).length (((pre ++ [q]).map fun x : Nat => (x : Int)).flatMap cellsI)) := Lib.hid (by
          rw [List.length_append, List.map_append, List.flatMap_append]
          exact hown5)
        have hln : (pre ++ [q]).length = pre.length + 1 := by simp
        have HBwD : Hid (Below w.heap.size w wD) := Lib.hid (bw_grow HBE.out hg5 fun q hq => (HOE.out.lt q hq).1)
        have GAwD : Hid (Blk wD ga 24 #[.int .i64 N, .slice A T.length c]) := Lib.hid (GAE.out.grown hg5 fun e => own_blk_ne HOE.out GAE.out (by decide) e.symm)
        clear hown5 hg5 hat5 HOE HBE GAE HOB HBB GAB s0 s1
        by_cases hst : aftF T q = none
        · have hop : oppF T (nxc q) = none := by
            unfold aftF at hst
            rw [if_pos hq3] at hst
            cases h : oppF T (nxc q) with
            | none => rfl
            | some o => rw [h] at hst; cases hst
          have hoi : optI (oppF T (nxc q)) = -1 := optI_neg hop
          have HE := Lib.hid (show pre ++ [q] = L by rw [HLR.out.1, HLR.out.2.stop (.inl hst)])
          clear hop hst
          refine wp_region_till (S := fun w' => w'.cell? ⟨ga, 0, none⟩ = some (.int .i64 N) ∧ w'.cell? ⟨ga, 1, none⟩ = some (.slice A T.length c)) 4 (by kernel_rfl) ⟨(soup_facts GAwD.out.drew).1, (soup_facts GAwD.out.drew).2.1⟩ (fun hHeld => ?_)
          refine Till.take (i := 0) (v := ?vt6) rfl (by kernel_rfl) (by kernel_rfl) (by kernel_rfl) (by kernel_rfl) (fun _ _ _ h => h) (Or.inl ⟨by rfl, ?ht6⟩) (by assumption) ?restt6
          case ht6 => (intro w hSw; (try dsimp only at hSw); go_simp; try with_reducible rfl)
          (try simp only [Act.put, List.setIfInBounds_toArray, List.set_cons_zero, List.set_cons_succ])
          refine Till.take (i := 1) (v := ?vt7) rfl (by kernel_rfl) (by kernel_rfl) (by kernel_rfl) (by kernel_rfl) (fun _ _ _ h => h) (Or.inl ⟨by rfl, ?ht7⟩) (by assumption) ?restt7
          case ht7 => (intro w hSw; (try dsimp only at hSw); go_simp; try with_reducible rfl)
          (try simp only [Act.put, List.setIfInBounds_toArray, List.set_cons_zero, List.set_cons_succ])
          refine Till.ready (rs := [2]) (by kernel_rfl) (by simp) ?_
          refine TillEach.cons rfl (fun K hK => ?_) ?_
          · go_simp
            go_wp2_with (go_at_call 72; refine (((r15Next_any q wD.drew (by omega)).mono fun e w' h => is_int h)).mono ?_; rintro e v3 ⟨rfl, hb⟩)
            have GAv3 := Lib.hid (blk_call GAwD.out.drew hb)
            have HOv3 := Lib.hid (own_up HOwD.out.drew hb)
            have HBv3 := Lib.hid (bw_call (bw_drew HBwD.out) hb)
            clear hb
            refine hK.out _ _ ?_ (fun hHeld => ?_)
            · exact ⟨(soup_facts GAv3.out).1, (soup_facts GAv3.out).2.1⟩
            clear hK K
            (try simp only [Act.put, List.setIfInBounds_toArray, List.set_cons_zero, List.set_cons_succ])
            refine Till.ready (rs := [3]) (by kernel_rfl) (by simp) ?_
            refine TillEach.cons rfl (fun K hK => ?_) ?_
            · go_simp
              go_wp2_with (go_at_call 70; refine (r15Opp_any N A c T (nxc q) v3 (by omega) (nxc_lt hq3) ((HT.out.below HBv3.out).more (bw_size HBv3.out))).mono ?_; rintro e v4 ⟨rfl, hb⟩)
              have GAv4 := Lib.hid (blk_call GAv3.out hb)
              have HOv4 := Lib.hid (own_up HOv3.out hb)
              have HBv4 := Lib.hid (bw_call HBv3.out hb)
              clear hb GAv3 HOv3 HBv3
              refine hK.out _ _ ?_ (fun hHeld => ?_)
              · exact ⟨(soup_facts GAv4.out).1, (soup_facts GAv4.out).2.1⟩
              clear hK K
              (try simp only [Act.put, List.setIfInBounds_toArray, List.set_cons_zero, List.set_cons_succ])
              refine Till.ready (rs := [4]) (by kernel_rfl) (by simp) ?_
              refine TillEach.last rfl (fun K hK => ?_)
              · go_simp
                refine hK.out _ _ ?_
                clear hK K
                (try simp only [Act.put, List.setIfInBounds_toArray, List.set_cons_zero, List.set_cons_succ])
                refine Till.done (by kernel_rfl) ?_ _
                go_wp2_with fail
                go_ret
                exact ⟨A5, c5, by rw [List.length_map, ← HE.out, hln]; rfl, by rw [List.length_map, ← HE.out]; exact HOv4.out, HBv4.out⟩
            exact TillEach.nil
          exact TillEach.nil
        · obtain ⟨o, ho, haq⟩ : ∃ o, oppF T (nxc q) = some o ∧ aftF T q = some (nxc o) := by
            cases ha : aftF T q with
            | none => exact absurd ha hst
            | some d =>
              obtain ⟨_, o, h1, h2⟩ := aft_some ha
              exact ⟨o, h1, by rw [h2]⟩
          have hoi : optI (oppF T (nxc q)) = (o : Int) := by rw [ho]; rfl
          have ho3 : o < 3 * T.length := (facing_some ho).1
          have ho0 : ¬ (o : Int) < 0 := by omega
          obtain ⟨d, hd⟩ : ∃ d, nxc o = d := ⟨_, rfl⟩
          have HNX : Hid (∀ W, Calls Tryz.prog 72 #[.int .i64 (o : Int)] W (IsPost W (.int .i64 (d : Int)))) := Lib.hid fun W => hd ▸ r15Next_any o W (by omega)
          rw [hd] at haq
          clear hd ho hst
          by_cases hdb : d = b
          · subst hdb
            have hbt : ((d : Int) == (d : Int)) = true := by simp
            have HE := Lib.hid (show pre ++ [q] = L by rw [HLR.out.1, HLR.out.2.stop (.inr haq)])
            clear haq
            refine wp_region_till (S := fun w' => w'.cell? ⟨ga, 0, none⟩ = some (.int .i64 N) ∧ w'.cell? ⟨ga, 1, none⟩ = some (.slice A T.length c)) 4 (by kernel_rfl) ⟨(soup_facts GAwD.out.drew).1, (soup_facts GAwD.out.drew).2.1⟩ (fun hHeld => ?_)
            refine Till.take (i := 0) (v := ?vt8) rfl (by kernel_rfl) (by kernel_rfl) (by kernel_rfl) (by kernel_rfl) (fun _ _ _ h => h) (Or.inl ⟨by rfl, ?ht8⟩) (by assumption) ?restt8
            case ht8 => (intro w hSw; (try dsimp only at hSw); go_simp; try with_reducible rfl)
            (try simp only [Act.put, List.setIfInBounds_toArray, List.set_cons_zero, List.set_cons_succ])
            refine Till.take (i := 1) (v := ?vt9) rfl (by kernel_rfl) (by kernel_rfl) (by kernel_rfl) (by kernel_rfl) (fun _ _ _ h => h) (Or.inl ⟨by rfl, ?ht9⟩) (by assumption) ?restt9
            case ht9 => (intro w hSw; (try dsimp only at hSw); go_simp; try with_reducible rfl)
            (try simp only [Act.put, List.setIfInBounds_toArray, List.set_cons_zero, List.set_cons_succ])
            refine Till.ready (rs := [2]) (by kernel_rfl) (by simp) ?_
            refine TillEach.cons rfl (fun K hK => ?_) ?_
            · go_simp
              go_wp2_with (go_at_call 72; refine (((r15Next_any q wD.drew (by omega)).mono fun e w' h => is_int h)).mono ?_; rintro e v3 ⟨rfl, hb⟩)
              have GAv3 := Lib.hid (blk_call GAwD.out.drew hb)
              have HOv3 := Lib.hid (own_up HOwD.out.drew hb)
              have HBv3 := Lib.hid (bw_call (bw_drew HBwD.out) hb)
              clear hb
              refine hK.out _ _ ?_ (fun hHeld => ?_)
              · exact ⟨(soup_facts GAv3.out).1, (soup_facts GAv3.out).2.1⟩
              clear hK K
              (try simp only [Act.put, List.setIfInBounds_toArray, List.set_cons_zero, List.set_cons_succ])
              refine Till.ready (rs := [3]) (by kernel_rfl) (by simp) ?_
              refine TillEach.cons rfl (fun K hK => ?_) ?_
              · go_simp
                go_wp2_with (go_at_call 70; refine (r15Opp_any N A c T (nxc q) v3 (by omega) (nxc_lt hq3) ((HT.out.below HBv3.out).more (bw_size HBv3.out))).mono ?_; rintro e v4 ⟨rfl, hb⟩)
                have GAv4 := Lib.hid (blk_call GAv3.out hb)
                have HOv4 := Lib.hid (own_up HOv3.out hb)
                have HBv4 := Lib.hid (bw_call HBv3.out hb)
                clear hb GAv3 HOv3 HBv3
                refine hK.out _ _ ?_ (fun hHeld => ?_)
                · exact ⟨(soup_facts GAv4.out).1, (soup_facts GAv4.out).2.1⟩
                clear hK K
                (try simp only [Act.put, List.setIfInBounds_toArray, List.set_cons_zero, List.set_cons_succ])
                refine Till.ready (rs := [4]) (by kernel_rfl) (by simp) ?_
                refine TillEach.last rfl (fun K hK => ?_)
                · go_simp
                  refine hK.out _ _ ?_
                  clear hK K
                  (try simp only [Act.put, List.setIfInBounds_toArray, List.set_cons_zero, List.set_cons_succ])
                  refine Till.done (by kernel_rfl) ?_ _
                  go_wp2_with fail
                  refine (HNX.out _).mono ?_
                  rintro e w' ⟨rfl, hw⟩
                  replace hw := hw.symm
                  subst hw
                  go_wp2_with fail
                  go_ret
                  exact ⟨A5, c5, by rw [List.length_map, ← HE.out, hln]; rfl, by rw [List.length_map, ← HE.out]; exact HOv4.out, HBv4.out⟩
              exact TillEach.nil
            exact TillEach.nil
          · have hbf : ((d : Int) == (b : Int)) = false := by rw [beq_eq_false_iff_ne]; omega
            obtain ⟨R', hRR, h1, _⟩ := HLR.out.2.next haq hdb
            have HN := Lib.hid (show L = (pre ++ [q]) ++ R' ∧ Run (aftF T) b R' d from ⟨by rw [HLR.out.1, hRR]; simp, h1⟩)
            clear haq hRR h1
            refine wp_region_till (S := fun w' => w'.cell? ⟨ga, 0, none⟩ = some (.int .i64 N) ∧ w'.cell? ⟨ga, 1, none⟩ = some (.slice A T.length c)) 4 (by kernel_rfl) ⟨(soup_facts GAwD.out.drew).1, (soup_facts GAwD.out.drew).2.1⟩ (fun hHeld => ?_)
            refine Till.take (i := 0) (v := ?vt10) rfl (by kernel_rfl) (by kernel_rfl) (by kernel_rfl) (by kernel_rfl) (fun _ _ _ h => h) (Or.inl ⟨by rfl, ?ht10⟩) (by assumption) ?restt10
            case ht10 => (intro w hSw; (try dsimp only at hSw); go_simp; try with_reducible rfl)
            (try simp only [Act.put, List.setIfInBounds_toArray, List.set_cons_zero, List.set_cons_succ])
            refine Till.take (i := 1) (v := ?vt11) rfl (by kernel_rfl) (by kernel_rfl) (by kernel_rfl) (by kernel_rfl) (fun _ _ _ h => h) (Or.inl ⟨by rfl, ?ht11⟩) (by assumption) ?restt11
            case ht11 => (intro w hSw; (try dsimp only at hSw); go_simp; try with_reducible rfl)
            (try simp only [Act.put, List.setIfInBounds_toArray, List.set_cons_zero, List.set_cons_succ])
            refine Till.ready (rs := [2]) (by kernel_rfl) (by simp) ?_
            refine TillEach.cons rfl (fun K hK => ?_) ?_
            · go_simp
              go_wp2_with (go_at_call 72; refine (((r15Next_any q wD.drew (by omega)).mono fun e w' h => is_int h)).mono ?_; rintro e v3 ⟨rfl, hb⟩)
              have GAv3 := Lib.hid (blk_call GAwD.out.drew hb)
              have HOv3 := Lib.hid (own_up HOwD.out.drew hb)
              have HBv3 := Lib.hid (bw_call (bw_drew HBwD.out) hb)
              clear hb
              refine hK.out _ _ ?_ (fun hHeld => ?_)
              · exact ⟨(soup_facts GAv3.out).1, (soup_facts GAv3.out).2.1⟩
              clear hK K
              (try simp only [Act.put, List.setIfInBounds_toArray, List.set_cons_zero, List.set_cons_succ])
              refine Till.ready (rs := [3]) (by kernel_rfl) (by simp) ?_
              refine TillEach.cons rfl (fun K hK => ?_) ?_
              · go_simp
                go_wp2_with (go_at_call 70; refine (r15Opp_any N A c T (nxc q) v3 (by omega) (nxc_lt hq3) ((HT.out.below HBv3.out).more (bw_size HBv3.out))).mono ?_; rintro e v4 ⟨rfl, hb⟩)
                have GAv4 := Lib.hid (blk_call GAv3.out hb)
                have HOv4 := Lib.hid (own_up HOv3.out hb)
                have HBv4 := Lib.hid (bw_call HBv3.out hb)
                clear hb GAv3 HOv3 HBv3
                refine hK.out _ _ ?_ (fun hHeld => ?_)
                · exact ⟨(soup_facts GAv4.out).1, (soup_facts GAv4.out).2.1⟩
                clear hK K
                (try simp only [Act.put, List.setIfInBounds_toArray, List.set_cons_zero, List.set_cons_succ])
                refine Till.ready (rs := [4]) (by kernel_rfl) (by simp) ?_
                refine TillEach.last rfl (fun K hK => ?_)
                · go_simp
                  refine hK.out _ _ ?_
                  clear hK K
                  (try simp only [Act.put, List.setIfInBounds_toArray, List.set_cons_zero, List.set_cons_succ])
                  refine Till.done (by kernel_rfl) ?_ _
                  go_wp2_with fail
                  refine (HNX.out _).mono ?_
                  rintro e w' ⟨rfl, hw⟩
                  replace hw := hw.symm
                  subst hw
                  go_wp2_with fail
                  exact ⟨⟨d, pre ++ [q], R', A5, c5, by rw [hln], rfl, by rw [hln]; go_num, HN, HOv4, GAv4, HBv4⟩, by simp [intOf]; omega⟩
              exact TillEach.nil
            exact TillEach.nil
end Go.Proofs.YtbdicndkkenbgaaGreat
