/- gypsumref15.beside, walked. No condition. -/
import Derived.Test.YtbdicndkkenbgaaGreatR15a
import Derived.Test.YtbdicndkkenbgaaGreatCornerB
namespace Go.Proofs.YtbdicndkkenbgaaGreat
open Go.RowKit

set_option linter.unusedSimpArgs false
set_option linter.unusedVariables false
theorem tri_cell {w : World} {g k : Nat} {a : Tri} (h : Blk w g 71 #[.int .i64 a.a, .int .i64 a.b, .int .i64 a.c]) (hk : k < 3) : w.cell? ⟨g, k, none⟩ = some (.int .i64 (cornerT a k)) := by
  rw [h.cell]
  rcases (by omega : k = 0 ∨ k = 1 ∨ k = 2) with rfl | rfl | rfl <;> rfl
/-- How many of a triangle's first corners another one has. -/
def cntB (a b : Tri) : Nat → Nat
  | 0 => 0
  | k + 1 => cntB a b k + if hasB b (cornerT a k) then 1 else 0
def besB (a b : Tri) : Bool := decide (2 ≤ cntB a b 3)
theorem cnt_le (a b : Tri) : ∀ k, cntB a b k ≤ k
  | 0 => Nat.le_refl _
  | k + 1 => by
    have h := cnt_le a b k
    unfold cntB
    split <;> omega
attribute [local irreducible] Blk LRow World.alloc World.setCell World.cell? World.frozen?
set_option maxRecDepth 100000 in
set_option maxHeartbeats 4000000 in
theorem beside_any (a b : Tri) (w : World) : Calls Tryz.prog 61 #[.agg #[.int .i64 a.a, .int .i64 a.b, .int .i64 a.c], .agg #[.int .i64 b.a, .int .i64 b.b, .int .i64 b.c]] w (BoolPost w (besB a b)) := by
  obtain ⟨r, HRR⟩ : ∃ r, Hid (besB a b = r) := ⟨_, Lib.hid rfl⟩
  rw [HRR.out]
  obtain ⟨V, hV⟩ : ∃ V, V = (w.alloc (.cells #[.int .i64 a.a, .int .i64 a.b, .int .i64 a.c] 71)).alloc (.cells #[.int .i64 b.a, .int .i64 b.b, .int .i64 b.c] 71) := ⟨_, rfl⟩
  have GX0 : Hid (Blk V w.heap.size 71 #[.int .i64 a.a, .int .i64 a.b, .int .i64 a.c]) := by subst hV; exact Lib.hid ((Blk.new _ _ _).alloc _)
  have GY0 : Hid (Blk V (w.heap.size + 1) 71 #[.int .i64 b.a, .int .i64 b.b, .int .i64 b.c]) := by subst hV; exact Lib.hid (blk_new1 _ _ _ _)
  have HB0 : Hid (Below w.heap.size w V) := by subst hV; exact Lib.hid (bw_alloc (bw_alloc (Below.refl _ _) _) _)
  go_enter Tryz.func61, Tryz.ntmps61
  go_upto_region 1 with (fail)
  rw [← hV]
  clear hV
  obtain ⟨gx, hgx⟩ : ∃ g, g = w.heap.size := ⟨_, rfl⟩
  obtain ⟨gy, hgy⟩ : ∃ g, g = w.heap.size + 1 := ⟨_, rfl⟩
  rw [← hgy] at GY0 ⊢
  rw [← hgx] at GX0
  simp only [← hgx]
  clear hgx hgy
  go_wp2_with fail
  go_loopw [5, 6] (fun nv iv wr => ∃ k : Nat, k ≤ 3 ∧ nv = .int .i64 (cntB a b k : Int) ∧ iv = .int .i64 k ∧ Hid (Blk wr gx 71 #[.int .i64 a.a, .int .i64 a.b, .int .i64 a.c]) ∧ Hid (Blk wr gy 71 #[.int .i64 b.a, .int .i64 b.b, .int .i64 b.c]) ∧ Hid (Below w.heap.size w wr)) (fun _ iv _ => 3 - (intOf iv).toNat)
  case atStart => exact ⟨0, by omega, rfl, rfl, GX0, GY0, HB0⟩
  case round =>
    obtain ⟨k, hk, rfl, rfl, GXwB, GYwB, HBwB⟩ := hrel
    obtain ⟨wB, hwB⟩ : ∃ wB : World, wB = wr := ⟨_, rfl⟩
    rw [← hwB] at GXwB GYwB HBwB ⊢
    clear hwB GX0 GY0 HB0
    have hcn := cnt_le a b k
    by_cases hk3 : k < 3
    · have hki : (k : Int) < 3 := by omega
      have HH := Lib.hid (r15Has_any b (cornerT a k))
      have HCS : Hid (cntB a b (k + 1) = cntB a b k + if hasB b (cornerT a k) then 1 else 0) := Lib.hid rfl
      go_upto_region 5 with (fail)
      cases hh : hasB b (cornerT a k) with
      | true =>
        rw [hh] at HH HCS
        have HC : Hid (cntB a b (k + 1) = cntB a b k + 1) := Lib.hid HCS.out
        clear HCS hh
        generalize cntB a b k = q at *
        refine wp_region_held_drew (S := fun w' => w'.cell? ⟨gx, k, none⟩ = some (.int .i64 (cornerT a k)) ∧ w'.cell? ⟨gy, 0, none⟩ = some (.int .i64 b.a) ∧ w'.cell? ⟨gy, 1, none⟩ = some (.int .i64 b.b) ∧ w'.cell? ⟨gy, 2, none⟩ = some (.int .i64 b.c)) (by kernel_rfl) ⟨(tri_cell GXwB.out.drew hk3), (GYwB.out.drew.cell 0), (GYwB.out.drew.cell 1), (GYwB.out.drew.cell 2)⟩ (fun hHeld => ?_)
        refine held_take (i := 0) (v := ?v41) rfl (by kernel_rfl) (by kernel_rfl) (by kernel_rfl) (fun _ _ _ h => h) (Or.inl ⟨by rfl, ?hy41⟩) (by assumption) ?rest41
        case hy41 => (intro w hSw; (try dsimp only at hSw); go_simp; try with_reducible rfl)
        (try simp only [Act.put, List.setIfInBounds_toArray, List.set_cons_zero, List.set_cons_succ])
        refine held_take (i := 1) (v := ?v42) rfl (by kernel_rfl) (by kernel_rfl) (by kernel_rfl) (fun _ _ _ h => h) (Or.inl ⟨by rfl, ?hy42⟩) (by assumption) ?rest42
        case hy42 => (intro w hSw; (try dsimp only at hSw); go_simp; try with_reducible rfl)
        (try simp only [Act.put, List.setIfInBounds_toArray, List.set_cons_zero, List.set_cons_succ])
        refine held_take (i := 2) (v := ?v43) rfl (by kernel_rfl) (by kernel_rfl) (by kernel_rfl) (fun _ _ _ h => h) (Or.inl ⟨by rfl, ?hy43⟩) (by assumption) ?rest43
        case hy43 => (intro w hSw; (try dsimp only at hSw); go_simp; try with_reducible rfl)
        (try simp only [Act.put, List.setIfInBounds_toArray, List.set_cons_zero, List.set_cons_succ])
        refine held_take (i := 3) (v := ?v44) rfl (by kernel_rfl) (by kernel_rfl) (by kernel_rfl) (fun _ _ _ h => h) (Or.inl ⟨by rfl, ?hy44⟩) (by assumption) ?rest44
        case hy44 => (intro w hSw; (try dsimp only at hSw); go_simp; try with_reducible rfl)
        (try simp only [Act.put, List.setIfInBounds_toArray, List.set_cons_zero, List.set_cons_succ])
        refine wpAnyH_ready (rs := [4]) (by kernel_rfl) (by simp) ?_
        refine held_cons rfl (fun K hK => ?_) ?_
        · go_simp
          go_wp2_with (go_at_call 45; refine (HH.out wB.drew).mono ?_; rintro e v3 ⟨rfl, hb⟩)
          have GXv3 := Lib.hid (blk_call GXwB.out.drew hb)
          have GYv3 := Lib.hid (blk_call GYwB.out.drew hb)
          have HBv3 := Lib.hid (bw_call (bw_drew HBwB.out) hb)
          clear hb
          refine hK.out _ _ ?_ (fun hHeld => ?_)
          · exact ⟨(tri_cell GXv3.out hk3), (GYv3.out.cell 0), (GYv3.out.cell 1), (GYv3.out.cell 2)⟩
          clear hK K
          (try simp only [Act.put, List.setIfInBounds_toArray, List.set_cons_zero, List.set_cons_succ])
          refine wpAnyH_done (by kernel_rfl) ?_ _
          go_wp2_with fail
          exact ⟨⟨k + 1, by omega, by rw [HC.out]; go_num, by go_num, GXv3, GYv3, HBv3⟩, by simp [intOf]; omega⟩
        exact AllReadyH.nil
      | false =>
        rw [hh] at HH HCS
        have HC : Hid (cntB a b (k + 1) = cntB a b k) := Lib.hid HCS.out
        clear HCS hh
        generalize cntB a b k = q at *
        refine wp_region_held_drew (S := fun w' => w'.cell? ⟨gx, k, none⟩ = some (.int .i64 (cornerT a k)) ∧ w'.cell? ⟨gy, 0, none⟩ = some (.int .i64 b.a) ∧ w'.cell? ⟨gy, 1, none⟩ = some (.int .i64 b.b) ∧ w'.cell? ⟨gy, 2, none⟩ = some (.int .i64 b.c)) (by kernel_rfl) ⟨(tri_cell GXwB.out.drew hk3), (GYwB.out.drew.cell 0), (GYwB.out.drew.cell 1), (GYwB.out.drew.cell 2)⟩ (fun hHeld => ?_)
        refine held_take (i := 0) (v := ?v45) rfl (by kernel_rfl) (by kernel_rfl) (by kernel_rfl) (fun _ _ _ h => h) (Or.inl ⟨by rfl, ?hy45⟩) (by assumption) ?rest45
        case hy45 => (intro w hSw; (try dsimp only at hSw); go_simp; try with_reducible rfl)
        (try simp only [Act.put, List.setIfInBounds_toArray, List.set_cons_zero, List.set_cons_succ])
        refine held_take (i := 1) (v := ?v46) rfl (by kernel_rfl) (by kernel_rfl) (by kernel_rfl) (fun _ _ _ h => h) (Or.inl ⟨by rfl, ?hy46⟩) (by assumption) ?rest46
        case hy46 => (intro w hSw; (try dsimp only at hSw); go_simp; try with_reducible rfl)
        (try simp only [Act.put, List.setIfInBounds_toArray, List.set_cons_zero, List.set_cons_succ])
        refine held_take (i := 2) (v := ?v47) rfl (by kernel_rfl) (by kernel_rfl) (by kernel_rfl) (fun _ _ _ h => h) (Or.inl ⟨by rfl, ?hy47⟩) (by assumption) ?rest47
        case hy47 => (intro w hSw; (try dsimp only at hSw); go_simp; try with_reducible rfl)
        (try simp only [Act.put, List.setIfInBounds_toArray, List.set_cons_zero, List.set_cons_succ])
        refine held_take (i := 3) (v := ?v48) rfl (by kernel_rfl) (by kernel_rfl) (by kernel_rfl) (fun _ _ _ h => h) (Or.inl ⟨by rfl, ?hy48⟩) (by assumption) ?rest48
        case hy48 => (intro w hSw; (try dsimp only at hSw); go_simp; try with_reducible rfl)
        (try simp only [Act.put, List.setIfInBounds_toArray, List.set_cons_zero, List.set_cons_succ])
        refine wpAnyH_ready (rs := [4]) (by kernel_rfl) (by simp) ?_
        refine held_cons rfl (fun K hK => ?_) ?_
        · go_simp
          go_wp2_with (go_at_call 45; refine (HH.out wB.drew).mono ?_; rintro e v3 ⟨rfl, hb⟩)
          have GXv3 := Lib.hid (blk_call GXwB.out.drew hb)
          have GYv3 := Lib.hid (blk_call GYwB.out.drew hb)
          have HBv3 := Lib.hid (bw_call (bw_drew HBwB.out) hb)
          clear hb
          refine hK.out _ _ ?_ (fun hHeld => ?_)
          · exact ⟨(tri_cell GXv3.out hk3), (GYv3.out.cell 0), (GYv3.out.cell 1), (GYv3.out.cell 2)⟩
          clear hK K
          (try simp only [Act.put, List.setIfInBounds_toArray, List.set_cons_zero, List.set_cons_succ])
          refine wpAnyH_done (by kernel_rfl) ?_ _
          go_wp2_with fail
          exact ⟨⟨k + 1, by omega, by rw [HC.out], by go_num, GXv3, GYv3, HBv3⟩, by simp [intOf]; omega⟩
        exact AllReadyH.nil
    · obtain rfl : k = 3 := by omega
      have HE : Hid (besB a b = decide (2 ≤ cntB a b 3)) := Lib.hid rfl
      rw [HRR.out] at HE
      generalize cntB a b 3 = q at *
      by_cases h2 : 2 ≤ q
      · have h2i : (2 : Int) ≤ (q : Int) := by omega
        have HR : Hid (r = true) := Lib.hid (HE.out.trans (decide_eq_true h2))
        go_wp2_with fail
        go_ret
        exact ⟨by rw [HR.out]; rfl, HBwB.out⟩
      · have h2i : ¬ (2 : Int) ≤ (q : Int) := by omega
        have HR : Hid (r = false) := Lib.hid (HE.out.trans (decide_eq_false h2))
        go_wp2_with fail
        go_ret
        exact ⟨by rw [HR.out]; rfl, HBwB.out⟩
end Go.Proofs.YtbdicndkkenbgaaGreat
