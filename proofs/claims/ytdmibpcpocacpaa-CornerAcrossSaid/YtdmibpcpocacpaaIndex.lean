/- certify.index, walked: vertices that there aren't. No condition. -/
import Derived.Test.YtdmibpcpocacpaaLoops
namespace Go.Proofs.Ytdmibpcpocacpaa
open Go.RowKit

/-- Has the triangle of a number a vertex that there isn't? -/
def badV (N x : Int) : Bool := decide (x < 0) || decide (N ≤ x)
def indexB (N : Int) (T : List Tri) (i : Nat) : Bool := match T[i]? with
  | none => false
  | some t => badV N t.a || badV N t.b || badV N t.c
/-- Are there too many, or too few? -/
def sizeB (N : Int) (n : Nat) : Bool := decide (N < 0) || decide (4096 < N) || decide (8192 < n)
def indexL (N : Int) (n : Nat) (T : List Tri) : List (Int × Int × Int) := if sizeB N n then [(1, -1, 0)] else picks 1 (indexB N T) n

theorem wit_new (w W : World) (hb : Below w.heap.size w W) (x : Int × Int × Int) {g : Nat} (hg : W.heap.size = g) :
    WitRow (W.alloc (.cells #[.int .i64 x.1, .int .i64 x.2.1, .int .i64 x.2.2] 41)) w.heap.size (some ⟨g, 0, none⟩) 1 [x] := by
  subst hg
  exact ⟨rfl, .inr ⟨W.heap.size, 1, _, rfl, hb.size, heap_alloc_new _ _, Nat.le_refl _, by decide, rfl, rfl⟩⟩
theorem badV_yes {N x : Int} (h : badV N x = true) : x < 0 ∨ N ≤ x := by
  unfold badV at h
  simpa using h
theorem badV_no {N x : Int} (h : ¬ badV N x = true) : 0 ≤ x ∧ x < N := by
  unfold badV at h
  simp at h
  omega

set_option maxRecDepth 100000 in
set_option maxHeartbeats 4000000 in
theorem index_any (N : Int) (A : Option Addr) (n c : Nat) (T : List Tri) (w : World) (hn : n ≤ 10000) (ht : TrisAt w w.heap.size A n T) :
    Calls Try.prog 46 #[.agg #[.int .i64 N, .slice A n c]] w (WitPost w (indexL N n T)) := by
  obtain ⟨i0, hi0, hz0, hz1, hz2⟩ := info_parts wit_info
  have HT := Lib.hid ht
  clear ht
  by_cases hs : N < 0 ∨ 4096 < N ∨ 8192 < n
  · have HL : Hid (indexL N n T = [(1, -1, 0)]) := by
      refine Lib.hid ?_
      unfold indexL
      rw [if_pos]
      unfold sizeB
      simp only [Bool.or_eq_true, decide_eq_true_eq]
      omega
    rw [HL.out]
    have hs' : N < 0 ∨ 4096 < N ∨ (8192 : Int) < n := by omega
    clear hs
    go_enter Try.func46, Try.ntmps46
    go_wp2_with fail
    all_goals first
      | (exfalso; omega)
      | (go_ret
         refine ⟨_, _, rfl, ?_, ((Below.refl _ _).alloc (Nat.le_refl _) _).alloc (by simp) _⟩
         exact wit_new w _ ((Below.refl _ _).alloc (Nat.le_refl _) _) (1, -1, 0) (by simp))
  · have h1 : 0 ≤ N := by omega
    have h2 : N ≤ 4096 := by omega
    have h3 : (n : Int) ≤ 8192 := by omega
    have HL : Hid (indexL N n T = picks 1 (indexB N T) n) := by
      refine Lib.hid ?_
      unfold indexL
      rw [if_neg]
      unfold sizeB
      simp only [Bool.or_eq_true, decide_eq_true_eq]
      omega
    rw [HL.out]
    clear hs HL
    go_enter Try.func46, Try.ntmps46
    go_wp2_with fail
    obtain ⟨W, hW⟩ : ∃ W, W = w.alloc (.cells #[.int .i64 N, .slice A n c] 24) := ⟨_, rfl⟩
    have HX : Hid (Blk W w.heap.size 24 #[.int .i64 N, .slice A n c]) := by subst hW; exact Lib.hid (Blk.new _ _ _)
    have HW : Hid (Below w.heap.size w W) := by subst hW; exact Lib.hid ((Below.refl _ _).alloc (Nat.le_refl _) _)
    have hws : w.heap.size < W.heap.size := HX.out.lt
    rw [← hW]
    clear hW
    go_loopw [3, 27] (fun lv iv wr => ∃ k : Nat, k ≤ n ∧ iv = .int .i64 k ∧ WitRel W wr (picks 1 (indexB N T) k) lv) (fun _ iv _ => n - (intOf iv).toNat)
    case atStart => exact ⟨0, by omega, rfl, WitRel.start0 _⟩
    case round =>
      obtain ⟨k, hk, rfl, A', c', rfl, HO, HB⟩ := hrel
      by_cases hlt : k < n
      · obtain ⟨ad, t, rfl, htk, _, hadb, hc3⟩ := ((HT.out.below HW.out).below (HB.out.mono (Nat.le_of_lt hws))).at_ hlt
        obtain ⟨d0, d1, d2, d3, d4, d5⟩ := hc3
        have HP := Lib.hid (picks_succ 1 (indexB N T) k)
        have HL : Hid (indexB N T k = (badV N t.a || badV N t.b || badV N t.c)) := Lib.hid (by unfold indexB; rw [htk])
        have hsz := HB.out.size
        have hpl := picks_len 1 (indexB N T) k
        have b0 := (HX.out.below HB.out hws).cell 0
        have b1 := (HX.out.below HB.out hws).cell 1
        simp at b0 b1
        have hws2 : w.heap.size < wr.heap.size := by omega
        have e0 : ∀ w, (Instr.index 50 (.agg #[.int .i64 t.a, .int .i64 t.b, .int .i64 t.c]) (.int .i64 0)).run Try.prog w = .ok (.int .i64 t.a) w := fun _ => by kernel_rfl
        have e1 : ∀ w, (Instr.index 50 (.agg #[.int .i64 t.a, .int .i64 t.b, .int .i64 t.c]) (.int .i64 1)).run Try.prog w = .ok (.int .i64 t.b) w := fun _ => by kernel_rfl
        have e2 : ∀ w, (Instr.index 50 (.agg #[.int .i64 t.a, .int .i64 t.b, .int .i64 t.c]) (.int .i64 2)).run Try.prog w = .ok (.int .i64 t.c) w := fun _ => by kernel_rfl
        clear htk
        go_wp2_with fail
        refine wp_loop_rounds 4 ?_
        rw [rounds_succ]
        go_wp2_with (at_builtin; go_must (refine wpList_append_sl _ rfl (.tmp 44) (.tmp 47) _ rfl W.heap.size 41 i0 _ 3 24 Try.underlying67 hi0 hz0 hz1 hz2 rfl (by omega) (.slice A' (picks 1 (indexB N T) k).length c') _ _ rfl ((HO.out.alloc _).alloc _) (wr.heap.size + 1 + 1) (some ⟨wr.heap.size + 1, 0, none⟩) 1 1 (w3 (1, (k : Int), 0)) rfl (reads_newN _ _ _ 1 3 rfl (by simp)) (by simp [w3, Value.oneCell']) (by simp only [maxLen]; omega) (by omega) (by simp; omega) ?_); intro A1 c1 w1 hown1 hg1 hat1)
        all_goals try
          (refine ⟨⟨k + 1, by omega, by go_num, ?_⟩, by simp [intOf]; omega⟩
           rw [HP.out, HL.out]
           have hb : (badV N t.a || badV N t.b || badV N t.c) = true := by unfold badV; simp only [Bool.or_eq_true, decide_eq_true_eq]; omega
           rw [if_pos hb]
           exact WitRel.grow HO HB (((Below.refl _ _).alloc (Nat.le_refl _) _).alloc (by simp) _) hown1 hg1)
        rw [rounds_succ]
        go_wp2_with (at_builtin; go_must (refine wpList_append_sl _ rfl (.tmp 44) (.tmp 47) _ rfl W.heap.size 41 i0 _ 3 24 Try.underlying67 hi0 hz0 hz1 hz2 rfl (by omega) (.slice A' (picks 1 (indexB N T) k).length c') _ _ rfl ((HO.out.alloc _).alloc _) (wr.heap.size + 1 + 1) (some ⟨wr.heap.size + 1, 0, none⟩) 1 1 (w3 (1, (k : Int), 0)) rfl (reads_newN _ _ _ 1 3 rfl (by simp)) (by simp [w3, Value.oneCell']) (by simp only [maxLen]; omega) (by omega) (by simp; omega) ?_); intro A1 c1 w1 hown1 hg1 hat1)
        all_goals try
          (refine ⟨⟨k + 1, by omega, by go_num, ?_⟩, by simp [intOf]; omega⟩
           rw [HP.out, HL.out]
           have hb : (badV N t.a || badV N t.b || badV N t.c) = true := by unfold badV; simp only [Bool.or_eq_true, decide_eq_true_eq]; omega
           rw [if_pos hb]
           exact WitRel.grow HO HB (((Below.refl _ _).alloc (Nat.le_refl _) _).alloc (by simp) _) hown1 hg1)
        rw [rounds_succ]
        go_wp2_with (at_builtin; go_must (refine wpList_append_sl _ rfl (.tmp 44) (.tmp 47) _ rfl W.heap.size 41 i0 _ 3 24 Try.underlying67 hi0 hz0 hz1 hz2 rfl (by omega) (.slice A' (picks 1 (indexB N T) k).length c') _ _ rfl ((HO.out.alloc _).alloc _) (wr.heap.size + 1 + 1) (some ⟨wr.heap.size + 1, 0, none⟩) 1 1 (w3 (1, (k : Int), 0)) rfl (reads_newN _ _ _ 1 3 rfl (by simp)) (by simp [w3, Value.oneCell']) (by simp only [maxLen]; omega) (by omega) (by simp; omega) ?_); intro A1 c1 w1 hown1 hg1 hat1)
        all_goals try
          (refine ⟨⟨k + 1, by omega, by go_num, ?_⟩, by simp [intOf]; omega⟩
           rw [HP.out, HL.out]
           have hb : (badV N t.a || badV N t.b || badV N t.c) = true := by unfold badV; simp only [Bool.or_eq_true, decide_eq_true_eq]; omega
           rw [if_pos hb]
           exact WitRel.grow HO HB (((Below.refl _ _).alloc (Nat.le_refl _) _).alloc (by simp) _) hown1 hg1)
        rw [rounds_succ]
        go_wp2_with fail
        refine ⟨⟨k + 1, by omega, by go_num, ?_⟩, by simp [intOf]; omega⟩
        rw [HP.out, HL.out]
        have hb : ¬ (badV N t.a || badV N t.b || badV N t.c) = true := by unfold badV; simp only [Bool.or_eq_true, decide_eq_true_eq]; omega
        rw [if_neg hb]
        exact WitRel.keep ⟨A', c', rfl, HO, HB⟩ ((Below.refl _ _).alloc (Nat.le_refl _) _)
      · obtain rfl : k = n := by omega
        go_wp2_with fail
        go_ret
        exact ⟨A', c', rfl, own_mono HO.out (Nat.le_of_lt hws), HW.out.trans (HB.out.mono (Nat.le_of_lt hws))⟩
end Go.Proofs.Ytdmibpcpocacpaa
