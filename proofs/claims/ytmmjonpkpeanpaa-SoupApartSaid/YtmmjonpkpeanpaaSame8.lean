/- slices.Equal at triangles, soup.Same and the document's Same, in full. No condition. -/
import Derived.Test.YtmmjonpkpeanpaaWake8
namespace Go.Proofs.Ytmmjonpkpeanpaa
open Go.RowKit

set_option linter.unusedSimpArgs false
set_option linter.unusedVariables false
attribute [local irreducible] World.alloc World.setCell World.cell? World.frozen?
theorem run_nq_tri (a b c d e f : Int) (w : World) : (binOp .neq 51 (.agg #[.int .i64 a, .int .i64 b, .int .i64 c]) (.agg #[.int .i64 d, .int .i64 e, .int .i64 f])).run Try.prog w = .ok (.bool (!(a == d && b == e && c == f))) w := by
  rw [run_neq_struct]
  show ((Op.equalIn (9998 + 1 + 1) _ _ _).run _ _).andThen _ = _
  unfold Op.equalIn
  cases h1 : (a == d) <;> cases h2 : (b == e) <;> cases h3 : (c == f) <;> simp [go_sem, Try.underlying3, Result.andThen, List.range', h1, h2, h3]
deriving instance DecidableEq for Tri
theorem tri_eqb (t u : Tri) : (t.a == u.a && t.b == u.b && t.c == u.c) = decide (t = u) := by
  obtain ⟨a, b, c⟩ := t
  obtain ⟨d, e, f⟩ := u
  by_cases h1 : a = d <;> by_cases h2 : b = e <;> by_cases h3 : c = f <;> simp [h1, h2, h3]
theorem take_ne {X Y : List Tri} {k : Nat} {t u : Tri} (hx : X[k]? = some t) (hy : Y[k]? = some u) (h : t ≠ u) : ¬ X = Y := by
  rintro rfl
  rw [hx] at hy
  cases hy
  exact h rfl
set_option maxRecDepth 100000 in
set_option maxHeartbeats 8000000 in
theorem slEqual_dec (X Y : List Tri) (B B2 : Nat) (A A' : Option Addr) (n n' c c' : Nat) (w : World) (hn : n ≤ 1000000) (hn' : n' ≤ 1000000) (h1 : TrisAt w B A n X) (h2 : TrisAt w B2 A' n' Y) :
    Calls Try.prog 45 #[.slice A n c, .slice A' n' c'] w (BoolPost w (decide (X = Y))) := by
  have hxl := h1.len
  have hyl := h2.len
  have H1 := Lib.hid h1
  have H2 := Lib.hid h2
  clear h1 h2
  go_enter Try.func45, Try.ntmps45
  by_cases hnn : n = n'
  · subst hnn
    go_wp2_with fail
    go_loopw [13] (fun iv wr => ∃ k q : Nat, k ≤ n ∧ iv = .int .i64 k ∧ Hid (X.take k = Y.take k) ∧ wr = w.drewN q) (fun iv _ => n - (intOf iv).toNat)
    case atStart => exact ⟨0, 0, by omega, rfl, Lib.hid rfl, rfl⟩
    case round =>
      obtain ⟨k, q, hk, rfl, HK, rfl⟩ := hrel
      by_cases hlt : k < n
      · obtain ⟨ad, t, rfl, htk, _, hadb, hc3⟩ := H1.out.at_ hlt
        obtain ⟨ad2, t2, rfl, htk2, _, hadb2, hc4⟩ := H2.out.at_ hlt
        obtain ⟨d0, d1, d2, d3, d4, d5⟩ := hc3
        obtain ⟨e0, e1, e2, e3, e4, e5⟩ := hc4
        have hne := run_nq_tri t.a t.b t.c t2.a t2.b t2.c
        rw [tri_eqb] at hne
        have HX := Lib.hid htk
        have HY := Lib.hid htk2
        have hk0 : (0 : Int) ≤ (k : Int) := by omega
        have hk1 : (k : Int) < (n : Int) := by omega
        clear htk htk2 hadb hadb2
        by_cases heq : t = t2
        · have HS : Hid (X.take (k + 1) = Y.take (k + 1)) := Lib.hid (by rw [take_snoc_T X k HX.out, take_snoc_T Y k HY.out, HK.out, heq])
          have hd : (!(decide (t = t2))) = false := by simp [heq]
          rw [hd] at hne
          clear hd heq
          go_wp2_with fail
          go_quiet (fail)
          go_wp2_with fail
          exact ⟨⟨k + 1, _, by omega, by go_num, HS, rfl⟩, by simp [intOf]; omega⟩
        · have HF : Hid (decide (X = Y) = false) := Lib.hid (decide_eq_false (take_ne HX.out HY.out heq))
          have hd : (!(decide (t = t2))) = true := by simp [heq]
          rw [hd] at hne
          clear hd heq
          go_wp2_with fail
          go_quiet (fail)
          go_wp2_with fail
          go_ret
          rw [HF.out]
          exact ⟨rfl, below_drewN (below_drewN (Below.refl _ _) q) _⟩
      · obtain rfl : k = n := by omega
        have HF : Hid (decide (X = Y) = true) := Lib.hid (decide_eq_true (by
          have h := HK.out
          rw [List.take_of_length_le (by omega), List.take_of_length_le (by omega)] at h
          exact h))
        go_wp2_with fail
        go_ret
        rw [HF.out]
        exact ⟨rfl, below_drewN (Below.refl _ _) q⟩
  · have HF : Hid (decide (X = Y) = false) := Lib.hid (decide_eq_false (fun e => hnn (by rw [← hxl, ← hyl, e])))
    have hi : ¬ ((n : Int) = (n' : Int)) := by omega
    go_wp2_with fail
    go_ret
    rw [HF.out]
    exact ⟨rfl, Below.refl _ _⟩
theorem same_dec (N M : Int) (X Y : List Tri) : decide (N = M ∧ X = Y) = (decide (N = M) && decide (X = Y)) := by
  by_cases h1 : N = M <;> by_cases h2 : X = Y <;> simp [h1, h2]
set_option maxRecDepth 100000 in
set_option maxHeartbeats 8000000 in
theorem soupSame_dec (N M : Int) (X Y : List Tri) (A A' : Option Addr) (n n' c c' : Nat) (w : World) (hn : n ≤ 1000000) (hn' : n' ≤ 1000000) (h1 : TrisAt w w.heap.size A n X) (h2 : TrisAt w w.heap.size A' n' Y) :
    Calls Try.prog 26 #[.agg #[.int .i64 N, .slice A n c], .agg #[.int .i64 M, .slice A' n' c']] w (BoolPost w (decide (N = M ∧ X = Y))) := by
  have H1 := Lib.hid h1
  have H2 := Lib.hid h2
  clear h1 h2
  obtain ⟨b, hb⟩ : ∃ b, b = decide (N = M ∧ X = Y) := ⟨_, rfl⟩
  rw [← hb]
  have HBQ := Lib.hid hb
  clear hb
  go_enter Try.func26, Try.ntmps26
  go_upto_region 1 with (fail)
  obtain ⟨V, hV⟩ : ∃ V, V = (w.alloc (.cells #[.int .i64 N, .slice A n c] 24)).alloc (.cells #[.int .i64 M, .slice A' n' c'] 24) := ⟨_, rfl⟩
  have HX : Hid (Blk V w.heap.size 24 #[.int .i64 N, .slice A n c]) := by subst hV; exact Lib.hid ((Blk.new _ _ _).alloc _)
  have HY : Hid (Blk V (w.heap.size + 1) 24 #[.int .i64 M, .slice A' n' c']) := by subst hV; exact Lib.hid (blk_new1 _ _ _ _)
  have HB : Hid (Below w.heap.size w V) := by subst hV; exact Lib.hid (bw_alloc (bw_alloc (Below.refl _ _) _) _)
  rw [← hV]
  clear hV
  obtain ⟨x0, x1, _, _, _⟩ := soup_facts HX.out
  obtain ⟨y0, y1, _, _, _⟩ := soup_facts HY.out
  have HE := Lib.hid (slEqual_dec X Y _ _ A A' n n' c c' V hn hn' (H1.out.below HB.out) (H2.out.below HB.out))
  by_cases hNM : N = M
  · have HQ : Hid (b = decide (X = Y)) := Lib.hid (by rw [HBQ.out]; simp [hNM])
    generalize decide (X = Y) = b2 at *
    go_wp2_with fail
    refine HE.out.mono ?_
    rintro e w1 ⟨rfl, hb1⟩
    have HB1 := Lib.hid (bw_call HB.out hb1)
    clear hb1
    go_wp2_with fail
    go_ret
    rw [HQ.out]
    exact ⟨rfl, HB1.out⟩
  · have HQ : Hid (b = false) := Lib.hid (by rw [HBQ.out]; simp [hNM])
    go_wp2_with fail
    go_ret
    rw [HQ.out]
    exact ⟨rfl, HB.out⟩
set_option maxRecDepth 100000 in
set_option maxHeartbeats 8000000 in
theorem refSame_dec (N M : Int) (X Y : List Tri) (A A' : Option Addr) (n n' c c' : Nat) (w : World) (hn : n ≤ 1000000) (hn' : n' ≤ 1000000) (h1 : TrisAt w w.heap.size A n X) (h2 : TrisAt w w.heap.size A' n' Y) :
    Calls Try.prog 17 #[.agg #[.int .i64 N, .slice A n c], .agg #[.int .i64 M, .slice A' n' c']] w (BoolPost w (decide (N = M ∧ X = Y))) := by
  have hxl := h1.len
  have hyl := h2.len
  have H1 := Lib.hid h1
  have H2 := Lib.hid h2
  clear h1 h2
  obtain ⟨b, hb⟩ : ∃ b, b = decide (N = M ∧ X = Y) := ⟨_, rfl⟩
  rw [← hb]
  have HBQ := Lib.hid hb
  clear hb
  go_enter Try.func17, Try.ntmps17
  go_upto_region 1 with (fail)
  obtain ⟨V, hV⟩ : ∃ V, V = (w.alloc (.cells #[.int .i64 N, .slice A n c] 24)).alloc (.cells #[.int .i64 M, .slice A' n' c'] 24) := ⟨_, rfl⟩
  have HX : Hid (Blk V w.heap.size 24 #[.int .i64 N, .slice A n c]) := by subst hV; exact Lib.hid ((Blk.new _ _ _).alloc _)
  have HY : Hid (Blk V (w.heap.size + 1) 24 #[.int .i64 M, .slice A' n' c']) := by subst hV; exact Lib.hid (blk_new1 _ _ _ _)
  have HB : Hid (Below w.heap.size w V) := by subst hV; exact Lib.hid (bw_alloc (bw_alloc (Below.refl _ _) _) _)
  rw [← hV]
  clear hV
  obtain ⟨x0, x1, _, _, _⟩ := soup_facts HX.out
  obtain ⟨y0, y1, _, _, _⟩ := soup_facts HY.out
  by_cases hNM : N = M
  · subst hNM
    by_cases hnn : n = n'
    · subst hnn
      go_wp2_with fail
      go_loopw [5] (fun iv wr => ∃ k q : Nat, k ≤ n ∧ iv = .int .i64 k ∧ Hid (X.take k = Y.take k) ∧ wr = V.drewN q) (fun iv _ => n - (intOf iv).toNat)
      case atStart => exact ⟨0, 0, by omega, rfl, Lib.hid rfl, rfl⟩
      case round =>
        obtain ⟨k, q, hk, rfl, HK, rfl⟩ := hrel
        by_cases hlt : k < n
        · obtain ⟨ad, t, rfl, htk, _, hadb, hc3⟩ := (H1.out.below HB.out).at_ hlt
          obtain ⟨ad2, t2, rfl, htk2, _, hadb2, hc4⟩ := (H2.out.below HB.out).at_ hlt
          obtain ⟨d0, d1, d2, d3, d4, d5⟩ := hc3
          obtain ⟨e0, e1, e2, e3, e4, e5⟩ := hc4
          have hne := run_nq_tri t.a t.b t.c t2.a t2.b t2.c
          rw [tri_eqb] at hne
          have HTX := Lib.hid htk
          have HTY := Lib.hid htk2
          have hk0 : (0 : Int) ≤ (k : Int) := by omega
          have hk1 : (k : Int) < (n : Int) := by omega
          clear htk htk2 hadb hadb2
          by_cases heq : t = t2
          · have HS : Hid (X.take (k + 1) = Y.take (k + 1)) := Lib.hid (by rw [take_snoc_T X k HTX.out, take_snoc_T Y k HTY.out, HK.out, heq])
            have hd : (!(decide (t = t2))) = false := by simp [heq]
            rw [hd] at hne
            clear hd heq
            go_wp2_with fail
            go_quiet (fail)
            go_wp2_with fail
            exact ⟨⟨k + 1, _, by omega, by go_num, HS, rfl⟩, by simp [intOf]; omega⟩
          · have HF : Hid (b = false) := Lib.hid (HBQ.out.trans <| decide_eq_false (fun h => take_ne HTX.out HTY.out heq h.2))
            have hd : (!(decide (t = t2))) = true := by simp [heq]
            rw [hd] at hne
            clear hd heq
            go_wp2_with fail
            go_quiet (fail)
            go_wp2_with fail
            go_ret
            rw [HF.out]
            exact ⟨rfl, below_drewN (below_drewN HB.out q) _⟩
        · obtain rfl : k = n := by omega
          have HF : Hid (b = true) := Lib.hid (HBQ.out.trans <| decide_eq_true (by
            have h := HK.out
            rw [List.take_of_length_le (by omega), List.take_of_length_le (by omega)] at h
            exact ⟨by trivial, h⟩))
          go_wp2_with fail
          go_ret
          rw [HF.out]
          exact ⟨rfl, below_drewN HB.out q⟩
    · have HF : Hid (b = false) := Lib.hid (HBQ.out.trans <| decide_eq_false (fun e => hnn (by rw [← hxl, ← hyl, e.2])))
      have hi : ¬ ((n : Int) = (n' : Int)) := by omega
      go_wp2_with fail
      go_ret
      rw [HF.out]
      exact ⟨rfl, HB.out⟩
  · have HF : Hid (b = false) := Lib.hid (HBQ.out.trans <| decide_eq_false (fun e => hNM e.1))
    go_wp2_with fail
    go_ret
    rw [HF.out]
    exact ⟨rfl, HB.out⟩
end Go.Proofs.Ytmmjonpkpeanpaa
