/- slices.Equal at api.Tri, soup.Same, walked. No condition. -/
import Derived.Test.YtnnbcflpbpafeaaRef9b
namespace Go.Proofs.Ytnnbcflpbpafeaa
open Go.RowKit
theorem run_ne_tri (a b c : Int) (w : World) : (binOp .neq 30 (.agg #[.int .i64 a, .int .i64 b, .int .i64 c]) (.agg #[.int .i64 a, .int .i64 b, .int .i64 c])).run Try.prog w = .ok (.bool false) w := by
  rw [run_neq_struct]
  show ((Op.equalIn (9998 + 1 + 1) _ _ _).run _ _).andThen _ = _
  unfold Op.equalIn
  simp [go_sem, Try.underlying3, Result.andThen, List.range']
set_option maxRecDepth 100000 in
set_option maxHeartbeats 4000000 in
theorem slEqual_any (X : List Tri) (B B2 : Nat) (A A' : Option Addr) (n c c' : Nat) (w : World) (hn : n ≤ 2000000) (h1 : TrisAt w B A n X) (h2 : TrisAt w B2 A' n X) :
    Calls Try.prog 38 #[.slice A n c, .slice A' n c'] w (BoolPost w true) := by
  have H1 := Lib.hid h1
  have H2 := Lib.hid h2
  clear h1 h2
  go_enter Try.func38, Try.ntmps38
  go_wp2_with fail
  go_loopw [13] (fun iv wr => ∃ k q : Nat, k ≤ n ∧ iv = .int .i64 k ∧ wr = w.drewN q) (fun iv _ => n - (intOf iv).toNat)
  case atStart => exact ⟨0, 0, by omega, rfl, rfl⟩
  case round =>
    obtain ⟨k, q, hk, rfl, rfl⟩ := hrel
    by_cases hlt : k < n
    · obtain ⟨ad, t, rfl, htk, _, hadb, hc3⟩ := H1.out.at_ hlt
      obtain ⟨ad2, t2, rfl, htk2, _, hadb2, hc4⟩ := H2.out.at_ hlt
      rw [htk] at htk2
      cases htk2
      obtain ⟨d0, d1, d2, d3, d4, d5⟩ := hc3
      obtain ⟨e0, e1, e2, e3, e4, e5⟩ := hc4
      obtain ⟨ta, tb, tc⟩ := t
      have hne := run_ne_tri ta tb tc
      have hk0 : (0 : Int) ≤ (k : Int) := by omega
      have hk1 : (k : Int) < (n : Int) := by omega
      simp only at d0 d1 d2 d3 d4 d5 e0 e1 e2 e3 e4 e5
      clear htk
      go_wp2_with fail
      go_quiet (fail)
      go_wp2_with fail
      exact ⟨⟨k + 1, _, by omega, by go_num, rfl⟩, by simp [intOf]; omega⟩
    · obtain rfl : k = n := by omega
      go_wp2_with fail
      go_ret
      exact ⟨rfl, below_drewN (Below.refl _ _) q⟩
set_option maxRecDepth 100000 in
set_option maxHeartbeats 4000000 in
theorem soupSame_any (N : Int) (X : List Tri) (A A' : Option Addr) (n c c' : Nat) (w : World) (hn : n ≤ 1000000) (h1 : TrisAt w w.heap.size A n X) (h2 : TrisAt w w.heap.size A' n X) :
    Calls Try.prog 20 #[.agg #[.int .i64 N, .slice A n c], .agg #[.int .i64 N, .slice A' n c']] w (BoolPost w true) := by
  have H1 := Lib.hid h1
  have H2 := Lib.hid h2
  clear h1 h2
  go_enter Try.func20, Try.ntmps20
  go_wp2_with fail
  have hb : Below w.heap.size w ((w.alloc (.cells #[.int .i64 N, .slice A n c] 24)).alloc (.cells #[.int .i64 N, .slice A' n c'] 24)) := ((Below.refl _ _).alloc (Nat.le_refl _) _).alloc (by simp) _
  refine (slEqual_any X _ _ A A' n c c' _ (by omega) (H1.out.below hb) (H2.out.below hb)).mono ?_
  rintro e w1 ⟨rfl, hb1⟩
  have HB := Lib.hid (hb.trans (hb1.mono hb.size))
  clear hb hb1
  go_wp2_with fail
  go_ret
  exact ⟨rfl, HB.out⟩
end Go.Proofs.Ytnnbcflpbpafeaa
