/- gypsumlaw09.same, walked. No condition. -/
import Derived.Test.YtnnbcflpbpafeaaRef9b
namespace Go.Proofs.Ytnnbcflpbpafeaa
open Go.RowKit

theorem run_ne_wit (x y : Int × Int × Int) (w : World) : (binOp .neq 34 (wv x) (wv y)).run Try.prog w = .ok (.bool (!decide (x = y))) w := by
  have h := run_eq_wit x y w
  unfold wv at h ⊢
  rw [run_eql_struct] at h
  rw [run_neq_struct]
  generalize (Op.equalIn 10000 34 (.agg #[.int .i64 x.1, .int .i64 x.2.1, .int .i64 x.2.2]) (.agg #[.int .i64 y.1, .int .i64 y.2.1, .int .i64 y.2.2])).run Try.prog w = r at h ⊢
  cases r with
  | ok b w1 =>
    simp [Result.andThen] at h ⊢
    obtain ⟨h, rfl⟩ := h
    rw [h]
    simp
  | _ => simp [Result.andThen] at h
set_option maxRecDepth 100000 in
set_option maxHeartbeats 4000000 in
theorem same_any (X : List Tri) (B B2 : Nat) (A A' : Option Addr) (n c c' : Nat) (w : World) (hn : n ≤ maxLen) (h1 : TrisAt w B A n X) (h2 : TrisAt w B2 A' n X) :
    Calls Try.prog 19 #[.slice A n c, .slice A' n c'] w (BoolPost w true) := by
  have hn2 : n ≤ 9223372036854775807 := hn
  have H1 := Lib.hid h1
  have H2 := Lib.hid h2
  clear h1 h2
  go_enter Try.func19, Try.ntmps19
  go_wp2_with fail
  go_loopw [13] (fun iv wr => ∃ k q : Nat, k ≤ n ∧ iv = .int .i64 k ∧ wr = w.drewN q) (fun iv _ => n - (intOf iv).toNat)
  case atStart => exact ⟨0, 0, by omega, rfl, rfl⟩
  case round =>
    obtain ⟨k, q, hk, rfl, rfl⟩ := hrel
    by_cases hlt : k < n
    · obtain ⟨ad, t, rfl, htk, _, hadb, hc3⟩ := H1.out.at_ hlt
      obtain ⟨ad2, t2, rfl, htk2, _, hadb2, hc4⟩ := H2.out.at_ hlt
      rw [htk] at htk2
      cases htk2
      obtain ⟨d0, d1, d2, d3, d4, d5⟩ := hc3
      obtain ⟨e0, e1, e2, e3, e4, e5⟩ := hc4
      obtain ⟨ta, tb, tc⟩ := t
      have hne : ∀ w, (binOp .neq 34 (.agg #[.int .i64 ta, .int .i64 tb, .int .i64 tc]) (.agg #[.int .i64 ta, .int .i64 tb, .int .i64 tc])).run Try.prog w = .ok (.bool false) w := fun w => by
        have := run_ne_wit (ta, tb, tc) (ta, tb, tc) w
        simpa [wv] using this
      have hk0 : (0 : Int) ≤ (k : Int) := by omega
      have hk1 : (k : Int) < (n : Int) := by omega
      simp only at d0 d1 d2 d3 d4 d5 e0 e1 e2 e3 e4 e5
      clear htk
      go_wp2_with fail
      go_quiet (fail)
      go_wp2_with fail
      exact ⟨⟨k + 1, _, by omega, by go_num, rfl⟩, by simp [intOf]; omega⟩
    · obtain rfl : k = n := by omega
      go_wp2_with fail
      go_ret
      exact ⟨rfl, below_drewN (Below.refl _ _) q⟩
end Go.Proofs.Ytnnbcflpbpafeaa
