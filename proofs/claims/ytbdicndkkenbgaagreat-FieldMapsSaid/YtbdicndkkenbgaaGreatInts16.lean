/- gypsumref08.Ints at lists that are alike. No condition but sizes. -/
import Derived.Test.YtbdicndkkenbgaaGreatIr
import Derived.Deep.QuietTactic
namespace Go.Proofs.YtbdicndkkenbgaaGreat
open Go.RowKit

set_option linter.unusedSimpArgs false
set_option linter.unusedVariables false
theorem zl_at {l : List Int} {k : Nat} {u : Value} (h : (ZL l)[k]? = some u) : ∃ x, l[k]? = some x ∧ u = .int .i64 x := by
  unfold ZL at h
  rw [List.getElem?_map] at h
  cases e : l[k]? with
  | none => rw [e] at h; cases h
  | some x =>
    rw [e] at h
    injection h with h
    exact ⟨x, rfl, h.symm⟩
set_option maxRecDepth 100000 in
set_option maxHeartbeats 4000000 in
theorem refInts_any (X : List Int) (A A' : Option Addr) (n c c' : Nat) (w : World) (hn : n ≤ 1000000) (h1 : Reads w w.heap.size 1 A n (ZL X)) (h2 : Reads w w.heap.size 1 A' n (ZL X)) :
    Calls Tryz.prog 24 #[.slice A n c, .slice A' n c'] w (BoolPost w true) := by
  have H1 := Lib.hid h1
  have H2 := Lib.hid h2
  clear h1 h2
  go_enter Tryz.func24, Tryz.ntmps24
  go_wp2_with fail
  go_loopw [5] (fun iv wr => ∃ k q : Nat, k ≤ n ∧ iv = .int .i64 k ∧ wr = w.drewN q) (fun iv _ => n - (intOf iv).toNat)
  case atStart => exact ⟨0, 0, by omega, rfl, rfl⟩
  case round =>
    obtain ⟨k, q, hk, rfl, rfl⟩ := hrel
    by_cases hlt : k < n
    · obtain ⟨ad, u, rfl, had, hu, hc⟩ := H1.out.at_ hlt
      obtain ⟨ad2, u2, rfl, had2, hu2, hc2⟩ := H2.out.at_ hlt
      obtain ⟨x, hx, rfl⟩ := zl_at hu
      obtain ⟨x2, hx2, rfl⟩ := zl_at hu2
      rw [hx] at hx2
      cases hx2
      have hk0 : (0 : Int) ≤ (k : Int) := by omega
      have hk1 : (k : Int) < (n : Int) := by omega
      clear hu hu2 hx
      go_wp2_with fail
      go_quiet (fail)
      go_wp2_with fail
      exact ⟨⟨k + 1, _, by omega, by go_num, rfl⟩, by simp [intOf]; omega⟩
    · obtain rfl : k = n := by omega
      go_wp2_with fail
      go_ret
      exact ⟨rfl, below_drewN (Below.refl _ _) q⟩
end Go.Proofs.YtbdicndkkenbgaaGreat
