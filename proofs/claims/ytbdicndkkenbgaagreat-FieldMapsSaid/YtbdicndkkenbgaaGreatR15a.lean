/- The small functions of gypsumref15, walked. No condition but sizes. -/
import Derived.Test.YtbdicndkkenbgaaGreatCornerB
import Derived.IntWalk
namespace Go.Proofs.YtbdicndkkenbgaaGreat
open Go.RowKit

set_option linter.unusedSimpArgs false
set_option linter.unusedVariables false
theorem r15Next_any (k : Nat) (w : World) (hk : k < 100000) : Calls Tryz.prog 72 #[.int .i64 (k : Int)] w (IsPost w (.int .i64 (nxc k : Int))) := by
  have e1 : Int.tmod (k : Int) 3 = ((k % 3 : Nat) : Int) := Int.ofNat_tmod k 3
  have e2 : Int.tmod (((k % 3 : Nat) : Int) + 1) 3 = (((k + 1) % 3 : Nat) : Int) := by
    have h := Int.ofNat_tmod (k % 3 + 1) 3
    rw [show (k % 3 + 1) % 3 = (k + 1) % 3 by omega] at h
    exact h.symm
  have e3 : ((nxc k : Nat) : Int) = (k : Int) - ((k % 3 : Nat) : Int) + (((k + 1) % 3 : Nat) : Int) := by unfold nxc; omega
  have h1 : k % 3 < 3 := Nat.mod_lt _ (by omega)
  have h2 : (k + 1) % 3 < 3 := Nat.mod_lt _ (by omega)
  have h3 : k % 3 ≤ k := Nat.mod_le _ _
  rw [e3]
  generalize k % 3 = r at *
  generalize (k + 1) % 3 = q at *
  clear e3
  have w1 : IntKind.i64.wrap ((r : Int) + 1) = (r : Int) + 1 := IntWalk.i64_in _ (by omega)
  have w2 : IntKind.i64.wrap ((k : Int) - (r : Int)) = (k : Int) - (r : Int) := IntWalk.i64_in _ (by omega)
  have w3 : IntKind.i64.wrap ((k : Int) - (r : Int) + (q : Int)) = (k : Int) - (r : Int) + (q : Int) := IntWalk.i64_in _ (by omega)
  have w4 : IntKind.i64.wrap (r : Int) = (r : Int) := IntWalk.i64_in _ (by omega)
  have w5 : IntKind.i64.wrap (q : Int) = (q : Int) := IntWalk.i64_in _ (by omega)
  go_enter Tryz.func72, Tryz.ntmps72
  go_wp2_with fail
  go_ret
  exact ⟨rfl, rfl⟩
theorem r15Prev_any (k : Nat) (w : World) (hk : k < 100000) : Calls Tryz.prog 71 #[.int .i64 (k : Int)] w (IsPost w (.int .i64 (pvc k : Int))) := by
  have e1 : Int.tmod (k : Int) 3 = ((k % 3 : Nat) : Int) := Int.ofNat_tmod k 3
  have e2 : Int.tmod (((k % 3 : Nat) : Int) + 2) 3 = (((k + 2) % 3 : Nat) : Int) := by
    have h := Int.ofNat_tmod (k % 3 + 2) 3
    rw [show (k % 3 + 2) % 3 = (k + 2) % 3 by omega] at h
    exact h.symm
  have e3 : ((pvc k : Nat) : Int) = (k : Int) - ((k % 3 : Nat) : Int) + (((k + 2) % 3 : Nat) : Int) := by unfold pvc; omega
  have h1 : k % 3 < 3 := Nat.mod_lt _ (by omega)
  have h2 : (k + 2) % 3 < 3 := Nat.mod_lt _ (by omega)
  have h3 : k % 3 ≤ k := Nat.mod_le _ _
  rw [e3]
  generalize k % 3 = r at *
  generalize (k + 2) % 3 = q at *
  clear e3
  have w1 : IntKind.i64.wrap ((r : Int) + 2) = (r : Int) + 2 := IntWalk.i64_in _ (by omega)
  have w2 : IntKind.i64.wrap ((k : Int) - (r : Int)) = (k : Int) - (r : Int) := IntWalk.i64_in _ (by omega)
  have w3 : IntKind.i64.wrap ((k : Int) - (r : Int) + (q : Int)) = (k : Int) - (r : Int) + (q : Int) := IntWalk.i64_in _ (by omega)
  have w4 : IntKind.i64.wrap (r : Int) = (r : Int) := IntWalk.i64_in _ (by omega)
  have w5 : IntKind.i64.wrap (q : Int) = (q : Int) := IntWalk.i64_in _ (by omega)
  go_enter Tryz.func71, Tryz.ntmps71
  go_wp2_with fail
  go_ret
  exact ⟨rfl, rfl⟩
attribute [local irreducible] Blk LRow World.alloc World.setCell World.cell? World.frozen?
set_option maxHeartbeats 2000000 in
theorem r15V_any (N : Int) (A : Option Addr) (c : Nat) (T : List Tri) (k : Nat) (w : World) (hT : T.length ≤ 8192) (hk : k < 3 * T.length) (ht : TrisAt w w.heap.size A T.length T) :
    Calls Tryz.prog 32 #[.agg #[.int .i64 N, .slice A T.length c], .int .i64 (k : Int)] w (IntPost w (cv T k)) := by
  have HB : Hid (Below w.heap.size w (w.alloc (.cells #[.int .i64 N, .slice A T.length c] 24))) := Lib.hid (bw_alloc (Below.refl _ _) _)
  have hk3 : k / 3 < T.length := by omega
  obtain ⟨ad, t, rfl, htt, _, hadb, hc3⟩ := (ht.below HB.out).at_ hk3
  unfold cv
  rw [tri_of htt]
  obtain ⟨d0, d1, d2, d3, d4, d5⟩ := hc3
  have e1 : Int.tmod (k : Int) 3 = ((k % 3 : Nat) : Int) := Int.ofNat_tmod k 3
  have e2 : Int.tdiv (k : Int) 3 = ((k / 3 : Nat) : Int) := Int.ofNat_tdiv k 3
  have h1 : k % 3 < 3 := Nat.mod_lt _ (by omega)
  clear htt hadb ht
  generalize k % 3 = r at *
  generalize k / 3 = q at *
  have hq0 : (0 : Int) ≤ (q : Int) := by omega
  have hq1 : (q : Int) < (T.length : Int) := by omega
  rcases (by omega : r = 0 ∨ r = 1 ∨ r = 2) with rfl | rfl | rfl
  · replace e1 : Int.tmod (k : Int) 3 = 0 := e1
    rw [show cornerT t 0 = t.a from rfl]
    go_enter Tryz.func32, Tryz.ntmps32
    go_wp2_with fail
    go_ret
    exact ⟨rfl, HB.out⟩
  · replace e1 : Int.tmod (k : Int) 3 = 1 := e1
    rw [show cornerT t 1 = t.b from rfl]
    go_enter Tryz.func32, Tryz.ntmps32
    go_wp2_with fail
    go_ret
    exact ⟨rfl, HB.out⟩
  · replace e1 : Int.tmod (k : Int) 3 = 2 := e1
    rw [show cornerT t 2 = t.c from rfl]
    go_enter Tryz.func32, Tryz.ntmps32
    go_wp2_with fail
    go_ret
    exact ⟨rfl, HB.out⟩
set_option maxHeartbeats 2000000 in
theorem r15Has_any (t : Tri) (v : Int) (w : World) : Calls Tryz.prog 45 #[.agg #[.int .i64 t.a, .int .i64 t.b, .int .i64 t.c], .int .i64 v] w (BoolPost w (hasB t v)) := by
  have HB : Hid (Below w.heap.size w (w.alloc (.cells #[.int .i64 t.a, .int .i64 t.b, .int .i64 t.c] 71))) := Lib.hid (bw_alloc (Below.refl _ _) _)
  unfold hasB
  cases h1 : (t.a == v) with
  | true =>
    go_enter Tryz.func45, Tryz.ntmps45
    go_wp2_with fail
    go_ret
    exact ⟨rfl, HB.out⟩
  | false =>
    cases h2 : (t.b == v) with
    | true =>
      go_enter Tryz.func45, Tryz.ntmps45
      go_wp2_with fail
      go_ret
      exact ⟨rfl, HB.out⟩
    | false =>
      go_enter Tryz.func45, Tryz.ntmps45
      go_wp2_with fail
      go_ret
      exact ⟨rfl, HB.out⟩
end Go.Proofs.YtbdicndkkenbgaaGreat
