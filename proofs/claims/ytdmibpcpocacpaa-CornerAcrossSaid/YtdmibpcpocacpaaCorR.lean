/- The document's answers of layer 10, walked. No condition but sizes. -/
import Derived.Test.YtdmibpcpocacpaaCorNew
import Derived.Test.YtdmibpcpocacpaaHeldL
namespace Go.Proofs.Ytdmibpcpocacpaa
open Go.RowKit

set_option linter.unusedSimpArgs false
set_option linter.unusedVariables false
theorem run_eq_edge (a b c d : Int) (w : World) : (binOp .eql 31 (.agg #[.int .i64 a, .int .i64 b]) (.agg #[.int .i64 c, .int .i64 d])).run Try.prog w = .ok (.bool (a == c && b == d)) w := by
  rw [run_eql_struct]
  show ((Op.equalIn (9998 + 1 + 1) _ _ _).run _ _).andThen _ = _
  unfold Op.equalIn
  cases h1 : (a == c) <;> cases h2 : (b == d) <;> simp [go_sem, Try.underlying3, Result.andThen, List.range', h1, h2]
theorem run_eq_ed (a b c d : Int) (w : World) : (binOp .eql 31 (.agg #[.int .i64 a, .int .i64 b]) (.agg #[.int .i64 c, .int .i64 d])).run Try.prog w = .ok (.bool (decide ((a, b) = (c, d)))) w := by
  rw [run_eq_edge]
  by_cases h3 : a = c
  · by_cases h4 : b = d
    · simp [h3, h4]
    · simp [h3, h4]
  · simp [h3]
theorem int_of_is {w : World} {v : Int} {e : Ending} {w' : World} (h : IsPost w (.int .i64 v) e w') : IntPost w v e w' := by
  obtain ⟨rfl, rfl⟩ := h
  exact ⟨rfl, Below.refl _ _⟩
attribute [local irreducible] Blk LRow World.alloc World.setCell World.cell? World.frozen? MapV
set_option maxHeartbeats 2000000 in
theorem refIs_any (N : Int) (A : Option Addr) (c : Nat) (T : List Tri) (x : Int) (w : World) (hT : T.length ≤ 8192) :
    Calls Try.prog 13 #[.agg #[.int .i64 N, .slice A T.length c], .int .i64 x] w fun e w' => e = .returned (.bool (decide (isC T.length x))) ∧ Below w.heap.size w w' := by
  have HB : Hid (Below w.heap.size w (w.alloc (.cells #[.int .i64 N, .slice A T.length c] 24))) := Lib.hid (bw_alloc (Below.refl _ _) _)
  by_cases h0 : x < 0
  · rw [decide_eq_false (fun hc => by have := hc.1; omega)]
    go_enter Try.func13, Try.ntmps13
    go_wp2_with fail
    go_ret
    exact ⟨rfl, HB.out⟩
  by_cases h1 : x < 3 * (T.length : Int)
  · rw [decide_eq_true (show isC T.length x from ⟨by omega, h1⟩)]
    go_enter Try.func13, Try.ntmps13
    go_wp2_with fail
    go_ret
    exact ⟨rfl, HB.out⟩
  · rw [decide_eq_false (fun hc => h1 hc.2)]
    go_enter Try.func13, Try.ntmps13
    go_wp2_with fail
    go_ret
    exact ⟨rfl, HB.out⟩
set_option maxHeartbeats 2000000 in
theorem refVertex_any (N : Int) (A : Option Addr) (c : Nat) (T : List Tri) (k : Nat) (w : World) (hT : T.length ≤ 8192) (hk : k < 3 * T.length) (ht : TrisAt w w.heap.size A T.length T) :
    Calls Try.prog 19 #[.agg #[.int .i64 N, .slice A T.length c], .int .i64 (k : Int)] w (IntPost w (cv T k)) := by
  have HB : Hid (Below w.heap.size w (w.alloc (.cells #[.int .i64 N, .slice A T.length c] 24))) := Lib.hid (bw_alloc (Below.refl _ _) _)
  have hk3 : k / 3 < T.length := by omega
  obtain ⟨ad, t, rfl, htt, _, hadb, hc3⟩ := (ht.below HB.out).at_ hk3
  unfold cv
  rw [tri_of htt]
  obtain ⟨d0, d1, d2, d3, d4, d5⟩ := hc3
  have e1 : Int.tmod (k : Int) 3 = ((k % 3 : Nat) : Int) := Int.ofNat_tmod k 3
  have e2 : Int.tdiv (k : Int) 3 = ((k / 3 : Nat) : Int) := Int.ofNat_tdiv k 3
  have h1 : k % 3 < 3 := Nat.mod_lt _ (by omega)
  clear htt hadb ht
  generalize k % 3 = r at *
  generalize k / 3 = q at *
  have hq0 : (0 : Int) ≤ (q : Int) := by omega
  have hq1 : (q : Int) < (T.length : Int) := by omega
  rcases (by omega : r = 0 ∨ r = 1 ∨ r = 2) with rfl | rfl | rfl
  · replace e1 : Int.tmod (k : Int) 3 = 0 := e1
    rw [show cornerT t 0 = t.a from rfl]
    go_enter Try.func19, Try.ntmps19
    go_wp2_with fail
    go_ret
    exact ⟨rfl, HB.out⟩
  · replace e1 : Int.tmod (k : Int) 3 = 1 := e1
    rw [show cornerT t 1 = t.b from rfl]
    go_enter Try.func19, Try.ntmps19
    go_wp2_with fail
    go_ret
    exact ⟨rfl, HB.out⟩
  · replace e1 : Int.tmod (k : Int) 3 = 2 := e1
    rw [show cornerT t 2 = t.c from rfl]
    go_enter Try.func19, Try.ntmps19
    go_wp2_with fail
    go_ret
    exact ⟨rfl, HB.out⟩
set_option maxHeartbeats 2000000 in
theorem refNext_any (k : Nat) (w : World) (hk : k < 100000) : Calls Try.prog 20 #[.int .i64 (k : Int)] w (IsPost w (.int .i64 (nxc k : Int))) := by
  have e1 : Int.tmod (k : Int) 3 = ((k % 3 : Nat) : Int) := Int.ofNat_tmod k 3
  by_cases h2 : k % 3 = 2
  · rw [h2] at e1
    replace e1 : Int.tmod (k : Int) 3 = 2 := e1
    rw [show ((nxc k : Nat) : Int) = (k : Int) - 2 by unfold nxc; omega]
    clear h2
    go_enter Try.func20, Try.ntmps20
    go_wp2_with fail
    go_ret
    exact ⟨rfl, rfl⟩
  · rw [show ((nxc k : Nat) : Int) = (k : Int) + 1 by unfold nxc; omega]
    have hb : (((k % 3 : Nat) : Int) == 2) = false := by simp; omega
    clear h2
    generalize k % 3 = r at *
    go_enter Try.func20, Try.ntmps20
    go_wp2_with fail
    go_ret
    exact ⟨rfl, rfl⟩
set_option maxHeartbeats 2000000 in
theorem refPrev_any (k : Nat) (w : World) (hk : k < 100000) : Calls Try.prog 21 #[.int .i64 (k : Int)] w (IsPost w (.int .i64 (pvc k : Int))) := by
  have e1 : Int.tmod (k : Int) 3 = ((k % 3 : Nat) : Int) := Int.ofNat_tmod k 3
  by_cases h2 : k % 3 = 0
  · rw [h2] at e1
    replace e1 : Int.tmod (k : Int) 3 = 0 := e1
    rw [show ((pvc k : Nat) : Int) = (k : Int) + 2 by unfold pvc; omega]
    clear h2
    go_enter Try.func21, Try.ntmps21
    go_wp2_with fail
    go_ret
    exact ⟨rfl, rfl⟩
  · rw [show ((pvc k : Nat) : Int) = (k : Int) - 1 by unfold pvc; omega]
    have hb : (((k % 3 : Nat) : Int) == 0) = false := by simp; omega
    clear h2
    generalize k % 3 = r at *
    go_enter Try.func21, Try.ntmps21
    go_wp2_with fail
    go_ret
    exact ⟨rfl, rfl⟩
end Go.Proofs.Ytdmibpcpocacpaa
