/- Small methods of fields: I. No condition but sizes. -/
import Derived.Test.YtbdicndkkenbgaaGreatFldVI
namespace Go.Proofs.YtbdicndkkenbgaaGreat
open Go.RowKit

set_option linter.unusedSimpArgs false
set_option linter.unusedVariables false
attribute [local irreducible] Blk LRow World.alloc World.setCell World.cell? World.frozen? MapV
set_option maxHeartbeats 2000000 in
theorem valuesI_nil (v : Int) (w : World) : Calls Tryz.prog 28 #[.pointer none, .int .i64 v] w (fun e w' => e = .returned (.slice none 0 0) ∧ Below w.heap.size w w') := by
  go_enter Tryz.func28, Tryz.ntmps28
  go_wp2_with fail
  go_ret
  exact ⟨rfl, bw_alloc (Below.refl _ _) _⟩
set_option maxHeartbeats 2000000 in
theorem smoothI_nil (v : Int) (w : World) : Calls Tryz.prog 29 #[.pointer none, .int .i64 v] w (BoolPost w false) := by
  go_enter Tryz.func29, Tryz.ntmps29
  go_wp2_with fail
  refine (valuesI_nil v w).mono ?_
  rintro e w1 ⟨rfl, hb⟩
  go_wp2_with fail
  go_ret
  exact ⟨rfl, hb⟩
set_option maxHeartbeats 2000000 in
theorem smoothI_any (gf g m B : Nat) (T : List Tri) (A : Option Addr) (c : Nat) (V : Nat → Int) (v : Int) (L : List Nat) (w : World) (hT : T.length ≤ 1000) (hF : FAt w 91 3 1 B gf g A c (3 * T.length) ((List.range (3 * T.length)).flatMap fun i => cellsI (V i))) (h : TabN w g m T) (hr : RingL m T v L) :
    Calls Tryz.prog 29 #[.pointer (some ⟨gf, 0, none⟩), .int .i64 v] w (BoolPost w (decide ((valsL V L).length = 1))) := by
  have HV := Lib.hid (valuesI_any gf g m B T A c V v L w hT hF h hr)
  clear hF h hr
  unfold ValPI at HV
  generalize valsL V L = M at *
  by_cases h1 : M.length = 1
  · have e1 : (M.length : Int) = 1 := by omega
    rw [decide_eq_true h1]
    clear h1
    go_enter Tryz.func29, Tryz.ntmps29
    go_wp2_with fail
    refine HV.out.mono ?_
    rintro e w1 ⟨A', c', rfl, _, hb⟩
    go_wp2_with fail
    go_ret
    exact ⟨rfl, hb⟩
  · have e1 : ((M.length : Int) == 1) = false := by rw [beq_eq_false_iff_ne]; omega
    rw [decide_eq_false h1]
    go_enter Tryz.func29, Tryz.ntmps29
    go_wp2_with fail
    refine HV.out.mono ?_
    rintro e w1 ⟨A', c', rfl, _, hb⟩
    go_wp2_with fail
    go_ret
    exact ⟨rfl, hb⟩
set_option maxHeartbeats 2000000 in
theorem atI_nil (k : Int) (w : World) : Calls Tryz.prog 26 #[.pointer none, .int .i64 k] w (IsPost w (.tuple #[.int .i64 0, .bool false])) := by
  go_enter Tryz.func26, Tryz.ntmps26
  go_wp2_with fail
  exact bodyPost_ret (v := .tuple #[.int .i64 0, .bool false]) (by simp [results, Tryz.results26, go_sem]) rfl ⟨rfl, rfl⟩
set_option maxHeartbeats 4000000 in
theorem atI_any (gf g n B : Nat) (A : Option Addr) (c : Nat) (V : Nat → Int) (k : Int) (w : World) (hn : n ≤ 1000000) (hF : FAt w 91 3 1 B gf g A c n ((List.range n).flatMap fun i => cellsI (V i))) :
    Calls Tryz.prog 26 #[.pointer (some ⟨gf, 0, none⟩), .int .i64 k] w (IsPost w (if 0 ≤ k ∧ k < (n : Int) then .tuple #[(.int .i64 (V k.toNat)), .bool true] else .tuple #[.int .i64 0, .bool false])) := by
  have f1 := hF.f1
  by_cases h0 : k < 0
  · rw [if_neg (by omega)]
    go_enter Tryz.func26, Tryz.ntmps26
    go_wp2_with fail
    exact bodyPost_ret (v := .tuple #[.int .i64 0, .bool false]) (by simp [results, Tryz.results26, go_sem]) rfl ⟨rfl, rfl⟩
  by_cases h1 : (n : Int) ≤ k
  · rw [if_neg (by omega)]
    go_enter Tryz.func26, Tryz.ntmps26
    go_wp2_with fail
    exact bodyPost_ret (v := .tuple #[.int .i64 0, .bool false]) (by simp [results, Tryz.results26, go_sem]) rfl ⟨rfl, rfl⟩
  rw [if_pos (by omega)]
  obtain ⟨j, rfl⟩ := Int.eq_ofNat_of_zero_le (show 0 ≤ k by omega)
  have hj : j < n := by omega
  obtain ⟨ad, hA, hc⟩ := readCI ((flat_atI V hj).1 ▸ hF.reads) (flat_atI V hj).2
  subst hA
  rw [show (j : Int).toNat = j from rfl]
  have hji : (j : Int) < (n : Int) := by omega
  clear hF
  go_enter Tryz.func26, Tryz.ntmps26
  go_wp2_with fail
  exact bodyPost_ret (v := .tuple #[(.int .i64 (V j)), .bool true]) (by simp [results, Tryz.results26, go_sem]) rfl ⟨rfl, rfl⟩
set_option maxHeartbeats 2000000 in
theorem setI_nil (k a : Int) (w : World) : Calls Tryz.prog 31 #[.pointer none, .int .i64 k, .int .i64 a] w (IsPost w (.int .i64 1)) := by
  go_enter Tryz.func31, Tryz.ntmps31
  go_wp2_with fail
  go_ret
  exact ⟨rfl, rfl⟩
end Go.Proofs.YtbdicndkkenbgaaGreat
