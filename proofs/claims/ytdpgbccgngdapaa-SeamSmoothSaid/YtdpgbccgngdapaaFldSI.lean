/- Small methods of fields: I. No condition but sizes. -/
import Derived.Test.YtdpgbccgngdapaaFldVI
namespace Go.Proofs.Ytdpgbccgngdapaa
open Go.RowKit

set_option linter.unusedSimpArgs false
set_option linter.unusedVariables false
attribute [local irreducible] Blk LRow World.alloc World.setCell World.cell? World.frozen? MapV
set_option maxHeartbeats 2000000 in
theorem valuesI_nil (v : Int) (w : World) : Calls Try.prog 32 #[.pointer none, .int .i64 v] w (fun e w' => e = .returned (.slice none 0 0) ∧ Below w.heap.size w w') := by
  go_enter Try.func32, Try.ntmps32
  go_wp2_with fail
  go_ret
  exact ⟨rfl, bw_alloc (Below.refl _ _) _⟩
set_option maxHeartbeats 2000000 in
theorem smoothI_nil (v : Int) (w : World) : Calls Try.prog 14 #[.pointer none, .int .i64 v] w (BoolPost w false) := by
  go_enter Try.func14, Try.ntmps14
  go_wp2_with fail
  refine (valuesI_nil v w).mono ?_
  rintro e w1 ⟨rfl, hb⟩
  go_wp2_with fail
  go_ret
  exact ⟨rfl, hb⟩
set_option maxHeartbeats 2000000 in
theorem smoothI_any (gf g m B : Nat) (T : List Tri) (A : Option Addr) (c : Nat) (V : Nat → Int) (v : Int) (L : List Nat) (w : World) (hT : T.length ≤ 1000) (hF : FAt w 70 3 1 B gf g A c (3 * T.length) ((List.range (3 * T.length)).flatMap fun i => cellsI (V i))) (h : TabN w g m T) (hr : RingL m T v L) :
    Calls Try.prog 14 #[.pointer (some ⟨gf, 0, none⟩), .int .i64 v] w (BoolPost w (decide ((valsL V L).length = 1))) := by
  have HV := Lib.hid (valuesI_any gf g m B T A c V v L w hT hF h hr)
  clear hF h hr
  unfold ValPI at HV
  generalize valsL V L = M at *
  by_cases h1 : M.length = 1
  · have e1 : (M.length : Int) = 1 := by omega
    rw [decide_eq_true h1]
    clear h1
    go_enter Try.func14, Try.ntmps14
    go_wp2_with fail
    refine HV.out.mono ?_
    rintro e w1 ⟨A', c', rfl, _, hb⟩
    go_wp2_with fail
    go_ret
    exact ⟨rfl, hb⟩
  · have e1 : ((M.length : Int) == 1) = false := by rw [beq_eq_false_iff_ne]; omega
    rw [decide_eq_false h1]
    go_enter Try.func14, Try.ntmps14
    go_wp2_with fail
    refine HV.out.mono ?_
    rintro e w1 ⟨A', c', rfl, _, hb⟩
    go_wp2_with fail
    go_ret
    exact ⟨rfl, hb⟩
end Go.Proofs.Ytdpgbccgngdapaa
