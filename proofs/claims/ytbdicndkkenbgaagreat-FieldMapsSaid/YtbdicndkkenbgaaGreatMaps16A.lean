/- FieldMaps' closures, walked. -/
import Derived.Test.YtbdicndkkenbgaaGreatFldVS
import Derived.Test.YtbdicndkkenbgaaGreatF16A
import Derived.Laws.BytesString
import Derived.Laws.Cells
namespace Go.Proofs.YtbdicndkkenbgaaGreat
open Go.RowKit

set_option linter.unusedSimpArgs false
set_option linter.unusedVariables false
/-- What two tells. -/
def strOf (b : Nat) (a : Int) : ByteArray := ⟨#[UInt8.ofNat ((a + (b : Int)) % 256).toNat]⟩
attribute [local irreducible] Blk LRow World.alloc World.setCell World.cell? World.frozen? MapV
set_option maxHeartbeats 4000000 in
theorem mapsF1_any (bl : Nat) (Al : Option Addr) (cl : Nat) (l : List Int) (c : Nat) (w : World) (hc : c < 1000000) (h1 : w.cell? ⟨bl, 0, none⟩ = some (.slice Al l.length cl))
    (hr : Reads w w.heap.size 1 Al l.length (ZL l)) :
    Calls Tryz.prog 33 #[.int .i64 (c : Int), .pointer (some ⟨bl, 0, none⟩)] w (IntPost w (valN l c)) := by
  have HR := Lib.hid hr
  clear hr
  go_enter Tryz.func33, Tryz.ntmps33
  go_wp2_with fail
  refine (value_any Al cl l c w w.heap.size hc HR.out).mono ?_
  rintro e w' ⟨rfl, hw⟩
  replace hw := hw.symm
  subst hw
  go_wp2_with fail
  go_ret
  exact ⟨rfl, Below.refl _ _⟩
set_option maxHeartbeats 4000000 in
theorem mapsOne_any (bn : Nat) (n : Int) (a : Int) (w : World) (hn : 0 < n) (hn5 : n ≤ 5) (h1 : w.cell? ⟨bn, 0, none⟩ = some (.int .i64 n)) :
    Calls Tryz.prog 34 #[.int .i64 a, .pointer (some ⟨bn, 0, none⟩)] w (IsPost w (.int .i64 (Int.tmod a n))) := by
  have hz : ¬ n = 0 := by omega
  have hw : IntKind.i64.wrap (Int.tmod a n) = Int.tmod a n := IntWalk.i64_in _ (by
    have h1 := Int.natAbs_tmod a n
    have h2 := Nat.mod_lt a.natAbs (show 0 < n.natAbs by omega)
    omega)
  go_enter Tryz.func34, Tryz.ntmps34
  go_wp2_with fail
  go_ret
  exact ⟨rfl, rfl⟩
theorem run_twoConv (z : Int) (w : World) : (convert 62 9 (.slice (some ⟨w.heap.size, 0, none⟩) 1 1)).run Tryz.prog (w.alloc (.cells #[.int .u8 z] 5)) = .ok (.string ⟨#[UInt8.ofNat z.toNat]⟩) (w.alloc (.cells #[.int .u8 z] 5)) := by
  rw [run_convert_bytes_string _ _ _ 5 _ _ _ Tryz.underlying62 Tryz.underlying5 Tryz.underlying9]
  refine (run_bytesToString _ _ 1 1 [z] ?_).trans rfl
  refine (run_loadCells_list _ _ [Value.int .u8 z] fun j v hj => ?_).trans rfl
  cases j with
  | zero =>
    have hv : v = .int .u8 z := by simpa using hj.symm
    subst hv
    simp [Addr.add]
  | succ j => simp at hj
set_option maxRecDepth 100000 in
set_option maxHeartbeats 4000000 in
theorem mapsTwo_any (bm : Nat) (b : Nat) (a : Int) (w : World) (hb : b < 256) (h1 : w.cell? ⟨bm, 0, none⟩ = some (.int .u8 (b : Int))) :
    Calls Tryz.prog 35 #[.int .i64 a, .pointer (some ⟨bm, 0, none⟩)] w (fun e w' => e = .returned (.string (strOf b a)) ∧ Below w.heap.size w w') := by
  have hcv := run_twoConv ((a + (b : Int)) % 256) w
  go_enter Tryz.func35, Tryz.ntmps35
  go_wp2_with fail
  go_ret
  exact ⟨rfl, bw_alloc (Below.refl _ _) _⟩
end Go.Proofs.YtbdicndkkenbgaaGreat
