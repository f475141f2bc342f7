/- slices.SortFunc on at most one packet. No condition. -/
import Derived.Test.YtieoeednfgpoiaaNew
namespace Go.Proofs.Ytieoeednfgpoiaa
open Go.RowKit


set_option maxHeartbeats 400000 in
theorem ins_small (a : Value) (b : Int) (f : Value) (w : World) (hb1 : b ≤ 1) :
    Calls Try.prog 32 #[a, .int .i64 0, .int .i64 b, f] w fun e w' => e = .returned (.tuple #[]) ∧ w = w' := by
  go_enter Try.func32, Try.ntmps32
  go_wp2
  refine wp_loop_once ?_
  go_wp2
  go_end0
  exact ⟨rfl, rfl⟩

def SomeI64 (w : World) (e : Ending) (w' : World) : Prop := (∃ r, e = .returned (.int .i64 r)) ∧ w = w'

set_option maxRecDepth 100000 in
set_option maxHeartbeats 1000000 in
theorem len_small0 (w : World) : Calls Try.prog 30 #[.int .u64 0] w (SomeI64 w) := by
  go_enter Try.func30, Try.ntmps30
  go_wp2
  go_ret
  exact ⟨⟨_, rfl⟩, rfl⟩
set_option maxRecDepth 100000 in
set_option maxHeartbeats 1000000 in
theorem len_small1 (w : World) : Calls Try.prog 30 #[.int .u64 1] w (SomeI64 w) := by
  go_enter Try.func30, Try.ntmps30
  go_wp2
  go_ret
  exact ⟨⟨_, rfl⟩, rfl⟩

set_option maxRecDepth 100000 in
set_option maxHeartbeats 1000000 in
theorem pdq_small (a : Value) (b r : Int) (f : Value) (w : World) (hb1 : b ≤ 1) (hb0 : 0 ≤ b) :
    Calls Try.prog 29 #[a, .int .i64 0, .int .i64 b, .int .i64 r, f] w fun e w' => e = .returned (.tuple #[]) ∧ w = w' := by
  go_enter Try.func29, Try.ntmps29
  go_wp2
  refine wp_loop_once ?_
  go_wp2_with (go_at_call 32; refine (ins_small _ _ _ _ hb1).mono ?_; rintro e w' ⟨rfl, rfl⟩)
  refine bodyPost_ret (results_none rfl _ _ _) rfl ?_
  exact ⟨rfl, rfl⟩

set_option maxHeartbeats 400000 in
theorem sort0 (A : Option Addr) (c : Nat) (f : Value) (w : World) :
    Calls Try.prog 26 #[.slice A 0 c, f] w fun e w' => e = .returned (.tuple #[]) ∧ w = w' := by
  go_enter Try.func26, Try.ntmps26
  go_wp2_with fail
  refine (len_small0 _).mono ?_
  rintro e w' ⟨⟨r, rfl⟩, rfl⟩
  go_wp2_with (go_at_call 29; refine (pdq_small _ _ _ _ _ (by omega) (by omega)).mono ?_; rintro e w' ⟨rfl, rfl⟩)
  go_end0
  exact ⟨rfl, rfl⟩

set_option maxHeartbeats 400000 in
theorem sort1 (A : Option Addr) (c : Nat) (f : Value) (w : World) :
    Calls Try.prog 26 #[.slice A 1 c, f] w fun e w' => e = .returned (.tuple #[]) ∧ w = w' := by
  go_enter Try.func26, Try.ntmps26
  go_wp2_with fail
  refine (len_small1 _).mono ?_
  rintro e w' ⟨⟨r, rfl⟩, rfl⟩
  go_wp2_with (go_at_call 29; refine (pdq_small _ _ _ _ _ (by omega) (by omega)).mono ?_; rintro e w' ⟨rfl, rfl⟩)
  go_end0
  exact ⟨rfl, rfl⟩
end Go.Proofs.Ytieoeednfgpoiaa
