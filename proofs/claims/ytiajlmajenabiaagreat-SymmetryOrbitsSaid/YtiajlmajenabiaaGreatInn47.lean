/- ring.Inner, walked. No condition. -/
import Derived.Test.YtiajlmajenabiaaGreatDegW
set_option maxRecDepth 100000
set_option maxHeartbeats 16000000
set_option linter.all false
namespace Go.Proofs.YtiajlmajenabiaaGreat
open Go.RowKit
attribute [local irreducible] Blk LRow World.alloc World.setCell World.cell? World.frozen? MapV
theorem inner_any (g m : Nat) (T : List Tri) (v : Int) (s b : Nat) (border : Bool) (M L : List Nat) (w : World) (hv : 0 ≤ v ∧ v < (m : Int)) (hr : Ring T v s b border M L) (h : TabN w g m T) :
  Calls Tryz.prog 36 #[.pointer (some ⟨g, 0, none⟩), .int .i64 v] w (BoolPost w (!border)) := by
 have HTH := Lib.hid (there_any g m T v w h)
 rw [decide_eq_true hv] at HTH
 have HF := Lib.hid (first_any g m T v s b border M L w hv hr h)
 clear h hr
 go_enter Tryz.func36, Tryz.ntmps36
 go_wp2_with fail
 refine HTH.out.mono ?_
 rintro e w' ⟨rfl, hw⟩
 replace hw := hw.symm
 subst hw
 go_wp2_with fail
 refine HF.out.mono ?_
 rintro e w2 ⟨rfl, hb⟩
 go_wp2_with fail
 go_ret
 exact ⟨rfl, hb⟩
end Go.Proofs.YtiajlmajenabiaaGreat
