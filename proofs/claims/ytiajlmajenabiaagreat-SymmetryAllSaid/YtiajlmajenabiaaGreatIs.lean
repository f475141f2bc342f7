/- certify.Is, walked. No condition. -/
import Derived.Test.YtiajlmajenabiaaGreatCert2
set_option maxRecDepth 100000
set_option maxHeartbeats 16000000
set_option linter.all false
namespace Go.Proofs.YtiajlmajenabiaaGreat
open Go.RowKit
theorem is_any (N : Int) (A : Option Addr) (n c : Nat) (T : List Tri) (w : World) (hn : n ≤ 1000) (ht : TrisAt w w.heap.size A n T) :
  Calls Tryz.prog 37 #[.agg #[.int .i64 N, .slice A n c]] w fun e w' => e = .returned (.bool (decide (checkR N T = (0, 0, 0)))) ∧ Below w.heap.size w w' := by
 have hb0 : Below w.heap.size w (w.alloc (.cells #[.int .i64 N, .slice A n c] 24)) := (Below.refl _ _).alloc (Nat.le_refl _) _
 have hch := check_any N A n c T (w.alloc (.cells #[.int .i64 N, .slice A n c] 24)) hn ((ht.below hb0).more hb0.size)
 have heq := fun w => run_eq_wit (checkR N T) (0, 0, 0) w
 generalize checkR N T = x at *
 obtain ⟨a, b, d⟩ := x
 have HCH := Lib.hid hch
 have HB0 := Lib.hid hb0
 have HEQ := Lib.hid heq
 clear hch hb0 ht heq
 go_enter Tryz.func37, Tryz.ntmps37
 go_wp2_with fail
 refine HCH.out.mono ?_
 rintro e w1 ⟨rfl, hb⟩
 have HB := Lib.hid hb
 clear hb HEQ
 unfold wv
 simp only
 go_wp2_with fail
 all_goals
  go_ret
  refine ⟨?_, HB0.out.trans (HB.out.mono HB0.out.size)⟩
  simp [*]
end Go.Proofs.YtiajlmajenabiaaGreat
