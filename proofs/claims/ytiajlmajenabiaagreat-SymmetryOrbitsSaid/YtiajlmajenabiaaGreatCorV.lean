/- How many vertices there are, walked. No condition. -/
import Derived.Test.YtiajlmajenabiaaGreatCornerB
set_option maxRecDepth 100000
set_option maxHeartbeats 16000000
set_option linter.all false
namespace Go.Proofs.YtiajlmajenabiaaGreat
open Go.RowKit
attribute [local irreducible] Blk LRow World.alloc World.setCell World.cell? World.frozen? MapV
theorem verts_any (g B : Nat) (N : Int) (T : List Tri) (w : World) (h : TabS w B g N T) :
  Calls Tryz.prog 100 #[.pointer (some ⟨g, 0, none⟩)] w (IsPost w (.int .i64 N)) := by
 obtain ⟨A, c, t0, t1, hR⟩ := h.cells
 clear hR
 go_enter Tryz.func100, Tryz.ntmps100
 go_wp2_with fail
 go_ret
 exact ⟨rfl, rfl⟩
end Go.Proofs.YtiajlmajenabiaaGreat
