/- How many vertices there are, walked. No condition. -/
import Derived.Test.YtdpgbccgngdapaaCornerB
namespace Go.Proofs.Ytdpgbccgngdapaa
open Go.RowKit

set_option linter.unusedSimpArgs false
set_option linter.unusedVariables false
attribute [local irreducible] Blk LRow World.alloc World.setCell World.cell? World.frozen? MapV
set_option maxHeartbeats 2000000 in
theorem verts_any (g B : Nat) (N : Int) (T : List Tri) (w : World) (h : TabS w B g N T) :
    Calls Try.prog 42 #[.pointer (some ⟨g, 0, none⟩)] w (IsPost w (.int .i64 N)) := by
  obtain ⟨A, c, t0, t1, hR⟩ := h.cells
  clear hR
  go_enter Try.func42, Try.ntmps42
  go_wp2_with fail
  go_ret
  exact ⟨rfl, rfl⟩
end Go.Proofs.Ytdpgbccgngdapaa
