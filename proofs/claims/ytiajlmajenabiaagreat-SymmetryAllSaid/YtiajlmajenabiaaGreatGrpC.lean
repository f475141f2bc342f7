/- symmetry.Group, walked: of few rows. No condition but sizes. -/
import Derived.Test.YtiajlmajenabiaaGreatGr47
import Derived.Test.YtiajlmajenabiaaGreatCornerB
set_option maxRecDepth 100000
set_option maxHeartbeats 16000000
set_option linter.all false
namespace Go.Proofs.YtiajlmajenabiaaGreat
open Go.RowKit
attribute [local irreducible] Blk World.alloc World.setCell World.cell? World.frozen? MapV MapI
end Go.Proofs.YtiajlmajenabiaaGreat
