/- An edge that came in, opened. No condition. -/
import Derived.Test.YtiajlmajenabiaaGreatOpenS
set_option maxRecDepth 100000
set_option maxHeartbeats 16000000
set_option linter.all false
namespace Go.Proofs.YtiajlmajenabiaaGreat
open Go.ChangeShapes Go.WideShapes Go.ChangeAt Go.RowKit
end Go.Proofs.YtiajlmajenabiaaGreat
