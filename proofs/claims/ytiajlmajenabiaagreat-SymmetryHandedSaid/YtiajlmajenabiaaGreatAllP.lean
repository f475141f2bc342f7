/- All symmetries, as symmetry.All goes through them: plain. No condition. -/
import Derived.Test.YtiajlmajenabiaaGreatKd47
import Derived.Test.YtiajlmajenabiaaGreatGrpC
set_option maxRecDepth 100000
set_option maxHeartbeats 16000000
set_option linter.all false
namespace Go.Proofs.YtiajlmajenabiaaGreat
open Go.RowKit
def setW (V way : List Int) : Nat → List Int → List Int
 | 0, ts => ts
 | n + 1, ts => (setW V way n ts).set (V.getD n 0).toNat (way.getD n 0)
theorem setW_len (V way ts : List Int) : ∀ n, (setW V way n ts).length = ts.length
 | 0 => rfl
 | n + 1 => by rw [setW, List.length_set, setW_len V way ts n]
def kAt (ks : List KindV) (i : Nat) : KindV := ks.getD i ⟨0, [], []⟩
abbrev GSt := List (List Int) × List Int
end Go.Proofs.YtiajlmajenabiaaGreat
