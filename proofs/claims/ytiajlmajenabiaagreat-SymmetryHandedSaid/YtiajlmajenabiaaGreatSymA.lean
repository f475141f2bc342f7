/- symmetry.All and Order told of any soup of at most 14 triangles; chapter 47's great. Conditions: sizes. -/
import Derived.Test.YtiajlmajenabiaaGreatAllX
import Derived.Test.YtiajlmajenabiaaGreatWz47
import Derived.Test.YtiajlmajenabiaaGreatSp47
set_option maxRecDepth 100000
set_option maxHeartbeats 16000000
set_option linter.all false
namespace Go.Proofs.YtiajlmajenabiaaGreat
open Go.RowKit
def big47 (N : Int) (n : Nat) : Prop := 14 < n ∨ 16 < N ∨ N < -9
instance (N : Int) (n : Nat) : Decidable (big47 N n) := inferInstanceAs (Decidable (_ ∨ _ ∨ _))
theorem great47_any (N : Int) (A : Option Addr) (n c : Nat) (w : World) : Calls Tryz.prog 13 #[.agg #[.int .i64 N, .slice A n c]] w (IntPost w (if big47 N n then 1 else 0)) := by
 by_cases h1 : 14 < n
 · have h1' : (14 : Int) < (n : Int) := by omega
   rw [if_pos (show big47 N n from .inl h1)]
   go_enter Tryz.func13, Tryz.ntmps13
   go_wp2_with fail
   go_ret
   exact ⟨rfl, (Below.refl _ _).alloc (Nat.le_refl _) _⟩
 · have h1' : ¬ (14 : Int) < (n : Int) := by omega
   by_cases h2 : 16 < N
   · rw [if_pos (show big47 N n from .inr (.inl h2))]
     go_enter Tryz.func13, Tryz.ntmps13
     go_wp2_with fail
     go_ret
     exact ⟨rfl, (Below.refl _ _).alloc (Nat.le_refl _) _⟩
   · by_cases h3 : N < -9
     · rw [if_pos (show big47 N n from .inr (.inr h3))]
       go_enter Tryz.func13, Tryz.ntmps13
       go_wp2_with fail
       go_ret
       exact ⟨rfl, (Below.refl _ _).alloc (Nat.le_refl _) _⟩
     · rw [if_neg (show ¬ big47 N n from fun h => by rcases h with h | h | h; exact h1 h; exact h2 h; exact h3 h)]
       go_enter Tryz.func13, Tryz.ntmps13
       go_wp2_with fail
       go_ret
       exact ⟨rfl, (Below.refl _ _).alloc (Nat.le_refl _) _⟩
end Go.Proofs.YtiajlmajenabiaaGreat
