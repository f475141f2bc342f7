/-
  DERIVED: THE SHELF's CONTRACTS AT THIS DUMP, IN PLAIN WORDS (tools/lay-plain.mjs out of 'YtiajlmajenabiaaGreatShelfMul.lean', which tools/lay-shelf.mjs wrote): THE SAME DECLARATIONS UNDER THE SAME NAMES: 'import', 'namespace', 'open', 'def', 'theorem' AND NOTHING ELSE: no command of the shelf's: FOR A HAND-IN. Each laying: the table of numbers ('.._ren') and one theorem, a field a fact of the dump's own or the kernel's comparison; each contract: ONE APPLICATION.
-/
import Derived.Shelf.Bits.Mul64
import Derived.Shelf.Sort.Plain
import Derived.Test.YtiajlmajenabiaaGreatProg
namespace Go.Proofs
open Go.Shelf
def Tryz.mulU_ren : Go.Shelf.Ren := ⟨fun | 264 => 83 | n => n, fun | 53 => 57 | 46 => 135 | n => n, fun | n => n⟩
theorem Tryz.mulU : Go.Proofs.Lays.n264 Tryz.prog Tryz.mulU_ren := {
  mixed := by kernel_rfl
  f264 := Tryz.func83.trans (congrArg some (by kernel_rfl))
  t46 := Tryz.underlying135
  a46 := Tryz.isAgg135
  z46 := Tryz.sizeOf135
  v46 := Tryz.zeroValue135
  t53 := Tryz.underlying57
  a53 := Tryz.isAgg57
  z53 := Tryz.sizeOf57
  v53 := Tryz.zeroValue57 }
end Go.Proofs
