/-
  DERIVED: THE SHELF's CONTRACTS AT THIS DUMP, IN PLAIN WORDS (tools/lay-plain.mjs out of 'YtffmfhkiienmaaaGreatShelfMul.lean', which tools/lay-shelf.mjs wrote): THE SAME DECLARATIONS UNDER THE SAME NAMES: 'import', 'namespace', 'open', 'def', 'theorem' AND NOTHING ELSE: no command of the shelf's: FOR A HAND-IN. Each laying: the table of numbers ('.._ren') and one theorem, a field a fact of the dump's own or the kernel's comparison; each contract: ONE APPLICATION.
-/
import Derived.Shelf.Bits.Mul64
import Derived.Shelf.Sort.Plain
import Derived.Test.YtffmfhkiienmaaaGreatProg
namespace Go.Proofs
open Go.Shelf
def Tryz.mulU_ren : Go.Shelf.Ren := ⟨fun | 264 => 41 | n => n, fun | 53 => 99 | 46 => 136 | n => n, fun | n => n⟩
theorem Tryz.mulU : Go.Proofs.Lays.n264 Tryz.prog Tryz.mulU_ren := {
  mixed := by kernel_rfl
  f264 := Tryz.func41.trans (congrArg some (by kernel_rfl))
  t46 := Tryz.underlying136
  a46 := Tryz.isAgg136
  z46 := Tryz.sizeOf136
  v46 := Tryz.zeroValue136
  t53 := Tryz.underlying99
  a53 := Tryz.isAgg99
  z53 := Tryz.sizeOf99
  v53 := Tryz.zeroValue99 }
end Go.Proofs
