/-
  No cell of these rows narrows 'for every input' (looked for: loops, veiled, ifaces, maps, wideKeys, modest, calm, conditions, laid).
  DERIVED. THE GIVEN ROWS OF THIS SEAT. 9 by the template 'for every input the law returns true; each argument reads behind the call as it read before'; 0 by the template 'total and deterministic' (their statements: YtiajlmajenabiaaGreatTotals.lean).
  GIVEN WITH THE SEED: the statements are not yours to turn. If you find one false, say at which input.
  Laid BY PROGRAM, IN A SANDBOX (cutbox-rows.mjs): the forced cells as the released guide's own fill.sh prints them over the translation 4eb19e797d3ef235… (all of the seat's roots in one cut). By AI agents, Wed Nov 11 2026. No macro, syntax, notation, axiom, sorry.
-/
import Derived.Test.YtiajlmajenabiaaGreatChecked
import GoSem.Claim
import GoSem.ClaimJoined
import GoSem.ClaimMapViews
import Derived.JoinedTies
import Derived.KernelRfl
namespace Go.Proofs.YtiajlmajenabiaaGreat
/- THE CELL 'sum', in the pinned program and in every row, IS THE sha256 OF THE DUMP (.gsa) THAT YtiajlmajenabiaaGreatProg.lean LOADS. Nothing in Lean hashes anything: it is a label: what it is worth is what the hold of that sum in a sandbox is worth. -/
noncomputable def Tryz.pinned : Pinned := { name := "ytiajlmajenabiaagreat", sum := "4eb19e797d3ef2359544c89567f206ba5800a5744930112d153163868b6e9751", checked := Tryz.checked }
namespace Rows
def none {H : Type} : Left H := { results := [], args := [] }

/-- 'gypsumlaw47.SymmetryHanded': WHATEVER THE INPUT: true; the input reads as it did. -/
def symmetryHandedSpec : ChangeSpec := { name := "symmetryHanded", fn := fun _ => fun
  | [d1, d2] => { results := [.lit (.bool true)], args := [d1, d2] }
  | _ => none }
def symmetryHandedRow : OpenClaim := { program := "ytiajlmajenabiaagreat", sum := "4eb19e797d3ef2359544c89567f206ba5800a5744930112d153163868b6e9751", func := "gypsum/gypsumlaw47.SymmetryHanded", spec := "symmetryHanded", unfollowed := true, recurses := true, plainKeys := false, apart := false }
def SymmetryHandedSaid : Prop := symmetryHandedRow.holds Tryz.pinned (OpenSpec.ofChange symmetryHandedSpec)

/-- ITS FALSE NEIGHBOUR: 'it returns false'. Refute it at one input. -/
def symmetryHandedWrong : ChangeSpec := { name := "symmetryHanded", fn := fun _ => fun
  | [d1, d2] => { results := [.lit (.bool false)], args := [d1, d2] }
  | _ => none }
def SymmetryHandedWrongFalsely : Prop := symmetryHandedRow.holds Tryz.pinned (OpenSpec.ofChange symmetryHandedWrong)

/-- 'gypsumlaw47.SymmetryNumbers': WHATEVER THE INPUT: true; the input reads as it did. -/
def symmetryNumbersSpec : ChangeSpec := { name := "symmetryNumbers", fn := fun _ => fun
  | [d1, d2] => { results := [.lit (.bool true)], args := [d1, d2] }
  | _ => none }
def symmetryNumbersRow : OpenClaim := { program := "ytiajlmajenabiaagreat", sum := "4eb19e797d3ef2359544c89567f206ba5800a5744930112d153163868b6e9751", func := "gypsum/gypsumlaw47.SymmetryNumbers", spec := "symmetryNumbers", unfollowed := true, recurses := true, plainKeys := false, apart := false }
def SymmetryNumbersSaid : Prop := symmetryNumbersRow.holds Tryz.pinned (OpenSpec.ofChange symmetryNumbersSpec)

/-- ITS FALSE NEIGHBOUR: 'it returns false'. Refute it at one input. -/
def symmetryNumbersWrong : ChangeSpec := { name := "symmetryNumbers", fn := fun _ => fun
  | [d1, d2] => { results := [.lit (.bool false)], args := [d1, d2] }
  | _ => none }
def SymmetryNumbersWrongFalsely : Prop := symmetryNumbersRow.holds Tryz.pinned (OpenSpec.ofChange symmetryNumbersWrong)

/-- 'gypsumlaw47.SymmetryAll': WHATEVER THE INPUT: true; the input reads as it did. -/
def symmetryAllSpec : ChangeSpec := { name := "symmetryAll", fn := fun _ => fun
  | [d] => { results := [.lit (.bool true)], args := [d] }
  | _ => none }
def symmetryAllRow : OpenClaim := { program := "ytiajlmajenabiaagreat", sum := "4eb19e797d3ef2359544c89567f206ba5800a5744930112d153163868b6e9751", func := "gypsum/gypsumlaw47.SymmetryAll", spec := "symmetryAll", unfollowed := true, recurses := true, plainKeys := false, apart := false }
def SymmetryAllSaid : Prop := symmetryAllRow.holds Tryz.pinned (OpenSpec.ofChange symmetryAllSpec)

/-- ITS FALSE NEIGHBOUR: 'it returns false'. Refute it at one input. -/
def symmetryAllWrong : ChangeSpec := { name := "symmetryAll", fn := fun _ => fun
  | [d] => { results := [.lit (.bool false)], args := [d] }
  | _ => none }
def SymmetryAllWrongFalsely : Prop := symmetryAllRow.holds Tryz.pinned (OpenSpec.ofChange symmetryAllWrong)

/-- 'gypsumlaw47.SymmetryDivides': WHATEVER THE INPUT: true; the input reads as it did. -/
def symmetryDividesSpec : ChangeSpec := { name := "symmetryDivides", fn := fun _ => fun
  | [d] => { results := [.lit (.bool true)], args := [d] }
  | _ => none }
def symmetryDividesRow : OpenClaim := { program := "ytiajlmajenabiaagreat", sum := "4eb19e797d3ef2359544c89567f206ba5800a5744930112d153163868b6e9751", func := "gypsum/gypsumlaw47.SymmetryDivides", spec := "symmetryDivides", unfollowed := true, recurses := true, plainKeys := false, apart := false }
def SymmetryDividesSaid : Prop := symmetryDividesRow.holds Tryz.pinned (OpenSpec.ofChange symmetryDividesSpec)

/-- ITS FALSE NEIGHBOUR: 'it returns false'. Refute it at one input. -/
def symmetryDividesWrong : ChangeSpec := { name := "symmetryDivides", fn := fun _ => fun
  | [d] => { results := [.lit (.bool false)], args := [d] }
  | _ => none }
def SymmetryDividesWrongFalsely : Prop := symmetryDividesRow.holds Tryz.pinned (OpenSpec.ofChange symmetryDividesWrong)

/-- 'gypsumlaw47.SymmetryMany': WHATEVER THE INPUT: true; the input reads as it did. -/
def symmetryManySpec : ChangeSpec := { name := "symmetryMany", fn := fun _ => fun
  | [d] => { results := [.lit (.bool true)], args := [d] }
  | _ => none }
def symmetryManyRow : OpenClaim := { program := "ytiajlmajenabiaagreat", sum := "4eb19e797d3ef2359544c89567f206ba5800a5744930112d153163868b6e9751", func := "gypsum/gypsumlaw47.SymmetryMany", spec := "symmetryMany", unfollowed := true, recurses := true, plainKeys := false, apart := false }
def SymmetryManySaid : Prop := symmetryManyRow.holds Tryz.pinned (OpenSpec.ofChange symmetryManySpec)

/-- ITS FALSE NEIGHBOUR: 'it returns false'. Refute it at one input. -/
def symmetryManyWrong : ChangeSpec := { name := "symmetryMany", fn := fun _ => fun
  | [d] => { results := [.lit (.bool false)], args := [d] }
  | _ => none }
def SymmetryManyWrongFalsely : Prop := symmetryManyRow.holds Tryz.pinned (OpenSpec.ofChange symmetryManyWrong)

/-- 'gypsumlaw47.SymmetryTold': WHATEVER THE INPUT: true; the input reads as it did. -/
def symmetryToldSpec : ChangeSpec := { name := "symmetryTold", fn := fun _ => fun
  | [d] => { results := [.lit (.bool true)], args := [d] }
  | _ => none }
def symmetryToldRow : OpenClaim := { program := "ytiajlmajenabiaagreat", sum := "4eb19e797d3ef2359544c89567f206ba5800a5744930112d153163868b6e9751", func := "gypsum/gypsumlaw47.SymmetryTold", spec := "symmetryTold", unfollowed := true, recurses := true, plainKeys := false, apart := false }
def SymmetryToldSaid : Prop := symmetryToldRow.holds Tryz.pinned (OpenSpec.ofChange symmetryToldSpec)

/-- ITS FALSE NEIGHBOUR: 'it returns false'. Refute it at one input. -/
def symmetryToldWrong : ChangeSpec := { name := "symmetryTold", fn := fun _ => fun
  | [d] => { results := [.lit (.bool false)], args := [d] }
  | _ => none }
def SymmetryToldWrongFalsely : Prop := symmetryToldRow.holds Tryz.pinned (OpenSpec.ofChange symmetryToldWrong)

/-- 'gypsumlaw47.SymmetryGroup': WHATEVER THE INPUT: true; the input reads as it did. -/
def symmetryGroupSpec : ChangeSpec := { name := "symmetryGroup", fn := fun _ => fun
  | [d1, d2] => { results := [.lit (.bool true)], args := [d1, d2] }
  | _ => none }
def symmetryGroupRow : OpenClaim := { program := "ytiajlmajenabiaagreat", sum := "4eb19e797d3ef2359544c89567f206ba5800a5744930112d153163868b6e9751", func := "gypsum/gypsumlaw47.SymmetryGroup", spec := "symmetryGroup", unfollowed := true, recurses := true, plainKeys := false, apart := false }
def SymmetryGroupSaid : Prop := symmetryGroupRow.holds Tryz.pinned (OpenSpec.ofChange symmetryGroupSpec)

/-- ITS FALSE NEIGHBOUR: 'it returns false'. Refute it at one input. -/
def symmetryGroupWrong : ChangeSpec := { name := "symmetryGroup", fn := fun _ => fun
  | [d1, d2] => { results := [.lit (.bool false)], args := [d1, d2] }
  | _ => none }
def SymmetryGroupWrongFalsely : Prop := symmetryGroupRow.holds Tryz.pinned (OpenSpec.ofChange symmetryGroupWrong)

/-- 'gypsumlaw47.SymmetryGroups': WHATEVER THE INPUT: true; the input reads as it did. -/
def symmetryGroupsSpec : ChangeSpec := { name := "symmetryGroups", fn := fun _ => fun
  | [d] => { results := [.lit (.bool true)], args := [d] }
  | _ => none }
def symmetryGroupsRow : OpenClaim := { program := "ytiajlmajenabiaagreat", sum := "4eb19e797d3ef2359544c89567f206ba5800a5744930112d153163868b6e9751", func := "gypsum/gypsumlaw47.SymmetryGroups", spec := "symmetryGroups", unfollowed := true, recurses := true, plainKeys := false, apart := false }
def SymmetryGroupsSaid : Prop := symmetryGroupsRow.holds Tryz.pinned (OpenSpec.ofChange symmetryGroupsSpec)

/-- ITS FALSE NEIGHBOUR: 'it returns false'. Refute it at one input. -/
def symmetryGroupsWrong : ChangeSpec := { name := "symmetryGroups", fn := fun _ => fun
  | [d] => { results := [.lit (.bool false)], args := [d] }
  | _ => none }
def SymmetryGroupsWrongFalsely : Prop := symmetryGroupsRow.holds Tryz.pinned (OpenSpec.ofChange symmetryGroupsWrong)

/-- 'gypsumlaw47.SymmetryOrbits': WHATEVER THE INPUT: true; the input reads as it did. -/
def symmetryOrbitsSpec : ChangeSpec := { name := "symmetryOrbits", fn := fun _ => fun
  | [d] => { results := [.lit (.bool true)], args := [d] }
  | _ => none }
def symmetryOrbitsRow : OpenClaim := { program := "ytiajlmajenabiaagreat", sum := "4eb19e797d3ef2359544c89567f206ba5800a5744930112d153163868b6e9751", func := "gypsum/gypsumlaw47.SymmetryOrbits", spec := "symmetryOrbits", unfollowed := true, recurses := true, plainKeys := false, apart := false }
def SymmetryOrbitsSaid : Prop := symmetryOrbitsRow.holds Tryz.pinned (OpenSpec.ofChange symmetryOrbitsSpec)

/-- ITS FALSE NEIGHBOUR: 'it returns false'. Refute it at one input. -/
def symmetryOrbitsWrong : ChangeSpec := { name := "symmetryOrbits", fn := fun _ => fun
  | [d] => { results := [.lit (.bool false)], args := [d] }
  | _ => none }
def SymmetryOrbitsWrongFalsely : Prop := symmetryOrbitsRow.holds Tryz.pinned (OpenSpec.ofChange symmetryOrbitsWrong)

/- THE SECOND FORM. 'bulk': how many values and letters a reading holds, each counted each time it is reached (what is shared counts as often as it is met; a slice's spare places count too). A statement '..UptoSaid' is the law's where the arguments, and the package variables that the reading takes, are together of bulk at most 1048576: NARROWER than '..Said'. Prove '..Said' where nothing that the law and all that it calls make is longer than what came in: it says more and counts as full. Else prove '..UptoSaid'. A law counts once. -/
mutual
def uptoBulk {H : Type} : DataW H → Nat
  | .lit (.string bytes) => bytes.length + 1
  | .lit _ => 1
  | .nil => 1
  | .ptr d => uptoBulk d + 1
  | .slice elems spare => uptoBulkAll elems + uptoBulkAll spare + 1
  | .agg parts => uptoBulkAll parts + 1
  | .iface _ d => uptoBulk d + 1
  | .map entries => uptoBulkEntries entries + 1
  | .held _ => 1
def uptoBulkAll {H : Type} : List (DataW H) → Nat
  | [] => 0
  | d :: r => uptoBulk d + uptoBulkAll r
def uptoBulkEntries {H : Type} : List (Lit × DataW H) → Nat
  | [] => 0
  | x :: r => uptoBulkEntry x + uptoBulkEntries r
def uptoBulkEntry {H : Type} : Lit × DataW H → Nat
  | (.string bytes, d) => bytes.length + uptoBulk d + 1
  | (_, d) => uptoBulk d + 1
 end
def uptoSmall : (H : Type) → List (DataW H) → Bool := fun _ ds => decide (uptoBulkAll ds ≤ 1048576)
def OpenSpec.upto (s : _root_.Go.ChangeSpec) : _root_.Go.OpenSpec := { _root_.Go.OpenSpec.ofChange s with cond := some uptoSmall }

/-- 'gypsumlaw47.SymmetryHanded', WHERE WHAT IT READS IS OF BULK AT MOST 1048576: true; the input reads as it did. -/
def symmetryHandedUptoRow : OpenClaim := { program := "ytiajlmajenabiaagreat", sum := "4eb19e797d3ef2359544c89567f206ba5800a5744930112d153163868b6e9751", func := "gypsum/gypsumlaw47.SymmetryHanded", spec := "symmetryHanded", unfollowed := true, recurses := true, plainKeys := false, apart := false, narrowed := true }
def SymmetryHandedUptoSaid : Prop := symmetryHandedUptoRow.holds Tryz.pinned (OpenSpec.upto symmetryHandedSpec)

/-- 'gypsumlaw47.SymmetryNumbers', WHERE WHAT IT READS IS OF BULK AT MOST 1048576: true; the input reads as it did. -/
def symmetryNumbersUptoRow : OpenClaim := { program := "ytiajlmajenabiaagreat", sum := "4eb19e797d3ef2359544c89567f206ba5800a5744930112d153163868b6e9751", func := "gypsum/gypsumlaw47.SymmetryNumbers", spec := "symmetryNumbers", unfollowed := true, recurses := true, plainKeys := false, apart := false, narrowed := true }
def SymmetryNumbersUptoSaid : Prop := symmetryNumbersUptoRow.holds Tryz.pinned (OpenSpec.upto symmetryNumbersSpec)

/-- 'gypsumlaw47.SymmetryAll', WHERE WHAT IT READS IS OF BULK AT MOST 1048576: true; the input reads as it did. -/
def symmetryAllUptoRow : OpenClaim := { program := "ytiajlmajenabiaagreat", sum := "4eb19e797d3ef2359544c89567f206ba5800a5744930112d153163868b6e9751", func := "gypsum/gypsumlaw47.SymmetryAll", spec := "symmetryAll", unfollowed := true, recurses := true, plainKeys := false, apart := false, narrowed := true }
def SymmetryAllUptoSaid : Prop := symmetryAllUptoRow.holds Tryz.pinned (OpenSpec.upto symmetryAllSpec)

/-- 'gypsumlaw47.SymmetryDivides', WHERE WHAT IT READS IS OF BULK AT MOST 1048576: true; the input reads as it did. -/
def symmetryDividesUptoRow : OpenClaim := { program := "ytiajlmajenabiaagreat", sum := "4eb19e797d3ef2359544c89567f206ba5800a5744930112d153163868b6e9751", func := "gypsum/gypsumlaw47.SymmetryDivides", spec := "symmetryDivides", unfollowed := true, recurses := true, plainKeys := false, apart := false, narrowed := true }
def SymmetryDividesUptoSaid : Prop := symmetryDividesUptoRow.holds Tryz.pinned (OpenSpec.upto symmetryDividesSpec)

/-- 'gypsumlaw47.SymmetryMany', WHERE WHAT IT READS IS OF BULK AT MOST 1048576: true; the input reads as it did. -/
def symmetryManyUptoRow : OpenClaim := { program := "ytiajlmajenabiaagreat", sum := "4eb19e797d3ef2359544c89567f206ba5800a5744930112d153163868b6e9751", func := "gypsum/gypsumlaw47.SymmetryMany", spec := "symmetryMany", unfollowed := true, recurses := true, plainKeys := false, apart := false, narrowed := true }
def SymmetryManyUptoSaid : Prop := symmetryManyUptoRow.holds Tryz.pinned (OpenSpec.upto symmetryManySpec)

/-- 'gypsumlaw47.SymmetryTold', WHERE WHAT IT READS IS OF BULK AT MOST 1048576: true; the input reads as it did. -/
def symmetryToldUptoRow : OpenClaim := { program := "ytiajlmajenabiaagreat", sum := "4eb19e797d3ef2359544c89567f206ba5800a5744930112d153163868b6e9751", func := "gypsum/gypsumlaw47.SymmetryTold", spec := "symmetryTold", unfollowed := true, recurses := true, plainKeys := false, apart := false, narrowed := true }
def SymmetryToldUptoSaid : Prop := symmetryToldUptoRow.holds Tryz.pinned (OpenSpec.upto symmetryToldSpec)

/-- 'gypsumlaw47.SymmetryGroup', WHERE WHAT IT READS IS OF BULK AT MOST 1048576: true; the input reads as it did. -/
def symmetryGroupUptoRow : OpenClaim := { program := "ytiajlmajenabiaagreat", sum := "4eb19e797d3ef2359544c89567f206ba5800a5744930112d153163868b6e9751", func := "gypsum/gypsumlaw47.SymmetryGroup", spec := "symmetryGroup", unfollowed := true, recurses := true, plainKeys := false, apart := false, narrowed := true }
def SymmetryGroupUptoSaid : Prop := symmetryGroupUptoRow.holds Tryz.pinned (OpenSpec.upto symmetryGroupSpec)

/-- 'gypsumlaw47.SymmetryGroups', WHERE WHAT IT READS IS OF BULK AT MOST 1048576: true; the input reads as it did. -/
def symmetryGroupsUptoRow : OpenClaim := { program := "ytiajlmajenabiaagreat", sum := "4eb19e797d3ef2359544c89567f206ba5800a5744930112d153163868b6e9751", func := "gypsum/gypsumlaw47.SymmetryGroups", spec := "symmetryGroups", unfollowed := true, recurses := true, plainKeys := false, apart := false, narrowed := true }
def SymmetryGroupsUptoSaid : Prop := symmetryGroupsUptoRow.holds Tryz.pinned (OpenSpec.upto symmetryGroupsSpec)

/-- 'gypsumlaw47.SymmetryOrbits', WHERE WHAT IT READS IS OF BULK AT MOST 1048576: true; the input reads as it did. -/
def symmetryOrbitsUptoRow : OpenClaim := { program := "ytiajlmajenabiaagreat", sum := "4eb19e797d3ef2359544c89567f206ba5800a5744930112d153163868b6e9751", func := "gypsum/gypsumlaw47.SymmetryOrbits", spec := "symmetryOrbits", unfollowed := true, recurses := true, plainKeys := false, apart := false, narrowed := true }
def SymmetryOrbitsUptoSaid : Prop := symmetryOrbitsUptoRow.holds Tryz.pinned (OpenSpec.upto symmetryOrbitsSpec)

end Rows
end Go.Proofs.YtiajlmajenabiaaGreat
